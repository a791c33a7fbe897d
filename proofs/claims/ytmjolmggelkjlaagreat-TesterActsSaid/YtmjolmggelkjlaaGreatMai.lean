import Derived.Test.YtmjolmggelkjlaaGreatMah
import Derived.WalkKit
import Derived.Test.YtmjolmggelkjlaaGreatMaf
open Go.Proofs.Tryz renaming prog→aa
open Nat renaming le_refl→ah, zero_le→aO, lt_succ_self→dI, le_succ→eL, zero_add→fD, mod_lt→jF, not_lt_zero→lq, pow_succ→mL, pow_le_pow_right→p9, mul_le_mul_right→qT, mul_zero→sW, sub_zero→AV, xor_lt_two_pow→MO, eq_zero_of_not_pos→abk, le_of_lt→aor
open Go.Value renaming string→aM, int→eJ, slice→j3, agg→mM
open List renaming getD_eq_getElem?_getD→bz, getElem?_eq_getElem→bB, length_drop→bE, length_append→bG, replicate→bU, append_nil→bV, length_cons→cP, length_take→cT, getElem_mem→dO, append_assoc→ey, length_map→fS, range→gL, length_nil→iP, getElem?_map→jd, take_length→jf, not_mem_nil→jl, drop_drop→jm, length_replicate→j4, nil_append→lk, take_succ_eq_append_getElem→nv, map_congr_left→oN, getElem?_eq_none→oP, length→pZ, map_append→qa, getElem?_append_right→qU, drop_eq_getElem_cons→qX, mem_cons_of_mem→vv, map_drop→xJ, length_filter_le→xK, take_append_drop→AP, map_take→AU, foldl_append→AW, mem_of_mem_take→Fq, take_zero→FF, mem_cons_self→FH, range_succ→FK, singleton_append→FL, all_cons→Mx, set_append_right→MC, filter_append→MJ, all_nil→MS, length_range→aa8, filter_cons_of_neg→abh, filter_cons_of_pos→abj, getLast?_append→aoO, getElem?_take_of_lt→aoP, dropLast_concat_getLast→aoQ, length_dropLast→aoR
open Bool renaming and_eq_true→bZ, not_false→cf, and_self→dJ, or_eq_true→oO, not_eq_true'→AN
open BitVec renaming ofInt→cb
open Int renaming toNat_natCast→cV, lt_irrefl→eT
open UInt8 renaming ofNat→gU
open Go.IntKind renaming u32→jG, wrap_u32→MQ
open Option.some renaming inj→vn
open Go.IntWalk renaming u8_in→aa9
open List.Pairwise renaming filter→abg
set_option linter.unusedVariables false
set_option linter.unusedSimpArgs false
namespace Go.Proofs.YtmjolmggelkjlaaGreat
open Go.RowKit Ev Cn
theorem akm{a b:Nat}(d:a<256)(c:b<256):IntKind.u8.wrap ((cb IntKind.u8.bits (a:Int)^^^cb IntKind.u8.bits (b:Int)).toNat:Int)=((a^^^b:Nat):Int):=by
 have e:∀{a:Nat},a<256->(cb 8 (a:Int)).toNat=a:=fun h=>by rw[BitVec.ofInt_natCast,BitVec.toNat_ofNat];exact Nat.mod_eq_of_lt jO
 show IntKind.u8.wrap ((cb 8 (a:Int)^^^cb 8 (b:Int)).toNat:Int)=_;rw[BitVec.toNat_xor,e d,e c];exact w8 (MO (n:=8) d c)
theorem akn{a:Type}(x:Nat)(h:x<=4294967295)(k:Value->M a):BL (.int .u32 (x:Int)) k=k (.int .u32 ((4294967295-x:Nat):Int)):=by
 show(match Nat.ble x 4294967295 with
  |true=>k (.int .u32 (.ofNat (Nat.sub 4294967295 x)))
  |false=>M.fail)=_
 rw[Nat.ble_eq_true_of_le h];rfl
def jX(s b:Nat):Nat:=(s*2^8 %4294967296)^^^sE ((s/2^24)^^^b)
theorem Zf(s b:Nat):jX s b<4294967296:=Am (jF _ jD) (Y4 _)
def pR(l:List Nat):Nat:=l.foldl jX 4294967295
theorem Zg(l:List Nat):pR l<4294967296:=by
 unfold pR
 have:∀(l:List Nat) (s:Nat),s<4294967296->l.foldl jX s<4294967296:=by
  intro l
  induction l with
  |nil=>intro s h;exact h
  |cons x l a=>intro s h;exact a _ (Zf _ _)
 exact this l _ jD
def iJ(l:List Nat):Nat:=4294967295-pR l
def gI(i:Nat):List Value:=(gL 256).map fun b=>eJ .u32 (if b<i then(sE b:Int)else 0)
theorem oC(i:Nat):(gI i).length=256:=by unfold gI;simp
theorem LD{i j:Nat}(h:j<256):(gI i)[j]? =some (.int .u32 (if j<i then(sE j:Int)else 0)):=by unfold gI;rw[jd,List.getElem?_range h];rfl
theorem ako{i:Nat}(h:i<256):(gI i).set i (.int .u32 (sE i:Int))=gI (i+1):=by
 apply List.ext_getElem?;intro j;by_cases a:j<256
 ·rw[List.getElem?_set,LD a,LD a];by_cases e:i=j
  ·subst e;rw[if_pos rfl,if_pos (by rw[oC];exact h),if_pos jO]
  ·rw[if_neg e];by_cases c:j<i
   ·rw[if_pos c,if_pos jO]
   ·rw[if_neg c,if_neg jO]
 ·rw[oP (by rw[List.length_set,oC];omega),oP (by rw[oC];omega)]
theorem akp:gI 0=bU 256 (.int .u32 0):=by unfold gI;rw[oN (g:=fun _=>eJ .u32 0) fun b _=>by rw[if_neg (lq b)],List.map_const',aa8]
structure oD (h:H) (n a s:Nat):Prop where
 get:h.get a=some ⟨260,true,gI 256++[.int .u32 (s:Int)]⟩
 lt:a<n
 sm:s<4294967296
theorem smz:PM=bU 257 (.int .u32 0):=yh _ _
section
variable {Y d n a s:Nat} {h:H}
theorem akq(O:300<=Y):af (fun _=>False) n (aj aa gt Y (d+1) 187 #[]) h n fun v h' n'=>v= .agg (gI 256).toArray:=by
 rw[aB (fun _=>UU) rfl];refine af.aA ?_;unfold Df;refine dX Qn _ ?_;refine dX Qn _ ?_;have Q:∀B:Option AB,((h.set n (some ⟨257,true,bU 256 (.int .u32 0)⟩)).set (n+1) B).get n=some ⟨257,true,bU 256 (.int .u32 0)⟩:=fun B=>by rw[aw _ _ jO,get_eq]
 have D:(0:Int)<=1:=jD;have k:(0:Int)<=24:=jD;have g:(0:Int)<=31:=jD
 refine dL 256 (fun f i (_:Unit)=>rW Y (aj aa gt Y d) f (zu Y (aj aa gt Y d)) (jP n 0) (jP (n+1) 0) (jI (i:Int)))
  (fun i _ h' n'=>n'=n+2∧h'.get (n+1)=some ⟨257,true,gI i⟩∧h'.get n=some ⟨257,true,bU 256 (.int .u32 0)⟩) ?_ ?_ Y 0 () _ (n+2) (aO _) jO ⟨rfl,by rw[get_eq,akp],Q _⟩
 ·rintro f _ h' n' ⟨rfl,t,u⟩;have A:¬(((256:Nat):Int)<256):=jD;rw[rW];refine jA @A ?_
  (try unfold zu);(try dsimp only)
  refine gE trivial trivial (n+1) 0 _ t jO (by rw[oC];decide) ?_;have T:((gI 256).drop 0).take 256=gI 256:=by rw[List.drop_zero];exact List.take_of_length_le (by rw[oC];exact ah _)
  show af _ n (aQ 256 _ (.agg (((gI 256).drop 0).take 256).toArray) _) _ _ _;rw[T];refine cA trivial (oC _) j4 (by rw[List.all_eq_true];intro v N;obtain⟨x,_,rfl⟩:=List.mem_map.1 N;rfl) u jO (.inl (ah _)) _ fun e R W=> ?_;exact eD trivial trivial R (oC _) jO rfl
 ·rintro f i _ h' n' C ⟨rfl,t,u⟩ next;have A:(i:Int)<256:=jO;have K:IntKind.u32.wrap (i:Int)=(i:Int):=fU jO;have p:min ((24:Int)).toNat (jG).bits=24:=jD;have J:IntKind.u32.wrap ((i:Int)*2^(min ((24:Int)).toNat (jG).bits))=((i*2^24 %4294967296:Nat):Int):=by rw[p];exact _root_.Go.Proofs.YtmjolmggelkjlaaGreat.wO
  rw[rW];refine jA (aI @A (aI @K (aI @k @J))) ?_
  refine dL 8 (fun f2 j (x:Nat)=>uw Y (aj aa gt Y d) f2 (UR Y (aj aa gt Y d) f (zu Y (aj aa gt Y d))) (jP n 0) (jP (n+1) 0) (jI (i:Int)) (.int .u32 (x:Int)) (jI (i:Int)) (.bool true) (jI (j:Int)))
   (fun j x e q=>q=n+2∧e=h'∧x=jk j (i*2^24 %4294967296)) ?_ ?_ Y 0 _ h' (n+2) (aO _) jO ⟨rfl,rfl,rfl⟩
  ·rintro f2 x e q ⟨rfl,rfl,rfl⟩;have z:¬(((8:Nat):Int)<8):=jD;rw[uw];refine jA @z ?_
   (try unfold UR);(try unfold De);(try dsimp only)
   have o:IntKind.i64.wrap ((i:Int)+1)=((i+1:Nat):Int):=by rw[aH jO jO];rfl
   have m:(i:Int)+1=((i+1:Nat):Int):=rfl;have P:i<(gI i).length:=by rw[oC];exact C
   have s:n<=n+1:=eL n;refine jA (aI @t (aI @P (aI @s (aI @o @m)))) ?_;have:=next () (e.set (n+1) (some ⟨257,true,gI (i+1)⟩)) (n+2) ⟨rfl,get_eq _ _ _,(aw _ _ jO).trans u⟩;rw[<-ako C]at this;exact this
  ·rintro f2 j x e q X ⟨rfl,rfl,rfl⟩ c;obtain⟨x,r⟩:∃x,jk j (i*2^24 %4294967296)=x:=⟨_,rfl⟩;have U:x<4294967296:=by rw[<-r];exact An _ _ (jF _ jD)
   have z:(j:Int)<8:=jO;have L:min ((1:Int)).toNat (jG).bits=1:=jD;have o:((x:Int)).fdiv (2^(min ((31:Int)).toNat (jG).bits))=((x/2^31:Nat):Int):=fdiv_pow x 31 (jG).bits jD;have m:IntKind.u32.wrap ((x:Int)*2^(min ((1:Int)).toNat (jG).bits))=((x*2^1 %4294967296:Nat):Int):=by rw[L];exact _root_.Go.Proofs.YtmjolmggelkjlaaGreat.wO
   have I:IntKind.u32.wrap (((x/2^31:Nat):Int)*79764919)=((x/2^31*79764919 %4294967296:Nat):Int):=ajR (x:=x/2^31) (y:=79764919);have G:=sC (a:=x*2^1 %4294967296) (b:=x/2^31*79764919 %4294967296) (jF _ jD) (jF _ jD);have E:IntKind.i64.wrap ((j:Int)+1)=((j+1:Nat):Int):=by rw[aH jO jO];rfl
   have l:(j:Int)+1=((j+1:Nat):Int):=rfl;rw[r,uw];refine jA (aI @z (aI @g (aI @D (aI @o (aI @m (aI @I (aI @G (aI @E @l)))))))) ?_;refine c (jv x) _ _ ⟨rfl,rfl, ?_⟩;show jv x=jv (jk j (i*2^24 %4294967296));rw[r]
theorem akr(g:300<=Y):af (fun _=>False) n (aj aa gt Y (d+2) 154 #[]) h n fun v h' n'=>∃a,v=jP a 0∧n<=a∧oD h' n' a 4294967295:=by
 rw[aB (fun _=>TG) rfl];refine af.aA ?_;unfold Jb;refine aN aF (akq (Y:=Y) (d:=d) g) (ah _) (fun _ _ h=>h.elim) fun m o i f l c=> ?_;subst c;rw[smz];have b:(gI 256).length=256:=oC 256;have k:0+256<=(bU 257 (eJ .u32 0)).length:=by rw[j4];decide
 have j:256<((bU 257 (eJ .u32 0)).take 0++(gI 256++(bU 257 (eJ .u32 0)).drop (0+256))).length:=by rw[FF,lk,bG,b,bE,j4];decide
 rw[Hl,Ho,if_pos b,if_pos k,Hn,if_pos j]
 have e:((bU 257 (eJ .u32 0)).take 0++(gI 256++(bU 257 (eJ .u32 0)).drop (0+256))).set 256 (.int .u32 4294967295)=gI 256++[.int .u32 4294967295]:=by rw[FF,lk,MC _ _ (by rw[b];exact ah _),b];rfl
 rw[e,Hm];refine jB ?_;refine gD trivial _ _ ?_;refine jB ?_;exact⟨i,rfl,f,get_eq _ _ _,jO,jD⟩
theorem aks(x:oD h n a s)(b:Nat)(p:b<256):af (fun c=>c=a) n (aj aa gt Y (d+2) 184 #[jP a 0,.int .u8 (b:Int)]) h n fun _ h' n'=>n'=n∧oD h' n' a (jX s b)∧∀c,c≠a->h'.get c=h.get c:=by
 have g:=x.get;have G:=x.lt;have K:=x.sm;have e:(gI 256).length=256:=oC 256;have J:(gI 256++[eJ .u32 (s:Int)])[256]? =some (.int .u32 (s:Int)):=by rw[qU (by rw[e];exact ah _),e];rfl
 have j:s/2^24<256:=jO;have f:(s/2^24)^^^b<256:=MO (n:=8) j p
 have l:af (fun _=>False) n (aj aa gt Y (d+1) 214 #[jP a 0,.int .u32 (s:Int),.int .u8 (b:Int)]) h n fun v h' n'=>v= .int .u32 ((jX s b:Nat):Int)∧h'=h∧n'=n:=by
  rw[aB (fun _=>VF) rfl];refine af.aA ?_;unfold JO jX;have r:(0:Int)<=8:=jD;have k:(0:Int)<=24:=jD;have z:min ((8:Int)).toNat (jG).bits=8:=jD;have y:IntKind.u32.wrap ((s:Int)*2^(min ((8:Int)).toNat (jG).bits))=((s*2^8 %4294967296:Nat):Int):=by rw[z];exact _root_.Go.Proofs.YtmjolmggelkjlaaGreat.wO
  have o:((s:Int)).fdiv (2^(min ((24:Int)).toNat (jG).bits))=((s/2^24:Nat):Int):=fdiv_pow s 24 (jG).bits jD;obtain⟨q,B⟩:∃q,s/2^24=q:=⟨_,rfl⟩;rw[B]at o j f⊢;have u:IntKind.u8.wrap (q:Int)=(q:Int):=w8 j;have m:=akm j p;obtain⟨i,D⟩:∃i,q^^^b=i:=⟨_,rfl⟩;rw[D]at m f⊢;have I:(gI 256++[eJ .u32 (s:Int)])[i]? =some (.int .u32 (sE i:Int)):=by rw[List.getElem?_append_left (by rw[e];exact f),LD f,if_pos f]
  have A:(0:Int)<=(i:Int):=jO;have i1:(i:Int)<256:=jO;have t:=sC (a:=s*2^8 %4294967296) (b:=sE i) (jF _ jD) (Y4 i);exact jC (aI @r (aI @k (aI @y (aI @o (aI @u (aI @m (aI @A (aI @i1 (aI @g (aI @I @t))))))))))
 rw[aB (fun _=>UN) rfl];refine af.aA ?_;unfold Jv;refine jA (aI @g @J) ?_;refine bq l (ah _) (fun _ _ h=>h.elim) ?_;have C:256<(gI 256++[eJ .u32 (s:Int)]).length:=by rw[bG,e];exact dI 256
 refine jA (aI @g @C) ?_;refine⟨⟨?_,G,Zf _ _⟩,fun c E=>aw _ _ E⟩;rw[get_eq,MC _ _ (by rw[e];exact ah _),e];rfl
theorem akt(x:oD h n a s)(l:List Nat)(p:By l)(L:l.length<=1000000000)(C:l.length+300<=Y):af (fun c=>c=a) n (aj aa gt Y (d+3) 150 #[jP a 0,.string ⟨(bS l).toArray⟩]) h n fun _ h' n'=>n'=n∧oD h' n' a (l.foldl jX s)∧∀c,c≠a->h'.get c=h.get c:=by
 have I:=lZ l;rw[aB (fun _=>TC) rfl];refine af.aA ?_;unfold CV;refine jA @I ?_
 refine dL l.length (fun m i (_:Unit)=>uj Y (aj aa gt Y (d+2)) m (CU Y (aj aa gt Y (d+2))) (jP a 0) (.string ⟨(bS l).toArray⟩) (jI (l.length:Int)) (jI (i:Int)))
  (fun i _ h' n'=>n'=n∧oD h' n' a ((l.take i).foldl jX s)∧∀c,c≠a->h'.get c=h.get c) ?_ ?_ Y 0 () h n (aO _) jO ⟨rfl,x,fun _ _=>rfl⟩
 ·rintro m _ h' n' ⟨rfl,f,j⟩;rw[uj];refine jA @eT ?_
  (try unfold CU);(try dsimp only)
  rw[jf]at f;exact(kS _).2 ⟨rfl,f,j⟩
 ·rintro m i _ h' n' g ⟨rfl,f,j⟩ next;have G:(i:Int)<((l.length:Nat):Int):=jO;have A:(0:Int)<=(i:Int):=jO;have i1:(i:Int)<(((bS l).length:Nat):Int):=jO;have o:=EK p g;have e:=p.at g;obtain⟨y,q⟩:∃y,l.getD i 0=y:=⟨_,rfl⟩;rw[q]at o e;have v:IntKind.i64.wrap ((i:Int)+1)=((i+1:Nat):Int):=by rw[aH jO jO];rfl
  have u:(i:Int)+1=((i+1:Nat):Int):=rfl;rw[uj];refine jA (aI @G (aI @A (aI @i1 @o))) ?_;refine aN aF (aks (Y:=Y) (d:=d) f y e) (ah _) (fun b _ D=> .inr D) fun J N K B E k=> ?_;obtain⟨rfl,t,z⟩:=k;refine jA (aI @v @u) ?_;refine next () _ _ ⟨rfl, ?_,fun c r=>(z c r).trans (j c r)⟩;rw[nv g,AW];have:l[i]=y:=by rw[<-q,bz,bB g];rfl
  rw[this];exact t
theorem aku(x:oD h n a s):af (fun _=>False) n (aj aa gt Y (d+1) 186 #[jP a 0]) h n fun v h' n'=>v= .int .u32 ((4294967295-s:Nat):Int)∧h'=h∧n'=n:=by
 have g:=x.get;have i:=x.lt;have f:=x.sm;have b:(gI 256).length=256:=oC 256;have e:(gI 256++[eJ .u32 (s:Int)])[256]? =some (.int .u32 (s:Int)):=by rw[qU (by rw[b];exact ah _),b];rfl
 rw[aB (fun _=>UP) rfl];refine af.aA ?_;unfold Jx;have c:=fun(k:Value->M Value)=>akn s jO k;exact jC (aI @g (aI @e @c))
end
theorem Zh{l:List Nat}{a:Nat}(ok:l5 l a)(j:Nat):By (gq l a j):=fun x b=>by unfold gq at b;obtain⟨i,_,rfl⟩:=List.mem_map.1 b;exact ok.iH.at (uX ok.iH ok.cG _)
theorem As(l:List Nat)(a j:Nat):(gq l a j).length=j:=by unfold gq;simp
theorem LF:∀{l:List Nat} {run a:Nat} {t:List Nat},By l->a<256->cX run a l= .ok t->By t
 |[],run,a,t,_,_,h=>by
  unfold cX at h;split at h
  ·cases h
  ·cases h;intro x c;cases c
 |x::l,run,a,t,f,i,h=>by
  have d:By l:=fun y b=>f y (by simp[b]);have c:=f x jS;rw[LC]at h;split at h
  ·split at h
   ·cases h
   ·cases e:cX 0 x l with
    |error e=>rw[e]at h;cases h
    |ok g=>
     rw[e]at h;cases h;intro y b;rcases List.mem_append.1 b with q|q
     ·rw[List.eq_of_mem_replicate q];exact i
     ·exact LF d c e y q
  ·cases e:cX (if 0<run∧x=a then run+1 else 1) x l with
   |error e=>rw[e]at h;cases h
   |ok g=>
    rw[e]at h;cases h;intro y b;rcases List.mem_cons.1 b with rfl|q
    ·exact c
    ·exact LF d c e y q
def fJ(g:Gt):Except Int (List Nat):=match cX 0 0 (gq g.last g.bK g.last.length)with
 | .error _=> .error 25
 | .ok s=>if iJ s=g.sum then .ok s else .error 21
theorem Zi{g:Gt}{s:List Nat}(h:fJ g= .ok s):s.length<=251*g.last.length:=by
 unfold fJ at h;split at h
 ·cases h
 ·next t e=>
  split at h
  ·cases h;have:=Ar e;rwa[As]at this
  ·cases h
theorem LG{g:Gt}{e:Int}(h:fJ g= .error e):e=21∨e=25:=by
 unfold fJ at h;split at h
 ·cases h;exact .inr rfl
 ·split at h
  ·cases h
  ·cases h;exact .inl rfl
section
variable {Y d n:Nat} {h:H}
end
end Go.Proofs.YtmjolmggelkjlaaGreat
namespace Go.Proofs.YtmjolmggelkjlaaGreat.Ev
open Go Go.RowKit
section
variable {β:Type} {W:Nat->Prop} {n0:Nat} {h:H} {n:Nat} {Q:β->H->Nat->Prop} {e:TypeId} {sz:Nat}
end
end Go.Proofs.YtmjolmggelkjlaaGreat.Ev
namespace Go.Proofs.YtmjolmggelkjlaaGreat.Ip
open Go
def sI:Nat->Nat->List Nat
 |0,_=>[]
 |k+1,n=>if n<10 then [n]else sI k (n/10)++[n %10]
structure Pt where
 what:Int
 level:Int
 bK:Int
 xn:Int
 sum:Int
 Zj:Int
 last:Int
 len:Int
def aL(l:List Nat):Value:= .string ⟨(l.map gU).toArray⟩
def uZ(n:Int):Bool:=decide (-9223372036854775808<=n)&&decide (n<=9223372036854775807)
def Pt.ok(p:Pt):Bool:=uZ p.what&&uZ p.level&&uZ p.bK&&uZ p.xn&&decide (0<=p.sum)&&decide (p.sum<4294967296)&&uZ p.Zj&&uZ p.last&&uZ p.len
def Pt.cells(p:Pt):List Value:=[jI p.what,jI p.level,jI p.bK,jI p.xn,.int .u32 p.sum,jI p.Zj,jI p.last,jI p.len]
end Go.Proofs.YtmjolmggelkjlaaGreat.Ip
namespace Go.Proofs.YtmjolmggelkjlaaGreat
open Go.RowKit Ev Cn Ip
structure Is where
 u:Us
 A:Nat
 ps:List Pt
 next:Nat
 total:Nat
def Is.add(s:Is)(p:Pt)(xn:Nat):Is:={s with ps:=s.ps++[{p with bK:=s.next,xn:=xn}],next:=xn}
section
variable {Y d n rp p Z:Nat} {h:H} {S:List UInt8} {L:Nat->Nat} {s:Is} {m:Um} {pv:Value}
end
def Is.mE(s:Is)(len:Nat):Is:={(s.add ⟨2,0,0,0,s.u.aS.sum,s.u.aS.bK,s.u.aS.last.length,len⟩ s.A)with total:=fC s.total s.u.aS.sum}
def Is.Zk(s:Is):Is:={(s.add ⟨3,0,0,0,s.total,0,0,0⟩ (s.next+80))with next:=s.A}
def ER(S:List UInt8)(next:Nat):Int:=IntKind.u8.wrap (((S.getD (next/8+3) 0).toNat:Int)-48)
def Is.fresh(s:Is):Bool:=match s.ps.getLast? with
 |none=>true
 |some q=>decide (q.what=3)
def Is.begun(S:List UInt8)(s:Is):Is:=if s.fresh=true∧s.A=s.next+32 then{(s.add ⟨1,ER S s.next,0,0,0,0,0,0⟩ s.A)with total:=0}else s
section
variable {Y d n rp p Z:Nat} {h:H} {S:List UInt8} {L:Nat->Nat} {s:Is} {m:Um} {pv:Value}
end
section
variable {Y d n rp p Z:Nat} {h:H} {S:List UInt8} {L:Nat->Nat} {s:Is} {m:Um} {pv:Value}
end
inductive Ix where
 |stop (e:Int)
 |go (s:Is)
def Is.took(s:Is)(u:Us)(w:Nat):Is:={s with u:=u,A:=s.A+w}
def Us.may(u:Us):Bool:=u.ended&&decide (u.due=0)&&decide (u.at_=0)
def iL(S:List UInt8)(a:Nat)(s:Is):Ix:=if a=1 then(match fJ s.u.aS with
 | .error e=> .stop e
 | .ok t=> .go (s.mE t.length))else if a=2 then .go s.Zk else .go (s.begun S)
def sJ(S:List UInt8)(Z:Nat)(s:Is):Ix:=match dc Z s.u s.A (ar S 0 s.A)with
 | .short=> .stop 24
 | .bad e=> .stop e
 | .ok (a,b) w=>iL S a (s.took b w)
def iM(S:List UInt8)(Z:Nat)(s:Is):Ix:=if s.u.may=true∧(ar S 0 s.A).length=0 then .stop 0 else sJ S Z s
def At(g:Gt):Prop:=l5 g.last g.bK∧g.sum<4294967296
section
variable {Y d n rp p Z:Nat} {h:H} {S:List UInt8} {L:Nat->Nat} {s:Is} {m:Um} {pv:Value}
end
section
variable {Y d n rp p Z:Nat} {h:H} {S:List UInt8} {L:Nat->Nat} {s:Is} {m:Um} {pv:Value}
def Au:Is:=⟨Ao,0,[],0,0⟩
end
def Rw.more(r:Rw):Nat:=r.due+(if 0<r.place then 1 else 0)
structure xp (room A:Nat) (b:Bk):Prop where
 ok:uV room A b
 iH:∀x∈b.last,x<256
 ord:∀r,b.row=some r->∀x∈r.ord,x<256
 ct:∀r,b.row=some r->b.last.length+r.more=r.z.told∧r.z.told+r.z.aR<=room
 no:b.row=none->b.last=[]
def Zl(room:Nat)(b:Bk):Prop:=b.bK<b.last.length∧b.last.length<=room∧(∀x∈b.last,x<256)∧b.sum<4294967296
theorem pS(r:Rw):(r.waits=true)↔0<r.more:=by unfold Rw.waits Rw.more;simp only[oO,decide_eq_true_eq];split<;>omega
theorem LH{b b':Bk}{r:Rw}{w u:Nat}(h:fB b r w= .ok b' u):u=w∧((b'.done=true∧b.done=false->r.cd.done=true∧r.waits=false∧b'={b with done:=true}∧b.bK<b.last.length)∧((b'=b∧(r.cd.done=true->r.waits=true))∨b'={b with done:=true})):=by
 unfold fB at h;split at h
 ·next c=>
  split at h
  ·cases h
  ·next c2=>cases h;simp only[bZ,AN]at c;exact⟨rfl,fun _=>⟨c.1,c.2,rfl,jO⟩,.inr rfl⟩
 ·next c=>
  cases h;refine⟨rfl,fun q=> ?_,.inl ⟨rfl,fun q=> ?_⟩⟩
  ·rw[q.2]at q;cases q.1
  ·simp only[bZ,AN,not_and,Bool.not_eq_false]at c;exact c q
theorem akv{r:Rw}(e:r.waits=true)(b:r.place<r.ord.length)(d:∀x∈r.ord,x<256):(bR r).1<256∧(bR r).2.more+1=r.more∧(∀x∈(bR r).2.ord,x<256)∧(bR r).2.ord.length=r.ord.length∧(bR r).2.cd=r.cd∧(bR r).2.z=r.z∧(bR r).2.place<=r.place∧(bR r).2.due<=r.due:=by
 have f:∀i,i<r.ord.length->r.ord.getD i 0<256:=fun i h=>by rw[bz,bB h];exact d _ (dO _)
 unfold bR Rw.more;by_cases c:0<r.due
 ·rw[if_pos c];refine⟨f 0 jO, ?_,fun x a=>d x (YV jO a),Ai jO,rfl,rfl,ah _,by show r.due-1<=_;omega⟩;show r.due-1+(if 0<r.place then 1 else 0)+1=_;omega
 ·rw[if_neg c]
  have g:0<r.place:=by unfold Rw.waits at e;simp only[oO,decide_eq_true_eq]at e;omega
  refine⟨f _ b, ?_,fun x a=>d x (YV b a),Ai b,rfl,rfl,aO _,ah _⟩;show r.due+(if 0<0 then 1 else 0)+1=_;rw[if_pos g,if_neg jO]
theorem akw{room A u:Nat}{r b:Rw}{bs:List Bool}(k:Al room A r)(f:r.waits=false)(hd:r.cd.done=false)(K:r.z.told+r.z.aR<=room)(h:iG r bs= .ok b u):
 0<u∧u<=bs.length∧Al room (A+u) b∧b.ord=r.ord∧b.due<=room∧b.more+r.z.told=b.z.told∧b.z.told+b.z.aR<=room:=by
 have I:r.more=0:=abk fun q=>by have:=(pS r).2 q;rw[f]at this;cases this
 unfold iG at h;cases e:ed r.cd bs with
 |short=>rw[e]at h;cases h
 |bad x=>rw[e]at h;cases h
 |ok v w=>
  obtain⟨sym,c⟩:=v;rw[e]at h;simp only at h;obtain⟨q1,q2,l,j⟩:=wV (k.cd hd) e
  have i:c.size=r.cd.size:=by
   rcases xb (k.cd hd) e with ⟨_,_,s,_,rfl⟩|⟨_,_,_,_,q,_⟩|⟨_,_,_,_,_,q,_⟩
   ·unfold kW;split<;>rfl
   ·exact q
   ·exact q
  split at h
  ·next hn=>
   cases h
   have N:c.done=false:=by
    rcases xb (k.cd hd) e with ⟨_,_,s,_,rfl⟩|⟨_,_,_,_,_,q⟩|⟨_,q,_⟩
    ·have:=hd;unfold kW;split<;>exact hd
    ·exact q
    ·omega
   exact⟨l,j,⟨q1,by show c.size=_;rw[i];exact k.sz,k.zn,k.zm,fun _=>k.zo hd,k.pl,k.ol,by show c.count<=A+u;have:=k.c9;omega,EI (k.cd hd) k.bd e⟩,rfl,by have:r.due=0:=by{unfold Rw.more at I;omega};show r.due<=room;omega,by show r.more+r.z.told=r.z.told;omega,K⟩
  ·next hn=>
   cases a:c6 r.z sym.toNat with
   |none=>rw[a]at h;cases h
   |some t=>
    obtain⟨z,n,p⟩:=t;rw[a]at h;cases h;obtain⟨G,E,D,C,B,y,m⟩:=EE (k.zo hd) a;obtain⟨O,L⟩:=Ln (k.cd hd) e jO
    have o:n+(if 0<p then 1 else 0)+r.z.told=z.told:=by
     unfold c6 at a;split at a
     ·cases a
     ·split at a
      ·split at a
       ·cases a
       ·cases a;simp
      ·split at a
       ·cases a;show r.z.aR+(if 0<0 then 1 else 0)+r.z.told=r.z.told+r.z.aR;rw[if_neg jO];omega
       ·split at a
        ·cases a
        ·cases a;show r.z.aR+(if 0<sym.toNat-1 then 1 else 0)+r.z.told=r.z.told+1+r.z.aR;rw[if_pos jO];omega
    have J:z.told+z.aR<=room:=by rw[k.zm]at m;exact m
    refine⟨l,j,⟨q1,by show c.size=_;rw[i];exact k.sz,E.trans k.zn,D.trans k.zm,fun g=>G ?_,by show p<r.ord.length;rw[<-k.zn];exact C,k.ol,by show c.count<=A+u;have:=k.c9;omega,EI (k.cd hd) k.bd e⟩,rfl,by show n<=room;rw[<-k.zm];exact y,o,J⟩;have d:c.done=false:=g;rw[B,decide_eq_false_iff_not];rw[L,decide_eq_false_iff_not]at d;have:=k.sz;have:=k.zn;omega
theorem Zm{room A u:Nat}{b b':Bk}{bs:List Bool}(k:xp room A b)(i:room<=1099511627776)(h:dp room b bs= .ok b' u):u<=bs.length∧(b'.done=false->xp room (A+u) b')∧(b'.done=true->Zl room b'):=by
 have m:=k.ok.nd;unfold dp at h;split at h
 ·next h0=>
  split at h
  ·cases h
  ·next h1=>
   split at h
   ·cases h
   ·cases h;have rn:=k.ok.hd h0;have y:=k.no rn;refine⟨jO,fun _=>⟨⟨m,fun q=>(by cases q),fun r a=> ?_,by show b.last.length<=room;exact k.ok.ll, ?_⟩,k.iH,fun r a=> ?_,fun r a=> ?_,fun _=>y⟩,fun q=> ?_⟩
    ·have:b.row=some r:=a;rw[rn]at this;cases this
    ·have q:=KO (bs.take 32) 0 0 jD;have q2:(bs.take 32).length=32:=by rw[cT];omega
     rw[q2]at q;exact q
    ·have:b.row=some r:=a;rw[rn]at this;cases this
    ·have:b.row=some r:=a;rw[rn]at this;cases this
    ·have:b.done=true:=q;rw[m]at this;cases this
 ·next h0=>
  split at h
  ·next rn=>
   have y:=k.no rn;cases e:fA bs with
   |short=>rw[e]at h;cases h
   |bad x=>rw[e]at h;cases h
   |ok s w=>
    rw[e]at h;cases h;obtain⟨v,I,G,t⟩:=uS e;have E:=v.len;have D:1<=s.length:=List.length_pos_iff.2 I;have j:∀r,some (m6 s room)=some r->r=m6 s room:=fun r a=>(vn a).symm;refine⟨t,fun _=>⟨⟨m,fun q=>absurd q h0,fun r a=> ?_,k.ok.ll,k.ok.sm⟩,k.iH,fun r a=> ?_,fun r a=> ?_,fun q=>(by cases q)⟩,fun q=> ?_⟩
    ·rw[j r a];refine⟨⟨fun _=>Er jO jO,rfl,rfl,rfl,fun _=>ED D E i,D,E,aO _,⟨by show(0:Nat)<32768;decide,sB,aO _,by show s.length+2<=258;omega⟩⟩,fun q=> ?_,aO _⟩;cases q
    ·rw[j r a];exact v.lt
    ·rw[j r a];show b.last.length+0=0∧0+0<=room;rw[y];exact⟨rfl,aO _⟩
    ·have:b.done=true:=q;rw[m]at this;cases this
  ·next r a=>
   obtain⟨f,Q,k3⟩:=k.ok.row r a;obtain⟨t1,C⟩:=k.ct r a;have J:=k.ord r a
   have fin:∀(last:List Nat) (d:Rw) (w:Nat),(∀x∈last,x<256)->(∀x∈d.ord,x<256)->Al room (A+w) d->d.due<=room->last.length+d.more=d.z.told->d.z.told+d.z.aR<=room->fB {b with last:=last,row:=some d} d w= .ok b' u->(b'.done=false->xp room (A+u) b')∧(b'.done=true->Zl room b'):=by
    intro last d w f1 f2 f3 f4 Y X W;obtain⟨rfl,U,T⟩:=LH W;have K:last.length<=room:=jO;refine⟨fun q=> ?_,fun q=> ?_⟩
    ·rcases T with ⟨rfl,B⟩|rfl
     ·have j:∀g,some d=some g->g=d:=fun g l=>(vn l).symm;refine⟨⟨m,fun q=>absurd q h0,fun g l=> ?_,K,k.ok.sm⟩,f1,fun g l=> ?_,fun g l=> ?_,fun q=>(by cases q)⟩
      ·rw[j g l];exact⟨f3,B,f4⟩
      ·rw[j g l];exact f2
      ·rw[j g l];exact⟨Y,X⟩
     ·cases q
    ·obtain⟨_,_,rfl,B⟩:=U ⟨q,m⟩;exact⟨B,K,f1,k.ok.sm⟩
   split at h
   ·next hw=>
    obtain⟨P,n2,O,p,o,n,n7,n8⟩:=akv hw f.pl J;have u0:u=0:=(LH h).1;refine⟨jO, ?_⟩;refine fin _ _ 0 (fun x R=> ?_) O ⟨by rw[o];exact f.cd,by rw[o,p];exact f.sz,by rw[n,p];exact f.zn,by rw[n];exact f.zm,by rw[o,n];exact f.zo,by rw[p];have:=f.pl;omega,by rw[p];exact f.ol,by rw[o];exact f.c9,by rw[o];exact f.bd⟩ jO (by rw[n,bG];simp only[cP,iP];omega) (by rw[n];exact C) h;rcases List.mem_append.1 R with q|q
    ·exact k.iH x q
    ·rw[List.mem_singleton.1 q];exact P
   ·next hw=>
    have z:r.waits=false:=by simpa using hw
    have hd:r.cd.done=false:=by
     cases c:r.cd.done with
     |false=>rfl
     |true=>exact absurd (Q c) hw
    cases e:iG r bs with
    |short=>rw[e]at h;cases h
    |bad x=>rw[e]at h;cases h
    |ok d w=>rw[e]at h;obtain⟨v,I,G,t,N,s6,L⟩:=akw f z hd C e;have Z:u=w:=(LH h).1;have m0:r.more=0:=abk fun q=>hw ((pS r).2 q);refine⟨jO, ?_⟩;exact fin b.last d w k.iH (by rw[t];exact J) G N jO L h
def ng(b:Bk):Gt:=⟨b.last,b.bK,b.sum⟩
inductive fj (room:Nat):Nat->Bk->List Bool->St Gt->Prop
 |short {b:Bk} {bs:List Bool} (h:dp room b bs= .short):fj room 1 b bs .short
 |bad {b:Bk} {bs:List Bool} {e:Int} (h:dp room b bs= .bad e):fj room 1 b bs (.bad e)
 |done {b b':Bk} {bs:List Bool} {u:Nat} (h:dp room b bs= .ok b' u) (q:b'.done=true):fj room 1 b bs (.ok (ng b') u)
 |more {k:Nat} {b b':Bk} {bs:List Bool} {u:Nat} {x:St Gt} (h:dp room b bs= .ok b' u) (q:b'.done=false) (r:fj room k b' (bs.drop u) x):fj room (k+1) b bs (x.add u)
theorem St.lC{b:Type}(x:St b):x.add 0=x:=by
 cases x with
 |short=>rfl
 |bad e=>rfl
 |ok a u=>show St.ok a (0+u)=_;rw[fD]
def hP(p:Nat):List Nat:=if 0<p then [p]else []
def Rw.hX(r:Rw):List Nat:=bU r.due 0++hP r.place
theorem va(r:Rw):r.hX.length=r.more:=by unfold Rw.hX Rw.more hP;rw[bG,j4];split<;>rfl
theorem ES{r:Rw}(a:r.waits=true):∃q,r.hX=q::(bR r).2.hX∧(bR r).1=r.ord.getD q 0∧(bR r).2.ord=db 0 r.ord q∧(bR r).2.cd=r.cd∧(bR r).2.z=r.z:=by
 unfold bR;by_cases c:0<r.due
 ·rw[if_pos c];refine⟨0, ?_,rfl,rfl,rfl,rfl⟩;unfold Rw.hX;show bU r.due 0++hP r.place=0::(bU (r.due-1) 0++hP r.place);obtain⟨d,hd⟩:∃d,r.due=d+1:=⟨r.due-1,jO⟩;rw[hd,Nat.add_sub_cancel,List.replicate_succ];rfl
 ·rw[if_neg c]
  have b:0<r.place:=by unfold Rw.waits at a;simp only[oO,decide_eq_true_eq]at a;omega
  refine⟨r.place, ?_,rfl,rfl,rfl,rfl⟩;unfold Rw.hX hP;have hd:r.due=0:=jO;show bU r.due 0++(if 0<r.place then [r.place]else [])=r.place::(bU r.due 0++(if 0<0 then [0]else []));rw[hd,if_pos b,if_neg jO];rfl
def Rw.calm(r:Rw):Rw:={r with ord:=(cr r.ord r.hX).2,due:=0,place:=0}
def Bk.told(b:Bk)(r:Rw):Bk:={b with last:=b.last++(cr r.ord r.hX).1,row:=some r.calm}
theorem LI{r:Rw}(h:r.more=0):r.hX=[]∧r.calm=r:=by
 have b:r.hX=[]:=List.length_eq_zero_iff.1 (by rw[va,h]);refine⟨b, ?_⟩;unfold Rw.calm;rw[b]
 have d:r.due=0∧r.place=0:=by unfold Rw.more at h;split at h<;>omega
 obtain⟨e,z,c,due,a⟩:=r;obtain⟨rfl,rfl⟩:=d;rfl
theorem LJ{room:Nat}{b:Bk}{bs:List Bool}{r:Rw}(h1:b.head=true)(h2:b.row=some r)(a:r.waits=true):dp room b bs=fB {b with last:=b.last++[(bR r).1],row:=some (bR r).2} (bR r).2 0:=by unfold dp;rw[h1,if_neg jD,h2];exact if_pos a
theorem akx{b:Bk}{r:Rw}(a:r.waits=true):({b with last:=b.last++[(bR r).1],row:=some (bR r).2}:Bk).told (bR r).2=b.told r:=by
 obtain⟨q,h,g,f,e,d⟩:=ES a
 have c:cr r.ord r.hX=((bR r).1::(cr (bR r).2.ord (bR r).2.hX).1,(cr (bR r).2.ord (bR r).2.hX).2):=by rw[h,g,f];rfl
 unfold Bk.told Rw.calm;rw[c];simp only[ey,FL];rw[e,d]
theorem aky{room k:Nat}{a:St Gt}{bs:List Bool}:∀(m:Nat) (r:Rw) (b:Bk),r.more=m->b.head=true->b.row=some r->b.done=false->r.cd.done=false->fj room k (b.told r) bs a->fj room (k+m) b bs a:=by
 intro m
 induction m with
 |zero=>
  intro r b j g f e hd x;obtain⟨h,n⟩:=LI j
  have:b.told r=b:=by unfold Bk.told;rw[n,h,<-f];show{b with last:=b.last++[]}=b;rw[bV]
  rw[this]at x;exact x
 |succ m o=>
  intro r b j g f e hd x;have c:=(pS r).2 jO;obtain⟨q,h,n,t,l,s⟩:=ES c
  have d:(bR r).2.more=m:=by have:=congrArg pZ h;rw[cP,va,va]at this;omega
  have i:=LJ (room:=room) (bs:=bs) g f c
  have p:fB {b with last:=b.last++[(bR r).1],row:=some (bR r).2} (bR r).2 0= .ok {b with last:=b.last++[(bR r).1],row:=some (bR r).2} 0:=by unfold fB;rw[l,hd];rfl
  rw[p]at i;have y:=o (bR r).2 {b with last:=b.last++[(bR r).1],row:=some (bR r).2} d g rfl e (by rw[l];exact hd) (by rw[akx c];exact x);have z:=fj.more i e y;rw[St.lC]at z;exact z
def ET(b:Bk)(last:List Nat)(u:Nat):St Gt:=if last.length<=b.bK then .bad 23 else .ok ⟨last,b.bK,b.sum⟩ u
theorem akz{room:Nat}{bs:List Bool}:∀(m:Nat) (r:Rw) (b:Bk),r.more=m+1->b.head=true->b.row=some r->b.done=false->r.cd.done=true->fj room (m+1) b bs (ET b (b.last++(cr r.ord r.hX).1) 0):=by
 intro m
 induction m with
 |zero=>
  intro r b s h k j hd;have f:=(pS r).2 jO;obtain⟨q,g,n,o,i,u⟩:=ES f
  have e:(bR r).2.more=0:=by have:=congrArg pZ g;rw[cP,va,va]at this;omega
  have d:=LJ (room:=room) (bs:=bs) h k f
  have a:(bR r).2.waits=false:=by
   cases c:(bR r).2.waits with
   |false=>rfl
   |true=>have:=(pS _).1 c;omega
  have l:b.last++(cr r.ord r.hX).1=b.last++[(bR r).1]:=by rw[g,(LI e).1,n];rfl
  rw[l];unfold fB at d;rw[a,i,hd]at d;unfold ET;by_cases c:(b.last++[(bR r).1]).length<=b.bK
  ·rw[if_pos c];refine fj.bad ?_;rw[d];exact(if_pos (show(true&& !false)=true from rfl)).trans (if_pos c)
  ·rw[if_neg c];refine fj.done (b':={b with last:=b.last++[(bR r).1],row:=some (bR r).2,done:=true}) ?_ rfl;rw[d];exact(if_pos (show(true&& !false)=true from rfl)).trans (if_neg c)
 |succ m p=>
  intro r b s h k j hd;have f:=(pS r).2 jO;obtain⟨q,g,n,o,i,u⟩:=ES f
  have e:(bR r).2.more=m+1:=by have:=congrArg pZ g;rw[cP,va,va]at this;omega
  have d:=LJ (room:=room) (bs:=bs) h k f;have a:=(pS (bR r).2).2 jO
  have t:fB {b with last:=b.last++[(bR r).1],row:=some (bR r).2} (bR r).2 0= .ok {b with last:=b.last++[(bR r).1],row:=some (bR r).2} 0:=by unfold fB;rw[a,i,hd];rfl
  rw[t]at d;have y:=p (bR r).2 {b with last:=b.last++[(bR r).1],row:=some (bR r).2} e h rfl j (by rw[i];exact hd);have z:=fj.more d j y;rw[St.lC]at z
  have l:b.last++(cr r.ord r.hX).1=(b.last++[(bR r).1])++(cr (bR r).2.ord (bR r).2.hX).1:=by rw[g,ey,n,o];rfl
  rw[l];exact z
def dr:Zr->List Nat->Option (Zr×List Nat)
 |z,[]=>some (z,[])
 |z,c::l=>match c6 z c with
  |none=>none
  |some (b,n,p)=>match dr b l with
   |none=>none
   |some (a,d)=>some (a,(bU n 0++hP p)++d)
theorem EU:∀(l:List Nat) (z b:Zr) (d:List Nat) (c:Nat),dr z l=some (b,d)->dr z (l++[c])=(match c6 b c with
 |none=>none
 |some (a,n,p)=>some (a,d++(bU n 0++hP p)))
 |[],z,b,d,c,h=>by
  cases h
  show(match c6 z c with
   |none=>none
   |some (a,n,p)=>some (a,(bU n 0++hP p)++[]))=_
  cases c6 z c with
  |none=>rfl
  |some t=>obtain⟨a,n,p⟩:=t;show some (a,(bU n 0++hP p)++[])=some (a,[]++(bU n 0++hP p));rw[bV,lk]
 |x::l,z,b,d,c,h=>by
  unfold dr at h
  show(match c6 z x with
   |none=>none
   |some (a,n,p)=>match dr a (l++[c])with
    |none=>none
    |some (i,f)=>some (i,(bU n 0++hP p)++f))=_
  cases e:c6 z x with
  |none=>rw[e]at h;cases h
  |some t=>
   obtain⟨a,n,p⟩:=t;rw[e]at h;simp only at h⊢;cases g:dr a l with
   |none=>rw[g]at h;cases h
   |some k=>
    obtain⟨i,f⟩:=k;rw[g]at h;cases h;rw[EU l a b f c g];cases c6 b c with
    |none=>rfl
    |some j=>obtain⟨m,q,o⟩:=j;simp only[ey]
def ew(l:List Int):List Nat:=l.map Int.toNat
def iY(n room:Nat):Ck:=fun out sym=>if(dr (eG n room) (ew (out++[sym]))).isSome=true then none else some 25
def mF(s:List Nat)(room b c:Nat):Rs->St Gt
 | .err e=>if e=3 then .short else .bad e
 | .ok out a=>match dr (eG s.length room) (ew out)with
   |none=> .bad 25
   |some (_,d)=>if(cr s d).1.length<=b then .bad 23 else .ok (Gt.mk (cr s d).1 b c) a
theorem Zn(s:List Nat)(room c d a:Nat)(r:Rs):mF s room c d (r.add a)=(mF s room c d r).add a:=by
 cases r with
 |err e=>show(if e=3 then St.short else .bad e)=St.add a (if e=3 then St.short else .bad e);split<;>rfl
 |ok out b=>
  show(match dr (eG s.length room) (ew out)with
   |none=>St.bad 25
   |some (_,f)=>if(cr s f).1.length<=c then .bad 23 else .ok (Gt.mk (cr s f).1 c d) (a+b))=St.add a (match dr (eG s.length room) (ew out)with
   |none=>St.bad 25
   |some (_,f)=>if(cr s f).1.length<=c then .bad 23 else .ok (Gt.mk (cr s f).1 c d) b)
  cases dr (eG s.length room) (ew out)with
  |none=>rfl
  |some t=>obtain⟨z,f⟩:=t;show(if(cr s f).1.length<=c then St.bad 23 else .ok (Gt.mk (cr s f).1 c d) (a+b))=St.add a (if(cr s f).1.length<=c then St.bad 23 else .ok (Gt.mk (cr s f).1 c d) b);split<;>rfl
theorem LK{z a:Zr}{c n p:Nat}(h:c6 z c=some (a,n,p)):n+(if 0<p then 1 else 0)+z.told=a.told:=by
 unfold c6 at h;split at h
 ·cases h
 ·split at h
  ·split at h
   ·cases h
   ·cases h;simp
  ·split at h
   ·cases h;show z.aR+(if 0<0 then 1 else 0)+z.told=z.told+z.aR;rw[if_neg jO];omega
   ·split at h
    ·cases h
    ·cases h;show z.aR+(if 0<c-1 then 1 else 0)+z.told=z.told+1+z.aR;rw[if_pos jO];omega
section
variable {s:List Nat} {room:Nat}
theorem akA:∀(N:Nat) (c:Cd) (bs:List Bool) (out:List Int) (z:Zr) (ps:List Nat) (b:Bk),bs.length<N->hM c->c.size=s.length+2->dr (eG s.length room) (ew out)=some (z,ps)->z.Ok->z.n=s.length->z.most=room->
 b.head=true->b.row=some ⟨c,z,(cr s ps).2,0,0⟩->b.last=(cr s ps).1->b.done=false->
 ∃k,k<=bs.length+1+(room-z.told)∧fj room k b bs (mF s room b.bK b.sum (dF N c bs (iY s.length room) out 0)):=by
 intro N
 induction N with
 |zero=>intro c bs out z ps b hN;omega
 |succ N ih=>
  intro c bs out z ps b hN o A hz Y Z E D h2 h3 v
  have g:dp room b bs=match iG ⟨c,z,(cr s ps).2,0,0⟩ bs with
   | .short=> .short
   | .bad e=> .bad e
   | .ok a u=>fB {b with row:=some a} a u:=by
   unfold dp;rw[D,if_neg jD,h2];rfl
  have hG:dF (N+1) c bs (iY s.length room) out 0=match ed c bs with
   | .short=> .err 3
   | .bad e=> .err e
   | .ok (sym,d) u=>if sym=-1 then dF N d (bs.drop u) (iY s.length room) out (0+u)else match iY s.length room out sym with
     |some e=> .err e
     |none=>dF N d (bs.drop u) (iY s.length room) (out++[sym]) (0+u):=by
   show(if c.done=true then _ else _)=_;rw[o.dn];rfl
  rw[hG];unfold iG at g;cases e:ed c bs with
  |short=>rw[e]at g;exact⟨1,jO,fj.short g⟩
  |bad x=>rw[e]at g;refine⟨1,jO, ?_⟩;show fj room 1 b bs (if x=3 then .short else .bad x);rw[if_neg (by have:=Ep e;omega)];exact fj.bad g
  |ok sc u=>
   obtain⟨sym,d⟩:=sc;rw[e]at g;simp only at g⊢;obtain⟨q1,q2,q3,q4⟩:=wV o e
   have qs:d.size=c.size:=by
    rcases xb o e with ⟨_,_,s1,_,rfl⟩|⟨_,_,_,_,q,_⟩|⟨_,_,_,_,_,q,_⟩
    ·unfold kW;split<;>rfl
    ·exact q
    ·exact q
   have U:(bs.drop u).length<N:=by rw[bE];omega
   by_cases J:sym=-1
   ·have dn:d.done=false:=by
     rcases xb o e with ⟨_,_,s1,_,rfl⟩|⟨_,_,_,_,_,q⟩|⟨_,q,_⟩
     ·have:=o.dn;unfold kW;split<;>exact o.dn
     ·exact q
     ·omega
    rw[if_pos (by omega:sym<0)]at g;rw[if_pos J];obtain⟨k,W,P⟩:=ih d (bs.drop u) out z ps {b with row:=some ⟨d,z,(cr s ps).2,0,0⟩} U (q1 dn) (by rw[qs];exact A) hz Y Z E D rfl h3 v
    have C:dp room b bs= .ok {b with row:=some ⟨d,z,(cr s ps).2,0,0⟩} u:=by rw[g];unfold fB;show(if(d.done&& !false)=true then _ else _)=_;rw[dn];rfl
    rw[fD,show dF N d (bs.drop u) (iY s.length room) out u=(dF N d (bs.drop u) (iY s.length room) out 0).add u from EA N d (bs.drop u) _ out u 0,Zn];rw[bE]at W;exact⟨k+1,jO,fj.more C v P⟩
   ·have h0:0<=sym:=by
     rcases xb o e with ⟨_,q,_⟩|⟨_,q,_⟩|⟨_,q,_⟩
     ·exact absurd q J
     ·exact absurd q J
     ·exact q
    rw[if_neg (by omega:¬sym<0)]at g;rw[if_neg J];have f:=EU (ew out) (eG s.length room) z ps sym.toNat hz;have en:ew (out++[sym])=ew out++[sym.toNat]:=by unfold ew;rw[qa];rfl
    rw[<-en]at f;cases K:c6 z sym.toNat with
    |none=>
     rw[K]at g f
     have ck:iY s.length room out sym=some 25:=by unfold iY;rw[f];rfl
     rw[ck];exact⟨1,jO,fj.bad g⟩
    |some t=>
     obtain⟨G,n,p⟩:=t;rw[K]at g f;simp only at g f
     have ck:iY s.length room out sym=none:=by unfold iY;rw[f];rfl
     rw[ck];obtain⟨p1,p2,p3,p4,p5,p6,p7⟩:=EE Y K;obtain⟨c1,c2⟩:=Ln o e h0;have pt:=LK K;obtain⟨a,i⟩:∃a:Rw,a=⟨d,G,(cr s ps).2,n,p⟩:=⟨_,rfl⟩;have h:dp room b bs=fB {b with row:=some a} a u:=by rw[g,i]
     have Q:a.hX=bU n 0++hP p:=by rw[i];rfl
     have u0:a.more+z.told=G.told:=by rw[i];exact pt
     have B:=Lm ps a.hX s;rw[<-Q]at f;have r:a.ord=(cr s ps).2:=by rw[i]
     have l:b.last++(cr a.ord a.hX).1=(cr s (ps++a.hX)).1:=by rw[B,h3,r]
     rw[fD,show dF N d (bs.drop u) (iY s.length room) (out++[sym]) u=(dF N d (bs.drop u) (iY s.length room) (out++[sym]) 0).add u from EA N d (bs.drop u) _ (out++[sym]) u 0,Zn];have j:a.cd=d:=by rw[i]
     rw[bE]at U;cases hd:d.done with
     |true=>
      have hf:mF s room b.bK b.sum (dF N d (bs.drop u) (iY s.length room) (out++[sym]) 0)=ET b (b.last++(cr a.ord a.hX).1) 0:=by
       obtain⟨X,rfl⟩:∃X,N=X+1:=⟨N-1,jO⟩
       have:dF (X+1) d (bs.drop u) (iY s.length room) (out++[sym]) 0= .ok (out++[sym]) 0:=by show(if d.done=true then _ else _)=_;rw[hd];rfl
       rw[this,l]
       show(match dr (eG s.length room) (ew (out++[sym]))with
        |none=>St.bad 25
        |some (_,ps)=>if(cr s ps).1.length<=b.bK then .bad 23 else .ok (Gt.mk (cr s ps).1 b.bK b.sum) 0)=_
       rw[f];rfl
      rw[hf];by_cases I:a.waits=true
      ·have C:dp room b bs= .ok {b with row:=some a} u:=by rw[h];unfold fB;rw[I,j,hd];rfl
       have hp:=(pS a).1 I;obtain⟨m,R⟩:∃m,a.more=m+1:=⟨a.more-1,jO⟩;have y:=akz (room:=room) (bs:=bs.drop u) m a {b with row:=some a} R D rfl v (by rw[j];exact hd);exact⟨m+1+1,by have:=p7;rw[E]at this;omega,fj.more C v y⟩
      ·have O:a.waits=false:=by simpa using I
       have T:a.more=0:=abk fun q=>I ((pS a).2 q)
       have e0:b.last++(cr a.ord a.hX).1=b.last:=by rw[(LI T).1];exact bV _
       rw[e0];refine⟨1,jO, ?_⟩;unfold fB at h;rw[O,j,hd]at h;unfold ET;by_cases L:b.last.length<=b.bK
       ·rw[if_pos L];refine fj.bad ?_;rw[h];exact(if_pos (show(true&& !false)=true from rfl)).trans (if_pos L)
       ·rw[if_neg L];refine fj.done (b':={b with row:=some a,done:=true}) ?_ rfl;rw[h];exact(if_pos (show(true&& !false)=true from rfl)).trans (if_neg L)
     |false=>
      have C:dp room b bs= .ok {b with row:=some a} u:=by rw[h];unfold fB;rw[j,hd];rfl
      have zd:G.done=false:=by rw[p5,decide_eq_false_iff_not];rw[hd]at c2;have:=decide_eq_false_iff_not.1 c2.symm;omega
      obtain⟨k,W,P⟩:=ih d (bs.drop u) (out++[sym]) G (ps++a.hX) (({b with row:=some a}:Bk).told a) (by rw[bE];exact U) (q1 hd) (by rw[qs];exact A) f (p1 zd) (p2.trans Z) (p3.trans E) D (by
       show some a.calm=_;unfold Rw.calm
       rw[B,r,i]) l v
      have y:=aky (room:=room) (bs:=bs.drop u) a.more a {b with row:=some a} rfl D rfl v (by rw[j];exact hd) P;rw[bE]at W;exact⟨k+a.more+1,by have:=p7;rw[E]at this;omega,fj.more C v y⟩
end
def lK(room:Nat)(bs:List Bool):St Gt:=
 if bs.length<57 then .short else if bs.getD 32 false=true then .bad 25 else match fA (bs.drop 57)with
 | .short=> .short
 | .bad e=> .bad e
 | .ok s u=>(mF s room (num ((bs.drop 33).take 24) 0) (num (bs.take 32) 0) (iF (s.length+2) (bs.drop (57+u)) (iY s.length room))).add (57+u)
theorem akB(room:Nat)(h:room<=1099511627776)(bs:List Bool):∃k,k<=bs.length+3+room∧fj room k jj bs (lK room bs):=by
 have f:dp room jj bs=if bs.length<57 then .short else if bs.getD 32 false=true then .bad 25 else .ok {jj with head:=true,sum:=num (bs.take 32) 0,bK:=num ((bs.drop 33).take 24) 0} 57:=rfl
 unfold lK;by_cases m:bs.length<57
 ·rw[if_pos m]at f⊢;exact⟨1,jO,fj.short f⟩
 rw[if_neg m]at f⊢;by_cases l:bs.getD 32 false=true
 ·rw[if_pos l]at f⊢;exact⟨1,jO,fj.bad f⟩
 rw[if_neg l]at f⊢;obtain⟨d,b⟩:∃d:Bk,d={jj with head:=true,sum:=num (bs.take 32) 0,bK:=num ((bs.drop 33).take 24) 0}:=⟨_,rfl⟩;rw[<-b]at f
 have c:dp room d (bs.drop 57)=match fA (bs.drop 57)with
  | .short=> .short
  | .bad e=> .bad e
  | .ok s u=> .ok {d with row:=some (m6 s room)} u:=by rw[b];rfl
 have g:d.done=false:=by rw[b];rfl
 cases e:fA (bs.drop 57)with
 |short=>rw[e]at c;exact⟨2,jO,fj.more f g (fj.short c)⟩
 |bad x=>rw[e]at c;exact⟨2,jO,fj.more f g (fj.bad c)⟩
 |ok s u=>
  rw[e]at c;obtain⟨r,q,B,p⟩:=uS e;have o:=r.len;have n:1<=s.length:=List.length_pos_iff.2 q;obtain⟨k,t,j⟩:=akA (s:=s) (room:=room) ((bs.drop (57+u)).length+1) (m4 (s.length+2)) (bs.drop (57+u)) [] (eG s.length room) [] {d with row:=some (m6 s room)} (dI _) (Er jO jO) rfl rfl (ED n o h) rfl rfl (by rw[b]) rfl (by rw[b];rfl) (by rw[b];rfl);rw[ai5 jO jO]at j;have i:=fj.more f g (fj.more c (by exact g) (by rw[jm];exact j))
  have A:∀(x:St Gt),(x.add u).add 57=x.add (57+u):=fun x=>by
   cases x with
   |short=>rfl
   |bad e=>rfl
   |ok a v=>show St.ok a (57+(u+v))=St.ok a (57+u+v);rw[Nat.add_assoc]
  rw[A]at i;have z:d.bK=num ((bs.drop 33).take 24) 0:=by rw[b]
  have y:d.sum=num (bs.take 32) 0:=by rw[b]
  rw[show({d with row:=some (m6 s room)}:Bk).bK=d.bK from rfl,show({d with row:=some (m6 s room)}:Bk).sum=d.sum from rfl,z,y]at i;rw[bE]at t p;exact⟨k+1+1,by show k+1+1<=_;have:(eG s.length room).told=0:=rfl;omega,i⟩
structure vd (Z A:Nat) (u:Us):Prop where
 ok:m9 Z A u
 bk:∀b,u.bf=some b->xp (u.level*Z) A b
structure jY (S:List UInt8) (Z:Nat) (s:Is):Prop where
 us:vd Z s.A s.u
 tot:s.total<4294967296
 nx:s.next<=s.A
 np:s.ps.length<=s.next
 LL:2<=s.u.due->s.next+48<=s.A
 hi:s.A<=8*S.length
theorem LM{t b:Nat}(h1:t<4294967296)(h2:b<4294967296):fC t b<4294967296:=by unfold fC;have e:(4294967296:Nat)=2^32:=rfl;rw[e]at*;refine MO (MO (jF _ jD) ?_) h2;exact Nat.lt_of_le_of_lt (Nat.div_le_self _ _) h1
theorem Zo{lv Z:Nat}(h1:lv<=9)(h2:Z<=100000):lv*Z<=900000:=Nat.le_trans (Nat.mul_le_mul h1 h2) jD
theorem Zp(room A:Nat):xp room A jj:=⟨⟨rfl,fun _=>rfl,fun r a=>(by cases a),aO _,jD⟩,fun x b=>(by cases b),fun r a=>(by cases a),fun r a=>(by cases a),fun _=>rfl⟩
theorem Zq(A:Nat):dq A<=7∧(A+dq A)%8=0:=by unfold dq;omega
theorem xq{Z A w g:Nat}{u c:Us}{bs:List Bool}(k:vd Z A u)(h:dc Z u A bs= .ok (g,c) w)(y:(A+bs.length)%8=0):w<=bs.length∧vd Z (A+w) c∧(g=1->At c.aS∧u.due=2∧c.due=1)∧(g=2->u.due=3∧c.due=0∧32<=w)∧(c.due=2∨c.due=3->(u.due=1∧48<=w)∨u.due=2):=by
 obtain⟨ok,r⟩:=k;unfold dc at h;split at h
 ·next d0=>
  have bn:=ok.b0 jO;unfold pN at h;split at h
  ·cases h
  ·next hl=>
   split at h
   ·next ha=>
    split at h
    ·cases h;refine⟨jO,⟨⟨by show u.at_+1<=3;omega,ok.due,fun q=>absurd d0 q,ok.pP,fun q=> ?_,fun _=>bn,ok.tot,ok.u1,ok.u2⟩,fun b a=> ?_⟩,fun q=>(by cases q),fun q=>(by cases q),fun q=> ?_⟩
     ·have:u.due=2:=q;omega
     ·have:u.bf=some b:=a;rw[bn]at this;cases this
     ·have:u.due=2∨u.due=3:=q;omega
    ·cases h
   ·next ha=>
    split at h
    ·cases h
    ·next hr=>
     cases h;refine⟨jO,⟨⟨aO _,by show 1<=3;decide,fun _=>by show 1<=num (bs.take 8) 0-48∧num (bs.take 8) 0-48<=9;omega,by show num (bs.take 8) 0-48<=9;omega,fun q=>(by cases q),fun _=>bn,by show 0<4294967296;decide,ok.u1,ok.u2⟩,fun b a=> ?_⟩,fun q=>(by cases q),fun q=>(by cases q),fun q=> ?_⟩
     ·have:u.bf=some b:=a;rw[bn]at this;cases this
     ·rcases q with q|q<;>cases q
 ·next d0=>
  split at h
  ·next d1=>
   have bn:=ok.b0 jO;have lv:=ok.lv jO;unfold qK at h;split at h
   ·cases h
   ·next hl=>
    split at h
    ·cases h;refine⟨jO,⟨⟨ok.at_,by show 2<=3;decide,fun _=>lv,ok.pP,fun _=>⟨jj,rfl,(Zp _ _).ok⟩,fun q=>absurd rfl q,ok.tot,ok.u1,ok.u2⟩,fun b a=> ?_⟩,fun q=>(by cases q),fun q=>(by cases q),fun _=> .inl ⟨d1,ah _⟩⟩;have:some jj=some b:=a;cases this;exact Zp _ _
    ·split at h
     ·cases h;refine⟨jO,⟨⟨ok.at_,by show 3<=3;decide,fun _=>lv,ok.pP,fun q=>(by cases q),fun _=>bn,ok.tot,ok.u1,ok.u2⟩,fun b a=> ?_⟩,fun q=>(by cases q),fun q=>(by cases q),fun _=> .inl ⟨d1,ah _⟩⟩;have:u.bf=some b:=a;rw[bn]at this;cases this
     ·cases h
  ·next d1=>
   split at h
   ·next d2=>
    have lv:=ok.lv jO;have t:=Zo lv.2 ok.u2;unfold pO at h;split at h
    ·cases h
    ·next b a=>
     have m:=r b a;cases e:dp (u.level*Z) b bs with
     |short=>rw[e]at h;cases h
     |bad x=>rw[e]at h;cases h
     |ok f s=>
      rw[e]at h;simp only at h;obtain⟨q1,q2,l⟩:=Zm m jO e;split at h
      ·next hd=>cases h;obtain⟨o,z,n,j⟩:=l hd;refine⟨q1,⟨⟨ok.at_,by show 1<=3;decide,fun _=>lv,ok.pP,fun q=>(by cases q),fun _=>rfl,LM ok.tot j,ok.u1,ok.u2⟩,fun b a=>(by cases a)⟩,fun _=>⟨⟨⟨n,by show 0<f.last.length;omega,by show f.last.length<=900000;omega,o⟩,j⟩,d2,rfl⟩,fun q=>(by cases q),fun q=> ?_⟩;rcases q with q|q<;>cases q
      ·next hd=>
       cases h;have i:f.done=false:=by simpa using hd
       have d:=q2 i;refine⟨q1,⟨⟨ok.at_,ok.due,fun _=>lv,ok.pP,fun _=>⟨f,rfl,d.ok⟩,fun q=>absurd d2 q,ok.tot,ok.u1,ok.u2⟩,fun b a=> ?_⟩,fun q=>(by cases q),fun q=>(by cases q),fun _=> .inr d2⟩;have:some f=some b:=a;cases this;exact d
   ·next d2=>
    have p:u.due=3:=by have:=ok.due;omega
    have bn:=ok.b0 jO;unfold qL at h;split at h
    ·cases h
    ·next hl=>
     split at h
     ·cases h;have v:A+32+dq (A+32)<=A+bs.length:=by unfold dq;omega
      refine⟨jO,⟨⟨ok.at_,aO _,fun q=>absurd rfl q,ok.pP,fun q=>(by cases q),fun _=>bn,ok.tot,ok.u1,ok.u2⟩,fun b a=> ?_⟩,fun q=>(by cases q),fun _=>⟨p,rfl,jO⟩,fun q=> ?_⟩
      ·have:u.bf=some b:=a;rw[bn]at this;cases this
      ·rcases q with q|q<;>cases q
     ·cases h
section
variable {S:List UInt8} {Z:Nat} {s s':Is}
theorem jY.rest(k:jY S Z s):(ar S 0 s.A).length=8*S.length-s.A:=by rw[fy,sW,AV]
theorem ve(k:jY S Z s)(h:iM S Z s= .go s'):jY S Z s':=by
 have u:=k.rest;have v:=k.hi;have m:=k.nx;have c:=k.np;unfold iM at h;split at h
 ·cases h
 ·unfold sJ at h;cases e:dc Z s.u s.A (ar S 0 s.A)with
  |short=>rw[e]at h;cases h
  |bad x=>rw[e]at h;cases h
  |ok t w=>
   obtain⟨g,b⟩:=t;rw[e]at h;obtain⟨r,a,l,j,i⟩:=xq k.us e jO;have z:=a.ok.due;have h:iL S g (s.took b w)= .go s':=h;unfold iL at h;split at h
   ·next c1=>
    obtain⟨f,p,o⟩:=l c1;have n:=k.LL jO;split at h
    ·cases h
    ·next t _=>
     cases h;refine⟨a,LM k.tot f.2,ah _, ?_,fun q=> ?_, ?_⟩
     ·show(s.ps++[_]).length<=s.A+w;rw[bG];show s.ps.length+1<=_;omega
     ·have:2<=b.due:=q;omega
     ·show s.A+w<=_;omega
   ·next c1=>
    split at h
    ·next c2=>
     cases h;obtain⟨f,p,o⟩:=j c2;have n:=k.LL jO;refine⟨a,k.tot,ah _, ?_,fun q=> ?_, ?_⟩
     ·show(s.ps++[_]).length<=s.A+w;rw[bG];show s.ps.length+1<=_;omega
     ·have:2<=b.due:=q;omega
     ·show s.A+w<=_;omega
    ·next c2=>
     cases h
     have d:2<=b.due->s.next+48<=s.A+w:=fun q=>by
      rcases i jO with ⟨_,q2⟩|q2
      ·omega
      ·have:=k.LL jO;omega
     unfold Is.begun;split
     ·next c3=>
      have y:s.A+w=s.next+32:=c3.2;refine⟨a,by show 0<4294967296;decide,ah _, ?_,fun q=> ?_, ?_⟩
      ·show(s.ps++[_]).length<=s.A+w;rw[bG];show s.ps.length+1<=_;omega
      ·have:=d q;omega
      ·show s.A+w<=_;omega
     ·exact⟨a,k.tot,by show s.next<=s.A+w;omega,c,d,by show s.A+w<=_;omega⟩
theorem Zs(h:s.fresh=false):s.begun S=s:=by unfold Is.begun;rw[if_neg (by rw[h];simp)]
def ky(u:Us)(g:Gt):Us:={u with aS:=g,bf:=none,total:=fC u.total g.sum,due:=1}
theorem EV{b:Bk}(a:s.u.due=2)(g:s.u.bf=some b):iM S Z s=match dp (s.u.level*Z) b (ar S 0 s.A)with
 | .short=> .stop 24
 | .bad e=> .stop e
 | .ok b' w=>if b'.done=true then iL S 1 (s.took (ky s.u (ng b')) w)else iL S 0 (s.took {s.u with bf:=some b'} w):=by
 unfold iM;rw[if_neg (by unfold Us.may;rw[a];simp)];unfold sJ dc;rw[if_neg jO,if_neg jO,if_pos a];unfold pO;rw[g];dsimp only;cases dp (s.u.level*Z) b (ar S 0 s.A)with
 |short=>rfl
 |bad e=>rfl
 |ok b' w=>
  show(match (if b'.done=true then St.ok (1,ky s.u (ng b')) w else St.ok (0,{s.u with bf:=some b'}) w:St (Nat×Us))with
   | .short=>Ix.stop 24
   | .bad e=> .stop e
   | .ok (d,f) w=>iL S d (s.took f w))=if b'.done=true then _ else _
  by_cases c:b'.done=true
  ·rw[if_pos c,if_pos c]
  ·rw[if_neg c,if_neg c]
end
def gu(S:List UInt8)(room:Nat):Nat->Nat->Nat->List Pt×Except Int Nat
 |0,_,_=>([],.error 24)
 |N+1,a,t=>if(ar S 0 a).length<48 then([],.error 24)
  else if num ((ar S 0 a).take 48) 0=jV then(match lK room (ar S 0 (a+48))with
   | .short=>([],.error 24)
   | .bad e=>([],.error e)
   | .ok g w=>match fJ g with
     | .error e=>([],.error e)
     | .ok x=>(⟨2,0,(a:Int),((a+48+w:Nat):Int),(g.sum:Int),(g.bK:Int),(g.last.length:Int),(x.length:Int)⟩::(gu S room N (a+48+w) (fC t g.sum)).1,(gu S room N (a+48+w) (fC t g.sum)).2))
  else if num ((ar S 0 a).take 48) 0=kv then(if(ar S 0 (a+48)).length<32 then([],.error 24)
   else if num ((ar S 0 (a+48)).take 32) 0=t then([⟨3,0,(a:Int),((a+80:Nat):Int),(t:Int),0,0,0⟩],.ok (a+80))else([],.error 21))
  else([],.error 20)
structure LN (S:List UInt8) (Z room a t:Nat) (s:Is):Prop where
 ki:jY S Z s
 due:s.u.due=1
 Av:s.u.at_=0
 pos:s.A=a
 next:s.next=a
 ut:s.u.total=t
 st:s.total=t
 rm:s.u.level*Z=room
 fr:s.fresh=false
structure LO (S:List UInt8) (Z a:Nat) (s:Is):Prop where
 ki:jY S Z s
 due:s.u.due=0
 Av:s.u.at_=0
 pos:s.A=a
 next:s.next=a
 fr:s.fresh=true
theorem Zt{s:Is}{p:Pt}(h:p.what≠3){ps:List Pt}(e:s.ps=ps++[p]):s.fresh=false:=by unfold Is.fresh;rw[e,aoO];exact decide_eq_false h
theorem akC{s:Is}{p:Pt}(h:p.what=3){ps:List Pt}(e:s.ps=ps++[p]):s.fresh=true:=by unfold Is.fresh;rw[e,aoO];exact decide_eq_true h
section
variable {S:List UInt8} {Z room:Nat}
theorem akD{s:Is}(d:s.u.due=1)(f:s.fresh=false):iM S Z s=if(ar S 0 s.A).length<48 then .stop 24
 else if num ((ar S 0 s.A).take 48) 0=jV then .go (s.took {s.u with bf:=some jj,due:=2} 48)
 else if num ((ar S 0 s.A).take 48) 0=kv then .go (s.took {s.u with due:=3} 48)else .stop 20:=by
 have e:∀u w,(s.took u w).begun S=s.took u w:=fun u w=>Zs f;unfold iM;rw[if_neg (by unfold Us.may;rw[d];simp)];unfold sJ dc;rw[if_neg jO,if_pos d];unfold qK;by_cases c:(ar S 0 s.A).length<48
 ·rw[if_pos c,if_pos c];rfl
 rw[if_neg c,if_neg c];by_cases b:num ((ar S 0 s.A).take 48) 0=jV
 ·rw[if_pos b,if_pos b];show iL S 0 (s.took _ 48)=_;unfold iL;rw[if_neg jD,if_neg jD,e]
 rw[if_neg b,if_neg b];by_cases a:num ((ar S 0 s.A).take 48) 0=kv
 ·rw[if_pos a,if_pos a];show iL S 0 (s.took _ 48)=_;unfold iL;rw[if_neg jD,if_neg jD,e]
 rw[if_neg a,if_neg a];rfl
theorem akE{s:Is}(c:s.u.due=3):iM S Z s=if(ar S 0 s.A).length<32 then .stop 24
 else if num ((ar S 0 s.A).take 32) 0=s.u.total then .go (s.took {s.u with due:=0,ended:=true} (32+dq (s.A+32))).Zk else .stop 21:=by
 unfold iM;rw[if_neg (by unfold Us.may;rw[c];simp)];unfold sJ dc;rw[if_neg jO,if_neg jO,if_neg jO];unfold qL;by_cases b:(ar S 0 s.A).length<32
 ·rw[if_pos b,if_pos b];rfl
 rw[if_neg b,if_neg b];by_cases a:num ((ar S 0 s.A).take 32) 0=s.u.total
 ·rw[if_pos a,if_pos a];show iL S 2 (s.took _ _)=_;unfold iL;rw[if_neg jD,if_pos rfl]
 rw[if_neg a,if_neg a];rfl
end
theorem Zu:∀(q:Nat) (S:List UInt8),(dY S).drop (8*q)=dY (S.drop q)
 |0,S=>rfl
 |q+1,[]=>by simp[dY]
 |q+1,b::s=>by have a:=Zu q s;show(cq b.toNat 8++dY s).drop (8*(q+1))=dY (s.drop q);rw[<-a,show 8*(q+1)=(cq b.toNat 8).length+8*q by rw[hH];omega,<-jm,List.drop_left]
theorem akF{S:List UInt8}{q:Nat}(h:q<S.length):num ((ar S 0 (8*q)).take 8) 0=(S.getD q 0).toNat:=by unfold ar;rw[sW,AV,Zu,qX h,bz,bB h];show num ((cq S[q].toNat 8++dY (S.drop (q+1))).take 8) 0=S[q].toNat;rw[List.take_left' (hH _ _)];exact zX (UInt8.toNat_lt _)
def iZ(S:List UInt8):Nat->Nat->Except Int Nat
 |0,a=>if(ar S 0 a).length<8 then .error 24 else if num ((ar S 0 a).take 8) 0<49∨57<num ((ar S 0 a).take 8) 0 then .error 20 else .ok (num ((ar S 0 a).take 8) 0-48)
 |m+1,a=>if(ar S 0 a).length<8 then .error 24 else if num ((ar S 0 a).take 8) 0=jU.getD (2-m) 0 then iZ S m (a+8)else .error 20
def NB(S:List UInt8):Nat:=S.length/6+1
def oE(S:List UInt8)(Z:Nat):Nat->Nat->List Pt×Int
 |0,_=>([],24)
 |N+1,a=>match iZ S 3 a with
  | .error e=>([],e)
  | .ok lv=>match (gu S (lv*Z) (NB S) (a+32) 0).2 with
    | .error e=>(⟨1,(lv:Int),(a:Int),((a+32:Nat):Int),0,0,0,0⟩::(gu S (lv*Z) (NB S) (a+32) 0).1,e)
    | .ok b=>if(ar S 0 (b+dq b)).length=0 then(⟨1,(lv:Int),(a:Int),((a+32:Nat):Int),0,0,0,0⟩::(gu S (lv*Z) (NB S) (a+32) 0).1,0)
      else(⟨1,(lv:Int),(a:Int),((a+32:Nat):Int),0,0,0,0⟩::(gu S (lv*Z) (NB S) (a+32) 0).1++(oE S Z N (b+dq b)).1,(oE S Z N (b+dq b)).2)
section
variable {S:List UInt8} {Z:Nat}
theorem Zv{s:Is}(e:s.u.due=0)(d:¬(s.u.may=true∧(ar S 0 s.A).length=0)):iM S Z s=if(ar S 0 s.A).length<8 then .stop 24
 else if s.u.at_<3 then(if num ((ar S 0 s.A).take 8) 0=jU.getD s.u.at_ 0 then .go ((s.took {s.u with at_:=s.u.at_+1} 8).begun S)else .stop 20)
 else if num ((ar S 0 s.A).take 8) 0<49∨57<num ((ar S 0 s.A).take 8) 0 then .stop 20 else .go ((s.took {s.u with level:=num ((ar S 0 s.A).take 8) 0-48,at_:=0,total:=0,due:=1} 8).begun S):=by
 unfold iM;rw[if_neg d];unfold sJ dc;rw[if_pos e];unfold pN;by_cases c:(ar S 0 s.A).length<8
 ·rw[if_pos c,if_pos c];rfl
 rw[if_neg c,if_neg c];by_cases b:s.u.at_<3
 ·rw[if_pos b,if_pos b];by_cases a:num ((ar S 0 s.A).take 8) 0=jU.getD s.u.at_ 0
  ·rw[if_pos a,if_pos a];show iL S 0 (s.took _ 8)=_;unfold iL;rw[if_neg jD,if_neg jD]
  ·rw[if_neg a,if_neg a];rfl
 rw[if_neg b,if_neg b];by_cases a:num ((ar S 0 s.A).take 8) 0<49∨57<num ((ar S 0 s.A).take 8) 0
 ·rw[if_pos a,if_pos a];rfl
 ·rw[if_neg a,if_neg a];show iL S 0 (s.took _ 8)=_;unfold iL;rw[if_neg jD,if_neg jD]
end
section
variable {S:List UInt8} {Z:Nat}
theorem Zw{room:Nat}:∀(N a t:Nat) {b:Nat},(gu S room N a t).2= .ok b->a+80<=b:=by
 intro N
 induction N with
 |zero=>intro a t b h;cases h
 |succ N c=>
  intro a t b h;unfold gu at h;split at h
  ·cases h
  ·split at h
   ·split at h
    ·cases h
    ·cases h
    ·split at h
     ·cases h
     ·have:=c _ _ h;omega
   ·split at h
    ·split at h
     ·cases h
     ·split at h
      ·cases h;omega
      ·cases h
    ·cases h
theorem akG(h1:24<=Z)(h2:Z<=100000):LO S Z 0 Au:=
 ⟨⟨⟨⟨jD,jD,fun q=>absurd rfl q,jD,fun q=>(by cases q),fun _=>rfl,jD,h1,h2⟩,fun b a=>(by cases a)⟩,jD,ah _,ah _,fun q=>absurd q jD,aO _⟩,rfl,rfl,rfl,rfl,rfl⟩
end
end Go.Proofs.YtmjolmggelkjlaaGreat
namespace Go.Proofs.YtmjolmggelkjlaaGreat.Ev
open Go Go.RowKit
section
variable {β:Type} {W:Nat->Prop} {n0:Nat} {h h1:H} {n n1:Nat} {Q:β->H->Nat->Prop} {kn:List FuncId}
theorem akH{P:Program}(hd:j9 P=true){gt:Nat->Hint}{Y d:Nat}{f:FuncId}{args:Array Value}{v:Value}{L:List En}(e:kR kn P gt Y d f args h n=some ⟨v,h1,n1,L⟩){W':Nat->Prop}(c:∀e∈L,e.wr=true->n<=e.b∨W' e.b):∀b,b<n->¬W' b->h1.get b=h.get b:=by
 obtain⟨a,m⟩:=B4 hd d f args h n v h1 n1 L e;have A:=Loc.cK P kn a f args h n v h1 n1 L (m a (ah _));intro b o g;refine A2 fun k=>A.frame b k ?_ jO;rintro⟨e,i,l,j,_⟩;rcases c e i l with q|q
 ·omega
 ·exact g (j▸q)
theorem Zx {P:Program} (hd:j9 P=true) {gt:Nat->Hint} {Y d:Nat} {f:FuncId} {vs:List Value} {Q':Value->H->Nat->Prop} (s:af (fun _=>False) n (kR kn P gt Y d f ⟨vs⟩) h n Q') {k:Value×Tk->M β}
 (x:∀v h1 n1 L,n<=n1->(∀b,b<n->h1.get b=h.get b)->Q' v h1 n1->RB ⟨n,n1,L⟩ n->af W n0 (k (v,⟨n,n1,L⟩)) h1 n1 Q):af W n0 ((az (ai (kR kn P gt Y d) f vs M.ret)).bind k) h n Q:=by
 obtain⟨v,h1,n1,L,i,o,m,u⟩:=s;obtain⟨l,y⟩:=B4 hd d f ⟨vs⟩ h n v h1 n1 L i;have A:=Loc.cK P kn l f ⟨vs⟩ h n v h1 n1 L (y l (ah _))
 have g:∀e∈L.filter (fun e=> !(decide (n<=e.b)&&decide (e.b<n1))),e.b<n:=fun e a=>by obtain⟨h1,t⟩:=List.mem_filter.1 a;have:=A.lt e h1;simp at t;omega
 have c:∀e∈L.filter (fun e=> !(decide (n<=e.b)&&decide (e.b<n1))),e.wr=false:=fun e a=>by
  cases p:e.wr with
  |false=>rfl
  |true=>
   rcases m e (List.mem_filter.1 a).1 p with q|q
   ·have:=g e a;omega
   ·exact q.elim
 refine lG (mW i) o (fun e a j=> ?_) (x v h1 n1 _ o (fun b r=>akH (W':=fun _=>False) hd i m b r id) u ⟨c,g,ah _⟩);rw[c e a]at j;cases j
theorem akI{b:Nat}{e:TypeId}{x:Nat}(d:h.get b=some ⟨e,true,[.int .u8 (x:Int)]⟩)(i:b<n)(cp:Nat):∃L,hC (.slice (some ⟨b,0,none⟩) 1 cp) M.ret h n=some ⟨.string ⟨(bS [x]).toArray⟩,h,n,L⟩∧(∀e∈L,e.wr=false)∧∀e∈L,e.b=b:=by
 have k:gZ b 0 1 h n=some ⟨[.int .u8 (x:Int)],h,n,[⟨false,b,some 0⟩]⟩:=by
  rw[mq]
  have m:rd b 0 h n=some ⟨.int .u8 (x:Int),h,n,[⟨false,b,some 0⟩]⟩:=by unfold rd;simp only[i,d,if_true];rfl
  unfold cR;have:=bW (f:=fun v=>(cR b (0+1) 0).bind fun a=>M.ret (v::a)) m (L2:=[]) (b:=[.int .u8 (x:Int)]) (h2:=h) (n2:=n) rfl;simpa using this
 have j:((gZ b 0 1).bind fun a=>match j8 a with
  |some l=>M.ret (aM ⟨⟨l⟩⟩)
  |none=>M.fail) h n=some ⟨aM ⟨(bS [x]).toArray⟩,h,n,[⟨false,b,some 0⟩]++[]⟩:=by
  refine bW k ?_;have:j8 (b8 [x])=some (bS [x]):=D3 [x]
  show(match j8 (b8 [x])with
   |some l=>M.ret (aM ⟨⟨l⟩⟩)
   |none=>M.fail) h n=_
  rw[this];rfl
 have g:([(⟨false,b,some 0⟩:En)]++[]).filter (fun e:En=> !(decide (n<=e.b)&&decide (e.b<n)))=[⟨false,b,some 0⟩]:=by simp;omega
 refine⟨[⟨false,b,some 0⟩], ?_,jS,jS⟩;have c:=mW j;rw[g]at c;exact c
theorem akJ{a b:Tk}(h1:∀e∈a.log,e.wr=false)(h2:∀e∈b.log,e.wr=false)(h:∀e∈a.log,e.b<b.n)(g:∀e∈b.log,a.n1<=e.b):bP a b=false:=by
 rw[tB];unfold Tk.cy;simp only[Bool.or_eq_false_iff,List.any_eq_false,bZ,decide_eq_true_eq,not_and];refine⟨⟨⟨fun x c d=> ?_,fun x c d=> ?_⟩,fun x c f=> ?_⟩,fun x c _=> ?_⟩
 ·rw[h1 x c]at d;cases d
 ·rw[h2 x c]at d;cases d
 ·have:=h x c;omega
 ·have:=g x c;omega
end
end Go.Proofs.YtmjolmggelkjlaaGreat.Ev
namespace Go.Proofs.YtmjolmggelkjlaaGreat
open Go.RowKit Ev Ip
theorem Zy{kn:List FuncId}{Y d:Nat}{f:FuncId}{a:Array Value}{b:RT->M Value}(s:∀r,ax aa gt Y r f a=b r)(h:kn.contains f=false):kR kn aa gt Y (d+1) f a=b (kR kn aa gt Y d):=by
 show(match kn.contains f with
  |true=>_
  |false=>ax aa gt Y (kR kn aa gt Y d) f a:M Value)=_
 rw[h];exact s _
structure KOk (kn:List FuncId):Prop where
 dg:kn.contains 107=false
theorem Zz(x:Nat):(x:Int).tdiv 10=((x/10:Nat):Int):=rfl
theorem LP(x:Nat):(x:Int).tmod 10=((x %10:Nat):Int):=rfl
theorem ZA{m:Nat}(h:m<10):IntKind.u8.wrap (48+(m:Int))=((48+m:Nat):Int):=by have:IntKind.u8.wrap ((48+m:Nat):Int)=((48+m:Nat):Int):=aa9 _ jO;rwa[Int.natCast_add]at this
def iu(k x:Nat):List Nat:=(sI k x).map (48+·)
theorem LQ:∀(k n:Nat),(sI k n).length<=k
 |0,_=>ah _
 |k+1,n=>by
  unfold sI;by_cases a:n<10
  ·rw[if_pos a];simp
  ·rw[if_neg a];have:=LQ k (n/10);simp;omega
theorem ZB(a b:List Nat):bS (a++b)=bS a++bS b:=by unfold bS;rw[qa]
theorem oF(a b:List Nat)(h:a.length+b.length<=9223372036854775807)(K:Value->M Value):aq (aL a) (aL b) K=K (aL (a++b)):=by have:=tH (k:=K) (bS a) (bS b) (by unfold bS;simpa using h);rw[<-ZB]at this;exact this
theorem akK(k x:Nat):(iu k x).length<=k:=by unfold iu;rw[fS];exact LQ k x
section
variable {kn:List FuncId} (ko:KOk kn) (Y:Nat)
include ko
theorem ZC(d n:Nat)(h:H){x:Nat}(a:x<10):af (fun _=>False) n (kR kn aa gt Y (d+1) 107 #[jI (x:Int)]) h n fun v h' n'=>v= .string ⟨(bS [48+x]).toArray⟩:=by rw[Zy (fun _=>Iq) ko.dg];refine af.aA ?_;unfold CB;have b:=ZA (m:=x) a;have e:(x:Int)<10:=jO;have c:¬((x:Int)<0):=jO;refine jA (aI @e (aI @c @b)) ?_;refine tL trivial (ke _ _) _ ?_;refine uL (ws:=[48+x]) (get_eq _ _ _) (dI _) jS rfl _ ?_;exact jE
theorem akL(d:Nat):∀(k x n:Nat) (h:H),x<10^(k+1)->x<=9223372036854775807->k<100->af (fun _=>False) n (kR kn aa gt Y (d+(k+1)) 107 #[jI (x:Int)]) h n fun v h' n'=>v= .string ⟨(bS (iu (k+1) x)).toArray⟩:=by
 intro k
 induction k with
 |zero=>
  intro x n h c i _;have c:x<10:=by simpa using c
  have:=ZC ko Y d n h c;unfold iu sI;rw[if_pos c];exact this
 |succ k u=>
  intro x n h c i E;by_cases b:x<10
  ·have:=ZC ko Y (d+(k+1)) n h b;unfold iu sI;rw[if_pos b];exact this
  ·have j:¬((x:Int)<10):=jO;unfold iu sI;rw[if_neg b];show af (fun _=>False) n (kR kn aa gt Y (d+(k+1)+1) 107 #[jI (x:Int)]) h n _;rw[Zy (fun _=>Iq) ko.dg];refine af.aA ?_;unfold CB;have y:=ZA (m:=x %10) jO;refine jA (aI @j @Zz) ?_;refine Zx aF (u (x/10) n h (by rw[mL]at c;omega) jO jO) ?_;rintro v q a L p G rfl g;refine jA (aI @LP @y) ?_;refine KL _ _ p fun I r=> ?_;refine lG (mW (pr 5 [eJ .u8 ((48+x %10:Nat):Int)] (fun id=>j3 (some ⟨id,0,none⟩) 1 1) q a)) (eL a) jS ?_;obtain⟨D,t,l,s⟩:=akI (n:=a+1) (get_eq q a (some ⟨5,true,[eJ .u8 ((48+x %10:Nat):Int)]⟩)) jO 1;refine lG t (ah _) (fun e f o=>by rw[l e f]at o;cases o) ?_
   have C:=fun(K:Value->M Value)=>tH (k:=K) (bS (iu (k+1) (x/10))) (bS [48+x %10]) (by
    have:=LQ (k+1) (x/10);unfold bS iu;simp
    omega)
   have B:=g.cy r;have A:bP ⟨n,a,L⟩ ⟨a,a+1,[]⟩=false:=g.cy ⟨jS,jS,p⟩;have z:bP ⟨n,a,L⟩ ⟨a+1,a+1,D⟩=false:=akJ g.wr l (fun e f=>by have:=g.lt e f;show e.b<a+1;omega) (fun e f=>by rw[s e f];exact ah _);try simp(disch:=first|omega|assumption) only[Nat.reduceAdd,Nat.reduceLT,RZ,C,B,A,z,List.filter_nil,cf,dJ,dG]
   rw[<-ZB];simp[iu]
end
end Go.Proofs.YtmjolmggelkjlaaGreat
namespace Go.Proofs.YtmjolmggelkjlaaGreat
open Go.RowKit Ev Cn Ip
theorem akM{m:Nat}(h:m %2=0):m^^^1=m+1:=by
 have d:(m^^^1)/2=m/2:=by rw[Nat.xor_div_two];simp
 have c:(m^^^1)%2=1:=by have:=Nat.xor_mod_two_pow (a:=m) (b:=1) (n:=1);rw[Nat.pow_one,h]at this;exact this
 omega
theorem LR(l:List Nat)(a:IntKind)(j:Nat)(k:Value->M Value)(h1:j<=l.length):bL (aL l) none (some (.int a (j:Int))) k=k (aL (l.take j)):=by have:=yx (k:=k) (l.map gU) a (j:Int) jO (by rw[fS];omega);unfold aL;rw[this,cV,AU]
theorem LS(l:List Nat)(a:IntKind)(j:Nat)(k:Value->M Value)(h1:j<=l.length):bL (aL l) (some (.int a (j:Int))) none k=k (aL (l.drop j)):=by have:=yy (k:=k) (l.map gU) a (j:Int) jO (by rw[fS];omega);unfold aL;rw[this,cV,xJ]
theorem LU(l:List Nat)(b a:IntKind)(j:Nat)(k:Value->M Value)(h1:j<l.length):bL (aL l) (some (.int b (j:Int))) (some (.int a ((j+1:Nat):Int))) k=k (aL [l.getD j 0]):=by have:=yz (k:=k) (l.map gU) b a (j:Int) ((j+1:Nat):Int) jO jO (by rw[fS];omega);unfold aL;rw[this,cV,cV,<-xJ,<-AU];congr 4;rw[qX h1,show j+1-j=1 by omega,List.take_succ_cons,FF,bz,bB h1];rfl
section
variable {Y d n:Nat} {h:H}
theorem akN(u:Int):af (fun _=>False) n (aj aa gt Y (d+1) 14 #[jI u]) h n fun c h' n'=>c= .bool (decide (24<=u∧u<=100000))∧h'=h∧n'=n:=by
 rw[aB (fun _=>aeb) rfl];refine af.aA ?_;unfold Qw;by_cases a:(24:Int)<=u
 ·by_cases b:u<=100000
  ·exact jC (aI @a @b)
  ·exact jC (aI @a @b)
 ·exact jC @a
theorem akO{a b:Nat}(q:a<4294967296)(j:b<4294967296):af (fun _=>False) n (aj aa gt Y (d+1) 78 #[.int .u32 (a:Int),.int .u32 (b:Int)]) h n fun l h' n'=>l= .int .u32 ((fC a b:Nat):Int)∧h'=h∧n'=n:=by
 rw[aB (fun _=>Rz) rfl];refine af.aA ?_;unfold H5 fC
 have g:IntKind.u32.wrap ((a:Int)*2)=((a*2^1 %4294967296:Nat):Int):=by rw[MQ];omega
 have i:a*2^1 %4294967296<4294967296:=jF _ jD;have ev:a*2^1 %4294967296 %2=0:=jO;generalize p:a*2^1 %4294967296=m at g i ev⊢;by_cases c:(2147483648:Int)<=(a:Int)
 ·have e:a/2^31=1:=by have:(2:Nat)^31=2147483648:=rfl;rw[this];omega
  rw[e,akM ev];have k:IntKind.u32.wrap ((m:Int)+1)=((m+1:Nat):Int):=by rw[MQ];omega
  have o:m+1<4294967296:=jO;have f:=sC o j;exact jC (aI @g (aI @c (aI @k @f)))
 ·have e:a/2^31=0:=by have:(2:Nat)^31=2147483648:=rfl;rw[this];omega
  rw[e,Nat.xor_zero];have f:=sC i j;exact jC (aI @g (aI @c @f))
theorem Aw(l:List Bool)(t:l.length<=32)(q:100<=Y):af (fun _=>False) n (aj aa gt Y (d+1) 63 #[tx l]) h n fun o h' n'=>o= .int .u32 (num l 0:Int)∧h'=h∧n'=n:=by
 rw[aB (fun _=>H3) rfl];refine af.aA ?_;unfold yG;refine dL l.length (fun a i (_:Unit)=>pB Y (aj aa gt Y d) a (wk Y (aj aa gt Y d)) (tx l) (.int .u32 0) (.int .u32 (num (l.take i) 0:Int)) (jI (i:Nat))) (fun i _ h' n'=>h'=h∧n'=n) ?_ ?_ Y 0 () h n (aO _) jO ⟨rfl,rfl⟩
 ·rintro a _ h' n' ⟨rfl,rfl⟩;rw[pB];refine jA (aI @cZ @eT) ?_
  (try unfold wk);(try dsimp only)
  refine jB ?_;rw[jf]
 ·rintro a i _ h' n' c ⟨rfl,rfl⟩ next;rw[pB];have r:((i:Nat):Int)<((l.length:Nat):Int):=jO;obtain⟨b,f⟩:∃b,l.getD i false=b:=⟨_,rfl⟩;have u:=sj b;have p:=ig (l.take i)
  have s:num (l.take i) 0<2147483648:=Nat.lt_of_lt_of_le p (by
   have:2^(l.take i).length<=2^31:=p9 jD (by rw[cT];omega)
   exact this)
  have m:IntKind.u8.wrap (48+(bn b:Int)-48)=(bn b:Int):=by rw[show(48+(bn b:Int)-48)=(bn b:Int) by omega];exact w8 jO
  have k:IntKind.u32.wrap ((bn b:Nat):Int)=(bn b:Int):=fU jO
  have j:IntKind.u32.wrap (2*((num (l.take i) 0:Nat):Int))=((2*num (l.take i) 0:Nat):Int):=by rw[show(2*((num (l.take i) 0:Nat):Int))=((2*num (l.take i) 0:Nat):Int) by omega];exact fU jO
  have g:IntKind.u32.wrap (((2*num (l.take i) 0:Nat):Int)+(bn b:Int))=((2*num (l.take i) 0+bn b:Nat):Int):=by rw[show(((2*num (l.take i) 0:Nat):Int)+(bn b:Int))=((2*num (l.take i) 0+bn b:Nat):Int) by omega];exact fU jO
  refine jA (aI @cZ (aI @pL (aI @r (aI @f (aI @m (aI @k (aI @j @g))))))) ?_
  have e:num (l.take (i+1)) 0=2*num (l.take i) 0+bn b:=by
   rw[nv c,zW];have:l[i]=b:=by rw[<-f,bz,bB c];rfl
   rw[this]
  have:=next () h' n' ⟨rfl,rfl⟩;rw[e]at this;exact this
theorem akP(l:List Nat){i:Nat}(j:i<l.length)(o:l.length<=256):af (fun _=>False) n (aj aa gt Y (d+1) 167 #[aL l,jI (i:Int)]) h n fun c h' n'=>c=aL (db 0 l i)∧h'=h∧n'=n:=by
 rw[aB (fun _=>Jj) rfl];refine af.aA ?_;unfold CX;have b:((i:Nat):Int)+1=((i+1:Nat):Int):=rfl;have a:IntKind.i64.wrap (((i+1:Nat):Int))=((i+1:Nat):Int):=aH jO jO;have g:=fun(K:Value->M Value)=>LU l .i64 .i64 i K j;have f:=fun(K:Value->M Value)=>LR l .i64 i K jO;have e:=fun(K:Value->M Value)=>LS l .i64 (i+1) K jO;have m:=fun(K:Value->M Value)=>oF [l.getD i 0] (l.take i) (by simp;omega) K;have k:=fun(K:Value->M Value)=>oF ([l.getD i 0]++l.take i) (l.drop (i+1)) (by simp;omega) K;refine jA (aI @b @a) ?_;rw[g,f,m];refine jA (aI @b @a) ?_;rw[e,k];refine jB ?_
 first|exact⟨rfl,rfl,rfl⟩|rfl
end
theorem sM(l:List Nat)(c:∀x∈l,x<256)(a:IntKind)(i:Nat)(b:i<l.length)(k:Value->M Value):cU (aL l) (.int a (i:Int)) k=k (.int .u8 ((l.getD i 0:Nat):Int)):=by have:=vV k (l.map gU) a (i:Int) jO (by rw[fS];omega);unfold aL;rw[this,cV];congr 3;rw[bz,jd,bz,bB b];have:=c l[i] (dO _);show(gU l[i]).toNat=l[i];rw[UInt8.toNat_ofNat'];omega
theorem jZ(l:List Nat)(k:Value->M Value):bH (aL l) k=k (jI (l.length:Int)):=by have:=yv k (l.map gU);unfold aL;rw[this,fS]
section
variable {Y d n:Nat} {h:H}
theorem akQ{v:Value}(b:List Nat)(f:∀x∈b,x<4294967296)(P:b.length<=100000)(r:Row h n 31 .u32 v (iN b))(E:b.length<Y):af (fun _=>False) n (aj aa gt Y (d+2) 25 #[v]) h n fun z h' n'=>z= .int .u32 ((b.foldl fC 0:Nat):Int)∧h'=h∧n'=n:=by
 rw[aB (fun _=>QC) rfl];refine af.aA ?_;unfold Cr;have q:(iN b).length=b.length:=by unfold iN;rw[fS]
 have B:∀K:Value->M Value,bA v K=K (jI (b.length:Int)):=fun K=>by obtain⟨a,c,e⟩:=r.len;rw[e,q];rfl
 have J:∀i,(b.take i).foldl fC 0<4294967296:=fun i=>by
  have:∀(l:List Nat) (t:Nat),t<4294967296->(∀x∈l,x<4294967296)->l.foldl fC t<4294967296:=by
   intro l
   induction l with
   |nil=>intro t h _;exact h
   |cons x l C=>intro t h g;exact C _ (LM h (g x FH)) fun y D=>g y (vv _ D)
  exact this _ 0 jD fun x g=>f x (Fq g)
 refine jA @B ?_;refine dL b.length (fun p i (_:Unit)=>tS Y (aj aa gt Y (d+1)) p (Cq Y (aj aa gt Y (d+1))) v (.int .u32 0) (.int .u32 (((b.take i).foldl fC 0:Nat):Int)) v (jI (b.length:Int)) (jI (i:Nat))) (fun i _ h' n'=>h'=h∧n'=n) ?_ ?_ Y 0 () h n (aO _) jO ⟨rfl,rfl⟩
 ·rintro p _ h' n' ⟨rfl,rfl⟩;rw[tS];refine jA @eT ?_
  (try unfold Cq);(try dsimp only)
  refine jB ?_;rw[jf]
 ·rintro p i _ h' n' k ⟨rfl,rfl⟩ next;have s:((i:Nat):Int)<((b.length:Nat):Int):=jO;obtain⟨N,j,cap,o,O,ev,G,I,_,_,_,m⟩:=r.some jO;have u:=m i jO
  have L:(iN b).getD i 0=((b[i]:Nat):Int):=by unfold iN;rw[bz,jd,bB k];rfl
  rw[L]at u;rw[q]at ev
  have A:∀K:Value->M Value,bQ v (jI (i:Int)) K=K (jP N (j+i)):=fun K=>by rw[ev];exact jC @s
  rw[tS];refine jA (aI @s (aI @A (aI @G @u))) ?_;refine bq (akO (Y:=Y) (d:=d) (J i) (f _ (dO k))) (ah _) (fun _ _ h=>h.elim) ?_;refine jB ?_;have:=next () h' n' ⟨rfl,rfl⟩;rw[nv k,AW]at this;exact this
theorem akR(l:List Nat)(j:∀x∈l,x<256)(b:Nat)(s:l.length<=100000000)(o:l.length<Y):af (fun _=>False) n (aj aa gt Y (d+1) 172 #[aL l,jI (b:Int)]) h n fun m h' n'=>m= .bool (decide (b∈l))∧h'=h∧n'=n:=by
 rw[aB (fun _=>Ud) rfl];refine af.aA ?_;unfold CZ;refine dL l.length (fun f i (_:Unit)=>ur Y (aj aa gt Y d) f (yY Y (aj aa gt Y d)) (aL l) (jI (b:Int)) bF (jI (i:Nat))) (fun i _ h' n'=>b∉l.take i∧h'=h∧n'=n) ?_ ?_ Y 0 () h n (aO _) jO ⟨jS,rfl,rfl⟩
 ·rintro f _ h' n' ⟨a,rfl,rfl⟩;rw[jf]at a;rw[ur,jZ];refine jA @eT ?_
  (try unfold yY);(try dsimp only)
  refine jB ?_;rw[decide_eq_false a]
 ·rintro f i _ h' n' e ⟨a,rfl,rfl⟩ next;have r:((i:Nat):Int)<((l.length:Nat):Int):=jO;have nZ:=fun(K:Value->M Value)=>sM l j .i64 i e K;have p:l.getD i 0=l[i]:=by rw[bz,bB e];rfl
  have k:=j l[i] (dO _);have g:IntKind.i64.wrap ((l[i]:Nat):Int)=((l[i]:Nat):Int):=aH jO jO;rw[ur,jZ];refine jA @r ?_;rw[nZ,p];by_cases c:l[i]=b
  ·have z:(((l[i]:Nat):Int)==(b:Int))=true:=by rw[c];exact beq_iff_eq.2 rfl
   refine jA (aI @g @z) ?_
   (try unfold yY);(try dsimp only)
   refine jB ?_;rw[decide_eq_true (by rw[<-c];exact dO _)]
  ·have z:(((l[i]:Nat):Int)==(b:Int))=false:=beq_eq_false_iff_ne.2 jO;refine jA (aI @g @z) ?_;refine next () h' n' ⟨fun q=> ?_,rfl,rfl⟩;rw[nv e]at q;rcases List.mem_append.1 q with q|q
   ·exact a q
   ·exact c (List.mem_singleton.1 q).symm
theorem akS(l:List Nat)(r:∀x∈l,x<256)(q:l.length<=100000000)(g:l.length<Y)(m:300<=Y):af (fun _=>False) n (aj aa gt Y (d+2) 140 #[aL l]) h n fun p _ _=>p=aL ((gL 256).filter fun b=>decide (b∈l)):=by
 rw[aB (fun _=>S') rfl];refine af.aA ?_;unfold CO;refine dL 256 (fun k i (_:Unit)=>rP Y (aj aa gt Y (d+1)) k (CN Y (aj aa gt Y (d+1))) (aL l) (aL []) (aL ((gL i).filter fun b=>decide (b∈l))) (jI (i:Nat))) (fun i _ j a=>n<=a) ?_ ?_ Y 0 () h n (aO _) jO (ah _)
 ·rintro k _ j a f;have t:¬(((256:Nat):Int)<256):=jD;rw[rP];refine jA @t ?_
  (try unfold CN);(try dsimp only)
  exact jE
 ·rintro k i _ j a y f next;have s:((i:Nat):Int)<256:=jO;have v:((i:Nat):Int)+1=((i+1:Nat):Int):=rfl
  have e:(gL (i+1)).filter (fun b=>decide (b∈l))=(gL i).filter (fun b=>decide (b∈l))++(if i∈l then [i]else []):=by
   rw[FK,MJ];congr 1;by_cases c:i∈l
   ·rw[if_pos c,abj (by simpa using c)];rfl
   ·rw[if_neg c,abh (by simpa using c)];rfl
  have z:((gL i).filter fun b=>decide (b∈l)).length<=i:=by have:=xK (fun b=>decide (b∈l)) (gL i);rw[aa8]at this;exact this
  rw[rP];refine jA @s ?_;refine bq (akR (Y:=Y) (d:=d) l r i q g) f (fun _ _ h=>h.elim) ?_;by_cases c:i∈l
  ·rw[if_pos c]at e;rw[decide_eq_true c];have o:IntKind.u8.wrap ((i:Nat):Int)=((i:Nat):Int):=aa9 _ jO;refine jA @o ?_;refine tL trivial (ke _ _) _ ?_;refine uL (ws:=[i]) (get_eq _ _ _) (dI _) jS rfl _ ?_;have u:=fun(K:Value->M Value)=>oF ((gL i).filter fun b=>decide (b∈l)) [i] (by simp;omega) K;show af (fun _=>False) n (aq (aL ((gL i).filter fun b=>decide (b∈l))) (aL [i]) _) _ _ _;rw[u,<-e];refine jB ?_;exact next () _ _ jO
  ·rw[if_neg c,bV]at e;rw[decide_eq_false c];have:=next () j a f;rw[e]at this;refine jB ?_;exact this
end
theorem akT{s:List Nat}(h:Sy s):((gL 256).filter fun b=>decide (b∈s))=s:=
 Lo (abg _ List.pairwise_lt_range) h.inc fun x=>by rw[List.mem_filter,List.mem_range];exact⟨fun q=>by simpa using q.2,fun q=>⟨h.lt x q,by simpa using q⟩⟩
theorem ZD:∀(ps s:List Nat),(∀p∈ps,p<s.length)->(cr s ps).2.length=s.length
 |[],s,_=>rfl
 |p::ps,s,h=>by have b:=h p FH;have e:=Ai b;show(cr (db 0 s p) ps).2.length=_;rw[ZD ps _ fun q a=>by rw[e];exact h q (vv _ a),e]
section
variable {Y d n:Nat} {h:H}
theorem akU{s:List Nat}(a:Sy s)(g:s≠[])(c:300<=Y):af (fun _=>False) n (aj aa gt Y (d+3) 166 #[aL s]) h n fun e _ _=>e= .bool true:=by have m:=a.len;have l:1<=s.length:=List.length_pos_iff.2 g;have j:(0:Int)<((s.length:Nat):Int):=jO;rw[aB (fun _=>TS) rfl];refine af.aA ?_;unfold Ji;rw[jZ];refine jA @j ?_;refine aN aF (akS (Y:=Y) (d:=d) s a.lt jO jO c) (ah _) (fun _ _ h=>h.elim) fun k p o f i b=> ?_;subst b;rw[akT a];unfold aL;exact jE
theorem akV{s:List Nat}(I:Sy s)(h0:s≠[]){v:Value}(ps:List Nat)(g:∀p∈ps,p<s.length)(hl:ps.length<=100000000)(hR:Row h n 3 .i64 v (iN ps))(Z:300+ps.length<Y):af (fun _=>False) n (aj aa gt Y (d+4) 133 #[v,aL s]) h n fun P _ _=>P= .tuple #[aL (cr s ps).1,jI 0]:=by
 have sl:=I.len;rw[aB (fun _=>afb) rfl];refine af.aA ?_;unfold IU;refine aN aF (akU (Y:=Y) (d:=d) I h0 jO) (ah _) (fun _ _ h=>h.elim) fun v1 J D k B x=> ?_;subst x;have l:=hR.au k fun b hb=>B b hb id;have G:(iN ps).length=ps.length:=by unfold iN;rw[fS]
 have U:∀K:Value->M Value,bA v K=K (jI (ps.length:Int)):=fun K=>by obtain⟨a,c,e⟩:=l.len;rw[e,G];rfl
 refine jA @U ?_;refine dL ps.length (fun A i (_:Unit)=>uf Y (aj aa gt Y (d+3)) A (CI Y (aj aa gt Y (d+3))) v (aL s) (aL []) (jI 0) (aL (cr s (ps.take i)).1) (aL (cr s (ps.take i)).2) (.bool false) v (jI (ps.length:Int)) (jI (i:Nat))) (fun i _ r m=>r=J∧m=D) ?_ ?_ Y 0 () J D (aO _) jO ⟨rfl,rfl⟩
 ·rintro A _ r m ⟨rfl,rfl⟩;rw[uf];refine jA @eT ?_;unfold CI;refine jB ?_;rw[jf]
 ·rintro A i _ r m y ⟨rfl,rfl⟩ next;have L:((i:Nat):Int)<((ps.length:Nat):Int):=jO;have w1:((i:Nat):Int)+1=((i+1:Nat):Int):=rfl;obtain⟨bb,t,cap,o,ks,ev,hg,u0,_,_,_,z⟩:=l.some jO;have C:=z i jO
  have e0:(iN ps).getD i 0=((ps[i]:Nat):Int):=by unfold iN;rw[bz,jd,bB y];rfl
  rw[e0]at C;rw[G]at ev
  have T:∀K:Value->M Value,bQ v (jI (i:Int)) K=K (jP bb (t+i)):=fun K=>by rw[ev];exact jC @L
  have X:=g ps[i] (dO y);have R:=ZD (ps.take i) s fun q W=>g q (Fq W);have E:=EF (ps.take i) s;rw[cT]at E;obtain⟨p,j⟩:∃p,ps[i]=p:=⟨_,rfl⟩
  have u:cr s (ps.take (i+1))=((cr s (ps.take i)).1++[(cr s (ps.take i)).2.getD p 0],db 0 (cr s (ps.take i)).2 p):=by rw[nv y,Lm,j];rfl
  have nx:=next () r m ⟨rfl,rfl⟩;rw[u]at nx;rw[j]at C X;generalize (cr s (ps.take i)).1=out at E nx⊢;generalize (cr s (ps.take i)).2=f at R nx⊢;have c2:¬((p:Nat):Int)<0:=jO;have c3:¬((f.length:Nat):Int)<=((p:Nat):Int):=jO;have O:((p:Nat):Int)+1=((p+1:Nat):Int):=rfl;have N:IntKind.i64.wrap ((p+1:Nat):Int)=((p+1:Nat):Int):=aH jO jO;have Q:=fun(K:Value->M Value)=>LU f .i64 .i64 p K jO;have ad:=fun(K:Value->M Value)=>oF out [f.getD p 0] (by simp;omega) K;rw[uf];refine jA (aI @L (aI @T (aI @hg (aI @C @c2)))) ?_;rw[jZ];refine jA (aI @c3 (aI @O @N)) ?_;rw[Q,ad];refine bq (akP (Y:=Y) (d:=d+2) f (i:=p) jO jO) k (fun _ _ h=>h.elim) ?_;refine jB ?_;exact nx
end
def pT(B:List Bool)(i:Nat):List Nat:=(List.range' i (16-i)).filter fun j=>B.getD j false
theorem akW(B:List Bool){i:Nat}(h:i<16):pT B i=(if B.getD i false=true then [i]else [])++pT B (i+1):=by
 unfold pT;obtain⟨m,b⟩:∃m,16-i=m+1:=⟨16-i-1,jO⟩;have a:16-(i+1)=m:=jO;rw[b,a,List.range'_succ];by_cases c:B.getD i false=true
 ·rw[abj (p:=fun j=>B.getD j false) c,if_pos c];rfl
 ·rw[abh (p:=fun j=>B.getD j false) c,if_neg c];rfl
theorem akX(B:List Bool):pT B 16=[]:=rfl
theorem ZE(B:List Bool):pT B 0=ik B:=by unfold pT ik;rw[List.range_eq_range']
def qM(row:List Bool)(k:Nat):List Nat:=(gL k).filter fun j=>row.getD j false
def akY(r:St (List Nat))(a:Value):Prop:=match r with
 | .short=>a= .agg #[aL [],.int .i64 0,.int .i64 3]
 | .bad e=>a= .agg #[aL [],.int .i64 0,.int .i64 e]
 | .ok s u=>a= .agg #[aL s,.int .i64 (u:Int),.int .i64 0]
section
variable {Y d:Nat}
theorem akZ {n0:Nat} {bs:List Bool} (J:bs.length<=1000000) {cn i:Nat} (U:i<16) (x:cn+16<=bs.length) {out:List Nat} (R:out.length<=1000) {K:Value->Value->Value->Value->Value->Value->M Value} {b f g h2 u t:Value} {n:Nat} {h:H} {Q:Value->H->Nat->Prop} (G:100<=Y) (T:n0<=n)
 (y:∀h' n',n<=n'->(∀c,c<n->h'.get c=h.get c)->af (fun _=>False) n0 (K (tx bs) b (jI (cn:Int)) (aL (out++(ik ((bs.drop cn).take 16)).map fun k=>16*i+k)) f g) h' n' Q):
 af (fun _=>False) n0 (qB Y ((aj aa gt Y d)) Y K (tx bs) b (jI (cn:Int)) (aL out) (jI (i:Int)) f g h2 u t (jI 0)) h n Q:=by
 have E:ik ((bs.drop cn).take 16)=qM ((bs.drop cn).take 16) 16:=rfl;refine dL 16 (fun o k (_:Unit)=>qB Y ((aj aa gt Y d)) o K (tx bs) b (jI (cn:Int)) (aL (out++(qM ((bs.drop cn).take 16) k).map fun k=>16*i+k)) (jI (i:Int)) f g h2 u t (jI (k:Nat))) (fun k _ h' n'=>n<=n'∧∀c,c<n->h'.get c=h.get c) ?_ ?_ Y 0 () h n (aO _) jO ⟨ah _,fun _ _=>rfl⟩|>fun z=>by simpa[qM]using z
 ·rintro o _ h' n' ⟨a,l⟩;have L:¬(((16:Nat):Int)<16):=jD;rw[qB];refine jA @L ?_;rw[<-E];exact y h' n' a l
 ·rintro o k _ h' n' I ⟨a,l⟩ next;have A:((k:Nat):Int)<16:=jO;have O:((k:Nat):Int)+1=((k+1:Nat):Int):=rfl;have r:((cn:Nat):Int)+((k:Nat):Int)=((cn+k:Nat):Int):=rfl;have p:IntKind.i64.wrap ((cn+k:Nat):Int)=((cn+k:Nat):Int):=aH jO jO;obtain⟨q,v⟩:∃q,bs.getD (cn+k) false=q:=⟨_,rfl⟩
  have e:((bs.drop cn).take 16).getD k false=q:=by rw[<-v,bz,aoP I,List.getElem?_drop,bz]
  have m:=fun(K:Value->M Value)=>pL bs .i64 ((cn+k:Nat):Int) jO jO K;rw[cV,v]at m
  have s:qM ((bs.drop cn).take 16) (k+1)=qM ((bs.drop cn).take 16) k++(if q=true then [k]else []):=by
   unfold qM;rw[FK,MJ];congr 1;by_cases c:q=true
   ·rw[if_pos c,abj (by rw[e];exact c)];rfl
   ·rw[if_neg c,abh (by rw[e];exact c)];rfl
  have P:(qM ((bs.drop cn).take 16) k).length<=k:=by have:=xK (fun j=>((bs.drop cn).take 16).getD j false) (gL k);rw[aa8]at this;exact this
  rw[qB];cases q with
  |true=>
   have z:((48+((bn true:Nat):Int))==49)=true:=rfl;have D:IntKind.i64.wrap (16*((i:Nat):Int))=((16*i:Nat):Int):=by rw[aH jO jO];rfl
   have C:IntKind.i64.wrap (((16*i:Nat):Int)+((k:Nat):Int))=((16*i+k:Nat):Int):=by rw[aH jO jO];rfl
   have B:IntKind.u8.wrap ((16*i+k:Nat):Int)=((16*i+k:Nat):Int):=aa9 _ jO;refine jA (aI @A (aI @r (aI @p (aI @m (aI @z (aI @D (aI @C @B))))))) ?_;refine tL trivial (ke _ _) _ ?_;refine uL (ws:=[16*i+k]) (get_eq _ _ _) (dI _) jS rfl _ ?_;have N:=fun(K:Value->M Value)=>oF (out++(qM ((bs.drop cn).take 16) k).map fun k=>16*i+k) [16*i+k] (by simp;omega) K;show af (fun _=>False) n0 (aq (aL (out++(qM ((bs.drop cn).take 16) k).map fun k=>16*i+k)) (aL [16*i+k]) _) _ _ _;rw[N];refine jB ?_;have nx:=next () (h'.set n' (some ⟨5,true,[.int .u8 ((16*i+k:Nat):Int)]⟩)) (n'+1) ⟨jO,fun c x=>by rw[aw _ _ jO];exact l c x⟩;rw[s,if_pos rfl,qa,<-ey]at nx;exact nx
  |false=>have z:((48+((bn false:Nat):Int))==49)=false:=rfl;refine jA (aI @A (aI @r (aI @p (aI @m @z)))) ?_;have nx:=next () h' n' ⟨a,l⟩;rw[s,if_neg jD,bV]at nx;exact nx
end
theorem EW{n0 n a:Nat}{h:H}{t:TypeId}{cs vs:List Value}(d:vs.length=3)(h1:vs.all one=true)(g:cs.length=3)(i:h.get a=some ⟨t,true,cs⟩)(e:a<n)(c:n0<=a):af (fun _=>False) n0 (aQ 3 (jP a 0) (.agg vs.toArray) fun _=>bc 3 (jP a 0) fun b=>ag [b]) h n fun f _ _=>f= .agg vs.toArray:=by refine cA trivial d g h1 i e (.inl c) _ fun l j k=> ?_;exact eD trivial trivial j d e rfl
section
variable {Y d n:Nat} {h:H}
theorem ak0{bs:List Bool}(A:bs.length<=1000000)(y:100<=Y):af (fun _=>False) n (aj aa gt Y (d+1) 128 #[tx bs]) h n fun J _ _=>akY (fA bs) J:=by
 rw[aB (fun _=>ae2) rfl];refine af.aA ?_;unfold IK;refine dX rfl _ ?_;have B:(h.set n (some ⟨185,true,nU⟩)).get n=some ⟨185,true,nU⟩:=get_eq _ _ _;generalize h.set n (some ⟨185,true,nU⟩)=X at B⊢;unfold fA;by_cases j:bs.length<16
 ·have c:((bs.length:Nat):Int)<16:=jO;rw[if_pos j];refine jA (aI @cZ @c) ?_;exact EW (vs:=[aL [],jI 0,jI 3]) rfl rfl rfl B (dI n) (ah n)
 have c:¬((bs.length:Nat):Int)<16:=jO;rw[if_neg j];refine jA (aI @cZ @c) ?_
 have U:∀i,i<16->(bs.take 16).getD i false=bs.getD i false:=fun i g=>by rw[bz,aoP g,bz]
 rw[<-ZE (bs.take 16)];obtain⟨R,G⟩:∃R,hO (pT (bs.take 16) 0) (bs.drop 16) [] 16=R:=⟨_,rfl⟩;rw[G];have L:UI (pT (bs.take 16) 0) []:=by rw[ZE];exact UI.zero _
 refine dL 16 (fun C i (s:Nat×List Nat)=>rN Y (aj aa gt Y d) C (yK Y (aj aa gt Y d)) (tx bs) (jP n 0) (jI (s.1:Int)) (aL s.2) (.bool false) (jI (i:Nat))) (fun i s o m=>n<m∧o.get n=some ⟨185,true,nU⟩∧s.1<=bs.length∧UI (pT (bs.take 16) i) s.2∧hO (pT (bs.take 16) i) (bs.drop s.1) s.2 s.1=R) ?_ ?_ Y 0 (16,[]) X (n+1) (aO _) jO ⟨dI n,B,jO,L,G⟩
 ·rintro C ⟨cn,out⟩ o m ⟨q1,q2,l,e,a⟩;have Z:¬(((16:Nat):Int)<16):=jD;rw[akX]at a;have a:St.ok out cn=R:=a;subst a;rw[rN];refine jA @Z ?_;unfold yK;cases out with
  |nil=>have v:∀K:Value->M Value,cH (aL []) (.string ⟨#[]⟩) K=K (.bool true):=fun K=>rfl;refine jA @v ?_;exact EW (vs:=[aL [],jI 0,jI 25]) rfl rfl rfl q2 q1 (ah n)
  |cons x out=>
   have v:∀K:Value->M Value,cH (aL (x::out)) (.string ⟨#[]⟩) K=K (.bool false):=fun K=>by unfold aL;refine jB ?_;rw[decide_eq_false jS]
   refine jA @v ?_;have T:fN [aM ⟨#[]⟩,ii 0,ii 0] [(0,1,aL (x::out)),(1,1,eJ IntKind.i64 ((cn:Nat):Int))]=some [aL (x::out),jI ((cn:Nat):Int),jI 0]:=rfl;rw[T];exact EW (vs:=[aL (x::out),jI (cn:Int),jI 0]) rfl rfl rfl q2 q1 (ah n)
 ·rintro C i ⟨cn,out⟩ o m g ⟨q1,q2,l,e,a⟩ next;have l:cn<=bs.length:=l;have E:((i:Nat):Int)<16:=jO;have I:((i:Nat):Int)+1=((i+1:Nat):Int):=rfl;have f:=fun(K:Value->M Value)=>pL bs .i64 ((i:Nat):Int) jO jO K;rw[cV,<-U i g]at f;have b:=akW (bs.take 16) g;have ol:out.length<=256:=e.sy.len;rw[rN];obtain⟨q,P⟩:∃q,(bs.take 16).getD i false=q:=⟨_,rfl⟩;rw[P]at f b;cases q with
  |false=>rw[if_neg jD,lk]at b;have z:((48+((bn false:Nat):Int)) !=49)=true:=rfl;refine jA (aI @E (aI @f @z)) ?_;exact next (cn,out) o m ⟨q1,q2,l,by rw[<-b];exact e,by rw[<-b];exact a⟩
  |true=>
   rw[if_pos rfl,FL]at b;have z:((48+((bn true:Nat):Int)) !=49)=false:=rfl;have u:IntKind.i64.wrap (((cn:Nat):Int)+16)=((cn+16:Nat):Int):=by rw[aH jO jO];rfl
   have t:((cn:Nat):Int)+16=((cn+16:Nat):Int):=rfl;have r:IntKind.i64.wrap ((cn+16:Nat):Int)=((cn+16:Nat):Int):=aH jO jO;rw[b]at a e;unfold hO at a;by_cases p:(bs.drop cn).length<16
   ·rw[if_pos p]at a;subst a;rw[bE]at p;have D:((bs.length:Nat):Int)<((cn+16:Nat):Int):=jO;refine jA (aI @E (aI @f (aI @z (aI @cZ (aI @u (aI @t (aI @r @D))))))) ?_;unfold yK;exact EW (vs:=[aL [],jI 0,jI 3]) rfl rfl rfl q2 q1 (ah n)
   ·rw[if_neg p]at a;rw[bE]at p;have D:¬((bs.length:Nat):Int)<((cn+16:Nat):Int):=jO;refine jA (aI @E (aI @f (aI @z (aI @cZ (aI @u (aI @t (aI @r @D))))))) ?_;refine akZ (d:=d) A g jO jO y jO fun W N Q O=> ?_;unfold IJ;refine jA (aI @u (aI @t (aI @r @I))) ?_;exact next (cn+16,out++(ik ((bs.drop cn).take 16)).map fun k=>16*i+k) W N ⟨jO,(O n q1).trans q2,by show cn+16<=_;omega,e.next _,by rw[<-a,jm]⟩
end
def fW(cs:List Nat):Nat×Nat:=cs.foldl (fun q c=>(q.1+q.2+c*q.2,2*q.2)) (0,1)
theorem EX(cs:List Nat)(c:Nat):fW (cs++[c])=((fW cs).1+(fW cs).2+c*(fW cs).2,2*(fW cs).2):=by unfold fW;rw[AW];rfl
theorem LV:∀(k:Nat) (cs:List Nat),cs.length=k->(fW cs).2=2^k
 |0,cs,h=>by rw[List.length_eq_zero_iff.1 h];rfl
 |k+1,cs,h=>by
  have a:cs≠[]:=fun e=>by rw[e]at h;cases h
  have e:=aoQ a;rw[<-e,EX];show 2*(fW cs.dropLast).2=_;rw[LV k cs.dropLast (by rw[aoR];omega),mL,Nat.mul_comm]
theorem ak1(cs:List Nat)(h:∀c∈cs,c<=1):(fW cs).1<=2*(fW cs).2:=by
 have:∀(k:Nat) (cs:List Nat),cs.length=k->(∀c∈cs,c<=1)->(fW cs).1<=2*(fW cs).2:=by
  intro k
  induction k with
  |zero=>intro cs h _;rw[List.length_eq_zero_iff.1 h];decide
  |succ k f=>
   intro cs h d;have a:cs≠[]:=fun e=>by rw[e]at h;cases h
   have e:=aoQ a;have g:=d (cs.getLast a) (List.getLast_mem a);have:=f cs.dropLast (by rw[aoR];omega) fun c b=>d c ((List.dropLast_sublist cs).subset b);rw[<-e,EX];show(fW cs.dropLast).1+(fW cs.dropLast).2+cs.getLast a*(fW cs.dropLast).2<=2*(2*(fW cs.dropLast).2);have i:cs.getLast a*(fW cs.dropLast).2<=1*(fW cs.dropLast).2:=qT _ g;omega
 exact this _ cs rfl h
section
variable {Y d n:Nat} {h:H}
theorem ZF{v:Value}(cs:List Nat)(t:∀c∈cs,c<=1)(T:cs.length<=41)(u:Row h n 3 .i64 v (iN cs))(I:100<=Y):af (fun _=>False) n (aj aa gt Y (d+1) 201 #[v]) h n fun C h' n'=>C=jI ((fW cs).1:Int)∧h'=h∧n'=n:=by
 rw[aB (fun _=>agy) rfl];refine af.aA ?_;unfold JE;have r:(iN cs).length=cs.length:=by unfold iN;rw[fS]
 have E:∀K:Value->M Value,bA v K=K (jI (cs.length:Int)):=fun K=>by obtain⟨a,c,e⟩:=u.len;rw[e,r];rfl
 refine jA @E ?_;refine dL cs.length (fun l i (_:Unit)=>uA Y (aj aa gt Y d) l (Dk Y (aj aa gt Y d)) v (jI 0) (jI ((fW (cs.take i)).1:Int)) (jI ((fW (cs.take i)).2:Int)) v (jI (cs.length:Int)) (jI (i:Nat))) (fun i _ h' n'=>h'=h∧n'=n) ?_ ?_ Y 0 () h n (aO _) jO ⟨rfl,rfl⟩
 ·rintro l _ h' n' ⟨rfl,rfl⟩;rw[uA];refine jA @eT ?_;unfold Dk;refine jB ?_;rw[jf]
 ·rintro l i _ h' n' j ⟨rfl,rfl⟩ next;have x:((i:Nat):Int)<((cs.length:Nat):Int):=jO;have Q:((i:Nat):Int)+1=((i+1:Nat):Int):=rfl;obtain⟨P,f,cap,o,R,ev,J,L,_,_,_,k⟩:=u.some jO;have p:=k i jO
  have N:(iN cs).getD i 0=((cs[i]:Nat):Int):=by unfold iN;rw[bz,jd,bB j];rfl
  rw[N]at p;rw[r]at ev
  have D:∀K:Value->M Value,bQ v (jI (i:Int)) K=K (jP P (f+i)):=fun K=>by rw[ev];exact jC @x
  have G:=LV i (cs.take i) (by rw[cT];omega);have s:=ak1 (cs.take i) fun c q=>t c (Fq q)
  have g:(fW (cs.take i)).2<=2199023255552:=by rw[G];exact p9 (n:=2) jD (by omega:i<=41)
  have b:=t cs[i] (dO j);have nx:=next () h' n' ⟨rfl,rfl⟩;rw[nv j,EX]at nx;generalize (fW (cs.take i)).1=m at s nx⊢;generalize (fW (cs.take i)).2=w at g s nx⊢;generalize cs[i]=c at b nx p;have U:c*w<=1*w:=qT _ b;have O:¬(2199023255552:Int)<((w:Nat):Int):=jO;have B:IntKind.i64.wrap (((m:Nat):Int)+((w:Nat):Int))=((m+w:Nat):Int):=by rw[aH jO jO];rfl
  have A:IntKind.i64.wrap (((c:Nat):Int)*((w:Nat):Int))=((c*w:Nat):Int):=by rw[show((c:Nat):Int)*((w:Nat):Int)=((c*w:Nat):Int)from(Int.natCast_mul c w).symm,aH jO jO]
  have z:IntKind.i64.wrap (((m+w:Nat):Int)+((c*w:Nat):Int))=((m+w+c*w:Nat):Int):=by rw[aH jO jO];rfl
  have y:IntKind.i64.wrap (2*((w:Nat):Int))=((2*w:Nat):Int):=by rw[aH jO jO];rfl
  rw[uA];refine jA (aI @x (aI @D (aI @J (aI @p (aI @O (aI @B (aI @A (aI @z @y)))))))) ?_;exact nx
end
structure lL (h:H) (n:Nat) (z:Zr) (rv:Value) (cs:List Nat):Prop where
 row:Row h n 3 .i64 rv (iN cs)
 one:∀c∈cs,c<=1
 len:cs.length<=40
 eq:fW cs=(z.aR,z.weight)
def fq(z:Zr)(a:Value):List Value:=[jI (z.n:Int),jI (z.most:Int),jI (z.told:Int),a,.bool z.done]
theorem lL.au{h h':H}{n n':Nat}{z:Zr}{a:Value}{cs:List Nat}(x:lL h n z a cs)(c:n<=n')(d:∀b,b<n->h'.get b=h.get b):lL h' n' z a cs:=⟨x.row.au c d,x.one,x.len,x.eq⟩
section
variable {Y d n:Nat} {h:H}
theorem ak2{z:Zr}{c:Value}{cs:List Nat}(x:lL h n z c cs)(s:z.told+z.aR<=4000000000000000)(g:100<=Y):af (fun _=>False) n (aj aa gt Y (d+2) 200 #[.agg (fq z c).toArray]) h n fun m _ _=>m=jI ((z.told+z.aR:Nat):Int):=by
 have q:(fW cs).1=z.aR:=by rw[x.eq]
 rw[aB (fun _=>agw) rfl];refine af.aA ?_;unfold Vb;refine gD trivial _ _ ?_;obtain⟨e,a⟩:∃e,h.set n (some ⟨233,true,(mM (fq z c).toArray).cells.toList⟩)=e:=⟨_,rfl⟩;have k:e.get n=some ⟨233,true,fq z c⟩:=by rw[<-a,get_eq];rfl
 have f:lL e (n+1) z c cs:=x.au (eL n) fun b t=>by rw[<-a,aw _ _ jO]
 rw[a];have j:n<n+1:=dI n;refine jB ?_;refine kp trivial n 2 _ k j rfl fun y p=> ?_;refine jB ?_;refine kp trivial n 3 _ k j rfl fun v r=> ?_;refine jB ?_;have i:=ZF (Y:=Y) (d:=d) cs f.one (by have:=f.len;omega) f.row g;rw[q]at i;refine kq aF i jO fun u o=> ?_;have l:IntKind.i64.wrap (((z.told:Nat):Int)+((z.aR:Nat):Int))=((z.told+z.aR:Nat):Int):=by rw[aH jO jO];rfl
 try simp(disch:=first|omega|assumption) only[Nat.reduceAdd,Nat.reduceLT,RZ,l,p.cy o,cf,dG]
end
def mG(z:Zr)(a:Value)(m p e:Int):List Value:=fq z a++[jI m,jI p,jI e]
def qN(n:Nat)(z:Zr)(h:Value)(cs:List Nat)(c:Nat)(g:Value)(h':H)(n':Nat):Prop:=match c6 z c with
 |none=>∃e:Int,(e=25∨e=2)∧g= .agg (mG z h 0 0 e).toArray
 |some (f,m,p)=>∃a d,lL h' n' f a d∧(∀b,aK a b->n<=b)∧g= .agg (mG f a (m:Int) (if p=0 then-1 else(p:Int)) 0).toArray
theorem qO{z:Zr}{a:Value}(h:Ev.one a=true)(m p e:Int):(mG z a m p e).all Ev.one=true:=by unfold mG fq;simp only[List.cons_append,lk,Mx,MS,h];rfl
theorem lL.short{h:H}{n:Nat}{z:Zr}{c:Value}{cs:List Nat}(x:lL h n z c cs)(b:z.Ok)(d:z.most<=1000000):cs.length<=20:=by
 have a:=LV cs.length cs rfl;rw[x.eq]at a;have a:z.weight=2^cs.length:=a;have:=b.w2;have:=b.all;rcases Nat.lt_or_ge 20 cs.length with q|q
 ·have:2^21<=2^cs.length:=p9 jD q;have e:(2:Nat)^21=2097152:=rfl;omega
 ·exact q
section
variable {Y d n:Nat} {h:H}
theorem xr{n0 n a:Nat}{h:H}{t:TypeId}{cs vs:List Value}{Q:Value->H->Nat->Prop}(e:vs.length=8)(h1:vs.all Ev.one=true)(i:cs.length=8)(j:h.get a=some ⟨t,true,cs⟩)(f:a<n)(d:n0<=a)(y:∀h',(∀c,c≠a->h'.get c=h.get c)->Q (.agg vs.toArray) h' n):af (fun _=>False) n0 (aQ 8 (jP a 0) (.agg vs.toArray) fun _=>bc 8 (jP a 0) fun b=>ag [b]) h n Q:=by refine cA trivial e i h1 j f (.inl d) _ fun h' k g=> ?_;exact eD trivial trivial k e f (y h' g)
theorem ZG{z:Zr}{f:Value}{cs:List Nat}(x:lL h n z f cs)(E:z.Ok)(hm:z.most<=1000000)(c:Nat)(hc:c<=1000)(u3:100<=Y):af (fun _=>False) n (aj aa gt Y (d+3) 165 #[.agg (fq z f).toArray,jI (c:Int)]) h n (qN n z f cs c):=by
 have hn:=E.hi;have w2:=E.all;have w5:=x.short E hm
 have j:Ev.one f=true:=by obtain⟨a,b,e⟩:=x.row.len;rw[e];rfl
 rw[aB (fun _=>afZ) rfl];refine af.aA ?_;unfold TR;refine gD trivial _ _ ?_;refine dX rfl _ ?_;obtain⟨U,s⟩:∃U,(h.set n (some ⟨233,true,(mM (fq z f).toArray).cells.toList⟩)).set (n+1) (some ⟨235,true,kg⟩)=U:=⟨_,rfl⟩;have g2:U.get n=some ⟨233,true,fq z f⟩:=by rw[<-s,aw _ _ jO,get_eq];rfl
 have gd:U.get (n+1)=some ⟨235,true,kg⟩:=by rw[<-s,get_eq]
 have x2:lL U (n+1+1) z f cs:=x.au jO fun b o=>by rw[<-s,aw _ _ jO,aw _ _ jO]
 rw[s];clear s;have l0:n<n+1+1:=jO;have l1:n+1<n+1+1:=jO;have g3:U.get n=some ⟨233,true,[jI (z.n:Int),jI (z.most:Int),jI (z.told:Int),f,.bool false]⟩:=by rw[g2];unfold fq;rw[E.nd]
 have c0:¬((c:Nat):Int)<0:=jO;have w1:IntKind.i64.wrap (((z.n:Nat):Int)+1)=((z.n+1:Nat):Int):=by rw[aH jO jO];rfl
 by_cases ca:z.n+1<c
 ·have c1:((z.n+1:Nat):Int)<((c:Nat):Int):=jO;have m:c6 z c=none:=by unfold c6;rw[if_pos ca]
  have W:((z.n:Nat):Int)+1=((z.n+1:Nat):Int):=rfl;refine jA (aI @g3 (aI @c0 (aI @w1 (aI @W @c1)))) ?_;refine gE trivial trivial n 0 _ g2 l0 (show 0+5<=5 by omega) ?_;refine xr (vs:=mG z f 0 0 25) rfl (qO j _ _ _) rfl gd l1 jO fun p _=> ?_;unfold qN;rw[m];exact⟨25,.inl rfl,rfl⟩
 have c1:¬((z.n+1:Nat):Int)<((c:Nat):Int):=jO;have W:((z.n:Nat):Int)+1=((z.n+1:Nat):Int):=rfl;refine jA (aI @g3 (aI @c0 (aI @w1 (aI @W @c1)))) ?_;refine gE trivial trivial n 0 _ g2 l0 (show 0+5<=5 by omega) ?_;refine dX rfl _ ?_;refine nT (sz:=5) (off:=0) (e:=233) (cs:=z233) trivial (vs:=fq z f) rfl rfl (by unfold fq;simp only[Mx,MS,j];rfl) (get_eq _ _ _) jO jD (.inl jO) _ fun J g4 k4=> ?_;have u:∀b,b<n+1+1->J.get b=U.get b:=fun b o=>by rw[k4 b jO,aw _ _ jO]
 have A:=(u (n+1) l1).trans gd;have v0:=(u n l0).trans g2;have t:=(u n l0).trans g3;have x4:lL J (n+1+1+1) z f cs:=x2.au jO u;have w0:J.get (n+1+1)=some ⟨233,true,fq z f⟩:=g4;clear g4 k4 g2 g3 gd x2;have l2:n+1+1<n+1+1+1:=jO;have v3:n<n+1+1+1:=jO;have R:n+1<n+1+1+1:=jO;have C:J.get (n+1+1)=some ⟨233,true,[jI (z.n:Int),jI (z.most:Int),jI (z.told:Int),f,.bool false]⟩:=by rw[w0];unfold fq;rw[E.nd]
 have y:n<=n+1+1:=jO;have P:n+1≠n+1+1:=jO;have v2:n≠n+1+1:=jO;have I:∀(p:H) (Q:Nat) (z':Zr),z'.aR=0->z'.weight=1->lL p Q z' nS []:=fun p Q z' e1 e2=>⟨(Own.nil p 0 Q 3).row (k:= .i64) (xs:=[]),fun c hc=>(by cases hc),jD,by rw[e1,e2];rfl⟩;by_cases Z:c<=1
 ·have c2:((c:Nat):Int)<2:=jO;refine jA (aI @c2 @t) ?_;refine adV trivial (Own.nil J n (n+1+1+1) 3) x4.row (by rw[show(iN cs).length=cs.length by unfold iN;rw[fS]];show 0+_<=_;omega) (ah n) jO _ fun v5 h5 l w6 o5 i5 k5=> ?_;rw[lk]at o5;have u1:∀b,b<n+1+1+1->h5.get b=J.get b:=fun b o=>k5 b o oh;have il:(aV .i64 (iN cs)).length=cs.length:=by rw[eu];unfold iN;rw[fS]
  refine rL trivial rfl o5 (by rw[il];omega) (ah n) _ fun h6 u5 k6=> ?_;rw[il]
  have T:∀b,b<n+1+1+1->h6.get b=J.get b:=fun b o=>(k6 b jO fun q=>by
   rcases i5 b q with q|q
   ·exact oh q
   ·omega).trans (u1 b o)
  obtain⟨g,v⟩:∃g:Zr,g={z with aR:=z.aR+z.weight*2^c,weight:=2*z.weight}:=⟨_,rfl⟩
  have cw:(fW (cs++[c]))=(g.aR,g.weight):=by
   rw[EX,x.eq,v];have:c=0∨c=1:=jO;rcases this with rfl|rfl
   ·simp
   ·simp;omega
  have xg:∀(p:H) (Q:Nat),p.get (l+1)=h6.get (l+1)->l+1<Q->n<=l+1->lL p Q g (.slice (some ⟨l+1,0,none⟩) (cs.length+1) (bo+(cs.length+1))) (cs++[c]):=fun p Q e1 e2 e3=>by
   refine⟨Own.row (lo:=n) (.inr ⟨l+1, ?_, ?_,jO,jO⟩),fun q hq=> ?_,by rw[bG];show cs.length+1<=40;omega,cw⟩
   ·rw[show(aV .i64 (iN (cs++[c]))).length=cs.length+1 by rw[eu];unfold iN;rw[fS,bG];rfl]
   ·rw[e1,u5];unfold iN aV;simp
   ·rcases List.mem_append.1 hq with q2|q2
    ·exact x.one q q2
    ·rw[List.mem_singleton.1 q2];exact Z
  have u7:=(T (n+1+1) l2).trans C;have u0:n+1+1<l+2:=jO;refine jA (aI @u7 @y) ?_;generalize u2:(j3 (some ⟨l+1,0,none⟩) (cs.length+1) (bo+(cs.length+1)))=i at xg⊢;have o6:Ev.one i=true:=by rw[<-u2];rfl
  obtain⟨X,r⟩:∃X,h6.set (n+1+1) (some ⟨233,true,[jI (z.n:Int),jI (z.most:Int),jI (z.told:Int),i,.bool false]⟩)=X:=⟨_,rfl⟩
  have ec:[jI (z.n:Int),jI (z.most:Int),jI (z.told:Int),i,.bool false]=fq g i:=by rw[v];unfold fq;rw[E.nd]
  have g7:X.get (n+1+1)=some ⟨233,true,fq g i⟩:=by rw[<-r,get_eq,ec]
  have k7:∀b,b<n+1+1->X.get b=J.get b:=fun b o=>by rw[<-r,aw _ _ jO];exact T b jO
  have v1:X.get (l+1)=h6.get (l+1):=by rw[<-r,aw _ _ jO]
  have x7:=xg X (l+2) v1 jO jO;rw[r];clear r u5 k6 T u7 u1 k5 i5 o5 x4;have zz:g.told=z.told∧g.aR=z.aR+z.weight*2^c:=by rw[v];exact⟨rfl,rfl⟩
  have w3:=E.w2
  have v7:2^c<=2:=by have:c=0∨c=1:=jO;rcases this with rfl|rfl<;>decide
  have w4:z.weight*2^c<=z.weight*2:=Nat.mul_le_mul_left _ v7;refine ahC trivial trivial (n+1+1) 0 _ g7 u0 (show 0+5<=5 by omega) fun T1 _=> ?_;refine Zx aF (ak2 (Y:=Y) (d:=d) x7 jO u3) ?_;rintro v8 h8 n8 L8 v6 D rfl r8;have u9:h8.get n=some ⟨233,true,fq z f⟩:=((D n jO).trans (k7 n jO)).trans v0;have u6:=((D (n+1) jO).trans (k7 (n+1) jO)).trans A;have v9:=(D (n+1+1) u0).trans g7;refine jB ?_;refine gF trivial n 1 _ u9 (show n<l+2 by omega) v6 rfl fun T9 t9=> ?_;by_cases ce:z.most<z.told+z.aR+z.weight*2^c
  ·have G:((z.most:Nat):Int)<((g.told+g.aR:Nat):Int):=jO
   have m:c6 z c=none:=by unfold c6;rw[if_neg ca,if_pos Z,if_pos ce]
   try simp(disch:=first|omega|assumption) only[Nat.reduceAdd,Nat.reduceLT,RZ,G,r8.cy t9,cf,dG]
   refine gE trivial trivial n 0 _ u9 jO (show 0+5<=5 by omega) ?_;refine xr (vs:=mG z f 0 0 2) rfl (qO j _ _ _) rfl u6 jO jO fun p _=> ?_;unfold qN;rw[m];exact⟨2,.inr rfl,rfl⟩
  ·have G:¬((z.most:Nat):Int)<((g.told+g.aR:Nat):Int):=jO
   have m:c6 z c=some (g,0,0):=by unfold c6;rw[if_neg ca,if_pos Z,if_neg ce,v]
   try simp(disch:=first|omega|assumption) only[Nat.reduceAdd,Nat.reduceLT,RZ,G,r8.cy t9,cf,dG]
   refine gE trivial trivial (n+1+1) 0 _ v9 jO (show 0+5<=5 by omega) ?_;refine xr (vs:=mG g i 0 (-1) 0) rfl (qO o6 _ _ _) rfl u6 jO jO fun p k'=> ?_;unfold qN;rw[m];exact⟨i,cs++[c],xg _ _ ((k' (l+1) jO).trans ((D (l+1) jO).trans v1)) jO jO,fun b o=>by rw[<-u2]at o;rw[o.inj];omega,rfl⟩
 ·have c2:¬((c:Nat):Int)<2:=jO;have hv:=ZF (Y:=Y) (d:=d+1) cs x4.one (by have:=x4.len;omega) x4.row u3;have ez:(fW cs).1=z.aR:=by rw[x.eq]
  rw[ez]at hv;have wt:IntKind.i64.wrap (((z.told:Nat):Int)+((z.aR:Nat):Int))=((z.told+z.aR:Nat):Int):=by rw[aH jO jO];rfl
  have L:((z.told:Nat):Int)+((z.aR:Nat):Int)=((z.told+z.aR:Nat):Int):=rfl;have K:IntKind.i64.wrap ((z.told+z.aR:Nat):Int)=((z.told+z.aR:Nat):Int):=aH jO jO;refine jA (aI @c2 @t) ?_;refine bq hv jO (fun _ _ h=>h.elim) ?_;by_cases cd:c=z.n+1
  ·have zd:(((c:Nat):Int)==((z.n+1:Nat):Int))=true:=by rw[cd];exact beq_iff_eq.2 rfl
   refine jA (aI @t (aI @C (aI @wt (aI @L (aI @K (aI @w1 (aI @W (aI @zd @y)))))))) ?_;refine gE trivial trivial (n+1+1) 0 _ (get_eq _ _ _) l2 (show 0+5<=5 by omega) ?_
   have m:c6 z c=some ({z with told:=z.told+z.aR,aR:=0,weight:=1,done:=true},z.aR,0):=by unfold c6;rw[if_neg ca,if_neg Z,if_pos cd]
   refine xr (vs:=mG {z with told:=z.told+z.aR,aR:=0,weight:=1,done:=true} nS (z.aR:Int) (-1) 0) rfl (qO rfl _ _ _) rfl (by simp only[aw _ _ P];exact A) R jO fun p _=> ?_;unfold qN;rw[m];exact⟨nS,[],I _ _ _ rfl rfl,fun b o=>(aK.not_nil o).elim,rfl⟩
  ·have zd:(((c:Nat):Int)==((z.n+1:Nat):Int))=false:=beq_eq_false_iff_ne.2 jO;have wq:IntKind.i64.wrap (((z.told+z.aR:Nat):Int)+1)=((z.told+z.aR+1:Nat):Int):=by rw[aH jO jO];rfl
   have O:((z.told+z.aR:Nat):Int)+1=((z.told+z.aR+1:Nat):Int):=rfl;have N:IntKind.i64.wrap ((z.told+z.aR+1:Nat):Int)=((z.told+z.aR+1:Nat):Int):=aH jO jO;by_cases ce:z.told+z.aR=z.most
   ·have G:((z.most:Nat):Int)<((z.told+z.aR+1:Nat):Int):=jO;refine jA (aI @t (aI @C (aI @wt (aI @L (aI @K (aI @w1 (aI @W (aI @zd (aI @y (aI @wq (aI @O (aI @N @G)))))))))))) ?_;refine gE (B:=⟨233,true,fq z f⟩) trivial trivial n 0 _ (by simp only[aw _ _ v2];exact v0) v3 (show 0+5<=5 by omega) ?_
    have m:c6 z c=none:=by unfold c6;rw[if_neg ca,if_neg Z,if_neg cd,if_pos ce]
    refine xr (vs:=mG z f 0 0 2) rfl (qO j _ _ _) rfl (by simp only[aw _ _ P];exact A) R jO fun p _=> ?_;unfold qN;rw[m];exact⟨2,.inr rfl,rfl⟩
   ·have G:¬((z.most:Nat):Int)<((z.told+z.aR+1:Nat):Int):=jO;refine jA (aI @t (aI @C (aI @wt (aI @L (aI @K (aI @w1 (aI @W (aI @zd (aI @y (aI @wq (aI @O (aI @N @G)))))))))))) ?_;refine gE trivial trivial (n+1+1) 0 _ (get_eq _ _ _) l2 (show 0+5<=5 by omega) ?_
    have m:c6 z c=some ({z with told:=z.told+1+z.aR,aR:=0,weight:=1},z.aR,c-1):=by unfold c6;rw[if_neg ca,if_neg Z,if_neg cd,if_neg ce]
    rw[show z.told+1+z.aR=z.told+z.aR+1 by omega]at m
    have u4:((c:Nat):Int)-1=(if c-1=0 then-1 else((c-1:Nat):Int)):=by rw[if_neg jO];omega
    rw[u4];generalize v4:(if c-1=0 then-1 else((c-1:Nat):Int))=pl;generalize z.told+z.aR+1=tt at m⊢;clear u4 G wq O N;rw[show({z with told:=tt,aR:=0,weight:=1}:Zr)={z with told:=tt,aR:=0,weight:=1,done:=false} by rw[<-E.nd]]at m;refine xr (vs:=mG {z with told:=tt,aR:=0,weight:=1,done:=false} nS (z.aR:Int) pl 0) rfl (qO rfl _ _ _) rfl (by simp only[aw _ _ P];exact A) R jO fun p _=> ?_;unfold qN;rw[m];exact⟨nS,[],I _ _ _ rfl rfl,fun b o=>(aK.not_nil o).elim,by rw[v4]⟩
end
theorem ZH{a:Zr}{cs:List Nat}{i:Nat}{z:Zr}{ps:List Nat}(c:i<cs.length)(h:dr a (cs.take i)=some (z,ps)):dr a (cs.take (i+1))=match c6 z cs[i]with
 |none=>none
 |some (b,n,p)=>some (b,ps++(bU n 0++hP p)):=by
 rw[nv c];exact EU _ _ _ _ _ h
theorem Ax{d:Zr}:∀(a b:List Nat),dr d a=none->dr d (a++b)=none
 |[],b,h=>by cases h
 |c::a,b,h=>by
  unfold dr at h
  show(match c6 d c with
   |none=>none
   |some (f,n,p)=>match dr f (a++b)with
    |none=>none
    |some (i,j)=>some (i,(bU n 0++hP p)++j))=none
  cases e:c6 d c with
  |none=>rfl
  |some t=>
   obtain⟨f,n,p⟩:=t;rw[e]at h;simp only at h⊢;cases g:dr f a with
   |none=>rw[Ax a b g]
   |some k=>rw[g]at h;cases h
section
variable {Y d n:Nat} {h:H}
theorem ak3{v:Value}(cs:List Nat)(g room:Nat)(h1:1<=g)(h2:g<=256)(hm:room<=1000000)(u1:∀c∈cs,c<=1000)(I:∀i,i+1<cs.length->cs.getD i 0≠g+1)(hR:Row h n 3 .i64 v (iN cs))(hl:cs.length<=100000000)(Z:100<=Y)(u7:cs.length<Y):
 af (fun _=>False) n (aj aa gt Y (d+4) 130 #[v,jI (g:Int),jI (room:Int)]) h n fun v' _ _=>if(dr (eG g room) cs).isSome=true then v'=jI 0 else∃e:Int,e≠0∧v'=jI e:=by
 rw[aB (fun _=>ae6) rfl];refine af.aA ?_;unfold IM;have il:(iN cs).length=cs.length:=by unfold iN;rw[fS]
 have kl:∀K:Value->M Value,bA v K=K (jI (cs.length:Int)):=fun K=>by obtain⟨a,c,e⟩:=hR.len;rw[e,il];rfl
 refine jB ?_;refine dX rfl _ ?_;refine nT (sz:=5) (off:=0) (e:=233) (cs:=z233) trivial (vs:=fq (eG g room) nS) rfl rfl rfl (get_eq _ _ _) jO jD (.inl (ah n)) _ fun Q g4 k4=> ?_;have W:∀b,b<n->Q.get b=h.get b:=fun b hb=>by rw[k4 b jO,aw _ _ jO]
 have u6:Q.get n=some ⟨233,true,fq (eG g room) nS⟩:=g4;refine jA @kl ?_;refine dL cs.length (fun fu i (_:Unit)=>ud Y (aj aa gt Y (d+3)) fu (yL Y (aj aa gt Y (d+3))) v (jI (g:Int)) (jI (room:Int)) (jI 0) (jP n 0) v (jI (cs.length:Int)) (jI (i:Nat))) (fun i _ J N=>n<N∧(∀b,b<n->J.get b=h.get b)∧∃z u q L,dr (eG g room) (cs.take i)=some (z,L)∧z.n=g∧z.most=room∧(i<cs.length->z.Ok)∧J.get n=some ⟨233,true,fq z u⟩∧lL J N z u q) ?_ ?_ Y 0 () Q (n+1) (aO _) jO ⟨dI n,W,eG g room,nS,[],[],rfl,rfl,rfl,fun _=>ED h1 h2 jO,u6,⟨(Own.nil Q 0 (n+1) 3).row (k:= .i64) (xs:=[]),fun c hc=>(by cases hc),jD,rfl⟩⟩
 ·rintro fu _ J N ⟨q1,q2,z,u,q,L,D,_⟩;rw[jf]at D;rw[ud];refine jA @eT ?_;unfold yL;rw[lF,D,if_pos (show(some (z,L)).isSome=true from rfl)]
 ·rintro fu i _ J N B ⟨q1,q2,z,u,q,L,D,C,e3,T,e5,e6⟩ next;have c1:((i:Nat):Int)<((cs.length:Nat):Int):=jO;have w1:((i:Nat):Int)+1=((i+1:Nat):Int):=rfl;have u3:=hR.au (aor q1) q2;obtain⟨bb,off,cap,o,ks,ev,hg,u9,_,_,_,u2⟩:=u3.some jO;have a1:=u2 i jO
  have e0:(iN cs).getD i 0=((cs[i]:Nat):Int):=by unfold iN;rw[bz,jd,bB B];rfl
  rw[e0]at a1;rw[il]at ev
  have kx:∀K:Value->M Value,bQ v (jI (i:Int)) K=K (jP bb (off+i)):=fun K=>by rw[ev];exact jC @c1
  have O:=ZH B D;rw[ud];refine jA (aI @c1 (aI @kx (aI @hg @a1))) ?_;refine gE trivial trivial n 0 _ e5 q1 (show 0+5<=5 by omega) ?_;refine aN aF (ZG (Y:=Y) (d:=d) e6 (T B) jO cs[i] (u1 _ (dO B)) Z) jO (fun _ _ h=>h.elim) fun v5 h5 j G A l=> ?_;unfold qN at l
  have whole:∀x,dr (eG g room) (cs.take (i+1))=x->x=none->dr (eG g room) cs=none:=fun x q3 q4=>by rw[<-AP (i+1) cs];exact Ax _ _ (q3.trans q4)
  cases ep:c6 z cs[i]with
  |none=>
   rw[ep]at l O;obtain⟨e,he,rfl⟩:=l;refine dX rfl _ ?_
   refine nT (sz:=8) (off:=0) (e:=235) (cs:=kg) trivial (vs:=mG z u 0 0 e) rfl rfl (qO (by
    obtain⟨a,b,e⟩:=e6.row.len;rw[e]
    rfl) _ _ _) (get_eq _ _ _) jO jD (.inl jO) _ fun P R k6=> ?_
   have U:(e !=0)=true:=by rw[bne_iff_ne];omega
   have r:P.get j=some ⟨235,true,[jI (z.n:Int),jI (z.most:Int),jI (z.told:Int),u,.bool z.done,jI 0,jI 0,jI e]⟩:=R;have l6:j<j+1:=dI j;refine jA (aI @r @U) ?_;unfold yL;refine jB ?_;rw[whole _ O rfl,if_neg jD];exact⟨e,jO,rfl⟩
  |some t=>
   obtain⟨s,m,p⟩:=t;rw[ep]at l O;obtain⟨f,q',E,_,rfl⟩:=l
   have o5:Ev.one f=true:=by obtain⟨a,b,e⟩:=E.row.len;rw[e];rfl
   obtain⟨p1,p2,p3,p4,p5,p6,p7⟩:=EE (T B) ep;refine dX rfl _ ?_;refine nT (sz:=8) (off:=0) (e:=235) (cs:=kg) trivial (vs:=mG s f (m:Int) (if p=0 then-1 else(p:Int)) 0) rfl rfl (qO o5 _ _ _) (get_eq _ _ _) jO jD (.inl jO) _ fun P R k6=> ?_;generalize (if p=0 then-1 else(p:Int))=pl at R⊢;have y:∀b,b<j->P.get b=h5.get b:=fun b hb=>by rw[k6 b jO,aw _ _ jO]
   have U:((0:Int) !=0)=false:=rfl;have r:P.get j=some ⟨235,true,[jI (s.n:Int),jI (s.most:Int),jI (s.told:Int),f,.bool s.done,jI (m:Int),jI pl,jI 0]⟩:=R;have l6:j<j+1:=dI j;have u4:=(y n jO).trans ((A n q1 id).trans e5);refine jA (aI @r @U) ?_;refine gE trivial trivial j 0 _ r l6 (show 0+5<=8 by omega) ?_;refine nT (sz:=5) (off:=0) (e:=233) (cs:=fq z u) trivial (vs:=fq s f) rfl rfl (by unfold fq;simp only[Mx,MS,o5];rfl) u4 jO (by show 0+5<=5;omega) (.inl (ah n)) _ fun h7 g7 k7=> ?_;have u5:h7.get n=some ⟨233,true,fq s f⟩:=g7;refine jB ?_;rw[w1];refine next () h7 (j+1) ⟨jO,fun b hb=>by rw[k7 b jO,y b jO,A b jO id,q2 b hb],s,f,q',_,O,p2.trans C,p3.trans e3,fun u0=>p1 ?_,u5, ?_⟩
   ·rw[p5,decide_eq_false_iff_not,C];have:=I i u0;rw[bz,bB B]at this;exact this
   ·refine⟨?_,E.one,E.len,E.eq⟩;have G:=(A n q1 id).trans e5;rcases E.row with q|⟨b,off,cap,o,ks,D,C,e3,T⟩
    ·exact .inl q
    ·have X:b≠n:=fun q=>by rw[q,G]at C;cases C
     exact .inr ⟨b,off,cap,o,ks,D,(k7 b X).trans ((y b e3).trans C),jO,T⟩
end
def kz:Nat->List (List Nat)->List Nat->Nat->List Bool->Nat->List Int
 |0,_,_,_,_,_=>[]
 |N+1,a,took,b,c,k=>if took.length<=k/50 then []else
  match fI (a.getD (took.getD (k/50) 0) []) c with
  |none=>[]
  |some s=>(s:Int)::(if s+1=b then []else kz N a took b (c.drop ((a.getD (took.getD (k/50) 0) []).getD s 0)) (k+1))
def Ay(P:List Int->Bool):Ck:=fun out sym=>if P (out++[sym])=true then none else some 25
def nh:Ck:=fun _ _=>none
theorem ak4{c:List (List Nat)}{took:List Nat}{size:Nat}(P:List Int->Bool)(mono:∀a b,P (a++b)=true->P a=true):∀(N:Nat) (bs:List Bool) (out:List Int) (a:Nat),P out=true->fZ N c took size bs (Ay P) out a=cond (P (out++kz N c took size bs out.length)) (fZ N c took size bs nh out a) (.err 25):=by
 intro N
 induction N with
 |zero=>intro bs out a h;unfold kz;rw[bV,h];rfl
 |succ N j=>
  intro bs out a h;unfold kz fZ;by_cases f:took.length<=out.length/50
  ·rw[if_pos f,if_pos f,if_pos f,bV,h];rfl
  rw[if_neg f,if_neg f,if_neg f];cases e:fI (c.getD (took.getD (out.length/50) 0) []) bs with
  |none=>dsimp only;rw[bV,h];rfl
  |some s=>
   dsimp only;have k:nh out (s:Int)=none:=rfl;rw[k];by_cases g:P (out++[(s:Int)])=true
   ·have i:Ay P out (s:Int)=none:=if_pos g;rw[i];dsimp only;by_cases d:s+1=size
    ·rw[if_pos d,if_pos d,if_pos d,g];rfl
    ·rw[if_neg d,if_neg d,if_neg d,j _ _ _ g];rw[ey,FL,bG];rfl
   ·have i:Ay P out (s:Int)=some 25:=if_neg g;rw[i];dsimp only;refine(show∀(b:Bool) (A:Rs),b=false->Rs.err 25=cond b A (.err 25)from fun b A q=>by rw[q];rfl) _ _ ?_;refine Bool.eq_false_iff.2 fun q=> ?_;refine g (mono _ (if s+1=size then []else kz N c took size (bs.drop ((c.getD (took.getD (out.length/50) 0) []).getD s 0)) (out.length+1)) ?_);rw[ey,FL];exact q
def jx(size:Nat)(bs:List Bool):List Int:=match dE (bs.length+1) fV bs 0 with
 | .short=>[]
 | .bad _=>[]
 | .ok s a=>match eg s.t size (bs.drop a) 0 []with
   | .short=>[]
   | .bad _=>[]
   | .ok b u=>kz (bs.length+1) b s.bw size (bs.drop (a+u)) 0
theorem ak5(P:List Int->Bool)(mono:∀a b,P (a++b)=true->P a=true)(c:P []=true)(size:Nat)(bs:List Bool):iF size bs (Ay P)=cond (P (jx size bs)) (iF size bs nh) (.err 25):=by
 unfold iF jx;cases dE (bs.length+1) fV bs 0 with
 |short=>dsimp only;rw[c];rfl
 |bad e=>dsimp only;rw[c];rfl
 |ok s a=>
  dsimp only;cases eg s.t size (bs.drop a) 0 []with
  |short=>dsimp only;rw[c];rfl
  |bad e=>dsimp only;rw[c];rfl
  |ok d u=>dsimp only;rw[ak4 P mono _ _ _ _ c];rfl
def qP(n room:Nat)(l:List Int):Bool:=(dr (eG n room) (ew l)).isSome
theorem ak6(n room:Nat):iY n room=Ay (qP n room):=rfl
theorem ak7(n room:Nat)(a b:List Int)(h:qP n room (a++b)=true):qP n room a=true:=by
 unfold qP at h⊢;have e:ew (a++b)=ew a++ew b:=by unfold ew;rw[qa]
 rw[e]at h;cases q:dr (eG n room) (ew a)with
 |none=>rw[Ax _ _ q]at h;cases h
 |some t=>rfl
theorem ZI(n room size:Nat)(bs:List Bool):iF size bs (iY n room)=cond (qP n room (jx size bs)) (iF size bs nh) (.err 25):=by rw[ak6];exact ak5 _ (ak7 n room) rfl size bs
theorem ak8{a:List (List Nat)}{took:List Nat}{size:Nat}:∀(N:Nat) (bs:List Bool) (k i:Nat),i+1<(kz N a took size bs k).length->(kz N a took size bs k).getD i 0+1≠(size:Int):=by
 intro N
 induction N with
 |zero=>intro bs k i h;exact absurd h (lq _)
 |succ N d=>
  intro bs k i h;unfold kz at h⊢;by_cases c:took.length<=k/50
  ·rw[if_pos c]at h;exact absurd h (lq _)
  rw[if_neg c]at h⊢;cases e:fI (a.getD (took.getD (k/50) 0) []) bs with
  |none=>rw[e]at h;exact absurd h (lq _)
  |some s=>
   rw[e]at h;dsimp only at h⊢;by_cases b:s+1=size
   ·rw[if_pos b]at h;have:i+1<1:=h;omega
   ·rw[if_neg b]at h⊢;cases i with
    |zero=>show((s:Nat):Int)+1≠(size:Int);omega
    |succ i=>rw[cP]at h;exact d _ _ i jO
theorem ak9{size:Nat}{bs:List Bool}(i:Nat)(h:i+1<(jx size bs).length):(jx size bs).getD i 0+1≠(size:Int):=by
 unfold jx at h⊢;cases e:dE (bs.length+1) fV bs 0 with
 |short=>rw[e]at h;exact absurd h (lq _)
 |bad x=>rw[e]at h;exact absurd h (lq _)
 |ok s a=>
  rw[e]at h;dsimp only at h⊢;cases b:eg s.t size (bs.drop a) 0 []with
  |short=>rw[b]at h;exact absurd h (lq _)
  |bad x=>rw[b]at h;exact absurd h (lq _)
  |ok c u=>rw[b]at h;exact ak8 _ _ _ i h
def vg:List Bool:=dY [66,90,104]
section
variable {Y d n:Nat} {h:H}
end
theorem ak'{S:List UInt8}{room:Nat}:∀(N M a t:Nat),(ar S 0 a).length<48*N->(ar S 0 a).length<48*M->gu S room N a t=gu S room M a t:=by
 intro N
 induction N with
 |zero=>intro M a t h;omega
 |succ N d=>
  intro M a t k j;obtain⟨M,rfl⟩:∃m,M=m+1:=⟨M-1,jO⟩;unfold gu;by_cases c:(ar S 0 a).length<48
  ·rw[if_pos c,if_pos c]
  rw[if_neg c,if_neg c];by_cases b:num ((ar S 0 a).take 48) 0=jV
  ·rw[if_pos b,if_pos b];cases lK room (ar S 0 (a+48))with
   |short=>rfl
   |bad e=>rfl
   |ok g w=>
    dsimp only;cases fJ g with
    |error e=>rfl
    |ok x=>dsimp only;have i:=fy S 0 (a+48+w);have f:=fy S 0 a;rw[d M (a+48+w) (fC t g.sum) jO jO]
  ·rw[if_neg b,if_neg b]
def ZJ(n:Nat)(b:List Nat)(a:Value)(h':H)(n':Nat):Prop:=∃pv,a= .tuple #[pv,jI 0]∧Own h' (n+1) n' 3 pv (aV .i64 (iN b))
section
variable {Y d n:Nat} {h:H}
theorem ak_ {v:Value} (cs:List Nat) (y room:Nat) (h1:1<=y) (h2:y<=256) (hm:room<=1000000) (v0:∀c∈cs,c<=1000) (u6:∀i,i+1<cs.length->cs.getD i 0≠y+1) (hR:Row h n 3 .i64 v (iN cs)) (hl:cs.length<=100000000) (w5:2000000<=Y) (v7:cs.length<Y)
 {zl:Zr} {pl:List Nat} (hz:dr (eG y room) cs=some (zl,pl)) (hd:zl.done=true):
 af (fun _=>False) n (aj aa gt Y (d+4) 132 #[v,jI (y:Int),jI (room:Int)]) h n (ZJ n pl):=by
 rw[aB (fun _=>ae_) rfl];refine af.aA ?_;unfold IQ;have il:(iN cs).length=cs.length:=by unfold iN;rw[fS]
 have kl:∀K:Value->M Value,bA v K=K (jI (cs.length:Int)):=fun K=>by obtain⟨a,c,e⟩:=hR.len;rw[e,il];rfl
 have q1:¬((y:Nat):Int)<1:=jO;have q2:¬(256:Int)<((y:Nat):Int):=jO;have q3:¬((room:Nat):Int)<0:=jO;have q4:¬(1099511627776:Int)<((room:Nat):Int):=jO;refine jA (aI @q1 (aI @q2 (aI @q3 @q4))) ?_;refine dX rfl _ ?_;refine nT (sz:=5) (off:=0) (e:=233) (cs:=z233) trivial (vs:=fq (eG y room) nS) rfl rfl rfl (get_eq _ _ _) jO jD (.inl (ah n)) _ fun h4 g4 k4=> ?_;have v4:h4.get n=some ⟨233,true,fq (eG y room) nS⟩:=g4;have u7:∀b,b<n->h4.get b=h.get b:=fun b l=>by rw[k4 b jO,aw _ _ jO]
 refine jA @kl ?_;refine dL cs.length (fun fu i (o:Value)=>qC Y (aj aa gt Y (d+3)) fu (wA Y (aj aa gt Y (d+3))) v (jI (y:Int)) (jI (room:Int)) nS (jI 0) (jP n 0) o (.bool false) v (jI (cs.length:Int)) (jI (i:Nat))) (fun i o h' n'=>n<n'∧(∀b,b<n->h'.get b=h.get b)∧∃z rv q C,dr (eG y room) (cs.take i)=some (z,C)∧z.n=y∧z.most=room∧(i<cs.length->z.Ok)∧h'.get n=some ⟨233,true,fq z rv⟩∧lL h' n' z rv q∧Own h' (n+1) n' 3 o (aV .i64 (iN C))∧C.length<=i+z.told) ?_ ?_ Y 0 nS h4 (n+1) (aO _) jO ⟨dI n,u7,eG y room,nS,[],[],rfl,rfl,rfl,fun _=>ED h1 h2 jO,v4,⟨(Own.nil h4 0 (n+1) 3).row (k:= .i64) (xs:=[]),fun c hc=>(by cases hc),jD,rfl⟩,Own.nil _ _ _ _,aO _⟩
 ·rintro fu o h' n' ⟨q1,q2,z,rv,q,C,e1,e2,e3,e4,e5,e6,e7,e8⟩;rw[jf,hz]at e1;cases e1;have v6:h'.get n=some ⟨233,true,[jI (zl.n:Int),jI (zl.most:Int),jI (zl.told:Int),rv,.bool true]⟩:=by rw[e5,<-hd];rfl
  rw[qC];refine jA @eT ?_;unfold wA;refine jA (aI @v6 @q1) ?_;exact⟨o,rfl,e7⟩
 ·rintro fu i o h' n' hi ⟨q1,q2,z,rv,q,C,e1,e2,e3,e4,e5,e6,e7,e8⟩ next;have c1:((i:Nat):Int)<((cs.length:Nat):Int):=jO;have w1:((i:Nat):Int)+1=((i+1:Nat):Int):=rfl;have v2:=hR.au (aor q1) q2;obtain⟨bb,off,cap,oo,ks,ev,hg,w6,_,_,_,v1⟩:=v2.some jO;have a1:=v1 i jO
  have e0:(iN cs).getD i 0=((cs[i]:Nat):Int):=by unfold iN;rw[bz,jd,bB hi];rfl
  rw[e0]at a1;rw[il]at ev
  have kx:∀K:Value->M Value,bQ v (jI (i:Int)) K=K (jP bb (off+i)):=fun K=>by rw[ev];exact jC @c1
  have N:=ZH hi e1;have zo:=e4 hi;rw[qC];refine jA (aI @c1 (aI @kx (aI @hg @a1))) ?_;refine gE trivial trivial n 0 _ e5 q1 (show 0+5<=5 by omega) ?_;refine aN aF (ZG (Y:=Y) (d:=d) e6 zo jO cs[i] (v0 _ (dO hi)) jO) jO (fun _ _ h=>h.elim) fun v5 h5 r w4 u5 u1=> ?_;unfold qN at u1;cases ep:c6 z cs[i]with
  |none=>
   rw[ep]at N
   have:dr (eG y room) cs=none:=by rw[<-AP (i+1) cs];exact Ax _ _ N
   rw[hz]at this;cases this
  |some t=>
   obtain⟨Q,m,p⟩:=t;rw[ep]at u1 N;obtain⟨s,q',x5,f5,rfl⟩:=u1
   have o5:Ev.one s=true:=by obtain⟨a,b,e⟩:=x5.row.len;rw[e];rfl
   obtain⟨p1,p2,p3,p4,p5,p6,p7⟩:=EE zo ep;have v9:=LK ep;have v8:=p7;refine dX rfl _ ?_;refine nT (sz:=8) (off:=0) (e:=235) (cs:=kg) trivial (vs:=mG Q s (m:Int) (if p=0 then-1 else(p:Int)) 0) rfl rfl (qO o5 _ _ _) (get_eq _ _ _) jO jD (.inl jO) _ fun G g6 k6=> ?_;obtain⟨Z,O⟩:∃x:Int,(if p=0 then-1 else(p:Int))=x:=⟨_,rfl⟩;rw[O]at g6;have L:∀b,b<r->G.get b=h5.get b:=fun b l=>by rw[k6 b jO,aw _ _ jO]
   have ze:((0:Int) !=0)=false:=rfl;have z7:((0:Int)==7)=false:=rfl;have P:G.get r=some ⟨235,true,[jI (Q.n:Int),jI (Q.most:Int),jI (Q.told:Int),s,.bool Q.done,jI (m:Int),jI Z,jI 0]⟩:=g6;have l6:r<r+1:=dI r;have u3:=(L n jO).trans ((u5 n q1 id).trans e5)
   have o6:Own G (n+1) (r+1) 3 o (aV .i64 (iN C)):=e7.au jO fun b l=>by have:=e7.lt l;rw[L b jO];exact u5 b this.2 id
   have w0:C.length+m<=1099511627776:=jO;refine jA (aI @P (aI @ze @z7)) ?_;have w3:=p7
   have fin:∀(g:Value) (u:H) (f:Nat),r<f->u.get n=G.get n->u.get r=G.get r->(∀b,b<n->u.get b=G.get b)->Row u f 3 .i64 s (iN q')->Own u (n+1) f 3 g (aV .i64 (iN (C++(bU m 0++hP p))))->
    af (fun _=>False) n (bc 5 (jP r 0) fun o=>aQ 5 (jP n 0) o fun _=>qC Y (aj aa gt Y (d+3)) fu (wA Y (aj aa gt Y (d+3))) v (jI (y:Int)) (jI (room:Int)) nS (jI 0) (jP n 0) g (.bool false) v (jI (cs.length:Int)) (jI ((i:Int)+1))) u f (ZJ n pl):=fun g u f W U T b4 I D=>by
    have R:=T.trans P;refine gE trivial trivial r 0 _ R W (show 0+5<=8 by omega) ?_;refine nT (sz:=5) (off:=0) (e:=233) (cs:=fq z rv) trivial (vs:=fq Q s) rfl rfl (by unfold fq;simp only[Mx,MS,o5];rfl) (U.trans u3) jO (by show 0+5<=5;omega) (.inl (ah n)) _ fun h7 g7 k7=> ?_;have v3:h7.get n=some ⟨233,true,fq Q s⟩:=g7
    have ne:∀{w:Value} {lo:Nat} {cs:List Value},Own u lo f 3 w cs->∀b,aK w b->b≠n:=fun o b l q=>by obtain⟨B,E,X⟩:=o.elem l;rw[q,U,u3]at E;cases E;exact absurd (show 233=3 from X) jD
    rw[w1];refine next g h7 f ⟨jO,fun b l=>by rw[k7 b jO,b4 b l,L b jO,u5 b jO id,q2 b l],Q,s,q',_,N,p2.trans e2,p3.trans e3,fun u9=>p1 ?_,v3,⟨?_,x5.one,x5.len,x5.eq⟩,D.au (ah _) fun b l=>k7 b (ne D b l), ?_⟩
    ·rw[p5,decide_eq_false_iff_not,e2];have:=u6 i u9;rw[bz,bB hi]at this;exact this
    ·refine I.kT (ah _) fun b l=>k7 b fun q=> ?_;obtain⟨B,E,X⟩:=I.elem l;rw[q,U,u3]at E;cases E;exact absurd (show 233=3 from X) jD
    ·have lp:(hP p).length<=1:=by unfold hP;split<;>simp
     rw[bG,bG,j4];omega
   have R6:Row G (r+1) 3 .i64 s (iN q'):=x5.row.au jO L;refine dL m (fun u4 j (g:Value)=>ue Y (aj aa gt Y (d+3)) u4 (SK Y (aj aa gt Y (d+3)) fu (wA Y (aj aa gt Y (d+3)))) v (jI (y:Int)) (jI (room:Int)) nS (jI 0) (jP n 0) g (jI (cs[i]:Int)) (jP r 0) (.bool false) v (jI (cs.length:Int)) (jI (i:Nat)) (.bool true) (.bool false) (.bool false) (jI (m:Int)) (jI (j:Nat))) (fun j g u f=>r<f∧u.get n=G.get n∧u.get r=G.get r∧(∀b,b<n->u.get b=G.get b)∧Row u f 3 .i64 s (iN q')∧Own u (n+1) f 3 g (aV .i64 (iN (C++bU j 0)))∧(∀b,aK g b->¬aK s b)) ?_ ?_ Y 0 o G (r+1) (aO _) jO ⟨l6,rfl,rfl,fun _ _=>rfl,R6,by rw[List.replicate_zero,bV];exact o6,fun b l u2=>by have:=(e7.lt l).2;have:=f5 b u2;omega⟩
   ·rintro u4 g u f ⟨W,U,T,b4,I,D,b7⟩;rw[ue];refine jA @eT ?_
    (try unfold SK);(try unfold CH);(try dsimp only)
    have R:=T.trans P;have A:(aV .i64 (iN (C++bU m 0))).length=C.length+m:=by rw[eu];unfold iN;rw[fS,bG,j4]
    by_cases hp:p=0
    ·rw[if_pos hp]at O;have zp:¬(0:Int)<=Z:=jO;refine jA (aI @R (aI @zp @W)) ?_;refine fin g u f W U T b4 I ?_;rw[show hP p=[] by unfold hP;rw[if_neg jO],bV];exact D
    ·rw[if_neg hp]at O;have zp:(0:Int)<=Z:=jO;refine jA (aI @R (aI @zp @W)) ?_;refine rL trivial rfl D (by rw[A];omega) jO _ fun h8 g8 J=> ?_;rw[A]
     have x1:h8.get r=u.get r:=J r W fun q=>by obtain⟨B,E,X⟩:=D.elem q;rw[R]at E;cases E;exact absurd (show 235=3 from X) jD
     have w7:=x1.trans R;have l8:r<f+2:=jO;refine jB ?_;refine fin _ h8 (f+2) l8 ((J n jO fun q=>by have:=(D.lt q).1;omega).trans U) (x1.trans T) (fun b l=>(J b jO fun q=>by have:=(D.lt q).1;omega).trans (b4 b l)) (I.kT jO fun b l=>J b (I.lt l) fun q=>b7 b q l) ?_;rw[show hP p=[p] by unfold hP;rw[if_pos jO],<-ey,pI,mY];refine Own.mk' ?_ jO jO (by rw[bG,A];rfl);rw[g8,<-O];rfl
   ·rintro u4 j g u f hj ⟨W,U,T,b4,I,D,b7⟩ u0;have c2:((j:Nat):Int)<((m:Nat):Int):=jO;have w2:((j:Nat):Int)+1=((j+1:Nat):Int):=rfl;have A:(aV .i64 (iN (C++bU j 0))).length=C.length+j:=by rw[eu];unfold iN;rw[fS,bG,j4]
    have R:=T.trans P;rw[ue];refine jA @c2 ?_;refine rL trivial rfl D (by rw[A];omega) jO _ fun h8 g8 J=> ?_;rw[A]
    have x1:h8.get r=u.get r:=J r W fun q=>by obtain⟨B,E,X⟩:=D.elem q;rw[R]at E;cases E;exact absurd (show 235=3 from X) jD
    refine jB ?_;rw[w2];refine u0 _ h8 (f+2) ⟨jO,(J n jO fun q=>by have:=(D.lt q).1;omega).trans U,x1.trans T,fun b l=>(J b jO fun q=>by have:=(D.lt q).1;omega).trans (b4 b l),I.kT jO fun b l=>J b (I.lt l) fun q=>b7 b q l, ?_,fun b l u2=>by have:=I.lt u2;rw[l.inj]at this;omega⟩;rw[List.replicate_succ',<-ey,pI,mY];exact Own.mk' g8 jO jO (by rw[bG,A];rfl)
end
def EY(n:Nat)(out:List Int)(a:Value)(h':H)(n':Nat):Prop:=Own h' n n' 3 a (aV .i64 out)
section
variable {Y d n:Nat} {h:H}
theorem ala {l:List Bool} (hl:l.length<=1000000) (w3:3000000<=Y) {size T:Nat} (v8:3<=size) (v6:size<=258) {lns:List (List Nat)} {took:List Nat} (hw:∀ln∈lns,Wh ln∧ln.length=size) (X:∀v∈took,v<lns.length) (hT:lns.length=T) (x4:T<=6) (v4:took.length<=40000)
 {q1 q2 lo:Nat} {pv tv:Value} {x2 x3 y1:Int} (Z:n<=lo) (w0:q1<lo∧n<=q1) (v9:q2<lo∧n<=q2):
 ∀(N x:Nat) (h':H) (n':Nat) (ov:Value) (out:List Int) (a:Nat),lo<=n'->h'.get q1=some ⟨224,true,[pv,jI (T:Int),jI x2,jI x3,jI 0]⟩->h'.get q2=some ⟨228,true,[tv,jI y1,jI 0]⟩->Row h' lo 3 .i64 pv (iN took)->TT h' 0 lo tv lns->
  (l.drop a).length<N->N<=x->a<=l.length->out.length+(l.drop a).length<=1000000->Own h' lo n' 3 ov (aV .i64 out)->
  af (fun _=>False) n (wy Y (aj aa gt Y (d+4)) x (wz Y (aj aa gt Y (d+4))) (tx l) (jI (size:Int)) nS (jP q1 0) (jP q2 0) (jI (a:Int)) ov (.bool false) (.bool false)) h' n' (EY n (out++kz N lns took size (l.drop a) out.length)):=by
 intro N
 induction N with
 |zero=>intro x h' n' ov out a _ _ _ _ _ hN;omega
 |succ N ih=>
  intro x h' n' ov out a w2 g1 g2 P tt hN w5 x1 w1 B;obtain⟨x,rfl⟩:∃f,x=f+1:=⟨x-1,jO⟩;obtain⟨oa,oc,rfl⟩:=B.row.len;have w4:=fi took;have w6:(l.drop a).length=l.length-a:=bE;have u9:q1<n':=jO;have u7:q2<n':=jO;have L:((out.length:Nat):Int).tdiv 50=((out.length/50:Nat):Int):=rfl;have E:IntKind.i64.wrap ((out.length/50:Nat):Int)=((out.length/50:Nat):Int):=aH jO jO;rw[wy];unfold kz;by_cases z:took.length<=out.length/50
  ·obtain⟨pa,pc,rfl⟩:=P.len;have c1:¬((out.length/50:Nat):Int)<(((iN took).length:Nat):Int):=jO;refine jA (aI @g1 (aI @L (aI @E @c1))) ?_;rw[if_pos z,bV]
   (try unfold wz);(try dsimp only)
   rw[lF];exact B.low Z
  ·rw[if_neg z];obtain⟨b,Q,cap,o,ks,rfl,hg,w9,hv⟩:=P.some jO;have c1:((out.length/50:Nat):Int)<(((iN took).length:Nat):Int):=jO;obtain⟨g,j⟩:∃t,took.getD (out.length/50) 0=t:=⟨_,rfl⟩
   have R:ks[Q+out.length/50]? =some (jI (g:Int)):=by rw[hv.2.2.2 _ jO,pG,j]
   have v2:b<n':=jO
   have p:g<lns.length:=by refine X g ?_;rw[<-j,bz,bB jO];exact dO _
   obtain⟨C,G,y,K⟩:=tt;obtain⟨bt,e1,A,_,w7⟩:=K g p
   obtain⟨u6,W,u3,_,v0⟩:∃b,tv= .slice (some ⟨b,0,none⟩) C.length (bo+C.length)∧h'.get b=some ⟨230,true,C⟩∧0<=b∧b<lo:=by
    rcases G with ⟨_,e⟩|⟨b,p1,p2,p3,p4⟩
    ·rw[e]at y;have:lns.length=0:=y.symm;omega
    ·exact⟨b,p1,p2,p3,p4⟩
   subst W
   have m:C[g]? =some (.slice (some ⟨bt,0,none⟩) (lns.getD g []).length (lns.getD g []).length):=by rw[<-e1,bz,bB jO];rfl
   have r:lns.getD g []∈lns:=by rw[bz,bB p];exact dO _
   obtain⟨ln,J⟩:∃l,lns.getD g []=l:=⟨_,rfl⟩;rw[j,J];rw[J]at m A r;obtain⟨D,v3⟩:=hw ln r;have v5:(g:Int)<((C.length:Nat):Int):=jO;have u2:u6<n':=jO;have s1:=fun(k:Value->M Value)=>oi l .i64 (a:Int) k jO jO;rw[cV]at s1;refine jA (aI @g1 (aI @g2 (aI @L (aI @E (aI @c1 (aI @hg (aI @R (aI @u3 (aI @m @s1))))))))) ?_;refine bq (YE (Y:=Y) (d:=d+2) D (l.drop a) A jO jO jO) jO (fun _ _ h=>h.elim) ?_;cases u0:fI ln (l.drop a)with
   |none=>
    have c2:decide (wZ (none:Option Nat)<0)=true:=rfl;refine jA @c2 ?_
    (try unfold wz);(try dsimp only)
    rw[lF,bV];exact B.low Z
   |some s=>
    obtain⟨m1,m2,m3⟩:=pF u0;have gi:wZ (some s)=(s:Int):=rfl;have I:=Lh m1;have v7:((s:Nat):Int)<((ln.length:Nat):Int):=jO;have v1:bt<n':=jO;obtain⟨u,hu⟩:∃u,ln.getD s 0=u:=⟨_,rfl⟩;have U:=(D.at m1);rw[hu]at U m2 I;have u1:(cq (di ln s) u).length=u:=hH _ _;have c4:decide (((s:Nat):Int)<0)=false:=decide_eq_false jO
    have e2:(((s:Nat):Int)==(size:Int)-1)=decide (s+1=size):=by
     by_cases q:s+1=size
     ·rw[decide_eq_true q];exact beq_iff_eq.2 jO
     ·rw[decide_eq_false q];exact beq_eq_false_iff_ne.2 jO
    refine jA (aI @c4 (aI @gi (aI @A (aI @I (aI @cZ (aI @u1 @e2)))))) ?_;rw[hu];refine si trivial (ke _ _) B (by rw[eu];omega) (fun b z=> .inl (by have:=(B.lt z).1;omega)) _ fun h2 g3 k3=> ?_;have O:∀b,b<lo->h2.get b=h'.get b:=fun b z=>k3 b jO fun q=>by have:=(B.lt q).1;omega
    have u5:=(O q1 jO).trans g1;have u4:=(O q2 jO).trans g2;have on:aV .i64 (out++[(s:Int)])=aV .i64 out++[jI ((s:Nat):Int)]:=by rw[mY];rfl
    have oo:Own h2 lo (n'+2) 3 (.slice (some ⟨n'+1,0,none⟩) ((aV .i64 out).length+1) (bo+((aV .i64 out).length+1))) (aV .i64 (out++[(s:Int)])):=by rw[on];exact .inr ⟨n'+1,jS,g3,jO,jO⟩
    by_cases i:s+1=size
    ·rw[decide_eq_true i];refine jB ?_
     (try unfold wz);(try dsimp only)
     rw[lF,if_pos i];exact oo.low Z
    ·rw[decide_eq_false i];refine jB ?_;rw[if_neg i];have:=ih x h2 (n'+2) _ (out++[(s:Int)]) (a+u) jO u5 u4 (P.kT (ah _) fun c hc=>O c (P.lt hc)) (TT.au ⟨C,G,y,K⟩ (ah _) fun b _ z=>O b z) (by rw[bE];omega) jO jO (by rw[bG,bE];simp only[cP,iP];omega) oo;rw[<-jm,ey,bG]at this
     first|exact this|(rw[show(a:Int)+(u:Int)=((a+u:Nat):Int) by omega];exact this)
theorem alb(l:List Bool)(U:l.length<=1000000)(D:3000000<=Y){size:Nat}(O:3<=size)(N:size<=258):af (fun _=>False) n (aj aa gt Y (d+5) 131 #[tx l,jI (size:Int)]) h n (EY n (jx size l)):=by
 rw[aB (fun _=>ae8) rfl];refine af.aA ?_;unfold IP;refine aN aF (YB (Y:=Y) (d:=d+2) l U D) jO (fun _ _ h=>h.elim) fun v1 h1 g v0 v5 c=> ?_;obtain⟨pv,t,a,u,e,rfl,c⟩:=c
 have u2:∃x y z,pv= .slice x y z:=by
  cases A:dE (l.length+1) fV l 0 with
  |short=>rw[A]at c;exact⟨_,_,_,c.2⟩
  |bad e0=>rw[A]at c;exact⟨_,_,_,c.2.2⟩
  |ok s m=>rw[A]at c;obtain⟨x,y,z⟩:=c.2.2.2.row.len;exact⟨_,_,_,z⟩
 obtain⟨px,py,pz,rfl⟩:=u2;refine dX yD _ ?_;refine cA (sz:=5) trivial (vs:=[.slice px py pz,jI t,jI a,jI u,jI e]) rfl rfl rfl (get_eq _ _ _) jO (.inl jO) _ fun Q G k2=> ?_;have u9:g<g+1:=jO;have r:∀(Q:H) (n2:Nat),EY n [] nS Q n2:=fun Q n2=>Own.nil _ _ _ _;unfold jx;cases A:dE (l.length+1) fV l 0 with
 |short=>rw[A]at c;obtain⟨rfl,_⟩:=c;have C:((3:Int) !=0)=true:=rfl;refine jA (aI @G @C) ?_;exact r _ _
 |bad e0=>rw[A]at c;obtain⟨rfl,rfl,_⟩:=c;have C:((25:Int) !=0)=true:=rfl;refine jA (aI @G @C) ?_;exact r _ _
 |ok s m=>
  rw[A]at c;obtain⟨rfl,rfl,rfl,op⟩:=c;obtain⟨ok,h6,fin,hc,_,u4⟩:=sA _ _ _ _ _ _ sB (aO _) rfl jD A;rw[fD]at u4;have z0:((0:Int) !=0)=false:=rfl;have s1:=fun(k:Value->M Value)=>oi l .i64 ((m:Nat):Int) k jO jO;rw[cV]at s1;have v2:(l.drop m).length=l.length-m:=bE;have B:=fin;unfold Pk.fin at B;rw[bZ,decide_eq_true_eq,decide_eq_true_eq]at B
  have o8:Own Q n g 3 (.slice px py pz) (aV .i64 (iN s.bw)):=op.au (ah _) fun b E=>by have:=op.lt E;rw[k2 b jO,aw _ _ jO]
  refine jA (aI @G @z0) ?_;refine gF trivial g 2 _ G (show g<g+1 by omega) (ah _) rfl fun T1 t1=> ?_;refine jA @s1 ?_;refine KL _ _ (ah _) fun T2 t2=> ?_;refine jB ?_;refine gF trivial g 1 _ G (show g<g+1 by omega) (ah _) rfl fun T3 t3=> ?_;refine jB ?_;refine lV aF (YH (Y:=Y) (d:=d) (l.drop m) jO D O N h6) jO fun v6 v4 j T4 u3 u5 f t4=> ?_;obtain⟨tv,u1,e1,rfl,⟨L,K,J,rfl⟩,f⟩:=f;refine YI we _ u3 fun T5 Z=> ?_;refine Ei (fun _ _=>rfl) ?_;refine cA (sz:=3) trivial (vs:=[.slice L K J,jI u1,jI e1]) rfl rfl rfl (get_eq _ _ _) jO (.inl jO) _ fun P W k7=> ?_;have I:∀b,b<g+1->P.get b=Q.get b:=fun b E=>by rw[k7 b jO,aw _ _ jO];exact u5 b E
  have R:=(I g jO).trans G;have u6:j<j+1:=jO;have u7:g<j+1:=jO;dsimp only;cases p:eg s.t size (l.drop m) 0 []with
  |short=>
   rw[p]at f;subst f;have C:((3:Int) !=0)=true:=rfl;try simp(disch:=first|omega|assumption) only[Nat.reduceAdd,Nat.reduceLT,RZ,t4.cy Z,cf,dJ,dG,W,C]
   exact r _ _
  |bad e0=>
   rw[p]at f;obtain⟨rfl,rfl⟩:=f;have C:((22:Int) !=0)=true:=rfl;try simp(disch:=first|omega|assumption) only[Nat.reduceAdd,Nat.reduceLT,RZ,t4.cy Z,cf,dJ,dG,W,C]
   exact r _ _
  |ok lns T=>
   rw[p]at f;obtain⟨rfl,rfl,tt⟩:=f;obtain⟨hw,q,_,u0⟩:=uR _ _ _ _ _ _ (fun ln U=>absurd U jS) p;rw[fD]at u0;have q:lns.length=s.t:=by rw[q];show 0+s.t=s.t;omega
   have w1:IntKind.i64.wrap (((m:Nat):Int)+((T:Nat):Int))=((m+T:Nat):Int):=by rw[aH jO jO];omega
   try simp(disch:=first|omega|assumption) only[Nat.reduceAdd,Nat.reduceLT,RZ,t4.cy Z,cf,dJ,dG,W,R,z0,w1]
   have rp:Row P (j+1) 3 .i64 (.slice px py pz) (iN s.bw):=(o8.au (by omega:g<=j+1) fun b E=>I b (by have:=(o8.lt E).2;omega)).row
   have X:TT P 0 (j+1) (.slice L K J) lns:=by
    obtain⟨cs,o,q1,q2⟩:=tt.au (h':=P) (by omega:j<=j+1) fun b E v3=>by rw[k7 b jO,aw _ _ jO]
    exact⟨cs,o.low (aO _),q1,fun i hi=>by obtain⟨b,p1,p2,p3,p4⟩:=q2 i hi;exact⟨b,p1,p2,aO _,p4⟩⟩
   have:=ala (n:=n) (d:=d) U D O N (lns:=lns) (took:=s.bw) hw (fun v hv=>by rw[q];exact ok.bw v hv) q h6 jO (q1:=g) (q2:=j) (lo:=j+1) (x2:=(m:Int)) (x3:=u) (y1:=(T:Int)) jO ⟨jO,jO⟩ ⟨jO,jO⟩ (l.length+1) Y P (j+1) (.slice none 0 0) [] (m+T) (ah _) R W rp X (by rw[bE];omega) jO jO (by rw[bE];show 0+_<=_;omega) (Own.nil _ _ _ _);exact this
end
section
variable {aZ:List (List Nat)} {took:List Nat} {size:Nat}
theorem ZK(b:∀ln∈aZ,Wh ln∧ln.length=size)(a:∀v∈took,v<aZ.length){j:Nat}(h:¬took.length<=j):Wh (aZ.getD (took.getD j 0) [])∧(aZ.getD (took.getD j 0) []).length=size:=by
 have c:took.getD j 0<aZ.length:=by refine a _ ?_;rw[bz,bB jO];exact dO _
 refine b _ ?_;rw[bz,bB c];exact dO _
theorem alc(g:∀ln∈aZ,Wh ln∧ln.length=size)(a:∀v∈took,v<aZ.length):∀(N:Nat) (bs:List Bool) (k:Nat),∀c∈kz N aZ took size bs k,0<=c∧c<(size:Int):=by
 intro N
 induction N with
 |zero=>intro bs k c h;exact absurd h jl
 |succ N f=>
  intro bs k c h;unfold kz at h;by_cases b:took.length<=k/50
  ·rw[if_pos b]at h;exact absurd h jl
  rw[if_neg b]at h;cases e:fI (aZ.getD (took.getD (k/50) 0) []) bs with
  |none=>rw[e]at h;exact absurd h jl
  |some s=>
   rw[e]at h;dsimp only at h;have m:=(pF e).1;rw[(ZK g a b).2]at m;rcases List.mem_cons.1 h with q|q
   ·omega
   ·by_cases d:s+1=size
    ·rw[if_pos d]at q;exact absurd q jl
    ·rw[if_neg d]at q;exact f _ _ _ q
theorem ald:∀(N:Nat) (bs:List Bool) (out:List Int) (a:Nat) (o:List Int) (u:Nat),fZ N aZ took size bs nh out a= .ok o u->o=out++kz N aZ took size bs out.length∧∃i,o=i++[(size:Int)-1]:=by
 intro N
 induction N with
 |zero=>intro bs out a o u h;cases h
 |succ N d=>
  intro bs out a o u h;unfold fZ at h;unfold kz;by_cases c:took.length<=out.length/50
  ·rw[if_pos c]at h;cases h
  rw[if_neg c]at h⊢;cases e:fI (aZ.getD (took.getD (out.length/50) 0) []) bs with
  |none=>rw[e]at h;cases h
  |some s=>
   rw[e]at h;dsimp only at h⊢;have f:nh out (s:Int)=none:=rfl;rw[f]at h;dsimp only at h;by_cases b:s+1=size
   ·rw[if_pos b]at h⊢;cases h;exact⟨rfl,out,by rw[show(size:Int)-1=(s:Int) by omega]⟩
   ·rw[if_neg b]at h⊢;obtain⟨q1,q2⟩:=d _ _ _ _ _ h;refine⟨?_,q2⟩;rw[q1,ey,FL,bG];rfl
theorem ale(i:∀ln∈aZ,Wh ln∧ln.length=size)(d:∀v∈took,v<aZ.length)(most:Nat):∀(N:Nat) (bs:List Bool) (out:List Int) (a:Nat),out.length+bs.length<=most->fZ N aZ took size bs (lim (most:Int)) out a=fZ N aZ took size bs nh out a:=by
 intro N
 induction N with
 |zero=>intro bs out a h;rfl
 |succ N g=>
  intro bs out a h;unfold fZ;by_cases b:took.length<=out.length/50
  ·rw[if_pos b,if_pos b]
  rw[if_neg b,if_neg b];cases e:fI (aZ.getD (took.getD (out.length/50) 0) []) bs with
  |none=>rfl
  |some s=>
   dsimp only;obtain⟨f,n,m⟩:=pF e;have l:=(ZK i d b).1.at f;have j:nh out (s:Int)=none:=rfl;have k:lim (most:Int) out (s:Int)=none:=if_neg jO;rw[j,k];dsimp only;by_cases c:s+1=size
   ·rw[if_pos c,if_pos c]
   ·rw[if_neg c,if_neg c];refine g _ _ _ ?_;rw[bG,bE];simp only[cP,iP];omega
end
section
variable {size:Nat} {bs:List Bool}
theorem alf:∀c∈jx size bs,0<=c∧c<(size:Int):=by
 intro c h;unfold jx at h;cases f:dE (bs.length+1) fV bs 0 with
 |short=>rw[f]at h;exact absurd h jl
 |bad e=>rw[f]at h;exact absurd h jl
 |ok s a=>
  rw[f]at h;dsimp only at h;cases b:eg s.t size (bs.drop a) 0 []with
  |short=>rw[b]at h;exact absurd h jl
  |bad e=>rw[b]at h;exact absurd h jl
  |ok g u=>
   rw[b]at h;obtain⟨ok,p,fin,o,_,m⟩:=sA _ _ _ _ _ _ sB (aO _) rfl jD f;obtain⟨i,d,_,k⟩:=uR _ _ _ _ _ _ (fun n l=>absurd l jS) b;have d:g.length=s.t:=by rw[d];show 0+s.t=s.t;omega
   exact alc i (fun v j=>by rw[d];exact ok.bw v j) _ _ _ c h
theorem alg{o:List Int}{u:Nat}(h:iF size bs nh= .ok o u):o=jx size bs∧∃i,o=i++[(size:Int)-1]:=by
 unfold iF at h;unfold jx;cases c:dE (bs.length+1) fV bs 0 with
 |short=>rw[c]at h;cases h
 |bad e=>rw[c]at h;cases h
 |ok s a=>
  rw[c]at h;dsimp only at h⊢;cases b:eg s.t size (bs.drop a) 0 []with
  |short=>rw[b]at h;cases h
  |bad e=>rw[b]at h;cases h
  |ok d f=>rw[b]at h;exact ald _ _ _ _ _ _ h
theorem LW(most:Nat)(m:bs.length<=most):iF size bs (lim (most:Int))=iF size bs nh:=by
 unfold iF;cases i:dE (bs.length+1) fV bs 0 with
 |short=>rfl
 |bad e=>rfl
 |ok s a=>
  dsimp only;cases d:eg s.t size (bs.drop a) 0 []with
  |short=>rfl
  |bad e=>rfl
  |ok c u=>
   dsimp only;obtain⟨ok,o,fin,n,_,k⟩:=sA _ _ _ _ _ _ sB (aO _) rfl jD i;obtain⟨f,b,_,h⟩:=uR _ _ _ _ _ _ (fun l j=>absurd j jS) d;have b:c.length=s.t:=by rw[b];show 0+s.t=s.t;omega
   exact ale f (fun v g=>by rw[b];exact ok.bw v g) most _ _ _ _ (by rw[bE];show 0+_<=_;omega)
end
theorem ZL{a:List (List Nat)}{took:List Nat}{size:Nat}:∀(N:Nat) (bs:List Bool) (k:Nat),(kz N a took size bs k).length<=N
 |0,_,_=>ah _
 |N+1,bs,k=>by
  unfold kz;split
  ·exact aO _
  ·split
   ·exact aO _
   ·split
    ·show 1<=N+1;omega
    ·rw[cP];exact Nat.succ_le_succ (ZL N _ _)
theorem alh(size:Nat)(bs:List Bool):(jx size bs).length<=bs.length+1:=by
 unfold jx;split
 ·exact aO _
 ·exact aO _
 ·split
  ·exact aO _
  ·exact aO _
  ·exact ZL _ _ _
theorem ZM{b:List (List Nat)}{took:List Nat}{size:Nat}{most:Int}:∀(N:Nat) (bs:List Bool) (out:List Int) (a:Nat) (e:Int),sx N b took size bs most out a= .err e->e≠0
 |0,bs,out,a,e,h=>by cases h;decide
 |N+1,bs,out,a,e,h=>by
  unfold sx at h;split at h
  ·cases h;decide
  ·split at h
   ·cases h;decide
   ·split at h
    ·cases h;decide
    ·split at h
     ·cases h
     ·exact ZM N _ _ _ e h
theorem ZN:∀(N:Nat) (s:Pk) (bs:List Bool) (a:Nat) (e:Int),dE N s bs a= .bad e->e=25
 |0,s,bs,a,e,h=>by cases h
 |N+1,s,bs,a,e,h=>by
  unfold dE at h;split at h
  ·cases h
  ·split at h
   ·cases h
   ·next e1=>cases h;exact Yu e1
   ·exact ZN N _ _ _ e h
theorem ZO{size:Nat}{bs:List Bool}{most e:Int}(h:qH size bs most= .err e):e≠0:=by
 unfold qH at h;split at h
 ·cases h;decide
 ·next e1=>cases h;rw[ZN _ _ _ _ _ e1];decide
 ·split at h
  ·cases h;decide
  ·next e1=>cases h;rw[YJ _ _ _ _ _ e1];decide
  ·exact ZM _ _ _ _ _ h
theorem ali{l:List Int}(h:∀c∈l,0<=c):iN (ew l)=l:=by unfold iN ew;rw[List.map_map];refine(oN fun c a=> ?_).trans (List.map_id l);exact Int.toNat_of_nonneg (h c a)
theorem alj(s:List Nat)(room b a:Nat)(bs:List Bool)(c:bs.length<=8000):mF s room b a (iF (s.length+2) bs (iY s.length room))=if qP s.length room (jx (s.length+2) bs)=true then mF s room b a (qH (s.length+2) bs 8000)else .bad 25:=by
 rw[ZI,Ez,show((8000:Int))=((8000:Nat):Int)from rfl,LW 8000 c];cases qP s.length room (jx (s.length+2) bs)with
 |true=>rfl
 |false=>rfl
theorem alk{size:Nat}{bs:List Bool}(a:bs.length<=8000){o:List Int}{u:Nat}(h:qH size bs 8000= .ok o u):o=jx size bs∧∃i,o=i++[(size:Int)-1]:=by rw[Ez,show((8000:Int))=((8000:Nat):Int)from rfl,LW 8000 a]at h;exact alg h
theorem alm{b:List (List Nat)}{took:List Nat}{size:Nat}{ck:Ck}:∀(N:Nat) (bs:List Bool) (out:List Int) (a:Nat) (o:List Int) (u:Nat),fZ N b took size bs ck out a= .ok o u->u<=a+bs.length:=by
 intro N
 induction N with
 |zero=>intro bs out a o u h;cases h
 |succ N g=>
  intro bs out a o u h;unfold fZ at h;by_cases f:took.length<=out.length/50
  ·rw[if_pos f]at h;cases h
  rw[if_neg f]at h;cases e:fI (b.getD (took.getD (out.length/50) 0) []) bs with
  |none=>rw[e]at h;cases h
  |some s=>
   rw[e]at h;obtain⟨k,j,i⟩:=pF e;dsimp only at h;cases c:ck out (s:Int)with
   |some x=>rw[c]at h;cases h
   |none=>
    rw[c]at h;dsimp only at h;by_cases d:s+1=size
    ·rw[if_pos d]at h;cases h;omega
    ·rw[if_neg d]at h;have:=g _ _ _ _ _ h;rw[bE]at this;omega
theorem ZP{size:Nat}{bs:List Bool}{ck:Ck}{o:List Int}{u:Nat}(h:iF size bs ck= .ok o u):u<=bs.length:=by
 unfold iF at h;cases c:dE (bs.length+1) fV bs 0 with
 |short=>rw[c]at h;cases h
 |bad e=>rw[c]at h;cases h
 |ok s a=>
  rw[c]at h;dsimp only at h;cases b:eg s.t size (bs.drop a) 0 []with
  |short=>rw[b]at h;cases h
  |bad e=>rw[b]at h;cases h
  |ok f j=>rw[b]at h;obtain⟨_,_,_,_,_,i⟩:=sA _ _ _ _ _ _ sB (aO _) rfl jD c;obtain⟨_,_,_,d⟩:=uR _ _ _ _ _ _ (fun k g=>absurd g jS) b;have:=alm _ _ _ _ _ _ h;rw[bE]at this d;omega
theorem ZQ{z a:Zr}{c m p:Nat}(h:c6 z c=some (a,m,p)):a.n=z.n:=by
 unfold c6 at h;split at h
 ·cases h
 ·split at h
  ·split at h
   ·cases h
   ·cases h;rfl
  ·split at h
   ·cases h;rfl
   ·split at h
    ·cases h
    ·cases h;rfl
theorem ZR:∀(l:List Nat) (z a:Zr) (ps:List Nat),dr z l=some (a,ps)->a.n=z.n
 |[],z,a,ps,h=>by cases h;rfl
 |c::l,z,a,ps,h=>by
  unfold dr at h;cases e:c6 z c with
  |none=>rw[e]at h;cases h
  |some t=>
   obtain⟨f,m,p⟩:=t;rw[e]at h;dsimp only at h;cases d:dr f l with
   |none=>rw[d]at h;cases h
   |some g=>obtain⟨i,b⟩:=g;rw[d]at h;cases h;exact(ZR l f _ b d).trans (ZQ e)
theorem aln{n room:Nat}(h1:1<=n){l ps:List Nat}{z:Zr}(h:dr (eG n room) (l++[n+1])=some (z,ps)):z.done=true:=by
 cases e:dr (eG n room) l with
 |none=>rw[Ax _ _ e]at h;cases h
 |some t=>
  obtain⟨a,b⟩:=t;have c:a.n=n:=ZR _ _ _ _ e;rw[EU l _ a b (n+1) e]at h
  have:c6 a (n+1)=some ({a with told:=a.told+a.aR,aR:=0,weight:=1,done:=true},a.aR,0):=by unfold c6;rw[if_neg jO,if_neg jO,if_pos jO]
  rw[this]at h;cases h;rfl
end Go.Proofs.YtmjolmggelkjlaaGreat
