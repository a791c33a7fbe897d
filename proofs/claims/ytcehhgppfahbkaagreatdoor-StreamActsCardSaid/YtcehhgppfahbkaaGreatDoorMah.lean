import Derived.Test.YtcehhgppfahbkaaGreatDoorMaf
import Derived.Test.YtcehhgppfahbkaaGreatDoorMag
import Derived.Test.YtcehhgppfahbkaaGreatDoorMac
import Derived.Shelf.Strings.Builder1
import Derived.Shelf.Strings.Builder2
import Derived.Shelf.Strings.BuilderF
import Derived.Shelf.Strings.Prefix
import Derived.Shelf.Bits.Mul64
import Derived.Shelf.Strings.Repeat
import Derived.Shelf.Bytes.IndexByte
import Derived.Test.YtcehhgppfahbkaaGreatDoorProg
import Derived.Test.YtcehhgppfahbkaaGreatDoorRows
import Derived.Test.YtcehhgppfahbkaaGreatDoorMab
import Derived.MakeChecks
import Derived.OpenShut
import Derived.ChangeArms
open Nat renaming le_refl→ai, zero_le→bU, beq→bZ, le_succ→cH, lt_succ_self→dK, lt_of_lt_of_le→eD, not_lt_zero→lL, lt_irrefl→sa
open Go.Proofs.Tryz renaming prog→aa, underlying3→Cz, underlying5→adx, isAgg5→ady, sizeOf5→adz, zeroValue5→adA, isAgg3→aq_, sizeOf3→ara, zeroValue3→arb, underlying99→arc, isAgg99→ard, sizeOf99→arf, zeroValue99→arh
open List renaming getD_eq_getElem?_getD→aC, length_append→aG, getElem?_eq_getElem→aJ, range→aY, replicate→bD, append_assoc→bW, getElem_mem→cb, append_nil→cz, length_map→cu, length_take→cB, drop_zero→dx, map_append→dU, take_length→eh, take_succ_eq_append_getElem→fq, getElem?_map→fo, take_of_length_le→fG, length_range→j7, range_succ→mv, map_congr_left→mq, length→lK, ext_getElem→mw, drop_length→my, take_zero→nE, getElem_map→nG, flatMap_cons→pG, getElem_range→xw, map_replicate→zB, getElem?_range→Cu, mem_map→HC, eraseIdx_sublist→HH, flatMap_nil→OL, eraseIdx_of_length_le→adB, eraseIdx_append_of_length_le→ari, length_eraseIdx_of_lt→ark
open Int renaming lt_irrefl→bE, reduceBEq→cZ, reduceBNe→da, reduceLT→db, reduceLE→dc, reduceEq→de, reduceNe→dg, reduceAdd→dh, reduceSub→di, reduceMul→dj, reduceNeg→dk, toNat_natCast→eg, toNat→Cw, mul_nonneg→OK
open Bool renaming not_true→gE, not_false→gO, and_self→Hy
open Go.Value renaming int→gW
open List.Perm renaming refl→uz, swap→ar0
open Decidable renaming byContradiction→zF
open List.cons renaming inj→Ov
open Go.Shelf renaming Ren→aq'
open Go.Proofs.Lays renaming n105→arY, n187→arZ
set_option linter.unusedVariables false
set_option linter.unusedSimpArgs false
namespace Go.Proofs.YtcehhgppfahbkaaGreatDoor
open Go.RowKit Ev Tb
theorem aay{a:Type}(d:a)(p:a->Bool){xs:List a}{i:Nat}(h:i<xs.length):(xs.take (i+1)).all p=((xs.take i).all p&&p (xs.getD i d)):=by rw[fq h,List.all_append,aC,aJ h];simp
theorem MX{a:Type}(d:a)(p:a->Bool){xs:List a}{i:Nat}(h:i<xs.length)(b:p (xs.getD i d)=false):xs.all p=false:=by rw[aC,aJ h]at b;exact List.all_eq_false.2 ⟨_,cb h,by simpa using b⟩
def ef(k:Int)(xs:List Int):Bool:=xs.all fun x=>decide (0<=x)&&decide (x<k)
theorem xd{k:Int}{xs:List Int}:ef k xs=true↔∀x∈xs,0<=x∧x<k:=by unfold ef;simp
theorem yQ{xs:List Int}{i:Nat}(h:i<xs.length):xs.getD i 0∈xs:=by rw[aC,aJ h];exact cb h
theorem aaz{k:Int}{xs:List Int}{i:Nat}(h:i<xs.length)(a:xs.getD i 0<0):ef k xs=false:=
 MX 0 _ h (by show(decide (0<=xs.getD i 0)&&decide (xs.getD i 0<k))=false;rw[decide_eq_false (Int.not_le.2 a)];rfl)
theorem aaA{k:Int}{xs:List Int}{i:Nat}(h:i<xs.length)(a:k<=xs.getD i 0):ef k xs=false:=
 MX 0 _ h (by show(decide (0<=xs.getD i 0)&&decide (xs.getD i 0<k))=false;rw[decide_eq_false (Int.not_lt.2 a),Bool.and_false])
theorem aaB{k x:Int}{xs:List Int}{i:Nat}(h:i<xs.length)(a:ef k (xs.take i)=true)(b:xs.getD i 0=x)(d:0<=x)(c:x<k):ef k (xs.take (i+1))=true:=by unfold ef at a⊢;rw[aay 0 _ h,a,b,decide_eq_true d,decide_eq_true c];rfl
theorem BI{i N:Nat}(h:i<N)(a:N<=9223372036854775807):IntKind.i64.wrap ((i:Int)+1)=((i+1:Nat):Int):=by rw[aV jO jO];rfl
section
variable (lf d n:Nat) (h:H)
theorem ak_(x:Int):ae (fun _=>False) n (eW lf (d+1) 221 #[jI x]) h n fun a h' n'=>a= .bool (decide (0<=x)&&decide (x<=1099511627776))∧h'=h∧n'=n:=by
 rw[aF (fun _=>XV) rfl];refine ae.aE ?_;unfold LG;by_cases c:0<=x
 ·exact jC @c
 ·exact jC @c
theorem ala(x:Int):ae (fun _=>False) n (eW lf (d+2) 220 #[jI x]) h n fun a h' n'=>a= .bool (!(decide (0<=x)&&decide (x<=1099511627776)))∧h'=h∧n'=n:=by rw[aF (fun _=>XU) rfl];refine ae.aE ?_;unfold LF;refine bz (ak_ lf d n h x) (ai _) (fun _ _ h=>h.elim) ?_;exact jE
theorem alb{b:Type}{rec:FuncId->Array Value->M Value}(a:Value)(k:Value->M b):gI aa rec (.func (.func 220) #[] #[]) [a] k=ak rec 220 [a] k:=by unfold gI;show bf (some _) _=_;rw[vd];simp only[show mE aa 220=true by kernel_rfl];exact(lQ _ _).symm
variable (bP:3000000<=lf)
include bP
theorem MY(v:Value)(xs:List Int)(m:Row h n 3 .i64 v xs)(C:xs.length<=1000000):
 ae (fun _=>False) n (eW lf (d+5) 201 #[v]) h n fun e h' n'=>e= .bool (dP 0 1099511627776 xs)∧h'=h∧n'=n:=by
 have t:ae (fun _=>False) n (eW lf (d+3) 218 #[v,.func (.func 220) #[] #[]]) h n fun e h' n'=>(∃r:Int,e=jI r∧decide (0<=r)= !dP 0 1099511627776 xs)∧h'=h∧n'=n:=by
  rw[aF (fun _=>FG) rfl];refine ae.aE ?_;unfold yu;have k:=m;obtain⟨a,c,rfl⟩:=m.len;refine jB ?_;refine cG xs.length (fun l i (_:Unit)=>mQ lf (eW lf (d+2)) l (oX lf (eW lf (d+2))) (.slice a xs.length c) (.func (.func 220) #[] #[]) _ (jI (xs.length:Nat)) (jI (i:Nat))) (fun i _ h' n'=>(h'=h∧n'=n)∧dP 0 1099511627776 (xs.take i)=true) ?_ ?_ lf 0 () h n (bU _) jO ⟨⟨rfl,rfl⟩,rfl⟩
  ·rintro l _ h' n' ⟨⟨rfl,rfl⟩,f⟩;rw[mQ];refine jA @bE ?_
   (try unfold oX);(try dsimp only)
   refine jB ?_;rw[eh]at f;exact⟨-1,rfl,by rw[f];rfl⟩
  ·rintro l i _ h' n' g ⟨⟨rfl,rfl⟩,f⟩ next;obtain⟨b,u,cap,o,E,w,z,D,_,_,_,j⟩:=k.some jO;cases w;have A:(i:Int)<((xs.length:Nat):Int):=jO;have B:=j i g;have q:=BI g jO;rw[mQ];refine jA (aI @A (aI @z (aI @B @alb))) ?_;refine bz (ala lf d n' h' (xs.getD i 0)) (ai _) (fun _ _ h=>h.elim) ?_;cases p:(decide (0<=xs.getD i 0)&&decide (xs.getD i 0<=1099511627776))with
   |true=>refine jA (aI @gE @q) ?_;exact next () _ _ ⟨⟨rfl,rfl⟩,by unfold dP at f⊢;rw[aay 0 _ g,f,p];rfl⟩
   |false=>
    refine jA @gO ?_
    (try unfold oX);(try dsimp only)
    refine jB ?_;have:dP 0 1099511627776 xs=false:=MX 0 _ g p;exact⟨(i:Nat),rfl,by rw[this];simp⟩
 have s:ae (fun _=>False) n (eW lf (d+4) 193 #[v,.func (.func 220) #[] #[]]) h n fun e h' n'=>e= .bool (!dP 0 1099511627776 xs)∧h'=h∧n'=n:=by rw[aF (fun _=>Fl) rfl];refine ae.aE ?_;unfold A2;refine aN aL t (ai _) (fun _ _ h=>h.elim) fun e h' n' _ _ y=> ?_;obtain⟨⟨r,rfl,x⟩,rfl,rfl⟩:=y;refine jB ?_;rw[x]
 rw[aF (fun _=>Xc) rfl];refine ae.aE ?_;unfold Ls;refine bz s (ai _) (fun _ _ h=>h.elim) ?_;rw[Ab,Bool.not_not];exact jE
omit bP in
theorem aaC(a b:Int)(f:0<=a+b)(e:a+b<=9223372036854775807):ae (fun _=>False) n (eW lf (d+1) 202 #[jI a,jI b]) h n fun c h' n'=>c=jI (gM (a+b))∧h'=h∧n'=n:=by rw[aF (fun _=>Xd) rfl];refine ae.aE ?_;unfold Lt;have w:IntKind.i64.wrap (a+b)=a+b:=aV jO jO;refine jA @w ?_;all_goals (first|trivial|rfl|exact⟨rfl,rfl,rfl⟩|exact⟨rfl,rfl⟩)
theorem aaD(v u:Value)(xs ls:List Int)(O:Row h n 3 .i64 v xs)(F:Row h n 3 .i64 u ls)(hl:xs.length<=1000000)(z:ls.length<=1000000):
 ae (fun _=>False) n (eW lf (d+6) 169 #[v,u]) h n fun W h' n'=>W=(if dP 0 1099511627776 ls=true∧ef ls.length xs=true then .tuple #[jI (gN xs ls),jI 0]else .tuple #[jI 0,jI 1])∧h'=h∧n'=n:=by
 obtain⟨r,f⟩:∃r:Value,(if dP 0 1099511627776 ls=true∧ef ls.length xs=true then Value.tuple #[jI (gN xs ls),jI 0]else .tuple #[jI 0,jI 1])=r:=⟨_,rfl⟩;rw[f];rw[aF (fun _=>V8) rfl];refine ae.aE ?_;unfold E8;refine bz (MY lf d n h bP u ls F z) (ai _) (fun _ _ h=>h.elim) ?_;cases w:dP 0 1099511627776 ls with
 |false=>rw[if_neg (by rw[w];simp)]at f;refine jA @gO ?_;rw[<-f]
 |true=>
  have e:=iG.1 w;have D:=O;have E:=F;obtain⟨a,c,rfl⟩:=O.len;obtain⟨a2,T,rfl⟩:=F.len;refine jA @gE ?_;refine cG xs.length (fun I i (a:Int)=>vY lf (eW lf (d+5)) I (ym lf (eW lf (d+5))) _ _ (jI 0) (jI 0) (jI a) (.bool false) _ (jI (xs.length:Nat)) (jI (i:Nat))) (fun i a h' n'=>(h'=h∧n'=n)∧a=gN (xs.take i) ls∧ef ls.length (xs.take i)=true) ?_ ?_ lf 0 0 h n (bU _) jO ⟨⟨rfl,rfl⟩,rfl,rfl⟩
  ·rintro I q h' n' ⟨⟨rfl,rfl⟩,rfl,p⟩;rw[vY];refine jA @bE ?_
   (try unfold ym);(try dsimp only)
   refine jB ?_;rw[eh]at p⊢;rw[<-f,if_pos ⟨w,p⟩]
  ·rintro I i q h' n' g ⟨⟨rfl,rfl⟩,rfl,p⟩ next;obtain⟨b,X,cap,o,cs,Z,B,m,_,_,_,C⟩:=D.some jO;cases Z;have J:(i:Int)<((xs.length:Nat):Int):=jO;have s:=C i g;have U:=BI g jO;rw[vY];by_cases G:xs.getD i 0<0
   ·have m:ef ls.length xs=false:=aaz g G;refine jA (aI @J (aI @B (aI @s @G))) ?_
    (try unfold ym);(try dsimp only)
    refine jB ?_;rw[<-f,if_neg (by rw[m];simp)]
   ·by_cases P:((ls.length:Nat):Int)<=xs.getD i 0
    ·have m:ef ls.length xs=false:=aaA g P;refine jA (aI @J (aI @B (aI @s (aI @G @P)))) ?_
     (try unfold ym);(try dsimp only)
     refine jB ?_;rw[<-f,if_neg (by rw[m];simp)]
    ·obtain⟨b2,K,R,o2,u1,t,A,u0,_,_,_,j⟩:=E.some jO;cases t;obtain⟨x,N⟩:∃x:Nat,xs.getD i 0=(x:Int):=⟨(xs.getD i 0).toNat,jO⟩;have T:=j x jO;have k:=e (ls.getD x 0) (yQ jO);have Q:(x:Int)<((ls.length:Nat):Int):=jO;have e4:¬((ls.length:Nat):Int)<=(x:Int):=jO;have e5:¬((x:Int)<0):=jO;have k1:=MQ (l:=xs.take i) fun y k=>(e y k).1;have k2:=Gw (xs.take i) ls;have L:=ak4 (l:=xs) (fun y k=>(e y k).1) g;rw[N]at s L;have Y:Tb.look ls (x:Int)=ls.getD x 0:=by unfold Tb.look;rw[eg]
     refine jA (aI @J (aI @B (aI @s (aI @e4 (aI @e5 (aI @Q (aI @A @T))))))) ?_;refine bz (aaC lf (d+4) n' h' _ _ jO jO) (ai _) (fun _ _ h=>h.elim) ?_;refine jA @U ?_;exact next _ _ _ ⟨⟨rfl,rfl⟩,by rw[<-Y,L],aaB g p N jO Q⟩
end
theorem MZ(k:IntKind)(l:List Int)(i:Nat)(x:Int):(aH k l).set i (.int k x)=aH k (l.set i x):=by unfold aH;rw[List.map_set]
theorem Gy(k:IntKind)(n:Nat)(x:Int):bD n (gW k x)=aH k (bD n x):=by unfold aH;rw[zB]
theorem Row.Gz{h:H}{n b:Nat}{e:TypeId}{o:Bool}{xs:List Int}{m:Nat}(c:h.get b=some ⟨e,o,aH .i64 xs⟩)(d:b<n)(a:xs.length=m):Row h n e .i64 (.slice (some ⟨b,0,none⟩) m m) xs:=by subst a;exact .inr ⟨b,0,xs.length,o,_,rfl,c,d,by rw[cj];omega,by rw[dx,fG (by rw[cj];omega)],ai _⟩
theorem alc {i:Type} {W:Nat->Prop} {n0:Nat} {h:H} {n:Nat} {Q:i->H->Nat->Prop} {v:Value} {xs:List Int} (u:Row h n 3 .i64 v xs) {l hh:Nat} (w:l<hh) (h2:hh<=xs.length) {q f:IntKind} (k:Value->M i)
 (y:∀j,Row h n 3 .i64 j ((xs.drop l).take (hh-l))->ae W n0 (k j) h n Q):ae W n0 (lR 3 1 v (some (.int q (l:Int))) (some (.int f (hh:Int))) k) h n Q:=by
 rcases u with ⟨a,c,rfl,_,rfl⟩|⟨b,e,cap,o,g,rfl,m,p,s,r,t⟩
 ·simp at h2;omega
 ·refine yc trivial m rfl p e xs.length cap _ _ (ri _ _ _) (ri _ _ _) jO h2 t _ trivial ?_;rw[if_neg jO];have d:((xs.drop l).take (hh-l)).length=hh-l:=by simp;omega
  refine y _ (.inr ⟨b,e+l,cap-l,o,g,by rw[d],m,p,by rw[d];omega, ?_,by rw[d];omega⟩);rw[d]
  have:(g.drop (e+l)).take (hh-l)=(((g.drop e).take xs.length).drop l).take (hh-l):=by rw[List.drop_take,List.take_take,List.drop_drop,Nat.min_eq_left jO]
  rw[this,r];unfold aH;rw[List.map_take,List.map_drop]
section
variable (lf d n:Nat) (h:H) (bP:3000000<=lf)
theorem ald(v:Value)(z:Int)(e:z<3∨258<z):ae (fun _=>False) n (eW lf (d+1) 188 #[v,jI z]) h n fun a h' n'=>a= .tuple #[.slice none 0 0,jI 1]∧h'=h∧n'=n:=by
 rw[aF (fun _=>Ld) rfl];refine ae.aE ?_;unfold AW;by_cases c:z<3
 ·exact jC @c
 ·have b:258<z:=jO;exact jC (aI @c @b)
include bP
theorem M0(v:Value)(xs:List Int)(B:Row h n 3 .i64 v xs)(R:xs.length<=1000000)(s:Nat)(T:3<=s)(C:s<=258):
 ae (fun _=>False) n (eW lf (d+1) 188 #[v,jI (s:Int)]) h n fun A h' n'=>(ef s xs=true∧∃u,A= .tuple #[u,jI 0]∧Row h' n' 3 .i64 u (dn xs s))∨(ef s xs=false∧A= .tuple #[.slice none 0 0,jI 1]):=by
 rw[aF (fun _=>Ld) rfl];refine ae.aE ?_;unfold AW;have t:=B;obtain⟨a,c,rfl⟩:=B.len;have L:¬((s:Int)<3):=jO;have K:¬((258:Int)<(s:Int)):=jO;refine jA (aI @L @K) ?_;refine Ev.run_make trivial s s _ (ai _) jO ?_;refine jB ?_
 refine cG xs.length (fun y i (_:Unit)=>wg lf (eW lf d) y (yo lf (eW lf d)) _ _ (.slice none 0 0) (jI 0) (.slice (some ⟨n,0,none⟩) s s) (.bool false) _ (jI (xs.length:Nat)) (jI (i:Nat)))
  (fun i _ h' n'=>n'=n+1∧(∀b,b<n->h'.get b=h.get b)∧h'.get n=some ⟨3,true,aH .i64 (dn (xs.take i) s)⟩∧ef s (xs.take i)=true) ?_ ?_ lf 0 () _ _ (bU _) jO ⟨rfl,fun b e=>aB _ _ jO,by rw[get_eq,nE,aap,Gy],rfl⟩
 ·rintro y _ h' n' ⟨rfl,m,g,j⟩;rw[wg];refine jA @bE ?_
  (try unfold yo);(try dsimp only)
  refine jB ?_;rw[eh]at j g;exact .inl ⟨j,_,rfl,Row.Gz g jO (ja _ _)⟩
 ·rintro y i _ h' n' f ⟨rfl,m,p,j⟩ next;have r:=t.ay (cH n) m;obtain⟨b,F,cap,o,U,G,g,e,_,_,_,q⟩:=r.some jO;cases G;have z:(i:Int)<((xs.length:Nat):Int):=jO;have k:=q i f;have Q:=BI f jO;rw[wg];by_cases w:xs.getD i 0<0
  ·have e:ef s xs=false:=aaz f w;refine jA (aI @z (aI @g (aI @k @w))) ?_
   (try unfold yo);(try dsimp only)
   refine jB ?_
   first|exact .inr e|exact .inr ⟨e,rfl⟩
  ·by_cases D:(s:Int)<=xs.getD i 0
   ·have e:ef s xs=false:=aaA f D;refine jA (aI @z (aI @g (aI @k (aI @w @D)))) ?_
    (try unfold yo);(try dsimp only)
    refine jB ?_
    first|exact .inr e|exact .inr ⟨e,rfl⟩
   ·obtain⟨x,l⟩:∃x:Nat,xs.getD i 0=(x:Int):=⟨(xs.getD i 0).toNat,jO⟩;have J:¬(s:Int)<=(x:Int):=jO;have I:¬((x:Int)<0):=jO;have E:(x:Int)<(s:Int):=jO
    have P:(aH .i64 (dn (xs.take i) s))[x]? =some (jI (eQ (xs.take i) x:Int)):=by rw[Ro (by rw[ja];omega),MR jO]
    have O:=ak5 f l (show x<s by omega);have X:=yO (xs.take i) x;have W:(xs.take i).length<=1000000:=by rw[cB];omega
    have N:IntKind.i64.wrap ((eQ (xs.take i) x:Int)+1)=(eQ (xs.take i) x:Int)+1:=aV jO jO;rw[l]at k;refine jA (aI @z (aI @g (aI @k (aI @J (aI @I (aI @E (aI @p (aI @P (aI @N (aI @MZ (aI @O (aI @cj @ja)))))))))))) ?_;refine⟨jO,.inl jO, ?_⟩;rw[show(i:Int)+1=((i+1:Nat):Int) by omega];refine next () _ _ ⟨rfl,fun b e=>by rw[aB _ _ jO];exact m b e,get_eq _ _ _,aaB f j l jO E⟩
omit bP in
theorem GA(x:Nat)(j:x<=9223372036854775807):ae (fun _=>False) n (eW lf (d+1) 167 #[jI (x:Int)]) h n fun b h' n'=>b=jI (dq x:Int)∧h'=h∧n'=n:=by
 rw[aF (fun _=>V4) rfl];refine ae.aE ?_;unfold KP;by_cases c:x=0
 ·subst c;have a:((0:Nat):Int)<=0:=jO;refine jA @a ?_;all_goals (first|trivial|rfl|exact⟨rfl,rfl,rfl⟩|exact⟨rfl,rfl⟩)
 ·have a:¬((x:Int)<=0):=jO;have i:IntKind.i64.wrap ((x:Int)-1)=((x-1:Nat):Int):=by rw[aV jO jO];omega
  have g:((x-1:Nat):Int).tdiv 50=(((x-1)/50:Nat):Int):=rfl;have f:IntKind.i64.wrap (((x-1)/50:Nat):Int)=(((x-1)/50:Nat):Int):=aV jO jO;have e:IntKind.i64.wrap ((((x-1)/50:Nat):Int)+1)=(dq x:Int):=by rw[aV jO jO];unfold dq;omega
  exact jC (aI @a (aI @i (aI @g (aI @f @e))))
omit bP in
theorem aaE(v:Value)(xs:List Int)(m:Row h n 3 .i64 v xs)(D:xs.length<=1000000)(i:Nat)(l:i<dq xs.length):
 ae (fun _=>False) n (eW lf (d+3) 168 #[v,jI (i:Int)]) h n fun b h' n'=>∃u,b= .tuple #[u,jI 0]∧Row h' n' 3 .i64 u (eN xs i):=by
 rw[aF (fun _=>V5) rfl];refine ae.aE ?_;unfold KQ;have g:=m;obtain⟨a,c,rfl⟩:=m.len;have C:¬((i:Int)<0):=jO;refine jA @C ?_;refine bz (GA lf (d+1) n h xs.length jO) (ai _) (fun _ _ h=>h.elim) ?_;have B:¬((dq xs.length:Int)<=(i:Int)):=jO;refine jA @B ?_;have s:=aau l;unfold dq at l
 have p:ae (fun _=>False) n (eW lf (d+2) 200 #[.slice a xs.length c,jI (i:Int),jI 50]) h n fun b h' n'=>Row h' n' 3 .i64 b (eN xs i):=by
  rw[aF (fun _=>Xb) rfl];refine ae.aE ?_;unfold Lr;have A:IntKind.i64.wrap ((i:Int)*50)=((50*i:Nat):Int):=by rw[aV jO jO];omega
  have z:IntKind.i64.wrap ((i:Int)+1)=((i+1:Nat):Int):=BI (N:=1000000) jO jO;have y:IntKind.i64.wrap (((i+1:Nat):Int)*50)=((50*i+50:Nat):Int):=by rw[aV jO jO];omega
  have x:(if((50*i+50:Nat):Int)<((xs.length:Nat):Int)then((50*i+50:Nat):Int)else((xs.length:Nat):Int))=((min xs.length (50*i+50):Nat):Int):=by split<;>omega
  refine jA (aI @A (aI @z (aI @y @x))) ?_;refine alc g jO jO _ fun b k=> ?_
  have t:(xs.drop (50*i)).take (min xs.length (50*i+50)-50*i)=eN xs i:=by
   unfold eN;by_cases q:xs.length<=50*i+50
   ·rw[fG (by simp;omega),fG (by simp;omega)]
   ·congr 1;omega
  rw[t]at k;refine aN aL (yz lf d n h b _ k s (by rw[BF];omega)) (ai _) (fun _ _ h=>h.elim) fun o w r f j e=> ?_;refine jB ?_;exact e.2.1
 refine aN aL p (ai _) (fun _ _ h=>h.elim) fun o w r f j e=> ?_;refine jB ?_;exact⟨_,rfl,e⟩
theorem ale(v u:Value)(xs ys:List Int)(F:Row h n 3 .i64 v xs)(G:Row h n 3 .i64 u ys)(R:xs.length<=1000000)(r:xs.length=ys.length)(E:dP 0 1099511627776 xs=true)(D:dP 0 1099511627776 ys=true):
 ae (fun _=>False) n (eW lf (d+6) 216 #[v,u]) h n fun L h' n'=>∃z,L= .tuple #[z,jI 0]∧Row h' n' 3 .i64 z (mZ xs ys)∧∀b,az z b->n<=b:=by
 rw[aF (fun _=>XJ) rfl];refine ae.aE ?_;unfold FD;have k:=F;have l:=G;obtain⟨a,c,rfl⟩:=F.len;obtain⟨a2,K,rfl⟩:=G.len;have W:(((xs.length:Nat):Int) !=((ys.length:Nat):Int))=false:=by rw[r];simp
 refine jA @W ?_;refine bz (MY lf d n h bP _ xs k R) (ai _) (fun _ _ h=>h.elim) ?_;rw[E];refine jA @gE ?_;refine bz (MY lf d n h bP _ ys l jO) (ai _) (fun _ _ h=>h.elim) ?_;rw[D];refine jA @gE ?_;refine Ev.run_make trivial xs.length xs.length _ (ai _) jO ?_;refine jB ?_;have e:(mZ xs ys).length=xs.length:=by unfold mZ;simp
 have B:∀i,i<xs.length->(mZ xs ys).getD i 0=gM (xs.getD i 0+ys.getD i 0):=fun i f=>by unfold mZ;rw[aC,fo,Cu f];rfl
 have s:=iG.1 E;have q:=iG.1 D
 refine cG xs.length (fun A i (_:Unit)=>wA lf (eW lf (d+5)) A (FC lf (eW lf (d+5))) _ _ (.slice none 0 0) (jI 0) (.slice (some ⟨n,0,none⟩) xs.length xs.length) (.bool false) (jI (xs.length:Nat)) (jI (i:Nat)))
  (fun i _ h' n'=>n'=n+1∧(∀b,b<n->h'.get b=h.get b)∧h'.get n=some ⟨3,true,aH .i64 (part (mZ xs ys) i)⟩) ?_ ?_ lf 0 () _ _ (bU _) jO ⟨rfl,fun b g=>aB _ _ jO,by rw[get_eq,MC,e,Gy]⟩
 ·rintro A _ h' n' ⟨rfl,m,p⟩;rw[wA];refine jA @bE ?_
  (try unfold FC);(try dsimp only)
  refine jB ?_;rw[<-e,MB]at p;exact⟨_,rfl,Row.Gz p jO e,fun b g=>by rw[g.inj];exact ai n⟩
 ·rintro A i _ h' n' f ⟨rfl,m,w⟩ next;obtain⟨b,P,cap,o,cs,Q,p,g,_,_,_,y⟩:=(k.ay (cH n) m).some jO;cases Q;obtain⟨Z,C,J,o2,X,t,x,T,_,_,_,j⟩:=(l.ay (cH n) m).some jO;cases t;have I:(i:Int)<((xs.length:Nat):Int):=jO;have U:(i:Int)<((ys.length:Nat):Int):=jO;have Y:=y i f;have K:=j i jO;have w1:=BI f jO;have b1:=s _ (yQ f);have Z:=q _ (yQ (show i<ys.length by omega));have O:(part (mZ xs ys) i).length=xs.length:=by rw[Mz _ jO,e]
  have N:(part (mZ xs ys) i).set i (gM (xs.getD i 0+ys.getD i 0))=part (mZ xs ys) (i+1):=by rw[<-B i f,MA jO]
  rw[wA];refine jA (aI @I (aI @U (aI @p (aI @Y (aI @x @K))))) ?_;refine bz (aaC lf (d+4) _ h' _ _ jO jO) jO (fun _ _ h=>h.elim) ?_;refine jA (aI @I (aI @w (aI @MZ (aI @cj (aI @O @N))))) ?_;refine⟨jO,.inl jO, ?_⟩;rw[show(i:Int)+1=((i+1:Nat):Int) by omega];exact next () _ _ ⟨rfl,fun b g=>by rw[aB _ _ jO];exact m b g,get_eq _ _ _⟩
end
section
variable (lf d n:Nat) (h:H) (bP:3000000<=lf)
theorem alf(z:Int):ae (fun _=>False) n (eW lf (d+1) 223 #[jI z]) h n fun a h' n'=>a=jI (gM z)∧h'=h∧n'=n:=by
 rw[aF (fun _=>aiN) rfl];refine ae.aE ?_;unfold XX gM;by_cases c:1099511627776<z
 ·exact jC @c
 ·exact jC @c
include bP
theorem aaF(v:Value)(xs:List Int)(s:Row h n 3 .i64 v xs)(C:xs.length<=1000000)(z:Nat):
 ae (fun _=>False) n (eW lf (d+1) 206 #[v,jI (z:Int)]) h n fun w h' n'=>w=jI (eQ xs z:Int)∧h'=h∧n'=n:=by
 rw[aF (fun _=>aiw) rfl];refine ae.aE ?_;unfold Lv;have l:=s;obtain⟨a,c,rfl⟩:=s.len;refine jB ?_;refine cG xs.length (fun m i (a:Nat)=>tJ lf (eW lf d) m (Fu lf (eW lf d)) _ _ _ (jI (a:Int)) _ (jI (xs.length:Nat)) (jI (i:Nat))) (fun i a h' n'=>(h'=h∧n'=n)∧a=eQ (xs.take i) z) ?_ ?_ lf 0 0 h n (bU _) jO ⟨⟨rfl,rfl⟩,rfl⟩
 ·rintro m q h' n' ⟨⟨rfl,rfl⟩,rfl⟩;rw[tJ,eh];refine jA @bE ?_
  (try unfold Fu);(try dsimp only)
  exact jE
 ·rintro m i q h' n' p ⟨⟨rfl,rfl⟩,rfl⟩ next;obtain⟨b,x,cap,o,E,y,r,D,_,_,_,k⟩:=l.some jO;cases y;have t:(i:Int)<((xs.length:Nat):Int):=jO;have u:=k i p;have B:=yO (xs.take i) z;have A:(xs.take i).length<=1000000:=by rw[cB];omega
  have f:=aao p z;rw[tJ];by_cases g:xs.getD i 0=(z:Int)
  ·have j:((z:Int)==xs.getD i 0)=true:=by rw[g];simp
   rw[if_pos g]at f;refine jA (aI @t (aI @r (aI @u @j))) ?_;exact next (eQ (xs.take i) z+1) _ _ ⟨⟨rfl,rfl⟩,f.symm⟩
  ·have j:((z:Int)==xs.getD i 0)=false:=beq_eq_false_iff_ne.2 fun e=>g e.symm;rw[if_neg g]at f;refine jA (aI @t (aI @r (aI @u @j))) ?_;exact next (eQ (xs.take i) z) _ _ ⟨⟨rfl,rfl⟩,f.symm⟩
theorem aaG(v:Value)(xs:List Int)(p:Row h n 3 .i64 v xs)(m:xs.length<=1000000)(s:Nat)(w:s<=1000):
 ae (fun _=>False) n (eW lf (d+2) 174 #[v,jI (s:Int)]) h n fun k h' n'=>Row h' n' 3 .i64 k (dn xs s):=by
 rw[aF (fun _=>aia) rfl];refine ae.aE ?_;unfold KX;refine cG s (fun f i (u:Value)=>vZ lf (eW lf (d+1)) f (E' lf (eW lf (d+1))) _ _ _ u (jI (s:Nat)) (jI (i:Nat))) (fun i u h' n'=>n<=n'∧(∀b,b<n->h'.get b=h.get b)∧Own h' n n' 3 u (aH .i64 (dn xs i))) ?_ ?_ lf 0 _ h n (bU _) jO ⟨ai _,fun _ _=>rfl,Own.nil _ _ _ _⟩
 ·rintro f u h' n' ⟨c,e,a⟩;rw[vZ];refine jA @bE ?_
  (try unfold E');(try dsimp only)
  refine jB ?_;exact a.row
 ·rintro f i u h' n' x ⟨c,e,a⟩ next;have t:(i:Int)<(s:Int):=jO;rw[vZ];refine jA @t ?_;refine bz (aaF lf d n' h' bP v xs (p.ay c e) m i) c (fun _ _ h=>h.elim) ?_;refine fJ trivial (eI _ _) a (by rw[cj,ja];omega) (ai _) _ fun r g l=> ?_;refine jB ?_
  have j:aH .i64 (dn xs i)++[jI (eQ xs i:Int)]=aH .i64 (dn xs (i+1)):=by unfold dn aH;rw[mv,dU,dU];rfl
  rw[j]at g;exact next _ r (n'+2) ⟨jO,fun b o=>by rw[l b jO fun q=>by have:=(a.lt q).1;omega];exact e b o,Own.mk' g jO jO (by rw[<-j];simp)⟩
theorem aaH(v u:Value)(xs ls:List Int)(J:Row h n 3 .i64 v xs)(B:Row h n 3 .i64 u ls)(G:xs.length<=1000000)(F:ls.length<=1000000)(z:∀y∈ls,0<=y∧y<=1099511627776)(g:ef ls.length xs=true):
 ae (fun _=>False) n (eW lf (d+2) 207 #[v,u]) h n fun C h' n'=>C=jI (gN xs ls)∧h'=h∧n'=n:=by
 rw[aF (fun _=>aiz) rfl];refine ae.aE ?_;unfold Lw;have s:=B;obtain⟨a,c,rfl⟩:=B.len;refine jB ?_;refine cG ls.length (fun l i (a:Int)=>tL lf (eW lf (d+1)) l (A4 lf (eW lf (d+1))) _ _ (jI 0) (jI a) _ (jI (ls.length:Nat)) (jI (i:Nat))) (fun i a h' n'=>(h'=h∧n'=n)∧a=gM (qp xs ls i)) ?_ ?_ lf 0 0 h n (bU _) jO ⟨⟨rfl,rfl⟩,rfl⟩
 ·rintro l q h' n' ⟨⟨rfl,rfl⟩,rfl⟩;rw[tL];refine jA @bE ?_
  (try unfold A4);(try dsimp only)
  refine jB ?_;unfold qp gN;rw[aar (xd.1 g)]
 ·rintro l i q h' n' A ⟨⟨rfl,rfl⟩,rfl⟩ next;obtain⟨b,D,cap,o,X,E,I,U,_,_,_,r⟩:=s.some jO;cases E;have L:(i:Int)<((ls.length:Nat):Int):=jO;have N:=r i A;rw[tL];refine jA (aI @L (aI @I @N)) ?_;refine bz (aaF lf d _ h' bP v xs J G i) (ai _) (fun _ _ h=>h.elim) ?_;obtain⟨y,p⟩:∃y,ls.getD i 0=y:=⟨_,rfl⟩;have f:=z _ (yQ A);rw[p]at f;rw[p]
  have W:0<=qp xs ls i:=by unfold qp;refine Gv fun x g=> ?_;obtain⟨w,_,rfl⟩:=HC.1 g;exact OK jO (aas (fun x g=>(z x g).1) w)
  have O:=yO xs i;refine cG (eQ xs i) (fun t j (a:Int)=>wx lf (eW lf (d+1)) t (Xm lf (eW lf (d+1)) l (A4 lf (eW lf (d+1)))) _ _ _ (jI a) _ (jI y) _ _ (jI (i:Nat)) _ (jI (eQ xs i:Nat)) (jI (j:Nat))) (fun j a k m=>(k=h'∧m=n')∧a=gM (qp xs ls i+(j:Int)*y)) ?_ ?_ lf 0 _ h' n' (bU _) jO ⟨⟨rfl,rfl⟩,jS⟩
  ·rintro t q k m ⟨⟨rfl,rfl⟩,rfl⟩;rw[wx];refine jA @bE ?_
   (try unfold Xm);(try unfold Fv);(try dsimp only)
   refine jB ?_;exact next _ _ _ ⟨⟨rfl,rfl⟩,by rw[ak6,p]⟩
  ·rintro t j q k m T ⟨⟨rfl,rfl⟩,rfl⟩ e;have K:(j:Int)<((eQ xs i:Nat):Int):=jO;have R:0<=(j:Int)*y:=OK jO f.1;have Q:=MM (qp xs ls i+(j:Int)*y);have P:=MN (x:=qp xs ls i+(j:Int)*y) jO;rw[wx];refine jA @K ?_;refine bz (alf lf d _ k _) (ai _) (fun _ _ h=>h.elim) ?_;refine jB ?_;refine e _ _ _ ⟨⟨rfl,rfl⟩, ?_⟩;rw[ML f.1];congr 1;simp only[Int.natCast_add,Int.add_mul,Int.natCast_one,Int.one_mul];omega
end
end Go.Proofs.YtcehhgppfahbkaaGreatDoor
namespace Go.Proofs.YtcehhgppfahbkaaGreatDoor.Ev
open Go Go.RowKit
theorem alg{P:Program}{kn:List FuncId}(i:sC P=true)(c:qK P kn=true)(a:P.follows .mixedOrders=true)(j:uL P kn)(hd:mO P=true){gt:Nat->Hint}{lf d:Nat}{f:FuncId}{w:World}{m:Mp}{h:H}(x:Laid P w m h P.globals.size)(b:CN (va kn P gt lf d f #[] h P.globals.size)=true):
 Calls P f #[] w fun e w'=>e= .returned (.bool true)∧Below w.heap.size w w':=by
 cases g:va kn P gt lf d f #[] h P.globals.size with
 |none=>rw[g]at b;cases b
 |some o=>obtain⟨v,p,n,L⟩:=o;rw[g]at b;obtain⟨l,k⟩:=P' hd d f #[] h _ v p n L g;refine af6 i c a j x (fuel:=l) ?_;have e:dm P kn l f #[] h P.globals.size=some ⟨v,p,n,L⟩:=k l (ai _);rw[e];exact b
noncomputable def GB:Nat->Type
 |0=>M Value
 |n+1=>Value->GB n
noncomputable def aQ:(n:Nat)->GB n->(List Value->M Value)->List Value->M Value
 |0,F,_,[]=>F
 |n+1,F,K,v::s=>aQ n (F v) (fun s=>K (v::s)) s
 |0,_,K,x::s=>K (x::s)
 |_+1,_,K,[]=>K []
noncomputable def aaI:(n:Nat)->GB n->(List Value->M Value)->Prop
 |0,F,K=>F=K []
 |n+1,F,K=>∀v,aaI n (F v) (fun s=>K (v::s))
theorem aS:∀(n:Nat) (F:GB n) (K:List Value->M Value),aaI n F K->aQ n F K=K:=by
 intro n
 induction n with
 |zero=>
  intro F K h;funext s;cases s with
  |nil=>exact h
  |cons x s=>rfl
 |succ n a=>
  intro F K h;funext s;cases s with
  |nil=>rfl
  |cons v s=>show aQ n (F v) (fun s=>K (v::s)) s=_;rw[a (F v) (fun s=>K (v::s)) (h v)]
noncomputable def GC {a:Type} (f:Nat):List (Nat×a)->Option a
 |[]=>none
 |p::r=>match bZ p.1 f with
  |true=>some p.2
  |false=>GC f r
abbrev BJ:=List (Nat×(Nat->(FuncId->Array Value->M Value)->List Value->M Value))
noncomputable def GD (C:Nat->FuncId->Array Value->M Value):BJ->Prop
 |[]=>True
 |p::r=>(∀d,p.2 d (C d)=fun l=>C (d+1) p.1 l.toArray)∧GD C r
theorem aaJ{C:Nat->FuncId->Array Value->M Value}{f:Nat}{E:Nat->(FuncId->Array Value->M Value)->List Value->M Value}:∀{T:BJ},GD C T->GC f T=some E->∀d,E d (C d)=fun l=>C (d+1) f l.toArray
 |[],_,h=>by cases h
 |p::r,b,h=>by
  unfold GC at h;cases a:bZ p.1 f with
  |true=>rw[a]at h;cases h;rw[<-Nat.eq_of_beq_eq_true a];exact b.1
  |false=>rw[a]at h;exact aaJ b.2 h
noncomputable def GF (C:Nat->FuncId->Array Value->M Value) (T:BJ):Nat->FuncId->Array Value->M Value
 |0,f,a=>C 0 f a
 |d+1,f,a=>match GC f T with
  |some E=>E d (GF C T d) a.toList
  |none=>C (d+1) f a
theorem aaK{C:Nat->FuncId->Array Value->M Value}{T:BJ}(b:GD C T):∀d,GF C T d=C d
 |0=>rfl
 |d+1=>by
  have c:=aaK b d;funext f a;unfold GF;rw[c];split
  ·rename_i E e;rw[aaJ b e d]
  ·rfl
end Go.Proofs.YtcehhgppfahbkaaGreatDoor.Ev
namespace Go.Proofs.YtcehhgppfahbkaaGreatDoor
open Go Ev
def uc:List FuncId:=[229,158,211]
noncomputable section
def eC(lf:Nat):Nat->FuncId->Array Value->M Value:=va uc aa gt lf
theorem aR{lf d:Nat}{f:FuncId}{a:Array Value}{X:M Value}(s:aD aa gt lf (eC lf d) f a=X)(h:uc.contains f=false:=by rfl):X=eC lf (d+1) f a:=by
 show X=(match uc.contains f with
  |true=>_
  |false=>aD aa gt lf (eC lf d) f a:M Value)
 rw[h];exact s.symm
def aaL(lf:Nat):BJ:=[(10,fun d r=>aQ 0 (inside (JH lf r)) fun l=>eC lf (d+1) 10 l.toArray),
 (15,fun d r=>aQ 2 (fun a b=>inside (Sk lf r a b)) fun l=>eC lf (d+1) 15 l.toArray),
 (29,fun d r=>aQ 1 (fun a=>inside (SD lf r a)) fun l=>eC lf (d+1) 29 l.toArray),
 (11,fun d r=>aQ 3 (fun a b c=>inside (JI lf r a b c)) fun l=>eC lf (d+1) 11 l.toArray),
 (16,fun d r=>aQ 2 (fun a b=>inside (Sl lf r a b)) fun l=>eC lf (d+1) 16 l.toArray),
 (18,fun d r=>aQ 1 (fun a=>inside (Ar lf r a)) fun l=>eC lf (d+1) 18 l.toArray),
 (17,fun d r=>aQ 2 (fun a b=>inside (JJ lf r a b)) fun l=>eC lf (d+1) 17 l.toArray),
 (19,fun d r=>aQ 3 (fun a b c=>inside (As lf r a b c)) fun l=>eC lf (d+1) 19 l.toArray),
 (21,fun d r=>aQ 1 (fun a=>inside (DY lf r a)) fun l=>eC lf (d+1) 21 l.toArray),
 (20,fun d r=>aQ 1 (fun a=>inside (JL lf r a)) fun l=>eC lf (d+1) 20 l.toArray),
 (55,fun d r=>aQ 0 (inside (JP lf r)) fun l=>eC lf (d+1) 55 l.toArray),
 (56,fun d r=>aQ 3 (fun a b c=>inside (D3 lf r a b c)) fun l=>eC lf (d+1) 56 l.toArray),
 (52,fun d r=>aQ 1 (fun a=>inside (SG lf r a)) fun l=>eC lf (d+1) 52 l.toArray),
 (53,fun d r=>aQ 2 (fun a b=>inside (SH lf r a b)) fun l=>eC lf (d+1) 53 l.toArray),
 (54,fun d r=>aQ 1 (fun a=>inside (SI lf r a)) fun l=>eC lf (d+1) 54 l.toArray),
 (57,fun d r=>aQ 1 (fun a=>inside (Av lf r a)) fun l=>eC lf (d+1) 57 l.toArray),
 (24,fun d r=>aQ 4 (fun a b c d=>inside (Au lf r a b c d)) fun l=>eC lf (d+1) 24 l.toArray),
 (59,fun d r=>aQ 2 (fun a b=>inside (JS lf r a b)) fun l=>eC lf (d+1) 59 l.toArray),
 (60,fun d r=>aQ 1 (fun a=>inside (D6 lf r a)) fun l=>eC lf (d+1) 60 l.toArray),
 (58,fun d r=>aQ 1 (fun a=>inside (JR lf r a)) fun l=>eC lf (d+1) 58 l.toArray),
 (89,fun d r=>aQ 2 (fun a b=>inside (JZ lf r a b)) fun l=>eC lf (d+1) 89 l.toArray),
 (90,fun d r=>aQ 2 (fun a b=>inside (J0 lf r a b)) fun l=>eC lf (d+1) 90 l.toArray),
 (82,fun d r=>aQ 0 (inside (Ta lf r)) fun l=>eC lf (d+1) 82 l.toArray),
 (83,fun d r=>aQ 0 (inside (Tc lf r)) fun l=>eC lf (d+1) 83 l.toArray),
 (84,fun d r=>aQ 1 (fun a=>inside (Td lf r a)) fun l=>eC lf (d+1) 84 l.toArray),
 (85,fun d r=>aQ 2 (fun a b=>inside (Te lf r a b)) fun l=>eC lf (d+1) 85 l.toArray),
 (86,fun d r=>aQ 3 (fun a b c=>inside (Tf lf r a b c)) fun l=>eC lf (d+1) 86 l.toArray),
 (87,fun d r=>aQ 1 (fun a=>inside (Tg lf r a)) fun l=>eC lf (d+1) 87 l.toArray),
 (88,fun d r=>aQ 1 (fun a=>inside (Th lf r a)) fun l=>eC lf (d+1) 88 l.toArray),
 (91,fun d r=>aQ 1 (fun a=>inside (Ea lf r a)) fun l=>eC lf (d+1) 91 l.toArray),
 (92,fun d r=>aQ 1 (fun a=>inside (J2 lf r a)) fun l=>eC lf (d+1) 92 l.toArray),
 (93,fun d r=>aQ 2 (fun a b=>inside (Eb lf r a b)) fun l=>eC lf (d+1) 93 l.toArray),
 (94,fun d r=>aQ 1 (fun a=>inside (J3 lf r a)) fun l=>eC lf (d+1) 94 l.toArray),
 (63,fun d r=>aQ 2 (fun a b=>inside (JV lf r a b)) fun l=>eC lf (d+1) 63 l.toArray),
 (64,fun d r=>aQ 4 (fun a b c d=>inside (JW lf r a b c d)) fun l=>eC lf (d+1) 64 l.toArray),
 (115,fun d r=>aQ 0 (inside (Ke lf r)) fun l=>eC lf (d+1) 115 l.toArray),
 (116,fun d r=>aQ 1 (fun a=>inside (Uq lf r a)) fun l=>eC lf (d+1) 116 l.toArray),
 (117,fun d r=>aQ 2 (fun a b=>inside (Kf lf r a b)) fun l=>eC lf (d+1) 117 l.toArray),
 (118,fun d r=>aQ 1 (fun a=>inside (Uv lf r a)) fun l=>eC lf (d+1) 118 l.toArray),
 (119,fun d r=>aQ 1 (fun a=>inside (Uw lf r a)) fun l=>eC lf (d+1) 119 l.toArray),
 (120,fun d r=>aQ 1 (fun a=>inside (ED lf r a)) fun l=>eC lf (d+1) 120 l.toArray),
 (121,fun d r=>aQ 2 (fun a b=>inside (EE lf r a b)) fun l=>eC lf (d+1) 121 l.toArray),
 (122,fun d r=>aQ 1 (fun a=>inside (Kg lf r a)) fun l=>eC lf (d+1) 122 l.toArray),
 (123,fun d r=>aQ 1 (fun a=>inside (Kh lf r a)) fun l=>eC lf (d+1) 123 l.toArray),
 (124,fun d r=>aQ 1 (fun a=>inside (Ki lf r a)) fun l=>eC lf (d+1) 124 l.toArray),
 (95,fun d r=>aQ 1 (fun a=>inside (Ed lf r a)) fun l=>eC lf (d+1) 95 l.toArray),
 (96,fun d r=>aQ 2 (fun a b=>inside (Ef lf r a b)) fun l=>eC lf (d+1) 96 l.toArray),
 (97,fun d r=>aQ 2 (fun a b=>inside (Eh lf r a b)) fun l=>eC lf (d+1) 97 l.toArray),
 (98,fun d r=>aQ 2 (fun a b=>inside (Ei lf r a b)) fun l=>eC lf (d+1) 98 l.toArray),
 (99,fun d r=>aQ 2 (fun a b=>inside (Ej lf r a b)) fun l=>eC lf (d+1) 99 l.toArray),
 (100,fun d r=>aQ 3 (fun a b c=>inside (Em lf r a b c)) fun l=>eC lf (d+1) 100 l.toArray),
 (153,fun d r=>aQ 1 (fun a=>inside (VF lf r a)) fun l=>eC lf (d+1) 153 l.toArray),
 (154,fun d r=>aQ 2 (fun a b=>inside (VG lf r a b)) fun l=>eC lf (d+1) 154 l.toArray),
 (155,fun d r=>aQ 1 (fun a=>inside (KC lf r a)) fun l=>eC lf (d+1) 155 l.toArray),
 (156,fun d r=>aQ 1 (fun a=>inside (KD lf r a)) fun l=>eC lf (d+1) 156 l.toArray),
 (157,fun d r=>aQ 2 (fun a b=>inside (KE lf r a b)) fun l=>eC lf (d+1) 157 l.toArray),
 (125,fun d r=>aQ 1 (fun a=>inside (EF lf r a)) fun l=>eC lf (d+1) 125 l.toArray),
 (126,fun d r=>aQ 1 (fun a=>inside (Kj lf r a)) fun l=>eC lf (d+1) 126 l.toArray),
 (127,fun d r=>aQ 2 (fun a b=>inside (Kk lf r a b)) fun l=>eC lf (d+1) 127 l.toArray),
 (128,fun d r=>aQ 1 (fun a=>inside (Kl lf r a)) fun l=>eC lf (d+1) 128 l.toArray),
 (129,fun d r=>aQ 1 (fun a=>inside (EH lf r a)) fun l=>eC lf (d+1) 129 l.toArray),
 (130,fun d r=>aQ 2 (fun a b=>inside (Km lf r a b)) fun l=>eC lf (d+1) 130 l.toArray),
 (131,fun d r=>aQ 2 (fun a b=>inside (EJ lf r a b)) fun l=>eC lf (d+1) 131 l.toArray),
 (132,fun d r=>aQ 1 (fun a=>inside (Kn lf r a)) fun l=>eC lf (d+1) 132 l.toArray),
 (133,fun d r=>aQ 2 (fun a b=>inside (EK lf r a b)) fun l=>eC lf (d+1) 133 l.toArray),
 (134,fun d r=>aQ 1 (fun a=>inside (EM lf r a)) fun l=>eC lf (d+1) 134 l.toArray),
 (135,fun d r=>aQ 1 (fun a=>inside (EO lf r a)) fun l=>eC lf (d+1) 135 l.toArray),
 (136,fun d r=>aQ 3 (fun a b c=>inside (ER lf r a b c)) fun l=>eC lf (d+1) 136 l.toArray),
 (137,fun d r=>aQ 2 (fun a b=>inside (Ko lf r a b)) fun l=>eC lf (d+1) 137 l.toArray),
 (138,fun d r=>aQ 1 (fun a=>inside (ET lf r a)) fun l=>eC lf (d+1) 138 l.toArray),
 (139,fun d r=>aQ 3 (fun a b c=>inside (Kp lf r a b c)) fun l=>eC lf (d+1) 139 l.toArray),
 (180,fun d r=>aQ 1 (fun a=>inside (Ww lf r a)) fun l=>eC lf (d+1) 180 l.toArray),
 (181,fun d r=>aQ 3 (fun a b c=>inside (Wx lf r a b c)) fun l=>eC lf (d+1) 181 l.toArray),
 (182,fun d r=>aQ 1 (fun a=>inside (K7 lf r a)) fun l=>eC lf (d+1) 182 l.toArray),
 (183,fun d r=>aQ 1 (fun a=>inside (K8 lf r a)) fun l=>eC lf (d+1) 183 l.toArray),
 (184,fun d r=>aQ 1 (fun a=>inside (K9 lf r a)) fun l=>eC lf (d+1) 184 l.toArray),
 (185,fun d r=>aQ 1 (fun a=>inside (K' lf r a)) fun l=>eC lf (d+1) 185 l.toArray),
 (186,fun d r=>aQ 1 (fun a=>inside (Lb lf r a)) fun l=>eC lf (d+1) 186 l.toArray),
 (159,fun d r=>aQ 2 (fun a b=>inside (KF lf r a b)) fun l=>eC lf (d+1) 159 l.toArray),
 (160,fun d r=>aQ 2 (fun a b=>inside (E1 lf r a b)) fun l=>eC lf (d+1) 160 l.toArray),
 (161,fun d r=>aQ 2 (fun a b=>inside (AQ lf r a b)) fun l=>eC lf (d+1) 161 l.toArray),
 (162,fun d r=>aQ 2 (fun a b=>inside (KI lf r a b)) fun l=>eC lf (d+1) 162 l.toArray),
 (163,fun d r=>aQ 1 (fun a=>inside (E4 lf r a)) fun l=>eC lf (d+1) 163 l.toArray),
 (164,fun d r=>aQ 1 (fun a=>inside (KJ lf r a)) fun l=>eC lf (d+1) 164 l.toArray),
 (166,fun d r=>aQ 3 (fun a b c=>inside (KO lf r a b c)) fun l=>eC lf (d+1) 166 l.toArray),
 (165,fun d r=>aQ 2 (fun a b=>inside (E7 lf r a b)) fun l=>eC lf (d+1) 165 l.toArray),
 (167,fun d r=>aQ 1 (fun a=>inside (KP lf r a)) fun l=>eC lf (d+1) 167 l.toArray),
 (168,fun d r=>aQ 2 (fun a b=>inside (KQ lf r a b)) fun l=>eC lf (d+1) 168 l.toArray),
 (169,fun d r=>aQ 2 (fun a b=>inside (E8 lf r a b)) fun l=>eC lf (d+1) 169 l.toArray),
 (170,fun d r=>aQ 3 (fun a b c=>inside (KR lf r a b c)) fun l=>eC lf (d+1) 170 l.toArray),
 (171,fun d r=>aQ 1 (fun a=>inside (KS lf r a)) fun l=>eC lf (d+1) 171 l.toArray),
 (172,fun d r=>aQ 2 (fun a b=>inside (KU lf r a b)) fun l=>eC lf (d+1) 172 l.toArray),
 (212,fun d r=>aQ 3 (fun a b c=>inside (LB lf r a b c)) fun l=>eC lf (d+1) 212 l.toArray),
 (213,fun d r=>aQ 1 (fun a=>inside (LC lf r a)) fun l=>eC lf (d+1) 213 l.toArray),
 (188,fun d r=>aQ 2 (fun a b=>inside (AW lf r a b)) fun l=>eC lf (d+1) 188 l.toArray),
 (189,fun d r=>aQ 1 (fun a=>inside (Fg lf r a)) fun l=>eC lf (d+1) 189 l.toArray),
 (190,fun d r=>aQ 2 (fun a b=>inside (Fi lf r a b)) fun l=>eC lf (d+1) 190 l.toArray),
 (191,fun d r=>aQ 3 (fun a b c=>inside (Fk lf r a b c)) fun l=>eC lf (d+1) 191 l.toArray),
 (192,fun d r=>aQ 1 (fun a=>inside (Lj lf r a)) fun l=>eC lf (d+1) 192 l.toArray),
 (194,fun d r=>aQ 2 (fun a b=>inside (Ll lf r a b)) fun l=>eC lf (d+1) 194 l.toArray),
 (193,fun d r=>aQ 2 (fun a b=>inside (A2 lf r a b)) fun l=>eC lf (d+1) 193 l.toArray),
 (195,fun d r=>aQ 0 (inside (Fo lf r)) fun l=>eC lf (d+1) 195 l.toArray),
 (196,fun d r=>aQ 2 (fun a b=>inside (Fq lf r a b)) fun l=>eC lf (d+1) 196 l.toArray),
 (197,fun d r=>aQ 1 (fun a=>inside (Lm lf r a)) fun l=>eC lf (d+1) 197 l.toArray),
 (198,fun d r=>aQ 1 (fun a=>inside (Ln lf r a)) fun l=>eC lf (d+1) 198 l.toArray),
 (200,fun d r=>aQ 3 (fun a b c=>inside (Lr lf r a b c)) fun l=>eC lf (d+1) 200 l.toArray),
 (201,fun d r=>aQ 1 (fun a=>inside (Ls lf r a)) fun l=>eC lf (d+1) 201 l.toArray),
 (202,fun d r=>aQ 2 (fun a b=>inside (Lt lf r a b)) fun l=>eC lf (d+1) 202 l.toArray),
 (203,fun d r=>aQ 1 (fun a=>inside (Ft lf r a)) fun l=>eC lf (d+1) 203 l.toArray),
 (204,fun d r=>aQ 2 (fun a b=>inside (Lu lf r a b)) fun l=>eC lf (d+1) 204 l.toArray),
 (232,fun d r=>aQ 2 (fun a b=>inside (LK lf r a b)) fun l=>eC lf (d+1) 232 l.toArray),
 (214,fun d r=>aQ 1 (fun a=>inside (Fz lf r a)) fun l=>eC lf (d+1) 214 l.toArray),
 (215,fun d r=>aQ 2 (fun a b=>inside (FB lf r a b)) fun l=>eC lf (d+1) 215 l.toArray),
 (216,fun d r=>aQ 2 (fun a b=>inside (FD lf r a b)) fun l=>eC lf (d+1) 216 l.toArray),
 (217,fun d r=>aQ 1 (fun a=>inside (FF lf r a)) fun l=>eC lf (d+1) 217 l.toArray),
 (218,fun d r=>aQ 2 (fun a b=>inside (yu lf r a b)) fun l=>eC lf (d+1) 218 l.toArray),
 (219,fun d r=>aQ 2 (fun a b=>inside (FI lf r a b)) fun l=>eC lf (d+1) 219 l.toArray),
 (199,fun d r=>aQ 1 (fun a=>inside (Lq lf r a)) fun l=>eC lf (d+1) 199 l.toArray),
 (220,fun d r=>aQ 1 (fun a=>inside (LF lf r a)) fun l=>eC lf (d+1) 220 l.toArray),
 (222,fun d r=>aQ 3 (fun a b c=>inside (LH lf r a b c)) fun l=>eC lf (d+1) 222 l.toArray),
 (233,fun d r=>aQ 1 (fun a=>inside (FM lf r a)) fun l=>eC lf (d+1) 233 l.toArray),
 (234,fun d r=>aQ 1 (fun a=>inside (FO lf r a)) fun l=>eC lf (d+1) 234 l.toArray),
 (235,fun d r=>aQ 1 (fun a=>inside (FQ lf r a)) fun l=>eC lf (d+1) 235 l.toArray),
 (221,fun d r=>aQ 1 (fun a=>inside (LG lf r a)) fun l=>eC lf (d+1) 221 l.toArray),
 (236,fun d r=>aQ 3 (fun a b c=>inside (LN lf r a b c)) fun l=>eC lf (d+1) 236 l.toArray),
 (243,fun d r=>aQ 1 (fun a=>inside (FU lf r a)) fun l=>eC lf (d+1) 243 l.toArray),
 (244,fun d r=>aQ 1 (fun a=>inside (LP lf r a)) fun l=>eC lf (d+1) 244 l.toArray),
 (245,fun d r=>aQ 3 (fun a b c=>inside (LQ lf r a b c)) fun l=>eC lf (d+1) 245 l.toArray),
 (249,fun d r=>aQ 3 (fun a b c=>inside (LS lf r a b c)) fun l=>eC lf (d+1) 249 l.toArray),
 (248,fun d r=>aQ 2 (fun a b=>inside (LR lf r a b)) fun l=>eC lf (d+1) 248 l.toArray),
 (250,fun d r=>aQ 2 (fun a b=>inside (LU lf r a b)) fun l=>eC lf (d+1) 250 l.toArray),
 (251,fun d r=>aQ 3 (fun a b c=>inside (FX lf r a b c)) fun l=>eC lf (d+1) 251 l.toArray),
 (252,fun d r=>aQ 1 (fun a=>inside (LW lf r a)) fun l=>eC lf (d+1) 252 l.toArray),
 (253,fun d r=>aQ 4 (fun a b c d=>inside (Bc lf r a b c d)) fun l=>eC lf (d+1) 253 l.toArray),
 (254,fun d r=>aQ 5 (fun a b c d e=>inside (yv lf r a b c d e)) fun l=>eC lf (d+1) 254 l.toArray),
 (255,fun d r=>aQ 5 (fun a b c d e=>inside (F0 lf r a b c d e)) fun l=>eC lf (d+1) 255 l.toArray),
 (256,fun d r=>aQ 5 (fun a b c d e=>inside (F1 lf r a b c d e)) fun l=>eC lf (d+1) 256 l.toArray)]
theorem alh(lf:Nat):GD (eC lf) (aaL lf):=⟨fun d=>aS _ _ _ (aR Sf),
 ⟨fun d=>aS _ _ _ (fun a b=>aR agm),
 ⟨fun d=>aS _ _ _ (fun a=>aR agy),
 ⟨fun d=>aS _ _ _ (fun a b c=>aR agk),
 ⟨fun d=>aS _ _ _ (fun a b=>aR agn),
 ⟨fun d=>aS _ _ _ (fun a=>aR JK),
 ⟨fun d=>aS _ _ _ (fun a b=>aR agp),
 ⟨fun d=>aS _ _ _ (fun a b c=>aR DX),
 ⟨fun d=>aS _ _ _ (fun a=>aR JM),
 ⟨fun d=>aS _ _ _ (fun a=>aR Su),
 ⟨fun d=>aS _ _ _ (aR SJ),
 ⟨fun d=>aS _ _ _ (fun a b c=>aR SM),
 ⟨fun d=>aS _ _ _ (fun a=>aR agB),
 ⟨fun d=>aS _ _ _ (fun a b=>aR agC),
 ⟨fun d=>aS _ _ _ (fun a=>aR agD),
 ⟨fun d=>aS _ _ _ (fun a=>aR JQ),
 ⟨fun d=>aS _ _ _ (fun a b c d=>aR D0),
 ⟨fun d=>aS _ _ _ (fun a b=>aR SQ),
 ⟨fun d=>aS _ _ _ (fun a=>aR SX),
 ⟨fun d=>aS _ _ _ (fun a=>aR SP),
 ⟨fun d=>aS _ _ _ (fun a b=>aR Ti),
 ⟨fun d=>aS _ _ _ (fun a b=>aR Tj),
 ⟨fun d=>aS _ _ _ (aR agT),
 ⟨fun d=>aS _ _ _ (aR agU),
 ⟨fun d=>aS _ _ _ (fun a=>aR agV),
 ⟨fun d=>aS _ _ _ (fun a b=>aR agW),
 ⟨fun d=>aS _ _ _ (fun a b c=>aR agX),
 ⟨fun d=>aS _ _ _ (fun a=>aR agY),
 ⟨fun d=>aS _ _ _ (fun a=>aR agZ),
 ⟨fun d=>aS _ _ _ (fun a=>aR J1),
 ⟨fun d=>aS _ _ _ (fun a=>aR Tl),
 ⟨fun d=>aS _ _ _ (fun a b=>aR Tp),
 ⟨fun d=>aS _ _ _ (fun a=>aR Tq),
 ⟨fun d=>aS _ _ _ (fun a b=>aR S2),
 ⟨fun d=>aS _ _ _ (fun a b c d=>aR S3),
 ⟨fun d=>aS _ _ _ (aR aho),
 ⟨fun d=>aS _ _ _ (fun a=>aR ahp),
 ⟨fun d=>aS _ _ _ (fun a b=>aR ahr),
 ⟨fun d=>aS _ _ _ (fun a=>aR ahs),
 ⟨fun d=>aS _ _ _ (fun a=>aR aht),
 ⟨fun d=>aS _ _ _ (fun a=>aR Uz),
 ⟨fun d=>aS _ _ _ (fun a b=>aR UC),
 ⟨fun d=>aS _ _ _ (fun a=>aR UD),
 ⟨fun d=>aS _ _ _ (fun a=>aR UE),
 ⟨fun d=>aS _ _ _ (fun a=>aR UF),
 ⟨fun d=>aS _ _ _ (fun a=>aR Tu),
 ⟨fun d=>aS _ _ _ (fun a b=>aR Tx),
 ⟨fun d=>aS _ _ _ (fun a b=>aR TA),
 ⟨fun d=>aS _ _ _ (fun a b=>aR TD),
 ⟨fun d=>aS _ _ _ (fun a b=>aR TI),
 ⟨fun d=>aS _ _ _ (fun a b c=>aR TN),
 ⟨fun d=>aS _ _ _ (fun a=>aR ah0),
 ⟨fun d=>aS _ _ _ (fun a b=>aR ah1),
 ⟨fun d=>aS _ _ _ (fun a=>aR VH),
 ⟨fun d=>aS _ _ _ (fun a=>aR VI),
 ⟨fun d=>aS _ _ _ (fun a b=>aR VJ),
 ⟨fun d=>aS _ _ _ (fun a=>aR UI),
 ⟨fun d=>aS _ _ _ (fun a=>aR UJ),
 ⟨fun d=>aS _ _ _ (fun a b=>aR UK),
 ⟨fun d=>aS _ _ _ (fun a=>aR UL),
 ⟨fun d=>aS _ _ _ (fun a=>aR UO),
 ⟨fun d=>aS _ _ _ (fun a b=>aR UP),
 ⟨fun d=>aS _ _ _ (fun a b=>aR US),
 ⟨fun d=>aS _ _ _ (fun a=>aR UT),
 ⟨fun d=>aS _ _ _ (fun a b=>aR UX),
 ⟨fun d=>aS _ _ _ (fun a=>aR U0),
 ⟨fun d=>aS _ _ _ (fun a=>aR U3),
 ⟨fun d=>aS _ _ _ (fun a b c=>aR U6),
 ⟨fun d=>aS _ _ _ (fun a b=>aR U7),
 ⟨fun d=>aS _ _ _ (fun a=>aR Vb),
 ⟨fun d=>aS _ _ _ (fun a b c=>aR Vc),
 ⟨fun d=>aS _ _ _ (fun a=>aR aik),
 ⟨fun d=>aS _ _ _ (fun a b c=>aR ail),
 ⟨fun d=>aS _ _ _ (fun a=>aR Wy),
 ⟨fun d=>aS _ _ _ (fun a=>aR Wz),
 ⟨fun d=>aS _ _ _ (fun a=>aR WA),
 ⟨fun d=>aS _ _ _ (fun a=>aR WB),
 ⟨fun d=>aS _ _ _ (fun a=>aR WC),
 ⟨fun d=>aS _ _ _ (fun a b=>aR VK),
 ⟨fun d=>aS _ _ _ (fun a b=>aR VN),
 ⟨fun d=>aS _ _ _ (fun a b=>aR KH),
 ⟨fun d=>aS _ _ _ (fun a b=>aR VQ),
 ⟨fun d=>aS _ _ _ (fun a=>aR VU),
 ⟨fun d=>aS _ _ _ (fun a=>aR VV),
 ⟨fun d=>aS _ _ _ (fun a b c=>aR V2),
 ⟨fun d=>aS _ _ _ (fun a b=>aR V1),
 ⟨fun d=>aS _ _ _ (fun a=>aR V4),
 ⟨fun d=>aS _ _ _ (fun a b=>aR V5),
 ⟨fun d=>aS _ _ _ (fun a b=>aR V8),
 ⟨fun d=>aS _ _ _ (fun a b c=>aR V9),
 ⟨fun d=>aS _ _ _ (fun a=>aR V'),
 ⟨fun d=>aS _ _ _ (fun a b=>aR Wa),
 ⟨fun d=>aS _ _ _ (fun a b c=>aR Xz),
 ⟨fun d=>aS _ _ _ (fun a=>aR XA),
 ⟨fun d=>aS _ _ _ (fun a b=>aR Ld),
 ⟨fun d=>aS _ _ _ (fun a=>aR WI),
 ⟨fun d=>aS _ _ _ (fun a b=>aR WQ),
 ⟨fun d=>aS _ _ _ (fun a b c=>aR WZ),
 ⟨fun d=>aS _ _ _ (fun a=>aR W0),
 ⟨fun d=>aS _ _ _ (fun a b=>aR W1),
 ⟨fun d=>aS _ _ _ (fun a b=>aR Fl),
 ⟨fun d=>aS _ _ _ (aR W4),
 ⟨fun d=>aS _ _ _ (fun a b=>aR W7),
 ⟨fun d=>aS _ _ _ (fun a=>aR W8),
 ⟨fun d=>aS _ _ _ (fun a=>aR W9),
 ⟨fun d=>aS _ _ _ (fun a b c=>aR Xb),
 ⟨fun d=>aS _ _ _ (fun a=>aR Xc),
 ⟨fun d=>aS _ _ _ (fun a b=>aR Xd),
 ⟨fun d=>aS _ _ _ (fun a=>aR Xg),
 ⟨fun d=>aS _ _ _ (fun a b=>aR Xh),
 ⟨fun d=>aS _ _ _ (fun a b=>aR X2),
 ⟨fun d=>aS _ _ _ (fun a=>aR XD),
 ⟨fun d=>aS _ _ _ (fun a b=>aR XG),
 ⟨fun d=>aS _ _ _ (fun a b=>aR XJ),
 ⟨fun d=>aS _ _ _ (fun a=>aR XO),
 ⟨fun d=>aS _ _ _ (fun a b=>aR FG),
 ⟨fun d=>aS _ _ _ (fun a b=>aR XT),
 ⟨fun d=>aS _ _ _ (fun a=>aR Xa),
 ⟨fun d=>aS _ _ _ (fun a=>aR XU),
 ⟨fun d=>aS _ _ _ (fun a b c=>aR XW),
 ⟨fun d=>aS _ _ _ (fun a=>aR X7),
 ⟨fun d=>aS _ _ _ (fun a=>aR X'),
 ⟨fun d=>aS _ _ _ (fun a=>aR Yc),
 ⟨fun d=>aS _ _ _ (fun a=>aR XV),
 ⟨fun d=>aS _ _ _ (fun a b c=>aR Yd),
 ⟨fun d=>aS _ _ _ (fun a=>aR Yh),
 ⟨fun d=>aS _ _ _ (fun a=>aR Yi),
 ⟨fun d=>aS _ _ _ (fun a b c=>aR Yj),
 ⟨fun d=>aS _ _ _ (fun a b c=>aR Yl),
 ⟨fun d=>aS _ _ _ (fun a b=>aR Yk),
 ⟨fun d=>aS _ _ _ (fun a b=>aR Ym),
 ⟨fun d=>aS _ _ _ (fun a b c=>aR Ys),
 ⟨fun d=>aS _ _ _ (fun a=>aR Yt),
 ⟨fun d=>aS _ _ _ (fun a b c d=>aR LX),
 ⟨fun d=>aS _ _ _ (fun a b c d e=>aR FZ),
 ⟨fun d=>aS _ _ _ (fun a b c d e=>aR YJ),
 ⟨fun d=>aS _ _ _ (fun a b c d e=>aR YM),trivial⟩⟩⟩⟩⟩⟩⟩⟩⟩⟩⟩⟩⟩⟩⟩⟩⟩⟩⟩⟩⟩⟩⟩⟩⟩⟩⟩⟩⟩⟩⟩⟩⟩⟩⟩⟩⟩⟩⟩⟩⟩⟩⟩⟩⟩⟩⟩⟩⟩⟩⟩⟩⟩⟩⟩⟩⟩⟩⟩⟩⟩⟩⟩⟩⟩⟩⟩⟩⟩⟩⟩⟩⟩⟩⟩⟩⟩⟩⟩⟩⟩⟩⟩⟩⟩⟩⟩⟩⟩⟩⟩⟩⟩⟩⟩⟩⟩⟩⟩⟩⟩⟩⟩⟩⟩⟩⟩⟩⟩⟩⟩⟩⟩⟩⟩⟩⟩⟩⟩⟩⟩⟩⟩⟩⟩⟩⟩⟩⟩⟩⟩⟩⟩⟩⟩⟩⟩
def aaM(lf:Nat):Nat->FuncId->Array Value->M Value:=GF (eC lf) (aaL lf)
theorem ali(lf d:Nat):aaM lf d=eC lf d:=aaK (alh lf) d
end
end Go.Proofs.YtcehhgppfahbkaaGreatDoor
namespace Go.Proofs.YtcehhgppfahbkaaGreatDoor
open Go.Shelf
def Tryz.aaN:aq':=⟨fun|105=>211|212=>226|99=>227|165=>228|166=>229|170=>230|169=>231|263=>238|264=>239|206=>240|240=>241|241=>242|276=>246|277=>247|n=>n,fun|9=>9|3=>3|4=>4|20=>20|0=>0|46=>140|109=>253|5=>5|72=>258|76=>262|51=>40|146=>268|53=>98|148=>270|70=>256|37=>99|75=>261|127=>272|164=>277|80=>44|n=>n,fun|n=>n⟩
theorem Tryz.alj:arY aa Tryz.aaN:={
 mixed:=by kernel_rfl
 f99:=Tryz.func227.trans (congrArg some (by kernel_rfl))
 f105:=Tryz.func211.trans (congrArg some (by kernel_rfl))
 f165:=Tryz.func228.trans (congrArg some (by kernel_rfl))
 f166:=Tryz.func229.trans (congrArg some (by kernel_rfl))
 f169:=Tryz.func231.trans (congrArg some (by kernel_rfl))
 f170:=Tryz.func230.trans (congrArg some (by kernel_rfl))
 f206:=Tryz.func240.trans (congrArg some (by kernel_rfl))
 f212:=Tryz.func226.trans (congrArg some (by kernel_rfl))
 f240:=Tryz.func241.trans (congrArg some (by kernel_rfl))
 f241:=Tryz.func242.trans (congrArg some (by kernel_rfl))
 f263:=Tryz.func238.trans (congrArg some (by kernel_rfl))
 f264:=Tryz.func239.trans (congrArg some (by kernel_rfl))
 f276:=Tryz.func246.trans (congrArg some (by kernel_rfl))
 f277:=Tryz.func247.trans (congrArg some (by kernel_rfl))
 t0:=Tryz.underlying0
 a0:=Tryz.isAgg0
 z0:=Tryz.sizeOf0
 v0:=Tryz.zeroValue0
 t3:=Cz
 a3:=aq_
 z3:=ara
 v3:=arb
 t4:=Tryz.underlying4
 a4:=Tryz.isAgg4
 z4:=Tryz.sizeOf4
 v4:=Tryz.zeroValue4
 t5:=adx
 a5:=ady
 z5:=adz
 v5:=adA
 t9:=Tryz.underlying9
 a9:=Tryz.isAgg9
 z9:=Tryz.sizeOf9
 v9:=Tryz.zeroValue9
 t20:=Tryz.underlying20
 a20:=Tryz.isAgg20
 z20:=Tryz.sizeOf20
 v20:=Tryz.zeroValue20
 t37:=arc
 a37:=ard
 z37:=arf
 v37:=arh
 t46:=Tryz.underlying140
 a46:=Tryz.isAgg140
 z46:=Tryz.sizeOf140
 v46:=Tryz.zeroValue140
 t51:=Tryz.underlying40
 a51:=Tryz.isAgg40
 z51:=Tryz.sizeOf40
 v51:=Tryz.zeroValue40
 t53:=Tryz.underlying98
 a53:=Tryz.isAgg98
 z53:=Tryz.sizeOf98
 v53:=Tryz.zeroValue98
 t70:=Tryz.underlying256
 a70:=Tryz.isAgg256
 z70:=Tryz.sizeOf256
 v70:=Tryz.zeroValue256
 t72:=Tryz.underlying258
 a72:=Tryz.isAgg258
 z72:=Tryz.sizeOf258
 v72:=Tryz.zeroValue258
 t75:=Tryz.underlying261
 a75:=Tryz.isAgg261
 z75:=Tryz.sizeOf261
 v75:=Tryz.zeroValue261
 t76:=Tryz.underlying262
 a76:=Tryz.isAgg262
 z76:=Tryz.sizeOf262
 v76:=Tryz.zeroValue262
 t109:=Tryz.underlying253
 a109:=Tryz.isAgg253
 z109:=Tryz.sizeOf253
 v109:=Tryz.zeroValue253
 t127:=Tryz.underlying272
 a127:=Tryz.isAgg272
 z127:=Tryz.sizeOf272
 v127:=Tryz.zeroValue272
 t146:=Tryz.underlying268
 a146:=Tryz.isAgg268
 z146:=Tryz.sizeOf268
 v146:=Tryz.zeroValue268
 t148:=Tryz.underlying270
 a148:=Tryz.isAgg270
 z148:=Tryz.sizeOf270
 v148:=Tryz.zeroValue270
 t164:=Tryz.underlying277
 a164:=Tryz.isAgg277
 z164:=Tryz.sizeOf277
 v164:=Tryz.zeroValue277}
theorem Tryz.alk:Builder.Extra aa Tryz.aaN:={
 sizeBuilder:=by kernel_rfl
 liesBuilder:=by kernel_rfl
 t5:=adx
 a5:=ady
 z5:=adz
 v5:=adA
 infoByte:=by kernel_rfl
 cellsByte:=by kernel_rfl
 sizeByte:=by kernel_rfl
 neB5:=by decide}
open Go.RowKit Go.Lib in
theorem Tryz.strings_Repeat(s:ByteArray)(c:Nat)(w:World)(b:c<=9223372036854775807)(a:s.size*c<=140737488355328):
 Calls aa 211 #[.string s,jI c] w fun e w'=>e= .returned (.string ⟨(Lib.repeatL s.data.toList c).toArray⟩)∧Below w.heap.size w w':=Any.strings_Repeat Tryz.alj Tryz.alk s c w b a
def Tryz.alm:aq':=⟨fun|187=>158|255=>187|n=>n,fun|37=>99|5=>5|3=>3|n=>n,fun|n=>n⟩
theorem Tryz.aln:arZ aa Tryz.alm:={
 mixed:=by kernel_rfl
 f187:=Tryz.func158.trans (congrArg some (by kernel_rfl))
 f255:=Tryz.func187.trans (congrArg some (by kernel_rfl))
 t3:=Cz
 a3:=aq_
 z3:=ara
 v3:=arb
 t5:=adx
 a5:=ady
 z5:=adz
 v5:=adA
 t37:=arc
 a37:=ard
 z37:=arf
 v37:=arh}
theorem Tryz.bytes_IndexByte(b o n c:Nat)(xs:List Int)(cv:Int)(w:World)(a:xs.length=n)(d:∀i,i<n->w.cell? ⟨b,o+i,none⟩=some (.int .u8 (xs.getD i 0))):
 Calls aa 158 #[.slice (some ⟨b,o,none⟩) n c,.int .u8 cv] w fun e w'=>e= .returned (jI (Lib.indexByte (Lib.bytesOf xs) cv.toNat.toUInt8))∧w'=w:=Any.bytes_IndexByte Tryz.aln b o n c xs cv w a d
end Go.Proofs.YtcehhgppfahbkaaGreatDoor
namespace Go.Proofs.YtcehhgppfahbkaaGreatDoor
open Go.RowKit Ev
theorem aaO:Ev.sC aa=true:=jK
theorem aaP:Tryz.prog.follows .mixedOrders=true:=jK
theorem alo:Ev.qK aa uc=true:=jK
theorem alp:Ev.qK aa Ev.KN=true:=jK
theorem aaQ{kn:List FuncId}(j:∀f k,kn.contains f=true->pO f=some k->(f=158∧k=1)∨(f=211∧k=2)):Ev.Ia aa kn:=by
 intro f k p l;rcases j f k p l with ⟨rfl,rfl⟩|⟨rfl,rfl⟩
 ·exact⟨fun _ b o n c d cv w g a=>(Tryz.bytes_IndexByte b o n c d cv w g a).mono fun e q ⟨m,h⟩=>⟨m,by rw[h];exact Below.refl _ _⟩,fun e=>(by cases e),fun e=>(by cases e),fun e=>(by cases e)⟩
 ·exact⟨fun e=>(by cases e),fun _ s c w a i=>Tryz.strings_Repeat s c w jO (Nat.le_trans (Nat.mul_le_mul i a) jD),fun e=>(by cases e),fun e=>(by cases e)⟩
theorem aaR{f:FuncId}{k:Nat}(b:f=229∨f=158∨f=211)(a:pO f=some k):(f=158∧k=1)∨(f=211∧k=2):=by
 rcases b with rfl|rfl|rfl
 ·cases a
 ·cases a;exact .inl ⟨rfl,rfl⟩
 ·cases a;exact .inr ⟨rfl,rfl⟩
theorem aaS{f:FuncId}(c:f=229∨f=158∨f=211)(b:pO f=none)(a:Ev.sF aa f=true):False:=by
 rcases c with rfl|rfl|rfl
 ·have e:Ev.sF aa 229=false:=jK;rw[e]at a;cases a
 ·cases b
 ·cases b
theorem alq:Ev.uL aa uc:=
 ⟨fun f a c b w _=>(aaS (by simpa[uc]using a) c b).elim,aaQ fun f k d a=>aaR (by simpa[uc]using d) a⟩
def gV:List Value:=[jI 200,jI 600,jI 1200,jI 2400]
def hG:H:=H.set .nil 1 (some ⟨3,false,gV⟩)
theorem aaT{w:World}(x:Ev.qO w):∃m,Laid aa w m hG Tryz.prog.globals.size:=by
 refine af5 x (by decide+kernel) (sz:=1) (by kernel_rfl) jD (fun k v a=> ?_) jD
 match k,a with
 |0,a=>cases a;simp[KG]
 |1,a=>cases a;simp[KG]
 |2,a=>cases a;simp[KG]
 |3,a=>cases a;simp[KG]
set_option maxRecDepth 100000 in
theorem alr:Ev.CN ((inside (JH 300000000 (aaM 300000000 1000))) hG Tryz.prog.globals.size)=true:=jK
theorem als(w:World)(x:Ev.qO w):Calls aa 10 #[] w fun e w'=>e= .returned (.bool true)∧Below w.heap.size w w':=by obtain⟨m,x⟩:=aaT x;refine Ev.alg (kn:=uc) aaO alo aaP alq aL x (gt:=gt) (lf:=300000000) (d:=1001) ?_;have:=alr;rw[ali,aR Sf]at this;exact this
theorem known:Ev.uL aa Ev.KN:=by
 have b:∀f,Ev.KN.contains f=true->f=10∨(f=229∨f=158∨f=211):=fun f a=>by simpa[Ev.KN]using a
 refine⟨fun f a d c w x=> ?_,aaQ fun f k hb a=> ?_⟩
 ·rcases b f a with rfl|hb
  ·exact als w x
  ·exact(aaS hb d c).elim
 ·rcases b f hb with rfl|hb
  ·cases a
  ·exact aaR hb a
end Go.Proofs.YtcehhgppfahbkaaGreatDoor
namespace Go.Proofs.YtcehhgppfahbkaaGreatDoor
open Go Go.RowKit Go.WideShapes Go.ChangeShapes Go.MakeChecks
theorem aaU:Tryz.prog.globalNamed "baler/tables.bounds" =some 1:=jK
theorem alu:(Tryz.prog.globals[1]?).map (·.type)=some 265:=jK
theorem alv:Tryz.prog.cellsOf 3=1:=jK
theorem alw:Tryz.prog.cellsOf 265=4:=jK
set_option maxRecDepth 10000 in
theorem alx{w:World}(r:laidMetH aa [("baler/tables.bounds",Rows.laid_baler_tables_bounds)] w):Ev.qO w:=by
 rw[laidMetH_plain _ _ _ rfl]at r;obtain⟨J,⟨g,t,I,u,p,q,h,n,d,x,_⟩,_⟩:=r;rw[aaU]at h;cases h;rw[alu]at n;cases n;unfold World.var? at d;rw[aaU]at d;simp only[Option.bind_some]at d;split at d
 ·rename_i G K F A;cases d;obtain⟨j,m,rfl,l,e,v,a⟩:=DataW.trod_array Tryz.underlying265 x;rw[alw]at e;rw[alv]at a
  have f:∀(i:Nat) (z:Int),i<4->(j.map (·.1))[i]? =some (.lit (.int .i64 z))->w.cell? ⟨1,i,none⟩=some (.int .i64 z):=by
   intro i z C c;rw[fo]at c;cases b:j[i]? with
   |none=>rw[b]at c;cases c
   |some y=>
    rw[b]at c;have o:=a i C;rw[b]at o;obtain⟨k,s,E,_⟩:=DataW.trod_int Cz o;rw[E]at c;cases c
    have D:I.toList[i]? =some (.int .i64 z):=by rw[Nat.mul_one,List.drop_eq_getElem_cons jO,List.take_succ_cons,nE]at s;rw[aJ jO];exact congrArg some (Ov s).1
    unfold World.cell?;simp only[A];simpa using D
  have B:j.map (·.1)=[.lit (.int .i64 200),.lit (.int .i64 600),.lit (.int .i64 1200),.lit (.int .i64 2400)]:=by have:=congrArg Prod.fst l;simp only[Rows.laid_baler_tables_bounds]at this;injection this with this;exact this.symm
  rw[B]at f;intro g h;have:g=(1,0,.int .i64 200)∨g=(1,1,.int .i64 600)∨g=(1,2,.int .i64 1200)∨g=(1,3,.int .i64 2400):=by simpa[Ev.KG]using h
  rcases this with rfl|rfl|rfl|rfl
  ·exact f 0 200 jD rfl
  ·exact f 1 600 jD rfl
  ·exact f 2 1200 jD rfl
  ·exact f 3 2400 jD rfl
 ·cases d
end Go.Proofs.YtcehhgppfahbkaaGreatDoor
namespace Go.Proofs.YtcehhgppfahbkaaGreatDoor
open Go.RowKit Ev
theorem aly{f:FuncId}{ts:List TypeId}{vs:List Value}{w:World}(b:Ev.qO w)(g:ez (sY aa w) ts vs)(r:∀n h a,Tryz.prog.globals.size<=n->h.get 1=some ⟨3,false,gV⟩->ez (oV aa h n) ts a->ae (fun _=>False) n (eW 3000000 1000 f a.toArray) h n fun v _ _=>v= .bool true):
 Calls aa f vs.toArray w fun e w'=>e= .returned (.bool true)∧Below w.heap.size w w':=by
 obtain⟨m,x⟩:=aaT b;exact Ev.age aaO alp aaP known aL g x fun n h a c d q=>r n h a c (by rw[d _ (by decide+kernel)];exact get_eq _ _ _) q
def Gd(h:H)(n:Nat):Prop:=h.get 1=some ⟨3,false,gV⟩∧1<n
theorem Gd.ay{h h':H}{n n':Nat}(x:Gd h n)(a:n<=n')(c:∀b,b<n->h'.get b=h.get b):Gd h' n':=⟨(c _ x.2).trans x.1,eD x.2 a⟩
theorem Gd.of{h:H}{n:Nat}(a:Tryz.prog.globals.size<=n)(b:h.get 1=some ⟨3,false,gV⟩):Gd h n:=⟨b,eD (by decide+kernel) a⟩
theorem aaV(lf d n:Nat)(h:H)(x:Gd h n):ae (fun _=>False) n (eW lf (d+1) 10 #[]) h n fun i h' n'=>i= .bool true∧h'=h∧n'=n:=by
 obtain⟨o,j⟩:=x;have e:eW lf (d+1) 10 #[]=(mF aa KG).bind fun _=>M.ret (.bool true):=jK;rw[e]
 have b:∀(k:Nat) (v:Value),gV[k]? =some v->rd 1 k h n=some ⟨v,h,n,[⟨false,1,some k⟩]⟩:=fun k v g=>by unfold rd;simp only[j,o,g,if_true]
 have f:decide (1<Tryz.prog.globals.size)=true:=by decide+kernel
 have a:∀(k:Nat) (x:Int) (l:List (Nat×Nat×Value)) (L:List En),gV[k]? =some (jI x)->mF aa l h n=some ⟨(),h,n,L⟩->mF aa ((1,k,jI x)::l) h n=some ⟨(),h,n,[⟨false,1,some k⟩]++L⟩:=fun k x l L g m=>by unfold mF;refine bY (b k _ g) ?_;simp only[f,xF,decide_true,Hy,if_true];exact m
 have c:=a 0 200 _ _ rfl (a 1 600 _ _ rfl (a 2 1200 _ _ rfl (a 3 2400 [] [] rfl rfl)));refine ae.step c (ai _) jS ?_;rw[sV];exact⟨rfl,rfl,rfl⟩
theorem M1{lf d n n0:Nat}{h:H}{W:Nat->Prop}(a:n0<=n)(x:Gd h n):ae W n0 (ak (eW lf (d+1)) 10 [] fun v=>aj [v]) h n fun v _ _=>v= .bool true:=by refine bz (aaV lf d n h x) a (fun _ _ h=>h.elim) ?_;rw[zZ]
end Go.Proofs.YtcehhgppfahbkaaGreatDoor
namespace Go.Proofs.YtcehhgppfahbkaaGreatDoor
open Go.RowKit Ev Tb
section
variable (lf d n:Nat) (h:H) (bP:3000000<=lf)
theorem alz(z:Int):ae (fun _=>False) n (eW lf (d+1) 205 #[jI z]) h n fun f h' n'=>f=jI (j1 z:Int)∧h'=h∧n'=n:=by
 rw[aF (fun _=>aiu) rfl];refine ae.aE ?_;unfold Xi j1;by_cases a:z<200
 ·refine jA @a ?_;all_goals (first|trivial|rfl|exact⟨rfl,rfl,rfl⟩|exact⟨rfl,rfl⟩)
 ·by_cases b:z<600
  ·refine jA (aI @a @b) ?_;all_goals (first|trivial|rfl|exact⟨rfl,rfl,rfl⟩|exact⟨rfl,rfl⟩)
  ·by_cases c:z<1200
   ·refine jA (aI @a (aI @b @c)) ?_;all_goals (first|trivial|rfl|exact⟨rfl,rfl,rfl⟩|exact⟨rfl,rfl⟩)
   ·by_cases e:z<2400
    ·refine jA (aI @a (aI @b (aI @c @e))) ?_;all_goals (first|trivial|rfl|exact⟨rfl,rfl,rfl⟩|exact⟨rfl,rfl⟩)
    ·refine jA (aI @a (aI @b (aI @c @e))) ?_;all_goals (first|trivial|rfl|exact⟨rfl,rfl,rfl⟩|exact⟨rfl,rfl⟩)
theorem BK:([jI 200,jI 600,jI 1200,jI 2400]:List Value)[Cw 0]? =some (jI 200):=rfl
theorem BL:([jI 200,jI 600,jI 1200,jI 2400]:List Value)[Cw 1]? =some (jI 600):=rfl
theorem BM:([jI 200,jI 600,jI 1200,jI 2400]:List Value)[Cw 2]? =some (jI 1200):=rfl
theorem BN:([jI 200,jI 600,jI 1200,jI 2400]:List Value)[Cw 3]? =some (jI 2400):=rfl
theorem alA(z:Int)(g:Gd h n)(o:5<=lf):ae (fun _=>False) n (eW lf (d+1) 214 #[jI z]) h n fun k h' n'=>k=jI (j1 z:Int)∧h'=h∧n'=n:=by
 rw[aF (fun _=>XD) rfl];refine ae.aE ?_;unfold Fz;refine Bp trivial trivial 1 0 _ g.1 g.2 jD ?_
 have p:∀F,5<=F->ae (fun _=>False) n (ar' lf (eW lf d) F (tO lf (eW lf d)) (jI z) (jI 0) (jI 2) (.agg #[jI 200,jI 600,jI 1200,jI 2400]) (jI 0)) h n fun k h' n'=>k=jI (j1 z:Int)∧h'=h∧n'=n:=by
  intro F q;obtain⟨F,rfl⟩:∃f,F=f+1+1+1+1+1:=⟨F-5,jO⟩;have w:∀x:Int,0<=x->x<100->IntKind.i64.wrap (x+1)=x+1:=fun x s r=>aV jO jO;unfold j1;by_cases i:z<200
  ·have e:¬(200<=z):=jO;have c:¬(600<=z):=jO;have b:¬(1200<=z):=jO;have a:¬(2400<=z):=jO;rw[ar'];try simp(disch:=first|omega|assumption) only[Nat.reduceAdd,Nat.reduceLT,RZ,cZ,da,db,dc,de,dg,dh,di,dj,dk,BK,e]
   rw[ar'];try simp(disch:=first|omega|assumption) only[Nat.reduceAdd,Nat.reduceLT,RZ,cZ,da,db,dc,de,dg,dh,di,dj,dk,BL,c]
   rw[ar'];try simp(disch:=first|omega|assumption) only[Nat.reduceAdd,Nat.reduceLT,RZ,cZ,da,db,dc,de,dg,dh,di,dj,dk,BM,b]
   rw[ar'];try simp(disch:=first|omega|assumption) only[Nat.reduceAdd,Nat.reduceLT,RZ,cZ,da,db,dc,de,dg,dh,di,dj,dk,BN,a]
   rw[ar'];try simp(disch:=first|omega|assumption) only[Nat.reduceAdd,Nat.reduceLT,RZ,cZ,da,db,dc,de,dg,dh,di,dj,dk]
   (try unfold tO);(try dsimp only)
   try simp(disch:=first|omega|assumption) only[Nat.reduceAdd,Nat.reduceLT,RZ,cZ,da,db,dc,de,dg,dh,di,dj,dk,i]
   all_goals (first|trivial|rfl|exact⟨rfl,rfl,rfl⟩|exact⟨rfl,rfl⟩)
  ·have e:200<=z:=jO;by_cases j:z<600
   ·have c:¬(600<=z):=jO;have b:¬(1200<=z):=jO;have a:¬(2400<=z):=jO;rw[ar'];try simp(disch:=first|omega|assumption) only[Nat.reduceAdd,Nat.reduceLT,RZ,cZ,da,db,dc,de,dg,dh,di,dj,dk,BK,e]
    rw[ar'];try simp(disch:=first|omega|assumption) only[Nat.reduceAdd,Nat.reduceLT,RZ,cZ,da,db,dc,de,dg,dh,di,dj,dk,BL,c]
    rw[ar'];try simp(disch:=first|omega|assumption) only[Nat.reduceAdd,Nat.reduceLT,RZ,cZ,da,db,dc,de,dg,dh,di,dj,dk,BM,b]
    rw[ar'];try simp(disch:=first|omega|assumption) only[Nat.reduceAdd,Nat.reduceLT,RZ,cZ,da,db,dc,de,dg,dh,di,dj,dk,BN,a]
    rw[ar'];try simp(disch:=first|omega|assumption) only[Nat.reduceAdd,Nat.reduceLT,RZ,cZ,da,db,dc,de,dg,dh,di,dj,dk]
    (try unfold tO);(try dsimp only)
    try simp(disch:=first|omega|assumption) only[Nat.reduceAdd,Nat.reduceLT,RZ,cZ,da,db,dc,de,dg,dh,di,dj,dk,i,j]
    all_goals (first|trivial|rfl|exact⟨rfl,rfl,rfl⟩|exact⟨rfl,rfl⟩)
   ·have c:600<=z:=jO;by_cases l:z<1200
    ·have b:¬(1200<=z):=jO;have a:¬(2400<=z):=jO;rw[ar'];try simp(disch:=first|omega|assumption) only[Nat.reduceAdd,Nat.reduceLT,RZ,cZ,da,db,dc,de,dg,dh,di,dj,dk,BK,e]
     rw[ar'];try simp(disch:=first|omega|assumption) only[Nat.reduceAdd,Nat.reduceLT,RZ,cZ,da,db,dc,de,dg,dh,di,dj,dk,BL,c]
     rw[ar'];try simp(disch:=first|omega|assumption) only[Nat.reduceAdd,Nat.reduceLT,RZ,cZ,da,db,dc,de,dg,dh,di,dj,dk,BM,b]
     rw[ar'];try simp(disch:=first|omega|assumption) only[Nat.reduceAdd,Nat.reduceLT,RZ,cZ,da,db,dc,de,dg,dh,di,dj,dk,BN,a]
     rw[ar'];try simp(disch:=first|omega|assumption) only[Nat.reduceAdd,Nat.reduceLT,RZ,cZ,da,db,dc,de,dg,dh,di,dj,dk]
     (try unfold tO);(try dsimp only)
     try simp(disch:=first|omega|assumption) only[Nat.reduceAdd,Nat.reduceLT,RZ,cZ,da,db,dc,de,dg,dh,di,dj,dk,i,j,l]
     all_goals (first|trivial|rfl|exact⟨rfl,rfl,rfl⟩|exact⟨rfl,rfl⟩)
    ·have b:1200<=z:=jO;by_cases m:z<2400
     ·have a:¬(2400<=z):=jO;rw[ar'];try simp(disch:=first|omega|assumption) only[Nat.reduceAdd,Nat.reduceLT,RZ,cZ,da,db,dc,de,dg,dh,di,dj,dk,BK,e]
      rw[ar'];try simp(disch:=first|omega|assumption) only[Nat.reduceAdd,Nat.reduceLT,RZ,cZ,da,db,dc,de,dg,dh,di,dj,dk,BL,c]
      rw[ar'];try simp(disch:=first|omega|assumption) only[Nat.reduceAdd,Nat.reduceLT,RZ,cZ,da,db,dc,de,dg,dh,di,dj,dk,BM,b]
      rw[ar'];try simp(disch:=first|omega|assumption) only[Nat.reduceAdd,Nat.reduceLT,RZ,cZ,da,db,dc,de,dg,dh,di,dj,dk,BN,a]
      rw[ar'];try simp(disch:=first|omega|assumption) only[Nat.reduceAdd,Nat.reduceLT,RZ,cZ,da,db,dc,de,dg,dh,di,dj,dk]
      (try unfold tO);(try dsimp only)
      try simp(disch:=first|omega|assumption) only[Nat.reduceAdd,Nat.reduceLT,RZ,cZ,da,db,dc,de,dg,dh,di,dj,dk,i,j,l,m]
      all_goals (first|trivial|rfl|exact⟨rfl,rfl,rfl⟩|exact⟨rfl,rfl⟩)
     ·have a:2400<=z:=jO;rw[ar'];try simp(disch:=first|omega|assumption) only[Nat.reduceAdd,Nat.reduceLT,RZ,cZ,da,db,dc,de,dg,dh,di,dj,dk,BK,e]
      rw[ar'];try simp(disch:=first|omega|assumption) only[Nat.reduceAdd,Nat.reduceLT,RZ,cZ,da,db,dc,de,dg,dh,di,dj,dk,BL,c]
      rw[ar'];try simp(disch:=first|omega|assumption) only[Nat.reduceAdd,Nat.reduceLT,RZ,cZ,da,db,dc,de,dg,dh,di,dj,dk,BM,b]
      rw[ar'];try simp(disch:=first|omega|assumption) only[Nat.reduceAdd,Nat.reduceLT,RZ,cZ,da,db,dc,de,dg,dh,di,dj,dk,BN,a]
      rw[ar'];try simp(disch:=first|omega|assumption) only[Nat.reduceAdd,Nat.reduceLT,RZ,cZ,da,db,dc,de,dg,dh,di,dj,dk]
      (try unfold tO);(try dsimp only)
      try simp(disch:=first|omega|assumption) only[Nat.reduceAdd,Nat.reduceLT,RZ,cZ,da,db,dc,de,dg,dh,di,dj,dk,i,j,l,m]
      all_goals (first|trivial|rfl|exact⟨rfl,rfl,rfl⟩|exact⟨rfl,rfl⟩)
 exact p lf o
include bP
theorem alB(v:Value)(xs:List Int)(s:Row h n 3 .i64 v xs)(A:xs.length<=1000000):
 ae (fun _=>False) n (eW lf (d+4) 189 #[v]) h n fun t h' n'=>RR h' n' 141 3 t (iI xs):=by
 rw[aF (fun _=>WI) rfl];refine ae.aE ?_;unfold Fg;have o:=s;obtain⟨a,c,rfl⟩:=s.len;refine jB ?_;refine bz (GA lf (d+2) n h xs.length jO) (ai _) (fun _ _ h=>h.elim) ?_;have C:dq xs.length<=1000000:=by unfold dq;omega
 refine cG (dq xs.length) (fun r i (u:Value)=>wi lf (eW lf (d+3)) r (Ff lf (eW lf (d+3))) _ _ u (jI (dq xs.length:Nat)) (jI (i:Nat))) (fun i u h' n'=>n<=n'∧(∀b,b<n->h'.get b=h.get b)∧fA h' n n' n' 141 3 u ((aY i).map (eN xs))) ?_ ?_ lf 0 _ h n (bU _) jO ⟨ai _,fun _ _=>rfl,fA.nil _ _ _ _ _ _⟩
 ·rintro r u h' n' ⟨k,l,p⟩;rw[wi];refine jA @bE ?_
  (try unfold Ff);(try dsimp only)
  refine jB ?_;exact p.rr
 ·rintro r i u h' n' B ⟨k,l,p⟩ next;have F:(i:Int)<((dq xs.length:Nat):Int):=jO;rw[wi];refine jA @F ?_;refine aN aL (aaE lf d n' h' _ xs (o.ay k l) A i B) k (fun _ _ h=>h.elim) fun G I x e j z=> ?_;obtain⟨g,rfl,D⟩:=z;have f:=(p.ay e fun b m _=>j b m id).up e;refine jA (aI @dF @ext1) ?_;refine Bq trivial jD f D (ai _) (by simp;omega) (ai _) jO _ fun v2 E w y _=> ?_;refine jB ?_;refine next v2 E (x+2) ⟨jO,fun b m=> ?_, ?_⟩
  ·rw[y b jO fun q=>by have:=(f.lt q).1;omega,j b jO id];exact l b m
  ·rw[mv,dU];exact w.up jO
theorem alC(v u:Value)(g:List Int)(T:List (List Int))(J:Row h n 3 .i64 v g)(s:RR h n 141 3 u T)(F:g.length<=1000000)(I:T.length<=1000)(m:∀t∈T,t.length<=1000000∧dP 0 1099511627776 t=true∧ef t.length g=true):
 ae (fun _=>False) n (eW lf (d+7) 215 #[v,u]) h n fun w h' n'=>w=jI (jx g T:Int)∧h'=h∧n'=n:=by
 rw[aF (fun _=>XG) rfl];refine ae.aE ?_;unfold FB;have p:=s;obtain⟨a,c,rfl⟩:=s.len;refine jB ?_;refine cG T.length (fun r i (q:Nat×Int)=>tP lf (eW lf (d+6)) r (FA lf (eW lf (d+6))) _ _ _ (jI (q.1:Nat)) (jI q.2) _ (jI (T.length:Nat)) (jI (i:Nat))) (fun i q h' n'=>(h'=h∧n'=n)∧jx g T=l6 g (T.drop i) i q.1 q.2) ?_ ?_ lf 0 (0,1099511627776) h n (bU _) jO ⟨⟨rfl,rfl⟩,rfl⟩
 ·rintro r q h' n' ⟨⟨rfl,rfl⟩,e⟩;rw[tP];refine jA @bE ?_
  (try unfold FA);(try dsimp only)
  refine jB ?_;rw[my]at e;rw[e];all_goals (first|trivial|rfl|exact⟨rfl,rfl,rfl⟩|exact⟨rfl,rfl⟩)
 ·rintro r i q h' n' f ⟨⟨rfl,rfl⟩,e⟩ next;obtain⟨b,y,cap,o,N,D,G,L,l⟩:=p.at jO;cases D;obtain⟨x,C,k⟩:=l i f;have K:(i:Int)<((T.length:Nat):Int):=jO;rw[jY [] f]at e;have E:T.getD i []∈T:=by rw[aC,aJ f];exact cb f
  obtain⟨B,A,z⟩:=m _ E;rw[tP];refine jA (aI @K (aI @G @C)) ?_;refine bz (aaD lf d _ h' bP v x g _ J k F B) (ai _) (fun _ _ h=>h.elim) ?_;rw[if_pos ⟨A,z⟩];unfold l6 at e;by_cases j:gN g (T.getD i [])<q.2
  ·rw[if_pos j]at e;refine jA (aI @dF (aI @ext1 @j)) ?_;exact next (i,gN g (T.getD i [])) _ _ ⟨⟨rfl,rfl⟩,e⟩
  ·rw[if_neg j]at e;refine jA (aI @dF (aI @ext1 @j)) ?_;exact next q _ _ ⟨⟨rfl,rfl⟩,e⟩
theorem alD(v u:Value)(g:List Int)(T:List (List Int))(G:Row h n 3 .i64 v g)(F:RR h n 141 3 u T)(I:0<T.length)(C:g.length<=1000000)(u0:T.length<=1000)(l:∀t∈T,t.length<=1000000∧(∀y∈t,0<=y∧y<=1099511627776)∧ef t.length g=true):
 ae (fun _=>False) n (eW lf (d+3) 176 #[v,u]) h n fun K h' n'=>K=jI (jx g T:Int)∧h'=h∧n'=n:=by
 rw[aF (fun _=>aie) rfl];refine ae.aE ?_;unfold KZ;have z:=F;obtain⟨a,c,rfl⟩:=F.len;refine jB ?_
 have O:jx g T=l6 g (T.drop 0) 0 0 (gN g (T.getD 0 [])):=by
  match T,I with
  |t::T,_=>rw[ak8];show _=l6 g (t::T) 0 0 (gN g t);simp only[l6];rw[if_neg (bE _)]
 refine cG T.length (fun A i (q:Nat)=>tF lf (eW lf (d+2)) A (Fa lf (eW lf (d+2))) _ _ _ (jI (q:Nat)) _ (jI (T.length:Nat)) (jI (i:Nat))) (fun i q h' n'=>(h'=h∧n'=n)∧q<T.length∧jx g T=l6 g (T.drop i) i q (gN g (T.getD q []))) ?_ ?_ lf 0 0 h n (bU _) jO ⟨⟨rfl,rfl⟩,I,O⟩
 ·rintro A q h' n' ⟨⟨rfl,rfl⟩,m,e⟩;rw[tF];refine jA @bE ?_
  (try unfold Fa);(try dsimp only)
  refine jB ?_;rw[my]at e;rw[e];all_goals (first|trivial|rfl|exact⟨rfl,rfl,rfl⟩|exact⟨rfl,rfl⟩)
 ·rintro A i q h' n' p ⟨⟨rfl,rfl⟩,m,e⟩ next;obtain⟨b,P,cap,o,cs,hv,E,hb,k⟩:=z.at jO;cases hv;obtain⟨x,Z,w⟩:=k i p;obtain⟨J,s,f⟩:=k q m;have e1:(i:Int)<((T.length:Nat):Int):=jO;have e2:(q:Int)<((T.length:Nat):Int):=jO;rw[jY [] p]at e;have B:∀j,j<T.length->T.getD j []∈T:=fun j D=>by rw[aC,aJ D];exact cb D
  obtain⟨U,R,Q⟩:=l _ (B i p);obtain⟨Y,X,W⟩:=l _ (B q m);rw[tF];refine jA (aI @e1 (aI @E @Z)) ?_;refine Y8 aL (aaH lf d _ h' bP v x g _ G w C U R Q) (ai _) fun T1 N=> ?_;refine jA @e2 ?_;refine ajE trivial _ _ _ E hb s fun T2 L=> ?_;refine jB ?_;refine Y8 aL (aaH lf d _ h' bP v J g _ G f C Y X W) (ai _) fun T3 t3=> ?_;try simp(disch:=first|omega|assumption) only[Nat.reduceAdd,Nat.reduceLT,RZ,N.gq L,gO,oU,Hy]
  unfold l6 at e;by_cases r:gN g (T.getD i [])<gN g (T.getD q [])
  ·rw[if_pos r]at e;refine jA @r ?_;exact next i _ _ ⟨⟨rfl,rfl⟩,p,e⟩
  ·rw[if_neg r]at e;refine jA @r ?_;exact next q _ _ ⟨⟨rfl,rfl⟩,m,e⟩
end
def ud(xs:List Int)(i:Nat):List Int:=if i<xs.length then(xs.drop (50*(i/50))).take (i %50)else []
def ue(xs:List Int)(i:Nat):List (List Int):=(aY (if i<xs.length then i/50 else dq xs.length)).map (eN xs)
theorem alE{xs:List Int}{i:Nat}(h:i<xs.length):(xs.drop (50*(i/50))).take (i %50)++[xs.getD i 0]=(xs.drop (50*(i/50))).take (i %50+1):=by rw[fq (by simp;omega),List.getElem_drop,aC,aJ h];congr 2;show xs[i]=_;congr 1;omega
theorem alF{xs:List Int}{i:Nat}(h:i<xs.length)(h2:i %50+1=50∨i+1=xs.length):(xs.drop (50*(i/50))).take (i %50+1)=eN xs (i/50):=by
 unfold eN;rcases h2 with h2|h2
 ·rw[h2]
 ·rw[fG (by simp;omega),fG (by simp;omega)]
section
variable (lf d n:Nat) (h:H) (bP:3000000<=lf)
include bP
theorem alG(v:Value)(xs:List Int)(hR:Row h n 3 .i64 v xs)(hl:xs.length<=1000000):
 ae (fun _=>False) n (eW lf (d+1) 175 #[v]) h n fun G h' n'=>RR h' n' 141 3 G (iI xs):=by
 rw[aF (fun _=>aic) rfl];refine ae.aE ?_;unfold KY;have L:=hR;obtain⟨a,c,rfl⟩:=hR.len;refine jB ?_
 refine cG xs.length (fun F i (q:Value×Value)=>qe lf (eW lf d) F (AU lf (eW lf d)) (.slice a xs.length c) (.slice none 0 0) q.1 q.2 (.slice a xs.length c) (jI (xs.length:Nat)) (jI (i:Nat)))
  (fun i q h' n'=>n<=n'∧(∀b,b<n->h'.get b=h.get b)∧∃l,n<=l∧l<=n'∧fA h' n l n' 141 3 q.1 (ue xs i)∧Own h' l n' 3 q.2 (aH .i64 (ud xs i))) ?_ ?_ lf 0 (.slice none 0 0,.slice none 0 0) h n (bU _) jO ⟨ai _,fun _ _=>rfl,n,ai _,ai _, ?_, ?_⟩
 ·rintro F ⟨u,w⟩ h' n' ⟨Z,I,l,W,U,m,k⟩;rw[qe];refine jA @bE ?_
  (try unfold AU);(try dsimp only)
  refine jB ?_;have:=m.rr;unfold ue at this;rw[if_neg (sa _)]at this;exact this
 ·rintro F i ⟨u,w⟩ h' n' A ⟨Z,I,l,W,U,m,k⟩ next;simp only at m k;have K:=L.ay Z I;obtain⟨b,t,cap,o,cs,hv,hg,hb,_,_,_,J⟩:=K.some jO;cases hv;have e1:(i:Int)<((xs.length:Nat):Int):=jO;have c1:=J i A;have gn:ud xs i=(xs.drop (50*(i/50))).take (i %50):=by unfold ud;rw[if_pos A]
  have go:ue xs i=(aY (i/50)).map (eN xs):=by unfold ue;rw[if_pos A]
  have O:((xs.drop (50*(i/50))).take (i %50)).length=i %50:=by simp;omega
  rw[gn]at k;rw[go]at m;rw[qe];refine jA (aI @e1 (aI @hg @c1)) ?_;refine fJ trivial (eI _ _) k (by rw[cj,O];omega) W _ fun p g2 X=> ?_
  have g3:p.get (n'+1)=some ⟨3,true,aH .i64 ((xs.drop (50*(i/50))).take (i %50+1))⟩:=by rw[g2,<-alE A];unfold aH;rw[dU];rfl
  have N:((xs.drop (50*(i/50))).take (i %50+1)).length=i %50+1:=by simp;omega
  obtain⟨E,f⟩:∃E:Value,Value.slice (some ⟨n'+1,0,none⟩) ((aH .i64 ((xs.drop (50*(i/50))).take (i %50))).length+1) (aU+((aH .i64 ((xs.drop (50*(i/50))).take (i %50))).length+1))=E:=⟨_,rfl⟩
  have T:Own p n' (n'+2) 3 E (aH .i64 ((xs.drop (50*(i/50))).take (i %50+1))):=by rw[<-f];exact Own.mk' g3 jO jO (by rw[cj,cj,O,N])
  have x:(aH .i64 ((xs.drop (50*(i/50))).take (i %50))).length=i %50:=by rw[cj,O]
  rw[x]at f⊢
  have j:fA p n n' (n'+2) 141 3 u ((aY (i/50)).map (eN xs)):=(m.ay jO fun c C q=>X c C fun r=>by
   rcases q with q|q
   ·have:=(k.lt r).1;omega
   ·obtain⟨B,x1,x2⟩:=m.elem q;obtain⟨B',R,Q⟩:=k.elem r;rw[x1]at R;cases R
    rw[x2]at Q;exact absurd Q jD).up U
  have y:∀c,c<n->p.get c=h.get c:=fun c C=>by rw[X c jO fun r=>by have:=(k.lt r).1;omega];exact I c C
  have e0:((i %50:Nat):Int)+1=((i %50+1:Nat):Int):=jO
  have e:(i %50+1=50∨i+1=xs.length)->ae (fun _=>False) n (bV 141 1 E fun z=>bH 141 1 u z fun s=>qe lf (eW lf d) F (AU lf (eW lf d)) (.slice (some ⟨b,t,none⟩) xs.length c) (.slice none 0 0) s (.slice none 0 0) (.slice (some ⟨b,t,none⟩) xs.length c) (jI (xs.length:Nat)) (jI ((i+1:Nat):Int))) p (n'+2) fun G h' n'=>RR h' n' 141 3 G (iI xs):=by
   intro hf;have Y:=T.row;rw[alF A hf]at Y;refine Bq trivial jD j Y jO (by simp;omega) (ai _) jO _ fun v2 h3 o3 k3 _=> ?_;refine next (v2,.slice none 0 0) h3 (n'+2+2) ⟨jO,fun c C=> ?_,n'+2,jO,jO, ?_, ?_⟩
   ·rw[k3 c jO fun r=>by have:=(j.lt r).1;omega];exact y c C
   ·have:ue xs (i+1)=(aY (i/50)).map (eN xs)++[eN xs (i/50)]:=by
     have:(if i+1<xs.length then(i+1)/50 else dq xs.length)=i/50+1:=by unfold dq;split<;>omega
     unfold ue;rw[this,mv,dU];rfl
    rw[this];exact o3
   ·have:ud xs (i+1)=[]:=by
     unfold ud;split
     ·rw[show(i+1)%50=0 by omega,nE]
     ·rfl
    rw[this];exact Own.nil _ _ _ _
  have e4:(i:Int)+1=((i+1:Nat):Int):=jO;by_cases P:i %50+1=50
  ·have D:(((i %50:Nat):Int)+1==50)=true:=by rw[e0,P];rfl
   have g:(((i %50+1:Nat):Int)==50)=true:=by rw[P];rfl
   rw[<-f]at e;refine jA (aI @D @g) ?_;exact e (.inl P)
  ·have D:(((i %50:Nat):Int)+1==50)=false:=by rw[e0];exact beq_eq_false_iff_ne.2 jO
   have g:(((i %50+1:Nat):Int)==50)=false:=beq_eq_false_iff_ne.2 jO;by_cases f2:i+1=xs.length
   ·have s:((i:Int)+1==((xs.length:Nat):Int))=true:=by rw[e4,f2];simp
    rw[<-f]at e;refine jA (aI @D (aI @g @s)) ?_;exact e (.inr f2)
   ·have s:((i:Int)+1==((xs.length:Nat):Int))=false:=by rw[e4];exact beq_eq_false_iff_ne.2 jO
    have hd:(i+1)/50=i/50:=jO;have hm:(i+1)%50=i %50+1:=jO;refine jA (aI @D (aI @g @s)) ?_;refine next (u,.slice (some ⟨n'+1,0,none⟩) (i %50+1) (aU+(i %50+1))) p (n'+2) ⟨jO,y,n',jO,jO, ?_, ?_⟩
    ·unfold ue;rw[if_pos jO,hd];exact j
    ·unfold ud;rw[if_pos jO,hd,hm,f];exact T
 ·unfold ue;by_cases q:0<xs.length
  ·rw[if_pos q];exact fA.nil _ _ _ _ _ _
  ·have:xs.length=0:=jO;rw[if_neg q,this];exact fA.nil _ _ _ _ _ _
 ·have:ud xs 0=[]:=by unfold ud;split<;>simp
  rw[this];exact Own.nil _ _ _ _
end
theorem M3{a:Type}(d:a)(f:Nat->a){N i:Nat}(h:i<N):((aY N).map f).getD i d=f i:=by rw[aC,fo,Cu h];rfl
def l7(a:List Int)(z:Int)(p v:Nat):List Int:=(aY a.length).map fun u=>if u<v then(if fC a z u=p then 0 else 15)else 0
theorem GG(a:List Int)(z:Int)(p v:Nat):(l7 a z p v).length=a.length:=by unfold l7;simp
theorem alH(a:List Int)(z:Int)(p:Nat):l7 a z p 0=bD a.length 0:=by
 apply mw
 ·simp[GG]
 ·intro i c b;simp[l7]
theorem alI(a:List Int)(z:Int)(p:Nat):l7 a z p a.length=kM a z p:=by unfold l7 kM;apply mq;intro u b;rw[if_pos (List.mem_range.1 b)]
theorem alJ{a:List Int}{z:Int}{p v:Nat}(b:fC a z v=p):l7 a z p (v+1)=l7 a z p v:=by
 unfold l7;apply mq;intro u e;by_cases c:u<v
 ·rw[if_pos c,if_pos (show u<v+1 by omega)]
 ·by_cases d:u=v
  ·subst d;rw[if_pos (show u<u+1 by omega),if_pos b,if_neg (sa u)]
  ·rw[if_neg c,if_neg (show¬u<v+1 by omega)]
theorem alK{a:List Int}{z:Int}{p v:Nat}(e:v<a.length)(d:fC a z v≠p):(l7 a z p v).set v 15=l7 a z p (v+1):=by
 apply mw
 ·simp[GG]
 ·intro i g f;rw[List.getElem_set];simp only[l7,nG,xw];by_cases c:v=i
  ·subst c;rw[if_pos rfl,if_pos (show v<v+1 by omega),if_neg d]
  ·rw[if_neg c];by_cases b:i<v
   ·rw[if_pos b,if_pos (show i<v+1 by omega)]
   ·rw[if_neg b,if_neg (show¬i<v+1 by omega)]
section
variable (lf d n:Nat) (h:H) (bP:3000000<=lf)
include bP
theorem alL(v:Value)(xs:List Int)(z:Int)(g:Gd h n)(hR:Row h n 3 .i64 v xs)(hl:xs.length<=258)(O:∀x∈xs,0<=x∧x<=1099511627776)(hz:1<=z)(u1:z<=1099511627776):
 ae (fun _=>False) n (eW lf (d+2) 190 #[v,jI z]) h n fun v' h' n'=>RR h' n' 141 3 v' (lu xs z):=by
 rw[aF (fun _=>WQ) rfl];refine ae.aE ?_;unfold Fi;have X:=hR;obtain⟨a,c,rfl⟩:=hR.len;refine bz (alA lf d n h z g jO) (ai _) (fun _ _ h=>h.elim) ?_;have ht:=BH z;obtain⟨t,A⟩:∃t,j1 z=t:=⟨_,rfl⟩;rw[A]at ht⊢;refine Ev.run_make trivial t t _ (ai _) jO ?_;refine jB ?_;let k:Nat->Value:=fun j=> .slice (some ⟨n+1+j,0,none⟩) xs.length xs.length
 refine cG t (fun I i (_:Unit)=>wj lf (eW lf (d+1)) I (AZ lf (eW lf (d+1))) (.slice a xs.length c) (jI z) (.slice none 0 0) (jI (t:Nat)) (.slice (some ⟨n,0,none⟩) t t) (jI (t:Nat)) (jI (i:Nat)))
  (fun i _ h' n'=>n'=n+1+i∧(∀b,b<n->h'.get b=h.get b)∧h'.get n=some ⟨141,true,rc k (.slice none 0 0) t i⟩∧∀j,j<i->h'.get (n+1+j)=some ⟨3,true,aH .i64 (bD xs.length 0)⟩) ?_ ?_ lf 0 () _ _ (bU _) jO ⟨rfl,fun b L=>aB _ _ jO,by rw[get_eq,Y'],fun j E=>absurd E (lL j)⟩
 ·rintro I _ h' n' ⟨rfl,K,G,E⟩;rw[wj];refine jA @bE ?_
  (try unfold AZ);(try dsimp only)
  refine jB ?_;rw[Za]at G
  refine cG xs.length (fun I i (q:Int)=>tI lf (eW lf (d+1)) I (AY lf (eW lf (d+1))) (.slice a xs.length c) (jI z) (.slice none 0 0) (jI (t:Nat)) (.slice (some ⟨n,0,none⟩) t t) (jI q) _ _ _ (.slice a xs.length c) (jI (xs.length:Nat)) (jI (i:Nat)))
   (fun i q h' n'=>q=eO xs z i∧n'=n+1+t∧(∀b,b<n->h'.get b=h.get b)∧h'.get n=some ⟨141,true,(aY t).map k⟩∧∀j,j<t->h'.get (n+1+j)=some ⟨3,true,aH .i64 (l7 xs z j i)⟩) ?_ ?_ lf 0 0 _ _ (bU _) jO ⟨by unfold eO;simp only[nE,bI];rw[if_neg jO],rfl,K,G,fun j l=>by rw[alH];exact E j l⟩
  ·rintro I q h' n' ⟨rfl,rfl,K,G,E⟩;rw[tI];refine jA @bE ?_
   (try unfold AY);(try unfold u);(try dsimp only)
   refine jB ?_;have P:((aY t).map k).length=t:=jS;refine⟨(aY t).map k,.inr ⟨n,0,t,true,_,by rw[P],G,jO,by rw[P];omega,by rw[dx,eh],by rw[P];exact ai _⟩,by rw[P,MW,A],fun j D=> ?_⟩;rw[MW,A]at D;unfold lu;rw[A,M3 _ _ D,M3 _ _ D,<-alI];exact Row.Gz (E j D) jO (GG _ _ _ _)
  ·rintro I i q h' n' F ⟨rfl,rfl,K,G,E⟩ next;obtain⟨b,Q,cap,o,cs,hv,U,L,_,_,_,W⟩:=(X.ay (ai n) K).some jO;cases hv;have u2:b<n+1+t:=jO;have e1:(i:Int)<((xs.length:Nat):Int):=jO;have c1:=W i F;obtain⟨g0,g1⟩:=MV (fun x y=>(O x y).1) hz (v:=i);have Y:=aax (fun x y=>(O x y).1) hz i;rw[A]at Y;have g4:0<=eO xs z i*(t:Int):=OK g0 jO;have g5:eO xs z i*(t:Int)<=1099511627776*6:=Int.mul_le_mul jO jO jO jO;have w1:IntKind.i64.wrap (eO xs z i*(t:Int))=eO xs z i*(t:Int):=aV jO jO
   have g6:(fC xs z i:Int)<=1099511627776*6:=by
    have:=Int.ediv_le_self z g4;have h2:(eO xs z i*(t:Int))/z=(fC xs z i:Int):=by rw[<-Y,Int.tdiv_eq_ediv_of_nonneg g4]
    omega
   have w2:IntKind.i64.wrap (fC xs z i:Int)=(fC xs z i:Int):=aV jO jO;have z0:z≠0:=jO;have xb:=O _ (yQ F);have w3:IntKind.i64.wrap (eO xs z i+xs.getD i 0)=eO xs z i+xs.getD i 0:=aV jO jO;have w4:IntKind.i64.wrap (z-1)=z-1:=aV jO jO;have bn:=aaw (fun x y=>(O x y).1) (n:=z) F;rw[tI];refine jA (aI @e1 (aI @U (aI @c1 (aI @w1 (aI @z0 (aI @Y @w2)))))) ?_
   refine cG t (fun Z p (_:Unit)=>tH lf (eW lf (d+1)) Z (WL lf (eW lf (d+1)) I (AY lf (eW lf (d+1)))) (.slice (some ⟨b,Q,none⟩) xs.length c) (jI z) (.slice none 0 0) (jI (t:Nat)) (.slice (some ⟨n,0,none⟩) t t) (jI (eO xs z i)) (jI (i:Nat)) (jI (xs.getD i 0)) (jI (fC xs z i:Nat)) _ _ _ _ _ (jI (i:Nat)) _ (jI (t:Nat)) (jI (p:Nat)))
    (fun p _ h' n'=>n'=n+1+t∧(∀b,b<n->h'.get b=h.get b)∧h'.get n=some ⟨141,true,(aY t).map k⟩∧∀j,j<t->h'.get (n+1+j)=some ⟨3,true,aH .i64 (l7 xs z j (if j<p then i+1 else i))⟩) ?_ ?_ lf 0 () _ _ (bU _) jO ⟨rfl,K,G,fun j l=>by rw[if_neg (lL j)];exact E j l⟩
   ·rintro Z _ h2 n2 ⟨rfl,C,s,l⟩;rw[tH];refine jA @bE ?_
    (try unfold WL);(try unfold Fh);(try dsimp only)
    refine jA (aI @w3 (aI @w4 @bn)) ?_;exact next _ _ _ ⟨rfl,rfl,C,s,fun j r=>by have:=l j r;rwa[if_pos r]at this⟩
   ·rintro Z p _ h2 n2 hp ⟨rfl,C,s,l⟩ w;have N:(p:Int)<(t:Int):=jO;have J:=l p hp;rw[if_neg (sa p)]at J;rw[tH];by_cases m:fC xs z i=p
    ·have R:((p:Int) !=(fC xs z i:Int))=false:=by rw[m];simp
     refine jA (aI @N @R) ?_;refine w () _ _ ⟨rfl,C,s,fun j r=> ?_⟩;by_cases q:j=p
     ·subst q;rw[if_pos jO,alJ m];exact J
     ·have:=l j r;by_cases q2:j<p
      ·rw[if_pos q2]at this;rw[if_pos jO];exact this
      ·rw[if_neg q2]at this;rw[if_neg jO];exact this
    ·have R:((p:Int) !=(fC xs z i:Int))=true:=bne_iff_ne.2 fun e=>m jO;have c2:((aY t).map k)[p]? =some (k p):=by rw[fo,Cu hp];rfl
     have B:k p= .slice (some ⟨n+1+p,0,none⟩) xs.length xs.length:=rfl;have u0:n+1+p<n+1+t:=jO;have T:n<n+1+t:=jO;try simp(disch:=first|omega|assumption) only[Nat.reduceAdd,Nat.reduceLT,RZ,N,R,s,c2,B,e1,J,MZ,alK F m,cj,GG]
     refine⟨F,.inl jO, ?_⟩;refine w () _ _ ⟨rfl,fun b L=>by rw[aB _ _ jO];exact C b L,by rw[aB _ _ jO];exact s,fun j r=> ?_⟩;by_cases q:j=p
     ·subst q;rw[if_pos jO,get_eq]
     ·rw[aB _ _ jO];have:=l j r;by_cases q2:j<p
      ·rw[if_pos q2]at this;rw[if_pos jO];exact this
      ·rw[if_neg q2]at this;rw[if_neg jO];exact this
 ·rintro I i _ h' n' F ⟨rfl,K,G,E⟩ next;have N:(i:Int)<(t:Int):=jO;rw[wj];refine jA @N ?_;refine Ev.run_make trivial xs.length xs.length _ (ai _) jO ?_;have s:(h'.set (n+1+i) (some ⟨3,true,bD xs.length (jI 0)⟩)).get n=some ⟨141,true,rc k (.slice none 0 0) t i⟩:=by rw[aB _ _ jO];exact G
  have T:n<n+1+i+1:=jO;have rs:=Zc (f:=k) (z:= .slice none 0 0) F;have B:k i= .slice (some ⟨n+1+i,0,none⟩) xs.length xs.length:=rfl;rw[B]at rs;refine jA (aI @N (aI @s (aI @rs @Mm))) ?_;refine⟨F,.inl jO, ?_⟩;refine next () _ _ ⟨jO,fun b L=>by rw[aB _ _ jO,aB _ _ jO];exact K b L,get_eq _ _ _,fun j r=> ?_⟩;rw[aB _ _ jO];by_cases q:j=i
  ·subst q;rw[get_eq,Gy]
  ·rw[aB _ _ jO];exact E j jO
end
end Go.Proofs.YtcehhgppfahbkaaGreatDoor
namespace Go.Proofs.YtcehhgppfahbkaaGreatDoor
open Go.RowKit Ev Hu
inductive jy:Nat->List Int->List Int->Prop
 |stop (w:List Int) (hW:Ws w) (so:iW w (mV w)) (h:lh (ik w) 0<=20):jy 0 w (ik w)
 |next {k:Nat} {w l:List Int} (hW:Ws w) (so:iW w (mV w)) (h:¬lh (ik w) 0<=20) (r:jy k (gy w) l):jy (k+1) w l
theorem jy.out{k:Nat}{w l:List Int}(r:jy k w l):∃w',Ws w'∧iW w' (mV w')∧lh (ik w') 0<=20∧l=ik w'∧w'.length=w.length:=by
 induction r with
 |stop w hW a h=>exact⟨w,hW,a,h,rfl,rfl⟩
 |next hW a h r b=>obtain⟨w',g,f,e,d,c⟩:=b;exact⟨w',g,f,e,d,by rw[c,mW]⟩
structure Wb (ws:List Int) (c:Int):Prop where
 l2:2<=ws.length
 l3:ws.length<=258
 lo:∀x∈ws,1<=x
 hi:∀x∈ws,x<=c
theorem Wb.ws{ws:List Int}{c:Int}(h:Wb ws c)(b:c<=2199023255552):Ws ws:=⟨h.l2,h.l3,fun x a=>by have:=h.lo x a;omega,fun x a=>by have:=h.hi x a;omega⟩
theorem Wb.aaW{ws:List Int}{c:Int}(h:Wb ws c)(e:c<=2199023255552):Wb (gy ws) (c/2+1):=by
 refine⟨by rw[mW];exact h.l2,by rw[mW];exact h.l3,fun x a=> ?_,fun x a=> ?_⟩
 all_goals
  unfold gy at a;rw[HC]at a;obtain⟨y,b,rfl⟩:=a;have g:=h.lo y b;have f:=h.hi y b;have d:=ZK y jO;have:=d.2.2 jO;omega
def cap(k:Nat):Int:=2^k+2
theorem aaX(k:Nat):cap (k+1)/2+1<=cap k:=by unfold cap;rw[Int.pow_succ];omega
theorem GH{k:Nat}(h:k<=40):cap k<=2199023255552:=by unfold cap;have a:(2:Nat)^k<=2^40:=Nat.pow_le_pow_right jO h;have e:((2:Int)^k)=(((2:Nat)^k:Nat):Int):=jS;rw[e];generalize (2:Nat)^k=z at a;omega
theorem Wb.short{ws:List Int}(h:Wb ws 3)(e:iW ws (mV ws)):lh (ik ws) 0<=20:=by
 obtain⟨w,I,A,B,X,R,dep,D⟩:=(h.ws jO).Gi e;have g:=h.l2;have f:=h.l3;have c:=D.m.root
 have b:bI ((aY ws.length).map w)<=((aY ws.length).map w).length*3:=My 3 _ (fun x d=>by
  rw[HC]at d;obtain⟨i,a,rfl⟩:=d;have a:=List.mem_range.1 a;rw[D.ww i a]
  exact h.hi _ (Gj a))
 rw[cu,j7]at b;rw[Bo];refine⟨jO, ?_⟩;unfold ik;rw[D.mem];intro i a;have:=D.m.short D.d0 D.d1 a (by rw[D.ww i a];exact h.lo _ (Gj a)) jO;omega
theorem ofB(lf d:Nat)(g:3000000<=lf)(hd:300<=d)(x0 x2 J I G F E:Value){W:Nat->Prop}{n0:Nat}:
 ∀(m i:Nat) (w:List Int) (h:H) (n:Nat) (x4:Value),m<i->m<=40->Wb w (cap m)->n0<=n->Row h n 3 .i64 x4 w->
  ae W n0 (wC lf (eW lf d) i (A7 lf (eW lf d)) x0 x2 (jI 0) x4 J I G F E) h n fun Z h' n'=>∃k l r,Z= .tuple #[k,jI 0]∧jy r w l∧r<=m∧Row h' n' 3 .i64 k l:=by
 intro m
 induction m with
 |zero=>
  intro i w h n x4 U Q v P D;obtain⟨i,rfl⟩:∃f,i=f+1:=⟨i-1,jO⟩;obtain⟨e,rfl⟩:∃e,d=e+1:=⟨d-1,jO⟩;rw[wC];have hW:=v.ws (GH Q);refine aN aL (ZJ lf (e+1) n h x4 w D hW g hd) P (fun _ _ h=>h.elim) fun k q p A C O=> ?_;obtain⟨t,c,_⟩:=O;have T:=hW.l2;have R:=hW.l3;have dl:=Bx (ws:=w) jO;refine bz (Y6 lf e p q k _ c jO g) jO (fun _ _ h=>h.elim) ?_;have o:=Wb.short v t;refine jA @o ?_;refine aN aL (yz lf e p q k _ c jO jO) jO (fun _ _ h=>h.elim) fun s Y K z B u=> ?_
  (try unfold A7);(try unfold a);(try dsimp only)
  rw[xU];exact⟨s,_,0,rfl,.stop w hW t o,ai _,u.2.1⟩
 |succ m ih=>
  intro i w h n x4 U Q v P D;obtain⟨i,rfl⟩:∃f,i=f+1:=⟨i-1,jO⟩;obtain⟨e,rfl⟩:∃e,d=e+1:=⟨d-1,jO⟩;rw[wC];have hc:=GH Q;have hW:=v.ws hc;refine aN aL (ZJ lf (e+1) n h x4 w D hW g hd) P (fun _ _ h=>h.elim) fun k q p A C O=> ?_;obtain⟨t,c,_⟩:=O;have T:=hW.l2;have R:=hW.l3;have dl:=Bx (ws:=w) jO;refine bz (Y6 lf e p q k _ c jO g) jO (fun _ _ h=>h.elim) ?_;by_cases o:lh (ik w) 0<=20
  ·refine jA @o ?_;refine aN aL (yz lf e p q k _ c jO jO) jO (fun _ _ h=>h.elim) fun s Y K z B u=> ?_
   (try unfold A7);(try unfold a);(try dsimp only)
   rw[xU];exact⟨s,_,0,rfl,.stop w hW t o,bU _,u.2.1⟩
  ·refine jA @o ?_;have X:=D.ay A (fun b hb=>C b hb id);refine aN aL (aj6 lf e p q x4 w X jO (fun x L=>by have:=hW.hi x L;omega) g) jO (fun _ _ h=>h.elim) fun s Y K z B u=> ?_;have j:=v.aaW hc;have N:Wb (gy w) (cap m):=⟨j.l2,j.l3,j.lo,fun x L=>by have:=j.hi x L;have:=aaX m;omega⟩;refine(ih i (gy w) Y K s jO jO N jO u.1).mono ?_;rintro Z h' n' _ ⟨v4,l,r,rfl,hr,u0,y⟩;exact⟨v4,l,r+1,rfl,.next hW t o hr,jO,y⟩
def uf(x:Int):Int:=if x<1 then 1 else x
def fN(xs:List Int):List Int:=xs.map uf
theorem ng(xs:List Int):(fN xs).length=xs.length:=by unfold fN;simp
theorem aaY{xs:List Int}{i:Nat}(h:i<xs.length):(fN xs).getD i 0=uf (xs.getD i 0):=by unfold fN;rw[aC,fo,aJ h,aC,aJ h];rfl
theorem aaZ{xs:List Int}(h2:2<=xs.length)(c:xs.length<=258)(h:∀x∈xs,0<=x∧x<=1099511627776):Wb (fN xs) (cap 40):=by
 refine⟨by rw[ng];exact h2,by rw[ng];exact c,fun x a=> ?_,fun x a=> ?_⟩
 all_goals
  unfold fN at a;rw[HC]at a;obtain⟨y,b,rfl⟩:=a;have:=h y b;unfold uf
 ·split<;>omega
 ·have:cap 40=1099511627778:=rfl;split<;>omega
theorem ofA (lf d n:Nat) (h:H) (v:Value) (xs:List Int) (x:Row h n 3 .i64 v xs) (N:xs.length<=1000000) (x2 x3 j:Value) (c:Nat) (G:xs.length<=c) {W:Nat->Prop} {n0:Nat} (q:n0<=n) {Q:Value->H->Nat->Prop} (k:(Value->Value->Value->Value->Value->Value->Value->Value->Value->M Value))
 (J:∀e p,Row e (n+1) 3 .i64 (.slice (some ⟨n,0,none⟩) xs.length c) (fN xs)->ae W n0 (k v x2 x3 (.slice (some ⟨n,0,none⟩) xs.length c) j v (jI (xs.length:Nat)) (jI (xs.length:Nat)) p) e (n+1) Q):
 ∀(m i a:Nat) (e:H),xs.length-i=m->m<a->i<=xs.length->(∀b,b<n->e.get b=h.get b)->e.get n=some ⟨3,true,ints (part (fN xs) i)⟩->
  ae W n0 (wB lf (eW lf d) a k v x2 x3 (.slice (some ⟨n,0,none⟩) xs.length c) j v (jI (xs.length:Nat)) (jI (i:Nat))) e (n+1) Q:=by
 intro m
 induction m with
 |zero=>intro i a e D t E s g;obtain⟨a,rfl⟩:∃f,a=f+1:=⟨a-1,jO⟩;obtain rfl:i=xs.length:=jO;rw[wB];refine jA @bE ?_;rw[<-ng xs,MB]at g;refine J e _ (.inr ⟨n,0,c,true,_,by rw[ng],g,dK n,by rw[jV];omega, ?_,by rw[ng];exact G⟩);rw[dx,fG (by rw[jV];exact ai _)];rfl
 |succ m C=>
  intro i a e D t E s g;obtain⟨a,rfl⟩:∃f,a=f+1:=⟨a-1,jO⟩;have w:Row e (n+1) 3 .i64 v xs:=x.ay (cH n) s;have r:=fun b l=>x.lt (b:=b) l;obtain⟨b,B,cap,o,O,rfl,F,l,_,_,_,u⟩:=w.some jO;have I:b<n:=r b ⟨_,_,_,rfl⟩;have K:(i:Int)<((xs.length:Nat):Int):=jO;have L:=u i jO;have y:(i:Int)+1=((i+1:Nat):Int):=jO;have A:(part (fN xs) i).length=xs.length:=by rw[Mz _ (by rw[ng];omega),ng]
  have z:(part (fN xs) i).set i (if xs.getD i 0<1 then 1 else xs.getD i 0)=part (fN xs) (i+1):=by show(part (fN xs) i).set i (uf (xs.getD i 0))=_;rw[<-aaY jO,MA (by rw[ng];omega)]
  rw[wB];refine jA (aI @K (aI @F (aI @L (aI @g (aI @ints_set (aI @jV (aI @A @z))))))) ?_;refine⟨jO,.inl q, ?_⟩;rw[y];exact C (i+1) a _ jO jO jO (fun b l=>by rw[aB _ _ jO];exact s b l) (get_eq _ _ _)
theorem alM(lf d n:Nat)(h:H)(v:Value)(xs:List Int)(u:Row h n 3 .i64 v xs)(y:3<=xs.length)(m:xs.length<=258)(t:dP 0 1099511627776 xs=true)(g:3000000<=lf)(hd:400<=d):
 ae (fun _=>False) n (eW lf d 217 #[v]) h n fun x h' n'=>∃q l r,x= .tuple #[q,jI 0]∧jy r (fN xs) l∧r<=40∧Row h' n' 3 .i64 q l:=by
 obtain⟨d,rfl⟩:∃e,d=e+5:=⟨d-5,jO⟩;have k:=iG.1 t;rw[aF (fun _=>XO) rfl];refine ae.aE ?_;unfold FF;have i:=u;obtain⟨a,c,rfl⟩:=u.len;have C:¬((xs.length:Nat):Int)<3:=jO;have B:¬(258:Int)<((xs.length:Nat):Int):=jO;refine jA (aI @C @B) ?_;refine yB (Y5 lf d n h _ xs i 0 1099511627776 jO g) (ai _) fun A s f p=> ?_;have o:=i.ay f p;rw[t,Ab,gE];refine jB ?_;refine Ev.run_make trivial xs.length xs.length _ (ai _) jO ?_;refine jB ?_;refine ofA lf (d+4) s A _ xs o jO _ _ _ xs.length (ai _) f _ (fun z w j=> ?_) xs.length 0 lf _ jO jO jO (fun b D=>aB _ _ jO) ?_
 ·(try unfold FE);(try dsimp only)
  exact ofB lf (d+4) g jO _ _ _ _ _ _ _ 40 lf (fN xs) z (s+1) _ jO (ai _) (aaZ jO m k) jO j
 ·rw[get_eq,MC,ng];unfold ints;rw[zB]
theorem jy.whole{k:Nat}{w l:List Int}(r:jy k w l):l.length=w.length∧dP 1 20 l=true∧iX l=1048576:=by
 obtain⟨j,a,b,h,rfl,e⟩:=r.out;obtain⟨g,I,A,B,X,R,dep,D⟩:=a.Gi b;have d:=a.l2;rw[Bo]at h;refine⟨by rw[Bx jO,e],iG.2 fun x c=>⟨?_,h.2 x c⟩, ?_⟩
 ·revert x;unfold ik;rw[D.mem];intro i f;have:=D.ZH f;omega
 ·unfold ik at h⊢;exact D.share h.2
abbrev jz:=Int×Nat×Value
def tv(t:jz):V3:=(jI t.1,jI (t.2.1:Nat),t.2.2)
def yR(t u:jz):Bool:=decide (t.1<u.1)||(t.1==u.1&&decide (t.2.1<u.2.1))
theorem M4{t u:jz}:yR t u=true↔t.1<u.1∨t.1=u.1∧t.2.1<u.2.1:=by unfold yR;simp
def rG(v:Value):Prop:=∃a n c,v= .slice a n c
theorem M5{t:jz}(h:rG t.2.2):Jy (tv t):=by obtain⟨a,n,c,h⟩:=h;exact⟨rfl,rfl,by show one t.2.2=true;rw[h];rfl⟩
theorem alN(lf d n:Nat)(h:H)(t u:jz):ae (fun _=>False) n (eW lf (d+1) 237 #[rk (tv t),rk (tv u)]) h n fun o h' n'=>o= .bool (yR t u):=by
 rw[aF (fun _=>aiV) rfl];refine ae.aE ?_;unfold Ye;refine kK trivial _ _ ?_;refine kK trivial _ _ ?_;obtain⟨e,f⟩:∃e,(h.set n (some ⟨250,true,(rk (tv t)).cells.toList⟩)).set (n+1) (some ⟨250,true,(rk (tv u)).cells.toList⟩)=e:=⟨_,rfl⟩;have l:e.get n=some ⟨250,true,[jI t.1,jI (t.2.1:Nat),t.2.2]⟩:=by rw[<-f,aB _ _ jO,get_eq];rfl
 have k:e.get (n+1)=some ⟨250,true,[jI u.1,jI (u.2.1:Nat),u.2.2]⟩:=by rw[<-f,get_eq];rfl
 rw[f];have j:∀a b c:Value,[a,b,c][0]? =some a:=fun _ _ _=>rfl;have i:∀a b c:Value,[a,b,c][1]? =some b:=fun _ _ _=>rfl;unfold yR;by_cases g:t.1<u.1
 ·refine jA (aI @l (aI @k (aI @j (aI @i @g)))) ?_;simp[g]
 ·by_cases e:t.1=u.1
  ·have m:(t.1==u.1)=true:=by simp[e]
   refine jA (aI @l (aI @k (aI @j (aI @i (aI @g @m))))) ?_;simp[e]
  ·have m:(t.1==u.1)=false:=by simp[e]
   refine jA (aI @l (aI @k (aI @j (aI @i (aI @g @m))))) ?_;simp[g]
def BO(l:List jz)(i at_:Nat):Prop:=∀j (a:j<i) (h:j<l.length) (b:at_<l.length),j=at_∨yR l[at_] l[j]=true
theorem lsA(lf d X:Nat)(lo:Nat)(l:List jz)(hl:l.length<=1000000)(hd:∀i j (O:i<l.length) (N:j<l.length),i≠j->l[i].2.1≠l[j].2.1)(Z:∀t∈l,rG t.2.2)(v x2:Value){W:Nat->Prop}{n0:Nat}:
 ∀(m i g at_:Nat) (h:H) (n:Nat),l.length-i=m->m<g->i<=l.length->at_<l.length->BO l i at_->n0<=n->eE h lo n 250 v (l.map tv)->
  ae W n0 (tQ lf (eW lf (d+1)) g (FJ lf (eW lf (d+1))) v x2 (jI (at_:Nat)) v (jI (l.length:Nat)) (jI (i:Nat))) h n fun R _ _=>∃a:Nat,R=jI (a:Nat)∧a<l.length∧BO l l.length a:=by
 intro m
 induction m with
 |zero=>
  intro i g at_ h n hm D O p c L G;obtain⟨g,rfl⟩:∃f,g=f+1:=⟨g-1,jO⟩;obtain rfl:i=l.length:=jO;rw[tQ];refine jA @bE ?_
  (try unfold FJ);(try dsimp only)
  refine jB ?_;exact⟨at_,rfl,p,c⟩
 |succ m C=>
  intro i g at_ h n hm D O p c L G;obtain⟨g,rfl⟩:∃f,g=f+1:=⟨g-1,jO⟩;have F:=G;rcases G with ⟨rfl,s⟩|⟨b,rfl,P,E,w⟩
  ·have:=congrArg lK s;simp at this;subst this;simp at p
  rw[cu]at F⊢;simp only[cu]at C;have o:i<l.length:=jO;have Q:(i:Int)<((l.length:Nat):Int):=jO;have z:(at_:Int)<((l.length:Nat):Int):=jO;have K:(i:Int)+1=((i+1:Nat):Int):=jO
  have U:((jU (l.map tv)).drop (i*3)).take 3=[(tv l[i]).1,(tv l[i]).2.1,(tv l[i]).2.2]:=by have:=Al (l.map tv) i (by simpa using o);simpa using this
  have T:((jU (l.map tv)).drop (at_*3)).take 3=[(tv l[at_]).1,(tv l[at_]).2.1,(tv l[at_]).2.2]:=by have:=Al (l.map tv) at_ (by simpa using p);simpa using this
  rw[tQ];refine jA (aI @Q @z) ?_;refine yd trivial P w U _ ?_;refine JA trivial (tv l[i]) (M5 (Z _ (cb o))) _ (fun r g2 Y=> ?_) L;refine yd trivial g2 (dK n) (x:=tv l[i]) rfl _ ?_;refine jA (aI @Q @z) ?_;have u:r.get b=some ⟨250,true,jU (l.map tv)⟩:=(Y b w).trans P;refine yd trivial u jO T _ ?_;refine aN aL (alN lf d (n+1) r l[i] l[at_]) jO (fun _ _ h=>h.elim) fun v3 I B u0 J hq=> ?_;subst hq;have y:eE I lo B 250 (.slice (some ⟨b,0,none⟩) l.length (aU+l.length)) (l.map tv):= .inr ⟨b,by rw[cu],(J b jO id).trans u,E,jO⟩;by_cases k:yR l[i] l[at_]=true
  ·rw[k];refine jB ?_;rw[K];refine C (i+1) g i I B jO jO jO o (fun j N A r=> ?_) jO y;by_cases e:j=i
   ·exact .inl e
   ·right;rcases c j jO A p with q|q
    ·subst q;exact k
    ·rw[M4]at k q⊢;omega
  ·rw[Bool.eq_false_iff.2 k];refine jB ?_;rw[K];refine C (i+1) g at_ I B jO jO jO p (fun j N A r=> ?_) jO y;by_cases e:j=i
   ·subst e;by_cases z:j=at_
    ·exact .inl z
    ·right;have:=hd j at_ A r z;rw[M4]at k⊢;omega
   ·exact c j jO A r
theorem alO(lf d n lo:Nat)(h:H)(v:Value)(l:List jz)(e:eE h lo n 250 v (l.map tv))(p:0<l.length)(m:l.length<=1000000)(hd:∀i j (r:i<l.length) (o:j<l.length),i≠j->l[i].2.1≠l[j].2.1)(g:∀t∈l,rG t.2.2)(k:3000000<=lf):
 ae (fun _=>False) n (eW lf (d+2) 224 #[v]) h n fun f _ _=>∃a:Nat,f=jI (a:Nat)∧a<l.length∧BO l l.length a:=by
 rw[aF (fun _=>aiP) rfl];refine ae.aE ?_;unfold LI;have b:=e;obtain⟨a,c,rfl⟩:=e.len;rw[cu]at b⊢;refine jB ?_;have q:ii 0=jI ((0:Nat):Int):=rfl;rw[q];exact lsA lf d n lo l m hd g _ _ l.length 0 lf 0 h n jO jO jO p (fun j o=>by omega) (ai _) b
theorem wiA(lf d lo:Nat)(l:List jz)(at_:Nat)(hl:l.length<=1000000)(Q:∀t∈l,rG t.2.2)(v x4:Value){W:Nat->Prop}{n0 j:Nat}(R:n0<=j):
 ∀(m i e:Nat) (h:H) (n:Nat) (o:Value),l.length-i=m->m<e->i<=l.length->j<=n->(∀b,az v b->b<j)->eE h lo j 250 v (l.map tv)->eE h j n 250 o (((l.take i).eraseIdx at_).map tv)->
  ae W n0 (tR lf (eW lf (d+1)) e (FK lf (eW lf (d+1))) v (jI (at_:Nat)) x4 o v (jI (l.length:Nat)) (jI (i:Nat))) h n fun L h' n'=>eE h' j n' 250 L ((l.eraseIdx at_).map tv):=by
 intro m
 induction m with
 |zero=>
  intro i e h n o J B U A a C w;obtain⟨e,rfl⟩:∃f,e=f+1:=⟨e-1,jO⟩;obtain rfl:i=l.length:=jO;rw[tR];refine jA @bE ?_
  (try unfold FK);(try dsimp only)
  refine jB ?_;rw[eh]at w;exact w
 |succ m z=>
  intro i e h n o J B U A a C w;obtain⟨e,rfl⟩:∃f,e=f+1:=⟨e-1,jO⟩;have u:=C;rcases C with ⟨rfl,r⟩|⟨b,rfl,X,u0,Z⟩
  ·have:=congrArg lK r;simp at this;subst this;simp at J
  rw[cu]at u a⊢;simp only[cu]at z;have k:i<l.length:=jO;have e1:(i:Int)<((l.length:Nat):Int):=jO;have E:(i:Int)+1=((i+1:Nat):Int):=jO
  have N:((jU (l.map tv)).drop (i*3)).take 3=[(tv l[i]).1,(tv l[i]).2.1,(tv l[i]).2.2]:=by have:=Al (l.map tv) i (by simpa using k);simpa using this
  have G:=M5 (Q _ (cb k));rw[tR];refine jA @e1 ?_;refine yd trivial X jO N _ ?_;refine JA trivial (tv l[i]) G _ (fun D g2 I=> ?_) jO;have g:eE D j (n+1) 250 o (((l.take i).eraseIdx at_).map tv):=w.ay jO fun c p=>I c (w.lt p).2;have s:eE D lo j 250 (.slice (some ⟨b,0,none⟩) l.length (aU+l.length)) (l.map tv):=u.ay (ai _) fun c p=>I c (by have:=a c p;omega);have F:l.take (i+1)=l.take i++[l[i]]:=fq k;by_cases Y:i=at_
  ·have y:((i:Int) !=(at_:Int))=false:=by rw[Y];simp
   refine jA @y ?_;rw[E];refine z (i+1) e D (n+1) o jO jO jO jO a s ?_;rw[F,ari (by rw[cB];omega)];rw[adB (by rw[cB];omega)]at g;rw[show at_-(l.take i).length=0 by rw[cB];omega];simpa using g
  ·have y:((i:Int) !=(at_:Int))=true:=bne_iff_ne.2 jO;refine jA @y ?_;refine yd trivial g2 (dK n) (x:=tv l[i]) rfl _ ?_;refine JB trivial G g (by rw[cu];have:((l.take i).eraseIdx at_).length<=(l.take i).length:=(by rw[List.length_eraseIdx];split<;>omega);rw[cB]at this;omega) jO jO _ (fun K h6 O b6 P=> ?_);refine jB ?_;rw[E];refine z (i+1) e h6 (n+1+2) K jO jO jO jO a (s.ay (ai _) fun c p=>P c (by have:=a c p;omega) (fun q=>by have:=(g.lt q).1;have:=a c p;omega)) ?_
   have:(l.take (i+1)).eraseIdx at_=(l.take i).eraseIdx at_++[l[i]]:=by
    rw[F];by_cases T:at_<i
    ·rw[List.eraseIdx_append_of_lt_length (by rw[cB];omega)]
    ·rw[ari (by rw[cB];omega),adB (l:=l.take i) (by rw[cB];omega)];congr 1;rw[adB (by rw[cB];simp;omega)]
   rw[this,dU];exact O
theorem alP(lf d n lo:Nat)(h:H)(v:Value)(l:List jz)(at_:Nat)(g:eE h lo n 250 v (l.map tv))(m:l.length<=1000000)(j:∀t∈l,rG t.2.2)(k:3000000<=lf):
 ae (fun _=>False) n (eW lf (d+2) 225 #[v,jI (at_:Nat)]) h n fun i h' n'=>eE h' n n' 250 i ((l.eraseIdx at_).map tv):=by
 rw[aF (fun _=>aiR) rfl];refine ae.aE ?_;unfold LJ;have f:=g;have e:=fun b o=>(g.lt (b:=b) o).2;obtain⟨a,c,rfl⟩:=g.len;rw[cu]at f e⊢;refine jB ?_;exact wiA lf d lo l at_ m j _ _ (ai n) l.length 0 lf h n _ jO jO jO (ai _) e f (by simpa using eE.nil h n n _)
end Go.Proofs.YtcehhgppfahbkaaGreatDoor
namespace Go.Proofs.YtcehhgppfahbkaaGreatDoor
open Ev Hu
def kO(out:List Int):List Nat->List Int
 |[]=>out
 |i::a=>kO (out.set i (out.getD i 0+1)) a
theorem M6:∀(ls:List Nat) (out:List Int),(kO out ls).length=out.length
 |[],_=>rfl
 |i::ls,out=>by unfold kO;rw[M6 ls];simp
theorem M7:∀(ls:List Nat) (out:List Int),ls.Nodup->(∀i∈ls,i<out.length)->∀j,(kO out ls).getD j 0=out.getD j 0+if j∈ls then 1 else 0
 |[],out,_,_,j=>by simp[kO]
 |i::ls,out,a,b,j=>by
  rw[List.nodup_cons]at a;have d:=b i jS;unfold kO;rw[M7 ls _ a.2 (fun k c=>by rw[List.length_set];exact b k (by simp[c])),qg];by_cases e:i=j
  ·subst e;rw[if_pos ⟨rfl,d⟩,if_neg a.1,if_pos jS];omega
  ·rw[if_neg (fun q=>e q.1)];have:(j∈i::ls)↔j∈ls:=by simp[Ne.symm e]
   simp only[this]
theorem aa0:∀(a b:List Nat) (out:List Int),kO out (a++b)=kO (kO out a) b
 |[],b,out=>rfl
 |i::a,b,out=>by simp only[List.cons_append,kO];exact aa0 a b _
theorem GI{a:Type}:∀{l:List a} {i:Nat} (h:i<l.length),l.Perm (l[i]::l.eraseIdx i)
 |x::l,0,_=>uz _
 |x::l,i+1,h=>by
  have b:i<l.length:=by simpa using h
  have:=GI b;simp only[List.getElem_cons_succ,List.eraseIdx_cons_succ];exact(this.cons x).trans (ar0 _ _ _)
theorem M8{a b:Type}(f:a->b):∀(l:List a) (i:Nat),(l.eraseIdx i).map f=(l.map f).eraseIdx i
 |[],i=>by simp
 |x::l,0=>rfl
 |x::l,i+1=>by simp[M8 f l i]
structure rH (N:Nat) (dep:Nat->Nat) (X:Nat->List Nat) (k:Nat) (GJ:List Nat) (lf:Nat->List Nat) (out:List Int):Prop where
 Gu:GJ.Pairwise (·<·)
 ug:GJ.Perm (X k)
 len:out.length=N
 lv:∀t∈GJ,∀i∈lf t,i<N∧out.getD i 0+dep t=dep i
 GK:(GJ.flatMap lf).Perm (aY N)
 pos:∀i,0<=out.getD i 0
theorem alQ:∀l:List Nat,l.flatMap (fun i=>[i])=l
 |[]=>rfl
 |x::l=>by simp
section
variable {N:Nat} {w:Nat->Int} {I A B:Nat->Nat} {X R:Nat->List Nat} {dep:Nat->Nat}
theorem rH.init(m:dC N w I A B X R):rH N dep X 0 (aY N) (fun i=>[i]) (bD N 0):=by
 have z:∀i,(bD N (0:Int)).getD i 0=0:=fun i=>by rw[aC,List.getElem?_replicate];split<;>rfl
 refine⟨List.pairwise_lt_range,m.x0.symm,jS,fun t a i b=> ?_,by rw[alQ],fun i=>by rw[z];omega⟩;obtain rfl:i=t:=by simpa using b
 rw[z];exact⟨List.mem_range.1 a,jO⟩
theorem rH.next(m:dC N w I A B X R)(d1:∀i,i<2*N-2->dep i=dep (I i)+1){k:Nat}(v:k+2<=N){c:List Nat}{lf:Nat->List Nat}{out:List Int}(p:rH N dep X k c lf out){a b:Nat}(U:a<c.length)(T:b<(c.eraseIdx a).length)(Y:c[a]=A k)(W:(c.eraseIdx a)[b]=B k):
 rH N dep X (k+1) ((c.eraseIdx a).eraseIdx b++[N+k]) (fun t=>if t=N+k then lf (A k)++lf (B k)else lf t) (kO out (lf (A k)++lf (B k)))∧(lf (A k)++lf (B k)).Nodup∧(∀i∈lf (A k)++lf (B k),i<N):=by
 have q1:=GI U;have q2:=GI T;rw[Y]at q1;rw[W]at q2;have l:c.Perm (A k::B k::(c.eraseIdx a).eraseIdx b):=q1.trans (q2.cons _);have G:((c.eraseIdx a).eraseIdx b).Perm (R k):=((l.symm.trans p.ug).trans (m.st k v)).cons_inv.cons_inv;have j:∀t∈c,t<N+k:=fun t g=>m.lt jO (p.ug.mem_iff.1 g);obtain⟨S,F⟩:∃S,(c.eraseIdx a).eraseIdx b=S:=⟨_,rfl⟩;rw[F]at l G⊢;have f:∀t∈S,t∈c:=fun t g=>l.mem_iff.2 (by simp[g]);have E:A k∈c:=l.mem_iff.2 jS;have D:B k∈c:=l.mem_iff.2 jS;have cv:=(l.flatMap_right lf).symm.trans p.GK;simp only[pG]at cv
 have C:((lf (A k)++lf (B k))++S.flatMap lf).Nodup:=by rw[bW];exact cv.nodup_iff.2 List.nodup_range
 have n:=(List.nodup_append.1 C).1;have z:∀t∈S,∀i∈lf t,i∉lf (A k)++lf (B k):=fun t g i d Q=>(List.nodup_append.1 C).2.2 i Q i (List.mem_flatMap.2 ⟨t,g,d⟩) rfl
 have o:∀i∈lf (A k)++lf (B k),i<N:=fun i d=>by
  rcases List.mem_append.1 d with q|q
  ·exact(p.lv _ E i q).1
  ·exact(p.lv _ D i q).1
 have r:=M7 (lf (A k)++lf (B k)) out n (fun i d=>by rw[p.len];exact o i d);obtain⟨dA,dB⟩:=m.ZD d1 v;refine⟨⟨?_, ?_,by rw[M6,p.len],fun t g i d=> ?_, ?_,fun i=> ?_⟩,n,o⟩
 ·rw[List.pairwise_append];refine⟨?_,jS,fun x O y K=>by rw[List.mem_singleton.1 K];exact j x (f x O)⟩;rw[<-F];exact(p.Gu.sublist (HH _ _)).sublist (HH _ _)
 ·exact((List.perm_append_singleton _ _).trans (G.cons _)).trans (m.nx k v).symm
 ·rcases List.mem_append.1 g with q|q
  ·have u:t≠N+k:=fun e=>by have:=j t (f t q);omega
   simp only[if_neg u]at d;have:=p.lv t (f t q) i d;rw[r,if_neg (z t q i d)];omega
  ·obtain rfl:=List.mem_singleton.1 q;simp only[if_true]at d;refine⟨o i d, ?_⟩;rw[r,if_pos d];rcases List.mem_append.1 d with q|q
   ·have:=(p.lv _ E i q).2;omega
   ·have:=(p.lv _ D i q).2;omega
 ·rw[List.flatMap_append]
  have Z:S.flatMap (fun t=>if t=N+k then lf (A k)++lf (B k)else lf t)=S.flatMap lf:=by
   have:∀L:List Nat,(∀t∈L,t<N+k)->L.flatMap (fun t=>if t=N+k then lf (A k)++lf (B k)else lf t)=L.flatMap lf:=by
    intro L
    induction L with
    |nil=>intro _;rfl
    |cons t L J=>intro h;have:=h t jS;rw[pG,pG,J (fun s P=>h s (by simp[P])),if_neg jO]
   exact this S fun t g=>j t (f t g)
  rw[Z];simp only[pG,OL,if_true,cz];refine List.perm_append_comm.trans ?_;rw[bW];exact cv
 ·rw[r];have:=p.pos i;split<;>omega
theorem rH.last(m:dC N w I A B X R)(g:dep (2*N-2)=0){a:List Nat}{lf:Nat->List Nat}{out:List Int}(p:rH N dep X (N-1) a lf out):out=(aY N).map fun i=>(dep i:Int):=by
 have c:=p.ug;rw[m.last]at c;have e:=List.perm_singleton.1 c;subst e;have d:=p.GK;simp only[pG,OL,cz]at d;apply mw
 ·rw[p.len];simp
 ·intro i b h;have f:i<N:=by rw[p.len]at b;exact b
  have:=(p.lv (2*N-2) jS i (d.mem_iff.2 (List.mem_range.2 f))).2;rw[g,aC,aJ b]at this;simp only[Option.getD_some]at this;simp only[nG,xw];omega
end
theorem aa1{l:List jz}{w:Nat->Int}(g:∀t∈l,t.1=w t.2.1){a:Nat}(f:a<l.length)(k:BO l l.length a){c:Nat}(m:c∈l.map (·.2.1))(h:∀x∈l.map (·.2.1),x≠c->RI w c x):l[a].2.1=c:=by
 apply zF;intro b;obtain⟨t,i,rfl⟩:=HC.1 m;obtain⟨j,d,rfl⟩:=List.mem_iff_getElem.1 i;have n:=h l[a].2.1 (HC.2 ⟨_,cb f,rfl⟩) b;rcases k j d d f with e|e
 ·subst e;exact b rfl
 ·rw[M4,g _ (cb f),g _ (cb d)]at e;unfold RI at n;omega
end Go.Proofs.YtcehhgppfahbkaaGreatDoor
namespace Go.Proofs.YtcehhgppfahbkaaGreatDoor
open Go.RowKit Ev Hu
def gS(ls:List Nat):List Int:=ls.map fun(i:Nat)=>(i:Int)
theorem xe(ls:List Nat):(gS ls).length=ls.length:=by unfold gS;simp
theorem alR{ls:List Nat}{i:Nat}(h:i<ls.length):(gS ls).getD i 0=(ls.getD i 0:Nat):=by unfold gS;rw[aC,fo,aJ h,aC,aJ h];rfl
structure RM (h:H) (lo n:Nat) (v:Value) (l:List jz) (lv:Nat->List Nat):Prop where
 own:eE h lo n 250 v (l.map tv)
 row:∀t∈l,Row h n 3 .i64 t.2.2 (gS (lv t.2.1))∧rG t.2.2
 sep:∀t∈l,∀b,az t.2.2 b->¬az v b
theorem rdA (lf d u:Nat) (N:H) (v:Value) (ws:List Int) (hR:Row N u 3 .i64 v ws) (hl:ws.length<=1000000) (x2 x3:Value) {W:Nat->Prop} {n0:Nat} (F:n0<=u) {Q:Value->H->Nat->Prop} (k:(Value->Value->Value->Value->Value->Value->Value->Value->M Value))
 (hK:∀h n p B l,u<=n->RM h u n p l (fun i=>[i])->l.map (·.2.1)=aY ws.length->(∀t∈l,t.1=ws.getD t.2.1 0)->ae W n0 (k v x2 x3 p v (jI (ws.length:Nat)) (jI (ws.length:Nat)) B) h n Q):
 ∀(m i g:Nat) (h:H) (n:Nat) (p:Value) (l:List jz),ws.length-i=m->m<g->i<=ws.length->u<=n->(∀b,b<u->h.get b=N.get b)->RM h u n p l (fun i=>[i])->l.map (·.2.1)=aY i->(∀t∈l,t.1=ws.getD t.2.1 0)->
  ae W n0 (wy lf (eW lf d) g k v x2 x3 p v (jI (ws.length:Nat)) (jI (i:Nat))) h n Q:=by
 intro m
 induction m with
 |zero=>intro i g h n p l X J Z G I w a E;obtain⟨g,rfl⟩:∃f,g=f+1:=⟨g-1,jO⟩;obtain rfl:i=ws.length:=jO;rw[wy];refine jA @bE ?_;exact hK h n p _ l G w a E
 |succ m U=>
  intro i g h n p l X J Z G I w a E;obtain⟨g,rfl⟩:∃f,g=f+1:=⟨g-1,jO⟩;have L:Row h n 3 .i64 v ws:=hR.ay G I;obtain⟨b,R,cap,o,cs,rfl,hg,hb,_,_,_,K⟩:=L.some jO;have e1:(i:Int)<((ws.length:Nat):Int):=jO;have c1:=K i jO;have O:(i:Int)+1=((i+1:Nat):Int):=jO;have Y:l.length=i:=by have:=congrArg lK a;simpa using this
  rw[wy];refine jA (aI @e1 (aI @hg @c1)) ?_;refine Ai trivial (eI _ _) _ ?_;refine jB ?_;obtain⟨A,y⟩:∃A,h.set n (some ⟨3,true,[jI (i:Nat)]⟩)=A:=⟨_,rfl⟩;have g1:A.get n=some ⟨3,true,[jI (i:Nat)]⟩:=by rw[<-y,get_eq]
  have D:∀c,c<n->A.get c=h.get c:=fun c j=>by rw[<-y,aB _ _ jO]
  rw[y];have t1:jz:=(ws.getD i 0,i,.slice (some ⟨n,0,none⟩) 1 1);have e:eE A u (n+1) 250 p (l.map tv):=w.own.ay jO fun c j=>D c (w.own.lt j).2;refine JB trivial (x:=tv (ws.getD i 0,i,.slice (some ⟨n,0,none⟩) 1 1)) ⟨rfl,rfl,rfl⟩ e (by rw[cu];omega) F jO _ (fun P h5 T b5 C=> ?_);refine jB ?_;rw[O];refine U (i+1) g h5 (n+1+2) P (l++[(ws.getD i 0,i,.slice (some ⟨n,0,none⟩) 1 1)]) jO jO jO jO (fun c j=> ?_) ⟨?_,fun t z=> ?_,fun t z c j q=> ?_⟩ ?_ (fun t z=> ?_)
  ·rw[C c jO (fun q=>by have:=(e.lt q).1;omega),D c jO];exact I c j
  ·rw[dU];exact T
  ·rcases List.mem_append.1 z with q|q
   ·obtain⟨r,s⟩:=w.row t q;refine⟨r.fK jO fun c j=> ?_,s⟩;have:=r.lt j;rw[C c jO (w.sep t q c j),D c this]
   ·obtain rfl:=List.mem_singleton.1 q;refine⟨.inr ⟨n,0,1,true,[jI (i:Nat)],rfl, ?_,jO,by simp[gS],rfl,by simp[gS]⟩,⟨_,_,_,rfl⟩⟩;rw[C n jO (fun q=>by have:=e.lt q;have:=w.own.lt (b:=n) q;omega)];exact g1
  ·have u0:=b5 c q;rcases List.mem_append.1 z with r|r
   ·have:=(w.row t r).1.lt j;omega
   ·obtain rfl:=List.mem_singleton.1 r;have:=j.inj;omega
  ·rw[dU,a,mv];rfl
  ·rcases List.mem_append.1 z with q|q
   ·exact E t q
   ·obtain rfl:=List.mem_singleton.1 q;rfl
theorem alS (lf d n:Nat) (O:H) (v:Value) (ls:List Nat) (hR:Row O n 3 .i64 v (gS ls)) (u2:ls.length<=1000000) (p N c:Nat) (out:List Int) (u4:p<n) (r:∀b,az v b->b≠p) (U:out.length=N) (G:ls.Nodup) (B:∀i∈ls,i<N) (z:∀i,0<=out.getD i 0∧out.getD i 0<=1000000) (R x2 x3 x4 x8 x9 x10 x11 x12 x13 y w u t E:Value) {W:Nat->Prop} {n0:Nat} (I:n0<=p) {Q:Value->H->Nat->Prop} (k:(Value->Value->Value->Value->Value->Value->Value->Value->Value->Value->Value->Value->Value->M Value))
 (hK:∀h,h.get p=some ⟨3,true,ints (kO out ls)⟩->(∀b,b≠p->h.get b=O.get b)->ae W n0 (k R x2 x3 x4 (.slice (some ⟨p,0,none⟩) N c) x8 x10 x12 x13 y w u t) h n Q):
 ∀(m i l:Nat) (h:H),ls.length-i=m->m<l->i<=ls.length->h.get p=some ⟨3,true,ints (kO out (ls.take i))⟩->(∀b,b≠p->h.get b=O.get b)->
  ae W n0 (tM lf (eW lf d) l k R x2 x3 x4 (.slice (some ⟨p,0,none⟩) N c) x8 x9 x10 x11 x12 x13 y w u t E v (jI (ls.length:Nat)) (jI (i:Nat))) h n Q:=by
 intro m
 induction m with
 |zero=>intro i l h hm K hi g D;obtain⟨l,rfl⟩:∃f,l=f+1:=⟨l-1,jO⟩;obtain rfl:i=ls.length:=jO;rw[tM];refine jA @bE ?_;rw[eh]at g;exact hK h g D
 |succ m T=>
  intro i l h hm K hi g D;obtain⟨l,rfl⟩:∃f,l=f+1:=⟨l-1,jO⟩;have L:Row h n 3 .i64 v (gS ls):=hR.fK (ai _) fun b Z=>D b (r b Z);have a:i<ls.length:=jO;obtain⟨b,u0,cap,o,cs,rfl,hg,Z,_,_,_,C⟩:=L.some (by rw[xe];omega);rw[xe]at C⊢;simp only[xe]at T;have u5:b≠p:=r b ⟨_,_,_,rfl⟩;have e1:(i:Int)<((ls.length:Nat):Int):=jO;have P:=C i a;rw[alR a]at P;obtain⟨j,X⟩:∃j,ls.getD i 0=j:=⟨_,rfl⟩;have A:ls[i]=j:=by rw[<-X,aC,aJ a];rfl
  have J:j∈ls:=by rw[<-A];exact cb _
  have u3:=B j J;rw[X]at P;have w1:(i:Int)+1=((i+1:Nat):Int):=jO;have e2:(j:Int)<(N:Int):=jO;obtain⟨e,q⟩:∃e,kO out (ls.take i)=e:=⟨_,rfl⟩;have F:e.length=N:=by rw[<-q,M6,U]
  have u1:0<=e.getD j 0∧e.getD j 0<=1000001:=by have:=M7 (ls.take i) out (G.sublist (List.take_sublist _ _)) (fun x hx=>by rw[U];exact B x (List.mem_of_mem_take hx)) j;rw[q]at this;have:=z j;split at*<;>omega
  rw[q]at g;have g2:(ints e)[j]? =some (jI (e.getD j 0)):=ints_at jO
  have s:e.set j (e.getD j 0+1)=kO out (ls.take (i+1)):=by rw[fq a,aa0,q,A];rfl
  have w2:IntKind.i64.wrap (e.getD j 0+1)=e.getD j 0+1:=aV jO jO;rw[tM];refine jA (aI @e1 (aI @e2 (aI @hg (aI @g (aI @P (aI @g2 (aI @w2 (aI @ints_set (aI @jV @F))))))))) ?_;refine⟨jO,.inl I, ?_⟩;rw[w1];refine T (i+1) l _ jO jO jO ?_ (fun c Y=>by rw[aB _ _ Y];exact D c Y);rw[get_eq,s]
theorem aa2(a b c:Value):[a,b,c][2]? =some c:=rfl
theorem alT(a b c:Value):[a,b,c][0]? =some a:=rfl
def Diff(l:List jz):Prop:=∀i j (b:i<l.length) (a:j<l.length),i≠j->l[i].2.1≠l[j].2.1
theorem aa3{l:List jz}(h:(l.map (·.2.1)).Pairwise (·<·)):Diff l:=by
 intro i j c b a e;have h:=List.pairwise_iff_getElem.1 h;rcases Nat.lt_or_gt_of_ne a with q|q
 ·have:=h i j (by simpa using c) (by simpa using b) q;simp at this;omega
 ·have:=h j i (by simpa using b) (by simpa using c) q;simp at this;omega
theorem aa4 (lf d:Nat) (s:3000000<=lf) {W:Nat->Prop} {n0:Nat} {Q:Value->H->Nat->Prop} (h:H) (n lo:Nat) (m:Value) (l:List jz) (D:eE h lo n 250 m (l.map tv)) (R:0<l.length) (L:l.length<=1000000) (hd:Diff l) (j:∀t∈l,rG t.2.2) (A:n0<=n) (k:Value->Value->Value->M Value)
 (hK:∀(a:Nat) (h':H) (n' c:Nat) (f:Value) (x:a<l.length),BO l l.length a->n<=c->c<n'->h'.get c=some ⟨250,true,[jI l[a].1,jI (l[a].2.1:Nat),l[a].2.2]⟩->(∀b,b<n->h'.get b=h.get b)->eE h' (c+1) n' 250 f ((l.eraseIdx a).map tv)->ae W n0 (k (jI (a:Nat)) (jP c 0) f) h' n' Q):
 ae W n0 (ak (eW lf (d+2)) 224 [m] fun i=>ki 3 m i fun z=>bR 3 z fun y=>cU 250 s0 fun o=>b9 3 o y fun _=>ak (eW lf (d+2)) 225 [m,i] fun f=>k i o f) h n Q:=by
 have v:=fun b e=>D.lt (b:=b) e;refine aN aL (alO lf d n lo h m l D R L hd j s) A (fun _ _ h=>h.elim) fun v1 P c q G hq=> ?_;obtain⟨a,rfl,x,r⟩:=hq;have K:∀b,b<n->P.get b=h.get b:=fun b e=>G b e id;have g:eE P lo c 250 m (l.map tv):=D.ay q fun b e=>K b (v b e).2
 have X:((jU (l.map tv)).drop (a*3)).take 3=[(tv l[a]).1,(tv l[a]).2.1,(tv l[a]).2.2]:=by have:=Al (l.map tv) a (by simpa using x);simpa using this
 have w:=g;rcases w with ⟨_,p⟩|⟨T,rfl,g4,N,u⟩
 ·have:=congrArg lK p;simp at this;subst this;simp at R
 have B:(l.map tv).length=l.length:=cu ..;rw[B]at g⊢;have e2:(a:Int)<((l.length:Nat):Int):=jO;rw[DJ _ 3 T 0 l.length _ .i64 _ jO e2,Nat.zero_add,eg];refine yd trivial g4 u X _ ?_;have Y:=M5 (j _ (cb x));refine JA trivial (tv l[a]) Y _ (fun E g2 J=> ?_) jO;have C:eE E lo (c+1) 250 (.slice (some ⟨T,0,none⟩) l.length (aU+l.length)) (l.map tv):=g.ay jO fun b e=>J b (g.lt e).2;refine aN aL (alP lf d (c+1) lo E _ l a C L j s) jO (fun _ _ h=>h.elim) fun U O n3 u0 F Z=> ?_;have I:∀b,b<c+1->O.get b=E.get b:=fun b e=>F b e id;exact hK a O n3 c U x r q jO (by rw[I c jO];exact g2) (fun b e=>by rw[I b jO,J b jO,K b e]) Z
set_option maxHeartbeats 1000000 in
theorem alU (lf d fu:Nat) (x7:3000000<=lf) {W:Nat->Prop} {n0:Nat} {Q:Value->H->Nat->Prop} (h:H) (n lo w p l N c:Nat) (next:Nat) (x1:next<=1000000) (m:Value) (U:List jz) (v u:Int) (ma mb la lb:Value) (f a:List Nat) (out:List Int) (x0 x2 x3 x9 x11 G F E D Y:Value) (k:Value->M Value)
 (G1:h.get w=some ⟨250,true,[jI v,ma,la]⟩) (G2:h.get p=some ⟨250,true,[jI u,mb,lb]⟩) (l1:w<n) (l4:p<n) (Ra:Row h n 3 .i64 la (gS f)) (Rb:Row h n 3 .i64 lb (gS a))
 (go:h.get l=some ⟨3,true,ints out⟩) (w0:l<n) (v0:n0<=l) (b1:w≠l) (b4:p≠l) (o6:eE h lo n 250 m (U.map tv)) (v9:n0<=lo) (x5:lo<=n) (s6:¬az m l) (y1:U.length<=1000) (y0:f.length<=1000) (x8:a.length<=1000)
 (J:(f++a).Nodup) (K:∀i∈f++a,i<N) (v2:out.length=N) (v3:∀i,0<=out.getD i 0∧out.getD i 0<=1000000) (w9:0<=v+u) (w7:v+u<=1152921504606846976)
 (hK:∀h' n' j s,n<=n'->eE h' lo n' 250 j ((U++[(v+u,next,s)]).map tv)->(∀b,az j b->n<=b)->Row h' n' 3 .i64 s (gS (f++a))->rG s->(∀b,az s b->n<=b∧¬az j b)->h'.get l=some ⟨3,true,ints (kO out (f++a))⟩->(∀b,b<n->b≠l->¬az m b->h'.get b=h.get b)->
   ae W n0 (rA lf (eW lf d) fu k x0 x2 x3 j (.slice (some ⟨l,0,none⟩) N c) (jI ((next+1:Nat):Int)) G F E D) h' n' Q):
 ae W n0 (ba 2 (jP w 0) fun u6=>aM u6 fun u5=>bH 3 1 nS u5 fun u4=>ba 2 (jP p 0) fun u3=>aM u3 fun u2=>bH 3 1 u4 u2 fun z=>aT z fun u1=>tM lf (eW lf d) lf (Xr lf (eW lf d) fu k) x0 x2 x3 m (.slice (some ⟨l,0,none⟩) N c) (jI (next:Nat)) x9 (jP w 0) x11 (jP p 0) z G F E D Y z u1 (ii 0)) h n Q:=by
 refine jA (aI @G1 (aI @G2 @aa2)) ?_;refine rj trivial (lo:=n) (Own.nil h n n 3) Ra (by rw[xe];simp;omega) jO (ai _) _ (fun v7 h7 n7 v6 o7 b7 k7=> ?_);have A:∀c,c<n->h7.get c=h.get c:=fun c o=>k7 c o fun q=>q.not_nil;try simp(disch:=first|omega|assumption) only[Nat.reduceAdd,Nat.reduceLT,RZ,(A p l4).trans G2,aa2]
 refine rj trivial (lo:=n) o7 (Rb.ay v6 A) (by rw[xe,aG,cj,xe];simp;omega) jO jO _ (fun v8 L T x4 R b8 k8=> ?_)
 have v1:∀c,c<n->L.get c=h7.get c:=fun c o=>k8 c jO fun q=>by
  rcases b7 c q with r|r
  ·exact r.not_nil
  ·omega
 have e8:([]++aH .i64 (gS f))++aH .i64 (gS a)=aH .i64 (gS (f++a)):=by unfold aH gS;simp
 rw[e8]at R;have X:Row L T 3 .i64 v8 (gS (f++a)):=R.row;have g:=fun c o=>R.lt (b:=c) o;obtain⟨a8,c8,rfl⟩:=X.len;rw[DI];have P:∀c,c<n->L.get c=h.get c:=fun c o=>by rw[v1 c o,A c o]
 obtain⟨t,C⟩:∃t,f++a=t:=⟨_,rfl⟩;have x6:t.length<=2000:=by rw[<-C,aG];omega
 rw[C]at J K R X g⊢;simp only[C]at hK;clear o7 b7 k7 b8 k8 e8;have e0:ii 0=jI ((0:Nat):Int):=rfl;rw[e0];have w1:=X;have w4:(gW IntKind.i64 ((gS t).length:Nat))=jI (t.length:Nat):=by rw[xe]
 rw[w4];refine alS lf d T L _ t w1 jO l N c out jO (fun q y=>by have:=(g q y).1;omega) v2 J K v3 _ _ _ _ _ _ _ _ _ _ _ _ _ _ _ v0 _ (fun h9 w3 I=> ?_) t.length 0 lf L jO jO jO (by rw[nE];exact(P l w0).trans go) (fun _ _=>rfl)
 (try unfold Xr);(try unfold Fw);(try dsimp only)
 have w6:h9.get w=some ⟨250,true,[jI v,ma,la]⟩:=by rw[I w b1,P w l1];exact G1
 have w5:h9.get p=some ⟨250,true,[jI u,mb,lb]⟩:=by rw[I p b4,P p l4];exact G2
 have u0:IntKind.i64.wrap (v+u)=v+u:=aV jO jO;have Z:(next:Int)+1=((next+1:Nat):Int):=jO;refine jA (aI @w6 (aI @w5 (aI @alT @u0))) ?_
 have u7:eE h9 lo T 250 m (U.map tv):=o6.ay jO fun c o=>by have:=o6.lt o;rw[I c (fun e=>s6 (e▸o)),P c this.2]
 refine JB trivial (x:=tv (v+u,next,.slice a8 (gS t).length c8)) ⟨rfl,rfl,rfl⟩ u7 (by rw[cu];omega) v9 jO _ (fun j w2 u9 O B=> ?_);refine jB ?_;rw[Z];refine hK w2 (T+2) j (.slice a8 (gS t).length c8) jO (by rw[dU];exact u9) (fun b hb=>by have:=O b hb;omega) (X.fK jO fun q y=> ?_) ⟨_,_,_,rfl⟩ (fun q y=>⟨(g q y).1,fun r=>by have:=O q r;have:=g q y;omega⟩) ?_ (fun q y v5 v4=> ?_)
 ·have:=g q y;rw[B q jO (fun r=>by have:=(o6.lt r).2;omega),I q jO]
 ·rw[B l jO s6];exact w3
 ·rw[B q jO v4,I q v5,P q y]
theorem aa5{lv:Nat->List Nat}:∀{L:List Nat} {t:Nat},t∈L->(lv t).length<=(L.flatMap lv).length
 |[],t,h=>by simp at h
 |x::L,t,h=>by
  rw[pG,aG];rcases List.mem_cons.1 h with e|e
  ·subst e;omega
  ·have:=aa5 (lv:=lv) e;omega
set_option maxHeartbeats 2000000 in
theorem rdB(lf d:Nat)(u1:3000000<=lf){ws:List Int}{D:List Nat}{w:Nat->Int}{I A B:Nat->Nat}{X R:Nat->List Nat}{dep:Nat->Nat}(u:mU ws D w I A B X R dep)(c':ws.length<=258)(y3:w (2*ws.length-2)<=1152921504606846976)(nb C c:Nat)(hc:ws.length<=c)(b':nb<=C)(x0 x2 x3 w7 w6 w5 w4:Value){W:Nat->Prop}{n0:Nat}(a':n0<=nb):
 ∀(m k E:Nat) (h:H) (n:Nat) (T:Value) (l:List jz) (lv:Nat->List Nat) (out:List Int),ws.length-1-k=m->m<E->k+1<=ws.length->C<n->RM h nb n T l lv->rH ws.length dep X k (l.map (·.2.1)) lv out->(∀t∈l,t.1=w t.2.1)->h.get C=some ⟨3,true,ints out⟩->¬az T C->(∀t∈l,¬az t.2.2 C)->
  ae W n0 (rA lf (eW lf (d+2)) E (Fx lf (eW lf (d+2))) x0 x2 x3 T (.slice (some ⟨C,0,none⟩) ws.length c) (jI ((ws.length+k:Nat):Int)) w7 w6 w5 w4) h n fun v' h' n'=>Row h' n' 3 .i64 v' (l5 ws D)∧∀b,az v' b->n0<=b:=by
 intro m;have hN:=u.m.two
 induction m with
 |zero=>
  intro k E h n T l lv out hm y7 hk u4 Q p hw u3 y2 Z;obtain⟨E,rfl⟩:∃f,E=f+1:=⟨E-1,jO⟩
  have v6:l.length=1:=by have:=p.ug.length_eq;rw[u.m.len jO,cu]at this;omega
  obtain⟨a,cc,rfl⟩:=Q.own.len;rw[cu,v6]at*;have e1:¬(1:Int)<((1:Nat):Int):=jO;rw[rA];refine jA @e1 ?_
  (try unfold Fx);(try unfold o);(try dsimp only)
  refine jB ?_;obtain rfl:k=ws.length-1:=jO;have ho:=p.last u.m u.d0;rw[<-u.eq]at ho;subst ho;have dl:(l5 ws D).length=ws.length:=yA _ _ jO;refine⟨.inr ⟨C,0,c,true,_,by rw[dl],u3,u4,by rw[jV];omega, ?_,jO⟩,fun b hb=>by rw[hb.inj];omega⟩;rw[dx,fG (by rw[jV];exact ai _)];rfl
 |succ m ih=>
  intro k E h n T l lv out hm y7 hk u4 Q p hw u3 y2 Z;obtain⟨E,rfl⟩:∃f,E=f+1:=⟨E-1,jO⟩;have K:k+2<=ws.length:=jO
  have v6:l.length=ws.length-k:=by have:=p.ug.length_eq;rw[u.m.len jO,cu]at this;omega
  have v2:∀t∈l,rG t.2.2:=fun t g=>(Q.row t g).2;have hO:=Q.own;obtain⟨a4,c4,w0⟩:=hO.len;rw[cu]at w0;have e1:(1:Int)<((l.length:Nat):Int):=jO
  have u2:∀k:Value->M Value,aT T k=k (jI (l.length:Nat)):=by intro k;rw[w0];exact DI ..
  rw[rA,u2];refine jA @e1 ?_;refine aa4 lf d u1 h n nb T l hO jO jO (aa3 p.Gu) v2 jO _ (fun a h3 n3 n1 x1 ha v5 z9 v4 G1 K3 o3=> ?_);have st:=u.m.st k K;have v:∀x,x∈l.map (·.2.1)↔x∈A k::B k::R k:=fun x=>(p.ug.trans st).mem_iff
  have ea:l[a].2.1=A k:=aa1 hw ha v5 ((v _).2 jS) fun x hx J=>u.m.mA k K x (by
   rcases List.mem_cons.1 ((v x).1 hx)with q|q
   ·exact absurd q J
   ·exact q)
  obtain⟨y,N⟩:∃y,l.eraseIdx a=y:=⟨_,rfl⟩;rw[N]at o3;have z5:y.length=l.length-1:=by rw[<-N,ark ha]
  have z:∀t∈y,t∈l:=fun t g=>(HH l a).subset (by rw[N];exact g);have F:y.map (·.2.1)=(l.map (·.2.1)).eraseIdx a:=by rw[<-N,M8]
  have v7:a<(l.map (·.2.1)).length:=by rw[cu];exact ha
  have w1:(l.map (·.2.1))[a]=A k:=by rw[nG];exact ea
  have pe:=GI v7;rw[w1,<-F]at pe;have p1:(y.map (·.2.1)).Perm (B k::R k):=((pe.symm.trans p.ug).trans st).cons_inv;have y4:(y.map (·.2.1)).Pairwise (·<·):=by rw[F];exact p.Gu.sublist (HH _ _)
  refine aa4 lf d u1 h3 n3 (n1+1) x1 y o3 jO jO (aa3 y4) (fun t g=>v2 t (z t g)) jO _ (fun b h6 n6 n4 w9 hb u0 z8 v3 G2 K6 o6=> ?_)
  have eb:y[b].2.1=B k:=aa1 (fun t g=>hw t (z t g)) hb u0 (p1.mem_iff.2 jS) fun x hx J=>u.m.mB k K x (by
   rcases List.mem_cons.1 (p1.mem_iff.1 hx)with q|q
   ·exact absurd q J
   ·exact q)
  obtain⟨P,L⟩:∃P,y.eraseIdx b=P:=⟨_,rfl⟩;rw[L]at o6;have j:∀t∈P,t∈l:=fun t g=>z t ((HH y b).subset (by rw[L];exact g));have z4:P.length=y.length-1:=by rw[<-L,ark hb]
  have x6:P.map (·.2.1)=((l.map (·.2.1)).eraseIdx a).eraseIdx b:=by rw[<-L,M8,F]
  have y8:b<((l.map (·.2.1)).eraseIdx a).length:=by rw[<-F,cu];exact hb
  have y9:((l.map (·.2.1)).eraseIdx a)[b]=B k:=by
   have:(y.map (·.2.1))[b]'(by rw[cu];exact hb)=B k:=by rw[nG];exact eb
   simp only[F]at this;exact this
  obtain⟨v8,y5,y6⟩:=p.next u.m u.d1 K v7 y8 w1 y9;rw[<-x6]at v8;have KK:∀q,q<n->h6.get q=h.get q:=fun q G=>by rw[K6 q jO,K3 q G]
  have w3:=(K6 n1 v4).trans G1;have Y:=cb ha;have U:=z _ (cb hb);obtain⟨ta,y1⟩:∃t,l[a]=t:=⟨_,rfl⟩;obtain⟨tb,y0⟩:∃t,y[b]=t:=⟨_,rfl⟩;rw[y1]at Y ea w3;rw[y0]at U eb G2
  have Ra:Row h6 n6 3 .i64 ta.2.2 (gS (lv (A k))):=by have:=(Q.row _ Y).1;rw[ea]at this;exact this.ay jO KK
  have Rb:Row h6 n6 3 .i64 tb.2.2 (gS (lv (B k))):=by have:=(Q.row _ U).1;rw[eb]at this;exact this.ay jO KK
  have v0:∀t,t∈l.map (·.2.1)->(lv t).length<=258:=fun t g=>by have v1:=aa5 (lv:=lv) g;rw[p.GK.length_eq,j7]at v1;omega
  have la:=v0 (A k) ((v _).2 jS);have lb:=v0 (B k) ((v _).2 jS)
  have u7:∀i,0<=out.getD i 0∧out.getD i 0<=1000000:=fun i=>by
   refine⟨p.pos i, ?_⟩;by_cases hi:i<ws.length
   ·obtain⟨t,g,yH⟩:=List.mem_flatMap.1 (p.GK.mem_iff.2 (List.mem_range.2 hi));have:=(p.lv t g i yH).2;have:=u.le hi;omega
   ·rw[aC,List.getElem?_eq_none (by rw[p.len];omega)];simp
  have wa:ta.1=w (A k):=by rw[hw _ Y,ea]
  have wb:tb.1=w (B k):=by rw[hw _ U,eb]
  have wn:=u.m.wn k K;have u6:ta.1+tb.1=w (ws.length+k):=by rw[wa,wb,wn]
  have z6:=u.m.mono (ws.length+k) (2*ws.length-2) jO jO (ai _);have z7:=u.m.pos (ws.length+k) jO;have O:=fun q G=>o6.lt (b:=q) G;refine alU lf (d+2) E u1 h6 n6 (n4+1) n1 n4 C ws.length c (ws.length+k) jO w9 P ta.1 tb.1 _ _ ta.2.2 tb.2.2 (lv (A k)) (lv (B k)) out _ _ _ _ _ _ _ _ _ _ _ w3 G2 jO v3 Ra Rb ((KK C u4).trans u3) jO jO jO jO o6 jO jO (fun q=>by have:=O C q;omega) jO jO jO y5 y6 p.len u7 jO jO (fun u5 x8 x4 x9 z2 u9 w2 R8 x5 s8 v9 z1=> ?_)
  have z0:∀q,q<n->q≠C->u5.get q=h.get q:=fun q G J=>by rw[z1 q jO J (fun r=>by have:=O q r;omega),KK q G]
  have x7:∀t∈P,t.2.1≠ws.length+k:=fun t g e=>by have:=u.m.lt (k:=k) jO (p.ug.mem_iff.1 (HC.2 ⟨t,j t g,rfl⟩));omega
  rw[u6]at u9;refine ih (k+1) E u5 x8 x4 (P++[(w (ws.length+k),ws.length+k,x9)]) _ _ jO jO jO jO ⟨u9.low jO,fun t g=> ?_,fun t g q G r=> ?_⟩ (by rw[dU];exact v8) (fun t g=> ?_) v9 (fun q=>by have:=w2 C q;omega) (fun t g q=> ?_)
  ·rcases List.mem_append.1 g with q|q
   ·obtain⟨r,s⟩:=Q.row t (j t q);rw[if_neg (x7 t q)];exact⟨r.fK jO fun q G=>z0 q (r.lt G) (fun e=>Z t (j t (by assumption)) (e▸G)),s⟩
   ·obtain rfl:=List.mem_singleton.1 q;show Row u5 _ _ _ _ (gS (if ws.length+k=ws.length+k then _ else _))∧_;rw[if_pos rfl];exact⟨R8,x5⟩
  ·rcases List.mem_append.1 g with s|s
   ·have:=(Q.row t (j t s)).1.lt G;have:=w2 q r;omega
   ·obtain rfl:=List.mem_singleton.1 s;exact(s8 q G).2 r
  ·rcases List.mem_append.1 g with q|q
   ·exact hw t (j t q)
   ·obtain rfl:=List.mem_singleton.1 q;rfl
  ·rcases List.mem_append.1 g with r|r
   ·exact Z t (j t r) q
   ·obtain rfl:=List.mem_singleton.1 r;have:=(s8 C q).1;omega
theorem aa6(lf d n:Nat)(h:H)(v:Value)(ws:List Int)(J:Row h n 3 .i64 v ws)(r:Ws ws)(O:iW ws (mV ws))(u:3000000<=lf)(hd:300<=d):
 ae (fun _=>False) n (eW lf d 208 #[v]) h n fun C h' n'=>Row h' n' 3 .i64 C (ik ws)∧∀b,az C b->n<=b:=by
 obtain⟨d,rfl⟩:∃e,d=e+3:=⟨d-3,jO⟩;obtain⟨w,I,A,B,X,R,dep,D⟩:=r.Gi O;have U:=r.l2;have y:=r.l3
 have j:w (2*ws.length-2)<=1152921504606846976:=by
  rw[<-D.m.root]
  have e:(aY ws.length).map w=ws:=by
   apply mw
   ·simp
   ·intro i z o;have F:i<ws.length:=o;simp only[nG,xw];rw[D.ww i F,aC,aJ F];rfl
  rw[e];exact ZI r.l3 r.hi
 rw[aF (fun _=>aiC) rfl];refine ae.aE ?_;unfold Lx;have x:=J;obtain⟨a,c,rfl⟩:=J.len;refine jB ?_;have T:ii 0=jI ((0:Nat):Int):=rfl;rw[T];refine rdA lf (d+2) n h _ ws x jO _ _ (ai n) _ (fun z p N L l s m g P=> ?_) ws.length 0 lf h n _ [] jO jO jO (ai _) (fun _ _=>rfl) ⟨eE.nil _ _ _ _,fun t f=>by simp at f,fun t f=>by simp at f⟩ jS (fun t f=>by simp at f)
 (try unfold Fy);(try dsimp only)
 refine Ev.run_make trivial ws.length ws.length _ (ai _) jO ?_;obtain⟨o,k⟩:∃o,z.set p (some ⟨3,true,bD ws.length (jI 0)⟩)=o:=⟨_,rfl⟩
 have Q:o.get p=some ⟨3,true,ints (bD ws.length 0)⟩:=by rw[<-k,get_eq];unfold ints;rw[zB]
 have E:∀b,b<p->o.get b=z.get b:=fun b G=>by rw[<-k,aB _ _ jO]
 rw[k];have K:=rH.init (dep:=dep) D.m;rw[<-g]at K;unfold ik
 exact rdB lf d u D y j n p ws.length (ai _) s _ _ _ _ _ _ _ (ai n) (ws.length-1) 0 lf o (p+1) N l (fun i=>[i]) _ jO jO jO jO
  ⟨m.own.ay jO fun b G=>E b (m.own.lt G).2,fun t f=>⟨(m.row t f).1.ay jO E,(m.row t f).2⟩,m.sep⟩ K (fun t f=>by
    rw[P t f,D.ww];have:t.2.1∈l.map (·.2.1):=HC.2 ⟨t,f,rfl⟩;rw[g]at this
    exact List.mem_range.1 this) Q (fun q=>by have:=m.own.lt q;omega) (fun t f q=>by have:=(m.row t f).1.lt q;omega)
theorem alV{a:Type}(d:a){xs:List a}{i:Nat}(h:i<xs.length):xs.take (i+1)=xs.take i++[xs.getD i d]:=by rw[fq h,aC,aJ h];rfl
theorem aa7{xs:List Int}{i:Nat}(h:i<xs.length):aH .i64 (xs.take (i+1))=aH .i64 (xs.take i)++[jI (xs.getD i 0)]:=by rw[alV 0 h];unfold aH;rw[dU];rfl
theorem rhA(lf d s:Nat)(R:H)(v:Value)(xs:List Int)(Q:Row R s 3 .i64 v xs)(hl:xs.length<=1000000)(Y:∀x∈xs,x<=9223372036854775807)(x2:Value){W:Nat->Prop}{n0:Nat}(u0:n0<=s):
 ∀(m i c:Nat) (h:H) (n:Nat) (w:Value),xs.length-i=m->m<c->i<=xs.length->s<=n->(∀b,b<s->h.get b=R.get b)->Own h s n 3 w (aH .i64 ((gy xs).take i))->
  ae W n0 (tN lf (eW lf d) c (A6 lf (eW lf d)) v x2 w v (jI (xs.length:Nat)) (jI (i:Nat))) h n (fun j h' n'=>Row h' n' 3 .i64 j (gy xs)∧∀b,az j b->s<=b):=by
 intro m
 induction m with
 |zero=>
  intro i c h n w hm G hi O F u;obtain⟨c,rfl⟩:∃f,c=f+1:=⟨c-1,jO⟩;obtain rfl:i=xs.length:=jO;rw[tN];refine jA @bE ?_
  (try unfold A6);(try dsimp only)
  refine jB ?_;rw[<-mW xs,eh]at u;exact⟨u.row,fun b C=>(u.lt C).1⟩
 |succ m X=>
  intro i c h n w hm G hi O F u;obtain⟨c,rfl⟩:∃f,c=f+1:=⟨c-1,jO⟩;have J:Row h n 3 .i64 v xs:=Q.ay O F;have u1:=fun b C=>Q.lt (b:=b) C;have l:i<xs.length:=jO;obtain⟨b,y,cap,o,cs,rfl,P,C,_,_,_,I⟩:=J.some jO;have T:(i:Int)<((xs.length:Nat):Int):=jO;have U:=I i l;have N:(i:Int)+1=((i+1:Nat):Int):=jO;have E:=Y (xs.getD i 0) (Gj l);obtain⟨B,A⟩:=ZL _ E;have t:=aa7 (xs:=gy xs) (i:=i) (by rw[mW];exact l);rw[ZM l]at t;have p:(aH .i64 ((gy xs).take i)).length+1<=1099511627776:=by rw[cj,cB,mW];omega
  have z:∀j h',h'.get (n+1)=some ⟨3,true,aH .i64 ((gy xs).take i)++[jI (qj (xs.getD i 0))]⟩->(∀b,b<n->¬az w b->h'.get b=h.get b)->j= .slice (some ⟨n+1,0,none⟩) ((aH .i64 ((gy xs).take i)).length+1) (aU+((aH .i64 ((gy xs).take i)).length+1))->
   ae W n0 (tN lf (eW lf d) c (A6 lf (eW lf d)) (.slice (some ⟨b,y,none⟩) xs.length cap) x2 j (.slice (some ⟨b,y,none⟩) xs.length cap) (jI (xs.length:Nat)) (jI ((i+1:Nat):Int))) h' (n+2) (fun j h' n'=>Row h' n' 3 .i64 j (gy xs)∧∀b,az j b->s<=b):=by
   intro j h' g k e;subst e;rw[<-t]at g;refine X (i+1) c h' (n+2) _ jO jO jO jO (fun q Z=>by rw[k q jO (fun r=>by have:=(u.lt r).1;omega)];exact F q Z) (Own.mk' g jO jO ?_);rw[t];simp
  rw[tN];by_cases a:xs.getD i 0<0
  ·rw[if_pos a]at B A;refine jA (aI @T (aI @P (aI @U (aI @a (aI @B @A))))) ?_;refine fJ trivial (eI _ _) u p jO _ (fun K L D=> ?_);refine jB ?_;rw[N];exact z _ K L D rfl
  ·rw[if_neg a]at B A;refine jA (aI @T (aI @P (aI @U (aI @a (aI @B @A))))) ?_;refine fJ trivial (eI _ _) u p jO _ (fun K L D=> ?_);refine jB ?_;rw[N];exact z _ K L D rfl
theorem alW(lf d n:Nat)(h:H)(v:Value)(xs:List Int)(g:Row h n 3 .i64 v xs)(k:xs.length<=1000000)(i:∀x∈xs,x<=9223372036854775807)(j:3000000<=lf):
 ae (fun _=>False) n (eW lf (d+1) 210 #[v]) h n fun f h' n'=>Row h' n' 3 .i64 f (gy xs)∧∀b,az f b->n<=b:=by
 rw[aF (fun _=>aiG) rfl];refine ae.aE ?_;unfold LA;have e:=g;obtain⟨a,c,rfl⟩:=g.len;refine jB ?_;have l:ii 0=jI ((0:Nat):Int):=rfl;rw[l];exact rhA lf d n h _ xs e k i _ (ai n) xs.length 0 lf h n _ jO jO jO (ai _) (fun _ _=>rfl) (by rw[nE];exact Own.nil _ _ _ _)
theorem aa8{w:List Int}(d:Ws w)(b:iW w (mV w)):dP 1 20 (ik w)=decide (lh (ik w) 0<=20):=by
 obtain⟨f,I,A,B,X,R,dep,D⟩:=d.Gi b
 have e:∀x∈ik w,1<=x:=by unfold ik;rw[D.mem];intro i c;have:=D.ZH c;omega
 by_cases h:lh (ik w) 0<=20
 ·rw[decide_eq_true h];rw[Bo]at h;exact iG.2 fun x a=>⟨e x a,h.2 x a⟩
 ·rw[decide_eq_false h];refine Bool.eq_false_iff.2 fun q=>h ?_;rw[Bo];exact⟨jO,fun x a=>(iG.1 q x a).2⟩
theorem rfB(lf d:Nat)(c:3000000<=lf)(hd:300<=d)(G x2 x7 x8 x9 x10:Value){W:Nat->Prop}{n0:Nat}:
 ∀{r:Nat} {w l:List Int},jy r w l->∀(g j:Nat) (h:H) (n:Nat) (i:Value),r<g->j+r<100->n0<=n->Row h n 3 .i64 i w->
  ae W n0 (wc lf (eW lf d) g (Fb lf (eW lf d)) G x2 i x7 x8 x9 x10 (jI (j:Nat))) h n fun K h' n'=>Row h' n' 3 .i64 K l:=by
 intro r w l F;obtain⟨e,rfl⟩:∃e,d=e+1:=⟨d-1,jO⟩
 induction F with
 |stop w hW m y=>
  intro g j h n i D Q A t;obtain⟨g,rfl⟩:∃f,g=f+1:=⟨g-1,jO⟩;have E:(j:Int)<100:=jO;have C:=hW.l2;have B:=hW.l3;have X:=Bx (ws:=w) jO;rw[wc];refine jA @E ?_;refine aN aL (aa6 lf (e+1) n h i w t hW m c hd) A (fun _ _ h=>h.elim) fun v u q o p s=> ?_;refine bz (Y4 lf e q u v _ s.1 1 20 jO c) jO (fun _ _ h=>h.elim) ?_;rw[aa8 hW m,decide_eq_true y];refine jB ?_
  (try unfold Fb);(try unfold a);(try dsimp only)
  refine jB ?_;exact s.1
 |next hW m y F N=>rename_i k w l;intro g j h n i D Q A t;obtain⟨g,rfl⟩:∃f,g=f+1:=⟨g-1,jO⟩;have E:(j:Int)<100:=jO;have I:(j:Int)+1=((j+1:Nat):Int):=jO;have C:=hW.l2;have B:=hW.l3;have X:=Bx (ws:=w) jO;rw[wc];refine jA @E ?_;refine aN aL (aa6 lf (e+1) n h i w t hW m c hd) A (fun _ _ h=>h.elim) fun v u q o p s=> ?_;refine bz (Y4 lf e q u v _ s.1 1 20 jO c) jO (fun _ _ h=>h.elim) ?_;rw[aa8 hW m,decide_eq_false y];refine jB ?_;refine aN aL (alW lf e q u i w (t.ay o fun b R=>p b R id) jO (fun x O=>by have:=hW.hi x O;omega) c) jO (fun _ _ h=>h.elim) fun J T L P U z=> ?_;refine jB ?_;rw[I];exact N g (j+1) T L J jO jO jO z.1
theorem rfA (lf d s:Nat) (O:H) (v:Value) (xs:List Int) (hR:Row O s 3 .i64 v xs) (hl:xs.length<=1000000) (X:∀x∈xs,0<=x) (x2:Value) {W:Nat->Prop} {n0:Nat} (Z:n0<=s) {Q:Value->H->Nat->Prop} (k:(Value->Value->Value->Value->Value->Value->Value->M Value))
 (hK:∀h n c A,s<=n->Row h n 3 .i64 c (fN xs)->ae W n0 (k v x2 c v (jI (xs.length:Nat)) (jI (xs.length:Nat)) A) h n Q):
 ∀(m i a:Nat) (h:H) (n:Nat) (c:Value),xs.length-i=m->m<a->i<=xs.length->s<=n->(∀b,b<s->h.get b=O.get b)->Own h s n 3 c (aH .i64 ((fN xs).take i))->
  ae W n0 (rz lf (eW lf d) a k v x2 c v (jI (xs.length:Nat)) (jI (i:Nat))) h n Q:=by
 intro m
 induction m with
 |zero=>intro i a h n c hm F hi D E t;obtain⟨a,rfl⟩:∃f,a=f+1:=⟨a-1,jO⟩;obtain rfl:i=xs.length:=jO;rw[rz];refine jA @bE ?_;rw[<-ng xs,eh]at t;exact hK h n c _ D t.row
 |succ m T=>
  intro i a h n c hm F hi D E t;obtain⟨a,rfl⟩:∃f,a=f+1:=⟨a-1,jO⟩;have I:Row h n 3 .i64 v xs:=hR.ay D E;have e:i<xs.length:=jO;obtain⟨b,u,cap,o,cs,rfl,N,hb,_,_,_,G⟩:=I.some jO;have P:(i:Int)<((xs.length:Nat):Int):=jO;have R:=G i e;have L:(i:Int)+1=((i+1:Nat):Int):=jO;have U:=X (xs.getD i 0) (Gj e);have p:=aa7 (xs:=fN xs) (i:=i) (by rw[ng];exact e);rw[aaY e]at p;have l:(aH .i64 ((fN xs).take i)).length+1<=1099511627776:=by rw[cj,cB,ng];omega
  have j:∀w,w.get (n+1)=some ⟨3,true,aH .i64 ((fN xs).take i)++[jI (uf (xs.getD i 0))]⟩->(∀b,b<n->¬az c b->w.get b=h.get b)->
   ae W n0 (rz lf (eW lf d) a k (.slice (some ⟨b,u,none⟩) xs.length cap) x2 (.slice (some ⟨n+1,0,none⟩) ((aH .i64 ((fN xs).take i)).length+1) (aU+((aH .i64 ((fN xs).take i)).length+1))) (.slice (some ⟨b,u,none⟩) xs.length cap) (jI (xs.length:Nat)) (jI ((i+1:Nat):Int))) w (n+2) Q:=by
   intro w g k;rw[<-p]at g;refine T (i+1) a w (n+2) _ jO jO jO jO (fun q Y=>by rw[k q jO (fun r=>by have:=(t.lt r).1;omega)];exact E q Y) (Own.mk' g jO jO ?_);rw[p];simp
  rw[rz];by_cases C:xs.getD i 0=0
  ·have z:(xs.getD i 0==0)=true:=by rw[C];rfl
   have y:uf (xs.getD i 0)=1:=by rw[C];rfl
   rw[y]at j;refine jA (aI @P (aI @N (aI @R @z))) ?_;refine fJ trivial (eI _ _) t l jO _ (fun J K B=> ?_);refine jB ?_;rw[L];exact j J K B
  ·have z:(xs.getD i 0==0)=false:=beq_eq_false_iff_ne.2 C;have y:uf (xs.getD i 0)=xs.getD i 0:=by unfold uf;rw[if_neg jO]
   rw[y]at j;refine jA (aI @P (aI @N (aI @R @z))) ?_;refine fJ trivial (eI _ _) t l jO _ (fun J K B=> ?_);refine jB ?_;rw[L];exact j J K B
theorem alX(lf d n:Nat)(h:H)(v:Value)(xs l:List Int)(r:Nat)(g:Row h n 3 .i64 v xs)(u:xs.length<=1000000)(p:∀x∈xs,0<=x)(s:jy r (fN xs) l)(q:r<=40)(e:3000000<=lf)(hd:300<=d):
 ae (fun _=>False) n (eW lf (d+1) 177 #[v]) h n fun m h' n'=>Row h' n' 3 .i64 m l:=by
 rw[aF (fun _=>aih) rfl];refine ae.aE ?_;unfold K0;have f:=g;obtain⟨a,c,rfl⟩:=g.len;refine jB ?_;have i:ii 0=jI ((0:Nat):Int):=rfl;rw[i];refine rfA lf d n h _ xs f u p _ (ai n) _ (fun w o k j t b=> ?_) xs.length 0 lf h n _ jO jO jO (ai _) (fun _ _=>rfl) (by rw[nE];exact Own.nil _ _ _ _)
 (try unfold Fc);(try dsimp only)
 rw[i];exact rfB lf d e hd _ _ _ _ _ _ s lf 0 w o k jO jO jO b
end Go.Proofs.YtcehhgppfahbkaaGreatDoor
