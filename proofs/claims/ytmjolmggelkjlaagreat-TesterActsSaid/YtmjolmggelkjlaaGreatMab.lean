import Derived.Test.YtmjolmggelkjlaaGreatMaa
import Derived.Laws.StructEq
open Nat renaming le_refl→ah, ble→bI, beq→bY, lt_succ_self→dI, zero_add→fD, succ→fF, lt_of_lt_of_le→fK, le_of_ble_eq_true→gJ, add→gK, add_zero→iO, mod→j2, eq_of_beq_eq_true→lf, div→kE, ble_eq_true_of_le→lQ, add_mul→oR, pred→qW, sub→Fz, blt→apv, mul→Mz, ne_of_beq_eq_false→aa2, eq_zero_or_pos→aaS, rec→aa3, blt_eq→apA, pow→an6
open List renaming getElem?_eq_getElem→bB, length_append→bG, all_eq_true→AK, rec→AO, any_nil→Fv, map_map→Mv, mapM_cons→anG, tail→anW, tail_drop→anX
open Bool renaming and_eq_true→bZ, or_eq_true→oO, false_eq_true→oQ, or_eq_false_iff→xE, true_and→Mn, not_eq_true'→AN, and_false→Fw, or_false→Fx, false_or→aaQ
open Option.some renaming injEq→dH
open Go.Op renaming operands→dN, equal→qV, equalIn→vp, bytesLess→apx, eqFields→anV
open Go.Value renaming int→eJ
open Go.Sem renaming run_bind→eP, run_pure→nu, bind→xC
open Go.Result renaming andThen→ft
open Go.Region renaming wanted→gy
open UInt8 renaming ofNat→gU
open Go.Builtin renaming firstCells→kD, append_→xG, zeroCells→Fs, copy_→Ft, len_→Mw, lenOf→aaW
open Go.Instr renaming fill→lP, index→AL
open Array renaming toList_map→pY, getElem?_toList→Fu, ext'→Mq, mem_append→anZ
open Go.RowKit.Below renaming refl→qS
open Go.Call renaming operands→vl
open Option renaming map_some→AH, mem_def→aaY
open Go.IntKind renaming bits→Fy, wrap→aa0, signed→aa1
open Function renaming comp_def→Mu
open Go.Question renaming cut→aaU, forced→anL
open ByteArray renaming data_extract→aaX, push→aa4, empty→apg
open Go.World renaming cell?→anu
open Int renaming negSucc→an1
open Go.Deferred renaming ofValue→apd
open Int.ofNat renaming inj→ape
open List.cons renaming inj→apf
set_option linter.unusedVariables false
set_option linter.unusedSimpArgs false
namespace Go.Proofs.YtmjolmggelkjlaaGreat.Ev
open Go Go.RowKit
section
variable {P:Program} {base:Nat} {m:Mp} {w:World} {h h1:H} {n n1:Nat} {r:Value} {L:List En}
theorem qi{x a:Value}{k:Nat}(c:VR m x a)(b:iz x=some k)(w:World):(aaW a).run P w= .ok k w:=by cases c<;>simp[iz]at b<;>subst b<;>rfl
theorem F3{sz k u:Nat}{x B:Value}{vs:List Value}(C:VR m x B)(q:iz x=some k)(G:0<k)(wr:WR P m base h w.heap)(g:kF sz u x h n=some ⟨vs,h1,n1,L⟩):
 h1=h∧n1=n∧∃a,bu m vs a∧∀e:World,e.heap=w.heap->(kD sz u B).run P e= .ok a.toArray e:=by
 unfold kF at g;split at g
 ·rename_i b t l c;simp[iz]at q;subst q;cases C with
  |@gB _ _ _ _ D I d hd E O N K J=>
   obtain⟨rfl,rfl,p,a,f,A⟩:=rz wr hd g;refine⟨rfl,rfl,a,f,fun e y=> ?_⟩;have z:a.length=u*sz:=by rw[<-f.length,p]
   have:=vE (P:=P) (w:=e) (c:=d.bf) (o:=d.sh+t) (vs:=a) (fun j v r=>by
    have:=A j v r;unfold anu at this⊢
    rw[y];exact this)
   rw[z]at this;simp only[kD,E (.inl G)];exact this
 ·rename_i s;simp[iz]at q;subst q;cases C;obtain⟨rfl,rfl,rfl⟩:=bM g
  refine⟨rfl,rfl,_,bu.mf rfl (fun j v r=>⟨v,r, ?_⟩),fun e _=>by
   simp[kD];apply Mq
   simp⟩
  have i:=List.mem_of_getElem? r;simp only[aaX,Array.map_extract,Array.toList_extract,List.extract_eq_take_drop,List.drop_zero,pY]at i;have i:=List.mem_of_mem_take i;simp at i;obtain⟨b,_,rfl⟩:=i;exact .int _ _
 ·cases g
theorem ab1{c o:Nat}{e:TypeId}{lo k:Nat}:∀(vs:List Value) (i:Nat) (w:World) (cs:Array Value),w.heap[c]? =some (.cells cs e (lo,k))->(∀j,j<vs.length->o+i+j<cs.size∧¬(lo<=o+i+j∧o+i+j<k))->(∀v∈vs,Ev.one v=true)->base<=c->
 ∃w' cs',(storeCells ⟨c,o,none⟩ vs i).run P w= .ok () w'∧w'.heap[c]? =some (.cells cs' e (lo,k))∧cs'.size=cs.size∧(∀j,cs'[j]? =if o+i<=j∧j<o+i+vs.length then vs[j-(o+i)]? else cs[j]?)∧(∀b,b≠c->w'.heap[b]? =w.heap[b]?)∧Below base w w':=by
 intro vs
 induction vs with
 |nil=>intro i w cs f _ _ _;exact⟨w,cs,rfl,f,rfl,fun j=>by rw[if_neg jS],fun _ _=>rfl,qS _ _⟩
 |cons v vs m=>
  intro i w cs f d h1 l;obtain⟨a,q⟩:=d 0 jS
  have nD:(w.setCell ⟨c,o+i,none⟩ v).heap[c]? =some (.cells (cs.setIfInBounds (o+i) v) e (lo,k)):=by simp only[World.setCell,Array.getElem?_modify,if_true,f];simp
  obtain⟨w',cs',A,z,y,x,t,s⟩:=m (i+1) (w.setCell ⟨c,o+i,none⟩ v) _ nD (fun j h=>by
   have:=d (j+1) (by simpa using h);rw[show o+(i+1)+j=o+i+(j+1) by omega]
   simpa using this) (fun u n=>h1 u (by simp[n])) l
  refine⟨w',cs', ?_,z,by rw[y];simp,fun j=> ?_,fun b g=> ?_,((qS base w).setCell (p:=⟨c,o+i,none⟩) l _).trans s⟩
  ·unfold storeCells;rw[lC];show(xC (store _ _) _).run P w=_;unfold store;simp only[xC]
   rw[Na (by rw[vD w _ _ f];simpa using a) (by
    unfold World.frozen?;simp only[f,Bool.and_eq_false_iff,decide_eq_false_iff_not]
    omega) (h1 v jS)]
   exact A
  ·rw[x j];simp only[List.length_cons];by_cases h:o+(i+1)<=j∧j<o+(i+1)+vs.length
   ·rw[if_pos h,if_pos jO];rw[show j-(o+i)=(j-(o+(i+1)))+1 by omega];simp
   ·rw[if_neg h];by_cases r:j=o+i
    ·subst r;rw[if_pos jO];simp at a;simp[a]
    ·rw[if_neg jO,Array.getElem?_setIfInBounds_ne jO]
  ·rw[t b g,Below.heap_setCell w _ _ _ g]
theorem F4 {c:Array TypeId} {t u ty e:TypeId} {i:TypeInfo} {x:Value} {k:Nat} {news:List Value} {b off l cap:Nat} {w':World} (f:c[0]? =some t) (d:c[1]? =some u) (n:P.underlying t=some (.slice e)) (m:(∃h,P.underlying u=some (.slice h))∨P.underlying u=some .string) (p:P.info? e=some i)
 (o:(aaW x).run P w= .ok k w) (a:l+k<=cap) (j:(kD i.size k x).run P w= .ok news.toArray w) (g:(storeCells ⟨b,off+l*i.size,none⟩ news).run P w= .ok () w'):
 (xG c ty #[.slice (some ⟨b,off,none⟩) l cap,x]).run P w= .ok (.slice (some ⟨b,off,none⟩) (l+k) cap) w':=by
 rcases m with ⟨h,hk⟩|hk<;>simp[xG,f,d,run_underlying n,run_underlying hk,sizeOf,typeInfo,p,o,a,j,lC,g]
theorem F5 {b:Array TypeId} {t u ty e:TypeId} {i:TypeInfo} {z:Value} {x:Value} {k:Nat} {olds news:List Value} {o:Option Addr} {l cap:Nat} (g:b[0]? =some t) (f:b[1]? =some u) (s:P.underlying t=some (.slice e)) (r:(∃n,P.underlying u=some (.slice n))∨P.underlying u=some .string) (B:P.info? e=some i) (p:i.zero=some z)
 (A:(aaW x).run P w= .ok k w) (a:cap<l+k) (h:l+k<=1099511627776) (j:i.bytes<=64) (q:(kD i.size k x).run P w.drew= .ok news.toArray w.drew) (v:(kD i.size l (.slice o l cap)).run P w.drew= .ok olds.toArray w.drew):
 (xG b ty #[.slice o l cap,x]).run P w= .ok (.slice (some ⟨w.heap.size,0,none⟩) (l+k) (grownCap w (l+k) cap e))
   (w.drew.alloc (.cells ((olds++news).toArray++Fs z.cells (grownCap w (l+k) cap e-(l+k))) e)):=by
 have y:¬(l+k<=cap):=jO;have c:¬(9223372036854775807<((l:Int)+(k:Int))):=jO
 have m:=growslice_fits (need:=l+k) (old:=cap) (bytes:=i.bytes) a (by
  have:=Nat.mul_le_mul h j
  omega)
 have d:¬(281474976710656<Builtin.nextslicecap (l+k) cap*i.bytes):=jO
 rcases r with ⟨n,hk⟩|hk<;>
  (simp[xG,g,f,run_underlying s,run_underlying hk,sizeOf,typeInfo,zeroValue,B,p,A,y,c,d,anL,q,v,newRow,grownCap]
   congr 2;apply Mq
   simp[List.append_assoc])
theorem size_zeroCells(z:Array Value)(k:Nat):(Fs z k).size=k*z.size:=by simp[Fs]
theorem ab2(w:World)(need old:Nat)(e:TypeId):need<=grownCap w need old e:=by unfold grownCap aaU;exact Nat.le_add_right _ _
theorem F6 {e:TypeId} {i:TypeInfo} {z:Value} {l k cap:Nat} {old c old' a:List Value} (x:WR P m base h w.heap) (K:base<=w.heap.size) (I:iQ m n n1) (G:P.info? e=some i) (p:z.cells.size=i.size) (C:bu m old old') (D:bu m c a) (t:old.length=l*i.size) (u:c.length=k*i.size)
 (A:mN e l k old c h n=some ⟨r,h1,n1,L⟩):∃g,cL P m base n n1 w h1 g (w.drew.alloc (.cells ((old'++a).toArray++Fs z.cells (grownCap w (l+k) cap e-(l+k))) e))∧
   VR g r (.slice (some ⟨w.heap.size,0,none⟩) (l+k) (grownCap w (l+k) cap e)):=by
 unfold mN at A;obtain⟨id,R,Q,U,T,O,N,_⟩:=bind_some A;obtain⟨rfl,rfl,rfl⟩:=bM N;have J:=ab2 w (l+k) cap e;have f:=C.append D;have b:=f.length
 obtain⟨rfl,rfl,g,y,o⟩:=td (w:=w.drew) (P:=P) (m:=m) (base:=base) x O I K (cs':=(old'++a).toArray++Fs z.cells (grownCap w (l+k) cap e-(l+k))) (by simp at b⊢;omega) (fun j v E=>by
  obtain⟨B,d,s⟩:=f.get j v E;refine⟨B, ?_,s⟩
  have:j<(old'++a).length:=by
   rcases Nat.lt_or_ge j (old'++a).length with q|q
   ·exact q
   ·rw[List.getElem?_eq_none q]at d;cases d
  rw[Array.getElem?_append_left (by simpa using this)]
  simpa using d) (esz:=i.size) (by simp[size?,G])
 refine⟨g,⟨o.le,o.out,o.wr,(Below.drew (qS base w)).trans o.below⟩,VR.gB y (fun _=>rfl) (fun q=>by unfold bo at q;omega) (fun _=>⟨ah _,jO⟩) J ?_⟩;simp only[Array.size_append,size_zeroCells,p,List.size_toArray,<-b,bG,t,u];rw[<-oR,<-oR,fD];exact Nat.le_of_eq (by congr 1;omega)
theorem ab3 {w7:Array TypeId} {t u ty:TypeId} {s s' x x':Value} (G:w7[0]? =some t) (E:w7[1]? =some u) (hu:(∃e',P.underlying u=some (.slice e'))∨P.underlying u=some .string) (hs:VR m s s') (W:VR m x x') (wr:WR P m base h w.heap) (hb:base<=w.heap.size) (hf:iQ m n n1)
 (f:oU P t s x h n=some ⟨r,h1,n1,L⟩):Sound P base m w h n (xG w7 ty #[s',x']) r h1 n1:=by
 unfold oU at f;cases ht:P.underlying t with
 |none=>rw[ht]at f;cases f
 |some dt=>
  rw[ht]at f;cases dt<;>try(cases f;done)
  rename_i e;simp only at f;cases N:P.info? e with
  |none=>rw[N]at f;cases f
  |some ie=>
   cases hz:gz P e with
   |none=>rw[N,hz]at f;cases f
   |some z=>
    cases Q:iz x with
    |none=>rw[N,hz,Q]at f;cases f
    |some k=>
     rw[N,hz,Q]at f;simp only at f;obtain⟨i2,v6,v9⟩:=A5 hz;rw[N]at v6;cases v6;split at f
     ·rename_i u6;simp only[bZ,decide_eq_true_eq]at u6;obtain⟨⟨v8,g'⟩,w6⟩:=u6;by_cases hk:k=0
      ·rw[if_pos hk]at f;subst hk;cases hs<;>try(cases f;done)
       case mh l cap A=>
        obtain⟨rfl,rfl,rfl⟩:=bM f;refine⟨m,w,.slice none l cap, ?_,cL.refl wr,.mh _ _ A⟩
        have Y:(kD ie.size 0 x').run P w= .ok #[] w:=by cases W<;>simp[iz]at Q<;>simp[kD,loadCells,loadCellsFrom]
        have:=qi (P:=P) W Q w;rcases hu with ⟨e',hk⟩|hk<;>simp[xG,G,E,run_underlying ht,run_underlying hk,sizeOf,typeInfo,N,this,A.1,Y]
       case o4 b off s a'=>
        obtain⟨rfl,rfl,rfl⟩:=bM f;refine⟨m,w,.slice (some a') 0 0, ?_,cL.refl wr,.o4 _ _ _ _⟩
        have Y:(kD ie.size 0 x').run P w= .ok #[] w:=by cases W<;>simp[iz]at Q<;>simp[kD,loadCells,loadCellsFrom]
        have:=qi (P:=P) W Q w;rcases hu with ⟨e',hk⟩|hk<;>simp[xG,G,E,run_underlying ht,run_underlying hk,sizeOf,typeInfo,N,this,Y,storeCells]
       case gB b off l cap y o' d hd ho c1 c2 c3 c4=>
        obtain⟨rfl,rfl,rfl⟩:=bM f;refine⟨m,w,_, ?_,cL.refl wr,.gB hd ho c1 c2 c3 c4⟩
        have Y:(kD ie.size 0 x').run P w= .ok ([]:List Value).toArray w:=by cases W<;>simp[iz]at Q<;>simp[kD,loadCells,loadCellsFrom]
        have:=F4 (P:=P) (ty:=ty) G E ht hu N (qi (P:=P) W Q w) (b:=d.bf) (off:=o') (l:=l) (cap:=y) jO Y (w':=w) rfl;simpa using this
      ·rw[if_neg hk]at f;have x7:0<k:=jO;cases hs<;>try(cases f;done)
       case mh l cap A=>
        cases l<;>try(cases f;done)
        cases cap<;>try(cases f;done)
        simp only at f;split at f
        ·rename_i u4;obtain⟨v0,h2,n2,L1,L2,e1,R,_⟩:=bind_some f;obtain⟨rfl,rfl,D,hn,X⟩:=F3 W Q x7 wr e1;split at R
         ·rename_i hc;simp only[bZ,decide_eq_true_eq]at hc;obtain⟨U,hp,hv⟩:=F6 (cap:=0) (old:=[]) (old':=[]) (l:=0) wr hb hf N v8 .nil hn jS hc.1 R;refine⟨U,_,_, ?_,hp,hv⟩;exact F5 (P:=P) G E ht hu N v9 (qi (P:=P) W Q w) jO jO w6 (X _ rfl) (by simp[kD])
         ·cases R
        ·cases f
       case gB b off l cap y o' d hd ho c1 c2 c3 c4=>
        simp only at f;split at f
        ·rename_i u4;obtain⟨e',h2,n2,L1,L2,e1,R,_⟩:=bind_some f;obtain⟨rfl,rfl,d2,y1,y0,B0,y2,z7⟩:=M' wr e1;rw[hd]at y1;cases y1;split at R
         ·rename_i he;subst he;have u5:ie.size=d.esz:=by simpa[size?,N]using y0
          obtain⟨v0,h3,n3,L3,L4,e3,e4,_⟩:=bind_some R;obtain⟨rfl,rfl,D,hn,X⟩:=F3 W Q x7 wr e3;split at e4
          ·rename_i hc;simp only[bZ,decide_eq_true_eq]at hc;obtain⟨v3,w4⟩:=hc;have x5:D.length=k*ie.size:=by rw[<-hn.length];exact v3
           have w3:∀v∈D,Ev.one v=true:=by
            intro v hv;obtain⟨j,hj⟩:=List.mem_iff_getElem?.1 hv
            have C:j<v0.length:=by rw[hn.length];exact(List.getElem?_eq_some_iff.1 hj).1
            obtain⟨v2,x1,y9⟩:=hn.get j v0[j] (by simp[C]);rw[hj]at x1;cases x1;rw[y9.one];exact AK.1 w4 _ (List.getElem_mem C)
           unfold sY at e4;by_cases A:cap<bo
           ·rw[if_pos A]at e4;have z5:=c1 A;subst z5;have w1:=ho (.inr A);subst w1;by_cases g:l+k<=y
            ·rw[if_pos g]at e4;obtain⟨uu,h5,T,L5,L6,e5,e6,_⟩:=bind_some e4;obtain⟨rfl,rfl,rfl⟩:=bM e6;cases uu;obtain⟨rfl,w',y8,x2,z6⟩:=FV hd hn (i:=0) (d.sh+off+l*ie.size) jO wr e5;refine⟨m,w',_, ?_,⟨Le.refl _,fun _ _=>rfl,x2,z6⟩,.gB hd (fun _=>rfl) (fun _=>rfl) (fun q=>by omega) jO c4⟩;exact F4 (P:=P) G E ht hu N (qi (P:=P) W Q w) g (X w rfl) y8
            ·rw[if_neg g]at e4;obtain⟨old,h5,T,L5,L6,e5,e6,_⟩:=bind_some e4;obtain⟨rfl,rfl,J,old',I,v1⟩:=rz wr hd e5;obtain⟨U,hp,hv⟩:=F6 (cap:=y) wr hb hf N v8 I hn J v3 e6;refine⟨U,_,_, ?_,hp,hv⟩;refine F5 (P:=P) G E ht hu N v9 (qi (P:=P) W Q w) jO u4 w6 (X _ rfl) ?_;have:=vE (P:=P) (w:=w.drew) (c:=d.bf) (o:=d.sh+off) (vs:=old') v1;rw[<-I.length,J]at this;simpa[kD]using this
           ·rw[if_neg A]at e4;obtain⟨old,h5,T,L5,L6,e5,e6,_⟩:=bind_some e4;obtain⟨rfl,rfl,J,old',I,v1⟩:=rz wr hd e5;obtain⟨uu,h7,n7,L7,L8,e7,e8,_⟩:=bind_some e6;unfold kill at e7;split at e7
            ·split at e7
             ·rename_i l' _ B hB;split at e7
              ·rename_i u0;simp only[dH,Out.mk.injEq]at e7;obtain⟨_,rfl,rfl,_⟩:=e7;have xk:=wr.kill hB
               have x4:∀(w2:World),w2.heap=w.heap->(kD ie.size l (.slice (some ⟨d.bf,o',none⟩) l y)).run P w2= .ok old'.toArray w2:=by
                intro w2 y7
                have p:∀j v,old'[j]? =some v->w2.cell? ⟨d.bf,o'+j,none⟩=some v:=by
                 intro j v hj;have C:j<old'.length:=(List.getElem?_eq_some_iff.1 hj).1
                 have w5:0<l:=by
                  rcases aaS l with q|q
                  ·rw[<-I.length,J,q]at C;simp at C
                  ·exact q
                 rw[ho (.inl w5)];have:=v1 j v hj;unfold anu at this⊢;rw[y7];exact this
                have:=vE (P:=P) p;rw[<-I.length,J]at this;simpa[kD]using this
               by_cases g:l+k<=y
               ·
                obtain⟨dB,cs,lo,v6,b1,b2,b3,b4,b5,b6,b7⟩:=wr.live b B hB;rw[hd]at b1;cases b1;obtain⟨z4,u9,x9⟩:=b6 u0;have j':l*d.esz+k*d.esz<=y*d.esz:=by rw[<-oR];exact Nat.mul_le_mul_right _ g
                obtain⟨w',y3,s1,s2,s3,s4,s5,s6⟩:=ab1 (P:=P) (base:=base) (o:=o'+l*ie.size) D 0 w cs b2 (fun j hj=>by
                 rw[x5,u5]at hj;rw[u5]
                 exact⟨jO,x9 _ jO⟩) w3 u9
                unfold mN at e8;obtain⟨id,h9,n9,L9,m',e9,z9,_⟩:=bind_some e8;obtain⟨rfl,rfl,rfl⟩:=bM z9;unfold cW at e9;split at e9
                ·rename_i i';simp only[dH,Out.mk.injEq]at e9;obtain⟨rfl,rfl,rfl,_⟩:=e9;have z8:B.elem=e':=by rw[hB]at y2;cases y2;exact z7
                 rw[z4,z8]at s2;have z2:m T=none:=hf T (ah _) jO;obtain⟨U,x6⟩:∃U:Mp,U=fun q=>if q=T then some ⟨d.bf,o',d.tot,d.esz,e'⟩else m q:=⟨_,rfl⟩
                 have v4:U T=some ⟨d.bf,o',d.tot,d.esz,e'⟩:=by rw[x6];simp
                 have u2:∀q,q≠T->U q=m q:=fun q p=>by rw[x6];simp[p]
                 have v5:Le m U:=fun q dd p=>by
                  by_cases e:q=T
                  ·subst e;rw[z2]at p;cases p
                  ·rw[u2 q e];exact p
                 refine⟨U,w',.slice (some ⟨d.bf,o',none⟩) (l+k) y, ?_,⟨v5,fun q p=>u2 q jO,⟨?_, ?_⟩,s6⟩,VR.gB (d:=⟨d.bf,o',d.tot,d.esz,e'⟩) v4 (fun _=>rfl) (fun q=>by unfold bo at*;omega) (fun _=>⟨ah _,jO⟩) g c4⟩
                 ·exact F4 (P:=P) G E ht hu N (qi (P:=P) W Q w) g (X w rfl) s1
                 ·intro q B2 p;rw[H.js _ _]at p;by_cases e:q=T
                  ·subst e;rw[if_pos rfl]at p;cases p;refine⟨_,y3,lo,v6,v4,s2,by rw[s3,b3], ?_,y0,fun _=>⟨rfl,u9,x9⟩,fun j v hj=> ?_⟩
                   ·simp only[bG,J,v3,u5];omega
                   ·obtain⟨v',O,w0⟩:=(I.append hn).get j v hj;refine⟨v', ?_,w0.mono v5⟩;show y3[o'+j]? =_;rw[s4];have u1:old'.length=l*ie.size:=by rw[<-I.length,J]
                    by_cases C:j<old'.length
                    ·rw[if_neg (by rw[u1]at C;omega)];rw[List.getElem?_append_left C]at O
                     have w5:0<l:=by
                      rcases aaS l with q|q
                      ·rw[u1,q]at C;simp at C
                      ·exact q
                     have:=v1 j v' O;rw[vD w _ _ b2]at this;rw[ho (.inl w5)];exact this
                    ·have x8:j<(old'++D).length:=(List.getElem?_eq_some_iff.1 O).1;rw[List.getElem?_append_right jO]at O;simp only[bG]at x8;rw[if_pos jO];rw[<-O,u1];congr 1;omega
                  ·rw[if_neg e]at p;obtain⟨d3,b',y6,z3,g1,g2,g3,g4,g5,g6,g7⟩:=xk.live q B2 p
                   have x3:q≠b∧h5.get q=some B2:=by
                    rw[H.js _ _]at p;by_cases e3:q=b
                    ·rw[if_pos e3]at p;cases p
                    ·rw[if_neg e3]at p;exact⟨e3,p⟩
                   have z1:d3.bf≠d.bf:=fun e3=>x3.1 (wr.inj q b B2 B d3 d x3.2 hB (.inr u0) g1 hd e3);refine⟨d3,b',y6,z3,v5 _ _ g1,by rw[s5 _ z1];exact g2,g3,g4,g5,g6,fun j v hj=> ?_⟩;obtain⟨v',O,w0⟩:=g7 j v hj;exact⟨v',O,w0.mono v5⟩
                 ·intro q q' B2 B3 d2 d3 p Z w1 K u3 u7;rw[H.js _ _]at p Z
                  have w9:∀q B2 d2,q≠T->(h5.set b none).get q=some B2->U q=some d2->d2.bf≠d.bf:=by
                   intro q B2 d2 z0 p K u7;rw[H.js _ _]at p;by_cases e3:q=b
                   ·rw[if_pos e3]at p;cases p
                   ·rw[if_neg e3]at p;rw[u2 q z0]at K;exact e3 (wr.inj q b B2 B d2 d p hB (.inr u0) K hd u7)
                  by_cases e1:q=T
                  ·by_cases R:q'=T
                   ·rw[e1,R]
                   ·rw[if_neg R]at Z;subst e1;rw[v4]at K;cases K;exact absurd u7.symm (w9 q' B3 d3 R Z u3)
                  ·rw[if_neg e1]at p;by_cases R:q'=T
                   ·subst R;rw[v4]at u3;cases u3;exact absurd u7 (w9 q B2 d2 e1 p K)
                   ·rw[if_neg R]at Z;rw[u2 q e1]at K;rw[u2 q' R]at u3;exact xk.inj q q' B2 B3 d2 d3 p Z w1 K u3 u7
                ·cases e9
               ·
                obtain⟨U,hp,hv⟩:=F6 (cap:=y) xk hb hf N v8 I hn J v3 e8;refine⟨U,_,_, ?_,hp,hv⟩;exact F5 (P:=P) G E ht hu N v9 (qi (P:=P) W Q w) jO u4 w6 (X _ rfl) (x4 _ rfl)
              ·cases e7
             ·cases e7
            ·cases e7
          ·cases e4
         ·cases R
        ·cases f
     ·cases f
theorem ab4{C:Array TypeId}{t ty:TypeId}{d N s D:Value}(o:C[0]? =some t)(hd:VR m d N)(G:VR m s D)(wr:WR P m base h w.heap)(a:oX P t d s h n=some ⟨r,h1,n1,L⟩):
 Sound P base m w h n (Ft C ty #[N,D]) r h1 n1:=by
 unfold oX at a;cases j:P.underlying t with
 |none=>rw[j]at a;cases a
 |some du=>
  rw[j]at a;cases du<;>try(cases a;done)
  rename_i e;simp only at a;cases c:size? P e with
  |none=>rw[c]at a;cases a
  |some U=>
   cases l:iz s with
   |none=>rw[c,l]at a;cases hd<;>cases a
   |some v=>
    rw[c,l]at a;have f:=qi (P:=P) G l w
    have zero:∀k,¬0<Nat.min v k->Nat.min v k=0∧(kD U (Nat.min v k) D).run P w= .ok #[] w:=by intro k g;have B:Nat.min v k=0:=jO;refine⟨B, ?_⟩;rw[B];cases G<;>simp[iz]at l<;>simp[kD,loadCells,loadCellsFrom]
    cases hd with
    |mh k cap hc=>
     simp only at a;by_cases g:0<Nat.min v k
     ·rw[if_pos g]at a;cases a
     ·rw[if_neg g]at a;obtain⟨rfl,rfl,rfl⟩:=bM a;obtain⟨q,p⟩:=zero k g;refine⟨m,w,_, ?_,cL.refl wr,.int _ _⟩;rw[q]at p;simp[Ft,o,run_underlying j,run_sizeOf c,f,q,p,goInt]
    |o4 b x sp a'=>
     simp only at a;by_cases g:0<Nat.min v 0
     ·rw[if_pos g]at a;cases a
     ·rw[if_neg g]at a;obtain⟨rfl,rfl,rfl⟩:=bM a;obtain⟨q,p⟩:=zero 0 g;refine⟨m,w,_, ?_,cL.refl wr,.int _ _⟩;rw[q]at p;simp[Ft,o,run_underlying j,run_sizeOf c,f,q,p,goInt,storeCells]
    |@gB b x k cap O o' dd J W c1 c2 c3 c4=>
     simp only at a;by_cases g:0<Nat.min v k
     ·rw[if_pos g]at a;obtain⟨vs,h2,n2,L1,L2,e1,e2,_⟩:=bind_some a;have z:0<v:=fK g (Nat.min_le_left _ _);have A:0<k:=fK g (Nat.min_le_right _ _);obtain⟨rfl,rfl,T,E,I⟩:=F3 G l z wr e1;obtain⟨u,h3,n3,L3,L4,Z,Y,_⟩:=bind_some e2;obtain⟨rfl,rfl,rfl⟩:=bM Y;cases u;obtain⟨rfl,R,y,Q,K⟩:=FV J E (i:=0) (dd.sh+x) jO wr Z;refine⟨m,R,_, ?_,⟨Le.refl _,fun _ _=>rfl,Q,K⟩,.int _ _⟩;have X:=I w rfl;rw[<-W (.inl A)]at y;simp[Ft,o,run_underlying j,run_sizeOf c,f,X,y,goInt]
     ·rw[if_neg g]at a;obtain⟨rfl,rfl,rfl⟩:=bM a;obtain⟨q,p⟩:=zero k g;refine⟨m,w,_, ?_,cL.refl wr,.int _ _⟩;rw[q]at p;simp[Ft,o,run_underlying j,run_sizeOf c,f,q,p,goInt,storeCells]
    |_=>cases a
end
theorem bu.maps{m:Mp}{ρ ρ':Operand->Value}:∀(l:List Operand),(∀y∈l,VR m (ρ y) (ρ' y))->bu m (l.map ρ) (l.map ρ')
 |[],_=> .nil
 |x::l,h=> .cons (h x jS) (bu.maps l fun y a=>h y (by simp[a]))
theorem A6{P:Program}{w:World}{s:Sem Value}{v:Value}{w':World}(h:s.run P w= .ok v w'):((do pure (.value (<-s)):Sem Next)).run P w= .ok (.value v) w':=by simp only[eP,h,ft,nu]
section
variable {P:Program} {base:Nat}
def Goal(P:Program)(base:Nat)(m:Mp)(w:World)(n c:Nat)(h1:H)(r:Nx)(s:Sem Next):Prop:=∃b a R,s.run P w= .ok R a∧cL P m base n c w h1 b a∧NR b r R
theorem Goal.of{m:Mp}{w:World}{h h1:H}{n a:Nat}{v:Value}{s:Sem Value}(x:Sound P base m w h n s v h1 a):Goal P base m w n a h1 (.val v) (do pure (.value (<-s))):=by obtain⟨d,b,c,f,g,e⟩:=x;exact⟨d,b,.value c,A6 f,g,.val e⟩
theorem jH{m:M Value}{h h2:H}{n n2:Nat}{r:Nx}{L:List En}(a:(m.bind fun v=>M.ret (Nx.val v)) h n=some ⟨r,h2,n2,L⟩):∃v L',r= .val v∧m h n=some ⟨v,h2,n2,L'⟩:=by obtain⟨v,f,e,d,g,c,b,_⟩:=bind_some a;obtain⟨rfl,rfl,rfl⟩:=bM b;exact⟨v,d,rfl,c⟩
theorem ab5{ρ ρ':Operand->Value}{o:Oper}{m:Mp}{w:World}{h h1:H}{n g:Nat}{r:Nx}{L:List En}(j:∀cs b,o.op≠ .select cs b)(d:∀y∈o.op.operands,VR m (ρ y) (ρ' y))(x:WR P m base h w.heap)(c:gM P ρ o h n=some ⟨r,h1,g,L⟩):
 Goal P base m w n g h1 r (execOp ρ' o):=by
 unfold gM at c;split at c
 ·rename_i a;obtain⟨v,q,p,t,s,l,f,_⟩:=bind_some c;obtain⟨k,rfl,rfl⟩:=mg l;split at f
  ·rename_i e;obtain⟨rfl,rfl,rfl⟩:=bM f;have:execOp ρ' o=execOp ρ o:=execOp_congr o j fun y i=>(d y i).scalar ((Array.all_eq_true_iff_forall_mem.1 a) y i);rw[this];exact⟨m,w,.value v,abJ _ _ k w,cL.refl x,.val (VR.self e)⟩
  ·cases f
 ·cases c
theorem mT{m:Mp}{w:World}{h:H}{n:Nat}{v a:Value}{s:Sem Value}(x:WR P m base h w.heap)(c:s.run P w= .ok a w)(b:VR m v a):Goal P base m w n n h (.val v) (do pure (.value (<-s))):=
 ⟨m,w,.value a,A6 c,cL.refl x,.val b⟩
theorem F7{m:Mp}{ρ ρ':Operand->Value}{o:Option Operand}(h:∀y∈o,VR m (ρ y) (ρ' y)):rA m (o.map ρ) (o.map ρ'):=by
 cases o with
 |none=>trivial
 |some y=>exact h y rfl
theorem ab6{m:Mp}{t:TypeId}{v c u e:Value}{b:Bool}(g:VR m v c)(i:VR m u e)(h:oV (P.underlying t) v u=some b)(w:World):
 (qV t c e).run P w= .ok b w∧(∀a x y,(eqGuard a t x y c e).run P w= .ok () w)∧(∀a:BinOp,a= .eql∨a= .neq->binOp a t c e=(if a= .eql then do pure (.bool (<-qV t c e))else do pure (.bool (!(<-qV t c e))))):=by
 cases hd:P.underlying t with
 |none=>rw[hd]at h;simp[oV]at h
 |some d=>
  rw[hd]at h;have f:Op.maxDepth=9999+1:=rfl;unfold qV;rw[f];cases d<;>try(simp[oV]at h;done)
  all_goals (cases g<;>try(simp[oV]at h;done))
  all_goals (cases i<;>try(simp[oV]at h;done))
  all_goals (
   simp[oV]at h;subst h;refine⟨?_,fun a x y=> ?_,fun a bC=> ?_⟩
   ·rw[vp];simp only[eP,run_underlying hd,ft];rfl
   ·unfold eqGuard;split<;>rfl
   ·rcases bC with rfl|rfl<;>rfl)
theorem ab7{m:Mp}{d:Nat}{x y f e:Value}{b:Bool}(h:AY d x y=some b)(c:VR m x f)(a:VR m y e):f=x∧e=y:=by
 unfold AY at h;split at h
 ·cases c;cases a;exact⟨rfl,rfl⟩
 ·cases c;cases a;exact⟨rfl,rfl⟩
 ·cases c;cases a;exact⟨rfl,rfl⟩
 ·cases h
theorem Nr{m:Mp}:∀{c:List Nat} {l k e f:List Value} {b:Bool},lA c l k=some b->bu m l e->bu m k f->e=l∧f=k∧l.length=c.length∧k.length=c.length
 |[],[],[],_,_,_,_,.nil,.nil=>⟨rfl,rfl,rfl,rfl⟩
 |d::c,x::l,y::k,_,_,b,h,.cons i j,.cons g n=>by
  unfold lA at h;split at h
  ·rename_i a b p o;obtain⟨rfl,rfl⟩:=ab7 p i g;obtain⟨rfl,rfl,r,q⟩:=Nr o j n;exact⟨rfl,rfl,by simp[r],by simp[q]⟩
  ·cases h
 |[],[],_::_,_,_,_,h,_,_=>by simp[lA]at h
 |[],_::_,_,_,_,_,h,_,_=>by simp[lA]at h
 |_::_,[],_,_,_,_,h,_,_=>by simp[lA]at h
 |_::_,_::_,[],_,_,_,h,_,_=>by simp[lA]at h
theorem Ns{t:TypeId}{cs:Array Value}{i:Nat}{v:Value}(b:jn P t=some false)(a:cs[i]? =some v)(w:World):(part t cs i).run P w= .ok v w:=by unfold part;simp only[eP,tf b,ft,oQ,if_false,a];rfl
theorem Nt{xs ys:Array Value}(D:Nat):∀(m:List Field) (i:Nat) (n:List Nat) (b:Bool),xL P i m=some n->lA n (xs.toList.drop i) (ys.toList.drop i)=some b->∀w,(anV (D+1) xs ys m).run P w= .ok b w
 |[],i,n,b,h,e,w=>by
  simp only[xL,dH]at h;subst h;unfold lA at e;split at e<;>first|(cases e;done)|skip
  ·cases e;rfl
  ·rename_i q _ _;cases q
 |f::m,i,n,b,h,e,w=>by
  unfold xL at h;split at h
  ·rename_i d l g Q E;split at h
   ·rename_i s;cases h;simp only[bZ,bne_iff_ne,ne_eq,beq_iff_eq]at s;obtain⟨o,k⟩:=s;unfold lA at e;split at e<;>first|(cases e;done)|skip
    ·rename_i q _ _;cases q
    ·rename_i R K x A y z G v t;cases G;split at e
     ·rename_i a O c B;cases e
      have N:xs[i]? =some x:=by rw[<-Fu];have:=congrArg (·[0]?) v;simpa using this
      have L:ys[i]? =some y:=by rw[<-Fu];have:=congrArg (·[0]?) t;simpa using this
      have J:xs.toList.drop (i+1)=A:=by have:=congrArg anW v;simpa[anX]using this
      have I:ys.toList.drop (i+1)=z:=by have:=congrArg anW t;simpa[anX]using this
      have r:jn P f.type=some false∧∀w,(vp (D+1) f.type x y).run P w= .ok a w:=by
       unfold MY at g;unfold jn;cases j:P.underlying f.type with
       |none=>rw[j]at g;cases g
       |some u=>
        rw[j]at g;unfold AY at c;cases u<;>first|(cases g;done)|skip
        ·cases g;refine⟨rfl,fun w=> ?_⟩;split at c<;>first|(cases c;done)|skip
         ·rename_i q;cases q
         ·rename_i q;cases q
         ·cases c;simp[vp,run_underlying j]
        ·cases g;refine⟨rfl,fun w=> ?_⟩;split at c<;>first|(cases c;done)|skip
         ·split at c
          ·rename_i p;cases c;simp[vp,run_underlying j,p]
          ·cases c
         ·rename_i q;cases q
         ·rename_i q;cases q
        ·cases g;refine⟨rfl,fun w=> ?_⟩;split at c<;>first|(cases c;done)|skip
         ·rename_i q;cases q
         ·cases c;simp[vp,run_underlying j]
         ·rename_i q;cases q
      have C:=Nt (xs:=xs) (ys:=ys) D m (i+1) l O E (by rw[J,I];exact B);unfold anV;rw[if_pos o];simp only[eP,k,Ns r.1 N,Ns r.1 L,ft,r.2];cases a
      ·simp
      ·simpa using C w
     ·cases e
   ·cases h
  ·cases h
theorem ab8{m:Mp}{t:TypeId}{v c u d:Value}{b:Bool}(r:VR m v c)(s:VR m u d)(h:oW P t v u=some b)(w:World):
 (qV t c d).run P w= .ok b w∧(∀a x y,(eqGuard a t x y c d).run P w= .ok () w)∧(∀a:BinOp,a= .eql∨a= .neq->binOp a t c d=(if a= .eql then do pure (.bool (<-qV t c d))else do pure (.bool (!(<-qV t c d))))):=by
 unfold oW at h;split at h
 ·rename_i D B;cases h;exact ab6 r s B w
 ·unfold FN at h;split at h
  ·rename_i C q p hd z;cases r with
   |agg n=>
   cases s with
   |agg l=>
   rename_i f e;obtain⟨k,j,_,_⟩:=Nr h n l;have k:f=q:=by cases f;cases q;simp at k;rw[k]
   have j:e=p:=by cases e;cases p;simp at j;rw[j]
   subst k;subst j;unfold sZ at hd;split at hd
   ·rename_i A g;split at hd
    ·cases hd
    ·rename_i o;simp only[oO,not_or,Bool.not_eq_true]at o;have i:P.fieldsOf t=A:=by unfold Program.fieldsOf;rw[g]
     refine⟨?_,fun a x y=>run_eqGuard_agg w a t x y _ _ o.2,fun a bC=> ?_⟩
     ·show(vp (9998+1+1) t _ _).run P w=_;rw[run_equalIn_struct w (9998+1) t _ _ (by rw[i];exact g) o.1,i];exact Nt 9998 A.toList 0 C b hd h w
     ·rcases bC with rfl|rfl<;>rfl
   ·cases hd
  ·cases h
theorem ab9{a b:Option TypeDesc}{e:TypeId}(h:qZ a b=some e):a=some (.slice e)∧b=some .string:=by
 unfold qZ at h;split at h
 ·cases h;exact⟨rfl,rfl⟩
 ·cases h
theorem ab'{a b:Option TypeDesc}{v:Value}{e:TypeId}{s:ByteArray}(h:s7 a b v=some (e,s)):a=some .string∧b=some (.slice e)∧v= .string s:=by
 unfold s7 at h;split at h
 ·cases h;exact⟨rfl,rfl,rfl⟩
 ·cases h
theorem Nu{e:TypeId}(h:mR P e=true):P.underlying e=some (.int .u8):=by
 unfold mR at h;split at h
 ·assumption
 ·cases h
theorem ab_{a:Array TypeId}{args:List Value}{t:TypeId}{d y:Value}(h:vB a args=some (t,d,y)):a[0]? =some t∧args=[d,y]:=by
 unfold vB at h;split at h
 ·rename_i e f c b;cases h;exact⟨b,rfl⟩
 ·cases h
theorem aca{a:Array TypeId}{args:List Value}{t:TypeId}{s y:Value}(h:vA P a args=some (t,s,y)):∃u,a[0]? =some t∧a[1]? =some u∧args=[s,y]∧((∃g,P.underlying u=some (.slice g))∨P.underlying u=some .string):=by
 unfold vA at h;split at h
 ·rename_i j u k i f d;split at h
  ·rename_i b;cases h;refine⟨u,f,d,rfl, ?_⟩;unfold MZ at b;split at b
   ·rename_i e c;exact .inl ⟨e,c⟩
   ·rename_i c;exact .inr c
   ·cases b
  ·cases h
 ·cases h
theorem acb{b:Array TypeId}{args:List Value}{k:Nat}(h:s9 P b args=some k):∃t e a cp rest,b[0]? =some t∧P.underlying t=some (.slice e)∧args= .slice a k cp::rest:=by
 unfold s9 at h;split at h
 ·rename_i t a n cp rest d;split at h
  ·rename_i e c;cases h;exact⟨t,e,a,cp,rest,d,c,rfl⟩
  ·cases h
 ·cases h
theorem acd(w3:ri P=true):te P base:=by
 intro ρ ρ' o h n r h1 n1 L m w j A x hb hf;show Goal P base m w n n1 h1 r (execOp ρ' o);have plain:(∀cs b,o.op≠ .select cs b)->gM P ρ o h n=some ⟨r,h1,n1,L⟩->Goal P base m w n n1 h1 r (execOp ρ' o):=fun hs j=>ab5 hs A x j;unfold cx at j;cases bC:o.op with
 |move y=>rw[bC]at j A;unfold execOp;rw[bC];obtain⟨rfl,rfl,rfl⟩:=bM j;exact⟨m,w,.value (ρ' y),rfl,cL.refl x,.val (A y (by simp[dN]))⟩
 |assign y=>rw[bC]at j A;unfold execOp;rw[bC];obtain⟨rfl,rfl,rfl⟩:=bM j;exact⟨m,w,.value (ρ' y),rfl,cL.refl x,.val (A y (by simp[dN]))⟩
 |pick c a b=>
  rw[bC]at j A;unfold execOp;rw[bC];simp only at j;dsimp only;have hc:=A c (by simp[dN]);have ha:=A a (by simp[dN]);have y4:=A b (by simp[dN]);generalize ρ c=vc at j hc;generalize ρ' c=y7 at hc⊢;cases hc<;>try(cases j;done)
  rename_i t;obtain⟨rfl,rfl,rfl⟩:=bM j;refine⟨m,w,.value (if t then ρ' a else ρ' b),by cases t<;>rfl,cL.refl x,.val ?_⟩;cases t
  ·exact y4
  ·exact ha
 |alloc e=>rw[bC]at j A;unfold execOp;rw[bC];obtain⟨v,Q,rfl,D⟩:=jH j;exact Goal.of (abL x hb hf D)
 |box e y=>rw[bC]at j A;unfold execOp;rw[bC];obtain⟨v,Q,rfl,D⟩:=jH j;exact Goal.of (abM (A y (by simp[dN])) x hb hf D)
 |build t R=>
  rw[bC]at j A;unfold execOp;rw[bC];obtain⟨v,Q,rfl,D⟩:=jH j;have w1:(R.toList.map fun(i,x)=>(i,ρ x)).map (·.1)=(R.toList.map fun(i,x)=>(i,ρ' x)).map (·.1):=by simp[Mu]
  have w0:bu m ((R.toList.map fun(i,x)=>(i,ρ x)).map (·.2)) ((R.toList.map fun(i,x)=>(i,ρ' x)).map (·.2)):=by have:=bu.maps (m:=m) (ρ:=ρ) (ρ':=ρ') (R.toList.map (·.2)) fun y J=>A y (by simp only[dN];simpa using J);simpa[Mv,Mu]using this
  have v5:(R.map fun(i,x)=>(i,ρ' x))=(R.toList.map fun(i,x)=>(i,ρ' x)).toArray:=by apply Mq;simp
  dsimp only;rw[v5];exact Goal.of (abO w1 w0 x D)
 |buildSlice t len R=>
  rw[bC]at j A;unfold execOp;rw[bC];obtain⟨v,Q,rfl,D⟩:=jH j;have w1:(R.toList.map fun(i,x)=>(i,ρ x)).map (·.1)=(R.toList.map fun(i,x)=>(i,ρ' x)).map (·.1):=by simp[Mu]
  have w0:bu m ((R.toList.map fun(i,x)=>(i,ρ x)).map (·.2)) ((R.toList.map fun(i,x)=>(i,ρ' x)).map (·.2)):=by have:=bu.maps (m:=m) (ρ:=ρ) (ρ':=ρ') (R.toList.map (·.2)) fun y J=>A y (by simp only[dN];simpa using J);simpa[Mv,Mu]using this
  have v5:(R.map fun(i,x)=>(i,ρ' x))=(R.toList.map fun(i,x)=>(i,ρ' x)).toArray:=by apply Mq;simp
  dsimp only;rw[v5];exact Goal.of (abP w1 w0 x hb hf D)
 |load t a=>rw[bC]at j A;unfold execOp;rw[bC];obtain⟨v,Q,rfl,D⟩:=jH j;exact Goal.of (abQ (A a (by simp[dN])) x D)
 |store t a y=>rw[bC]at j A;unfold execOp;rw[bC];obtain⟨v,Q,rfl,D⟩:=jH j;obtain⟨rfl,w',x7,hp⟩:=abR (A a (by simp[dN])) (A y (by simp[dN])) x D;refine⟨m,w',.skip, ?_,hp,.skip⟩;simp only[eP,x7,ft,nu]
 |nilCheck y=>rw[bC]at j A;unfold execOp;rw[bC];obtain⟨v,Q,rfl,D⟩:=jH j;obtain⟨rfl,rfl,hv,x8⟩:=abS (A y (by simp[dN])) x D;dsimp only;rcases x8 with ⟨a,ha⟩|⟨f,a,b,ha⟩<;>rw[ha]at hv⊢<;>exact⟨m,w,_,rfl,cL.refl x,.val hv⟩
 |binOp op t y z yt=>
  rw[bC]at j;simp only at j;have B:=A;rw[bC]at B;have J:=B y (by simp[dN]);have hz:=B z (by simp[dN]);cases W:oW P t (ρ y) (ρ z)with
  |none=>rw[W]at j;exact plain (fun cs b N=>by rw[bC]at N;cases N) j
  |some b=>
   rw[W]at j;unfold execOp;rw[bC];obtain⟨q1,q2,q3⟩:=ab8 J hz W w;cases op<;>try(cases j;done)
   case eql=>obtain⟨rfl,rfl,rfl⟩:=bM j;refine mT x ?_ (.bool b);rw[eP,q2];simp only[ft];rw[q3 .eql (.inl rfl),if_pos rfl,eP,q1];rfl
   case neq=>obtain⟨rfl,rfl,rfl⟩:=bM j;refine mT x ?_ (.bool !b);rw[eP,q2];simp only[ft];rw[q3 .neq (.inr rfl),if_neg jD,eP,q1];rfl
 |unOp op t y=>rw[bC]at j;exact plain (fun cs b N=>by rw[bC]at N;cases N) j
 |convert src w2 y=>
  rw[bC]at j;simp only at j;have B:=A;rw[bC]at B;have J:=B y (by simp[dN]);have x9:∀cs b,o.op≠ .select cs b:=fun cs b N=>by rw[bC]at N;cases N
  cases v3:qZ (P.underlying src) (P.underlying w2)with
  |some e=>
   rw[v3]at j;obtain⟨hs,hd⟩:=ab9 v3;simp only at j;split at j
   ·rename_i Y;obtain⟨v,Q,rfl,D⟩:=jH j;obtain⟨a,l,c,Z,u7⟩:=abU J x D;unfold execOp;rw[bC];simp only[Z]at u7⊢;obtain⟨m',w',v',u0,hp,hv⟩:=u7;exact⟨m',w',.value v',A6 (by rw[run_convert_bytes_string w src w2 e a l c hs (Nu Y) hd];exact u0),hp,.val hv⟩
   ·cases j
  |none=>
   rw[v3]at j;simp only at j;cases v4:s7 (P.underlying src) (P.underlying w2) (ρ y)with
   |none=>rw[v4]at j;exact plain x9 j
   |some es=>
    obtain⟨e,s⟩:=es;rw[v4]at j;simp only at j;obtain⟨hs,hd,x4⟩:=ab' v4;split at j
    ·rename_i Y;simp only[bZ,beq_iff_eq]at Y;obtain⟨v,Q,rfl,D⟩:=jH j;rw[x4]at J;have x5:ρ' y= .string s:=by generalize ρ' y=q at J;cases J;rfl
     obtain⟨m',w',v',u0,hp,hv⟩:=abV Y.2 x hb hf D;unfold execOp;rw[bC];simp only[x5];refine⟨m',w',.value v',A6 ?_,hp,.val hv⟩;rw[<-u0];simp[convert,run_underlying hs,run_underlying hd,run_underlying (Nu Y.1)]
    ·cases j
 |makeFunc fn a b=>
  rw[bC]at j A;unfold execOp;rw[bC];obtain⟨rfl,rfl,rfl⟩:=bM j;refine⟨m,w,.value (.func fn (a.map ρ') (b.map ρ')),rfl,cL.refl x,.val (.func fn ?_ ?_)⟩
  ·rw[pY,pY];exact bu.maps _ fun y J=>A y (by simp only[dN,anZ];exact .inl (by simpa using J))
  ·rw[pY,pY];exact bu.maps _ fun y J=>A y (by simp only[dN,anZ];exact .inr (by simpa using J))
 |makeSlice t l c=>rw[bC]at j A;unfold execOp;rw[bC];obtain⟨v,Q,rfl,D⟩:=jH j;exact Goal.of (abW (A l (by simp[dN])) (A c (by simp[dN])) x hb hf D)
 |slice t y lo hi mx=>
  rw[bC]at j;simp only at j;have B:=A;rw[bC]at B;have J:=B y (by simp[dN]);by_cases u6:isStr (ρ y)=true
  ·rw[if_pos u6]at j;exact plain (fun cs b N=>by rw[bC]at N;cases N) j
  ·rw[if_neg u6]at j;obtain⟨v,Q,rfl,D⟩:=jH j;unfold execOp;rw[bC];have w5:rA m (lo.map ρ) (lo.map ρ'):=F7 fun q W=>B q (by rw[aaY]at W;subst W;simp[dN]);have w6:rA m (hi.map ρ) (hi.map ρ'):=F7 fun q W=>B q (by rw[aaY]at W;subst W;simp[dN]);have w4:rA m (mx.map ρ) (mx.map ρ'):=F7 fun q W=>B q (by rw[aaY]at W;subst W;simp[dN]);generalize ρ y=vy at D J;unfold ny at D;split at D
   ·rename_i b y8 l c;obtain⟨e',h2,n2,L1,L2,e2,e3,_⟩:=bind_some D;obtain⟨rfl,rfl,d2,y2,y1,_⟩:=M' x e2;cases T:P.underlying t with
    |none=>rw[T]at e3;cases e3
    |some du=>
     rw[T]at e3;cases du<;>try(cases e3;done)
     rename_i e;simp only at e3;split at e3
     ·rename_i x6;obtain⟨I,rfl,rfl⟩:=mg e3
      obtain⟨u,v1,G⟩:=Nq (fun b' u5 l' c' y6 u9 v2=>by
       cases u9;rw[T]at v2;cases v2
       exact⟨d2,y2,by rw[<-x6];exact y1⟩) J w5 w6 w4 I w
      exact mT x v1 G
     ·cases e3
   ·rename_i y0;obtain⟨I,rfl,rfl⟩:=mg D;obtain⟨u,v1,G⟩:=Nq (fun b' u5 l' c' y6 u9 v2=>absurd u9 (y0 b' u5 l' c')) J w5 w6 w4 I w;exact mT x v1 G
 |fieldAddr t y f=>rw[bC]at j A;unfold execOp;rw[bC];obtain⟨v,Q,rfl,D⟩:=jH j;obtain⟨I,rfl,rfl⟩:=mg D;obtain⟨u,T,G⟩:=abX (A y (by simp[dN])) I w;exact mT x T G
 |field t y f=>rw[bC]at j A;unfold execOp;rw[bC];obtain⟨v,Q,rfl,D⟩:=jH j;obtain⟨I,rfl,rfl⟩:=mg D;obtain⟨u,T,G⟩:=xU (A y (by simp[dN])) I w;exact mT x T G
 |indexAddr t y i=>rw[bC]at j A;unfold execOp;rw[bC];obtain⟨v,Q,rfl,D⟩:=jH j;obtain⟨I,rfl,rfl⟩:=mg D;obtain⟨u,T,G⟩:=abY (A y (by simp[dN])) (A i (by simp[dN])) I w;exact mT x T G
 |index t y i=>
  rw[bC]at j;simp only at j;have B:=A;rw[bC]at B;split at j
  ·exact plain (fun cs b N=>by rw[bC]at N;cases N) j
  ·unfold execOp;rw[bC];obtain⟨v,Q,rfl,D⟩:=jH j;obtain⟨I,rfl,rfl⟩:=mg D;obtain⟨u,T,G⟩:=abZ (B y (by simp[dN])) (B i (by simp[dN])) I w;exact mT x T G
 |extract y i=>rw[bC]at j A;unfold execOp;rw[bC];obtain⟨v,Q,rfl,D⟩:=jH j;obtain⟨I,rfl,rfl⟩:=mg D;obtain⟨u,T,G⟩:=ab0 (A y (by simp[dN])) I w;exact mT x T G
 |call c=>
  rw[bC]at j;simp only at j;have B:=A;rw[bC]at B;simp only[dN]at B
  have C:bu m (c.args.map ρ).toList (c.args.map ρ').toList:=by rw[pY,pY];exact bu.maps _ fun y J=>B y (by unfold vl;exact anZ.2 (.inr (by simpa using J)))
  have w9:execOp ρ' o=(do let d<-resolve ρ' c o.type;invoke d.target d.args):=by unfold execOp;rw[bC]
  unfold kG at j;cases O:c.callee with
  |invoke a b=>rw[O]at j;cases j
  |value f=>
   rw[O]at j;simp only at j;have v8:=B f (by unfold vl;rw[O];simp);cases U:AZ (ρ f)with
   |none=>rw[U]at j;cases j
   |some y5=>
    obtain⟨g,first,cap⟩:=y5;rw[U]at j;simp only at j
    obtain⟨K,X,w7,u4,x1⟩:∃K X,ρ' f= .func (.func g) K X∧bu m first.toList K.toList∧bu m cap.toList X.toList:=by
     generalize ρ f=p at U v8;generalize ρ' f=q at v8;unfold AZ at U;split at U
     ·cases U;cases v8 with
      |func fn h1 h2=>exact⟨_,_,rfl,h1,h2⟩
     ·cases U
    split at j
    ·rename_i E;obtain⟨rfl,rfl,rfl⟩:=bM j;rw[w9];unfold nB at E;cases u3:P.funcs[g]? with
     |none=>rw[u3]at E;cases E
     |some fn=>
      rw[u3]at E;have E:fn.body.isSome=true:=E;refine⟨m,w,.enter g (K++c.args.map ρ'++X), ?_,cL.refl x,.call ?_⟩
      ·have v6:(fn.name== "runtime.NumGoroutine")=false:=by unfold ri at w3;have:=(Array.all_eq_true_iff_forall_mem.1 w3) fn (Array.mem_of_getElem? u3);simpa using this
       have y3:fn.body.isNone=false:=by
        cases W:fn.body with
        |none=>rw[W]at E;cases E
        |some _=>rfl
       unfold resolve;rw[O];simp only[w7,apd,pure_bind,invoke];unfold callFunc;simp only[eP];show ft (.ok P w) _=_;simp only[ft,u3,v6,oQ,if_false,y3];rfl
      ·simp only[Array.toList_append];exact(u4.append C).append x1
    ·cases j
  |builtin b=>
   rw[O]at j
   have u1:execOp ρ' o=builtin b c.argTypes o.type (c.args.map fun| .const _=>true|_=>false) (c.args.map ρ'):=by rw[w9];unfold resolve;rw[O];rfl
   cases b<;>simp only at j<;>try(cases j;done)
   case append=>
    cases u2:vA P c.argTypes (c.args.map ρ).toList with
    |none=>rw[u2]at j;cases j
    |some x2=>
     obtain⟨t,s,y⟩:=x2;rw[u2]at j;simp only at j;obtain⟨u,ht,T,hl,hk⟩:=aca u2;rw[hl]at C;rw[u1]
     obtain⟨s',y',v7,hs,J⟩:∃s' y',c.args.map ρ'=#[s',y']∧VR m s s'∧VR m y y':=by
      generalize c.args.map ρ'=q at C;obtain⟨q⟩:=q;simp only at C;cases C with
      |cons h1 t1=>cases t1 with
       |cons h2 t2=>cases t2 with
        |nil=>exact⟨_,_,rfl,h1,h2⟩
     rw[v7];obtain⟨v,Q,rfl,D⟩:=jH j;exact Goal.of (ab3 ht T hk hs J x hb hf D)
   case copy=>
    cases v9:vB c.argTypes (c.args.map ρ).toList with
    |none=>rw[v9]at j;cases j
    |some x3=>
     obtain⟨t,d,y⟩:=x3;rw[v9]at j;simp only at j;obtain⟨ht,hl⟩:=ab_ v9;rw[hl]at C;rw[u1]
     obtain⟨d',y',v7,hd,J⟩:∃d' y',c.args.map ρ'=#[d',y']∧VR m d d'∧VR m y y':=by
      generalize c.args.map ρ'=q at C;obtain⟨q⟩:=q;simp only at C;cases C with
      |cons h1 t1=>cases t1 with
       |cons h2 t2=>cases t2 with
        |nil=>exact⟨_,_,rfl,h1,h2⟩
     rw[v7];obtain⟨v,Q,rfl,D⟩:=jH j;exact Goal.of (ab4 ht hd J x D)
   case len=>
    cases Z:s9 P c.argTypes (c.args.map ρ).toList with
    |none=>rw[Z]at j;exact plain (fun cs b N=>by rw[bC]at N;cases N) j
    |some k=>
     rw[Z]at j;obtain⟨t,e,a,cp,rest,ht,v0,hl⟩:=acb Z;rw[hl]at C;obtain⟨rfl,rfl,rfl⟩:=bM j;rw[u1];generalize c.args.map ρ'=q at C;obtain⟨q⟩:=q;simp only at C;cases C with
     |cons h1 t1=>
      cases h1 with
      |mh _ _ hc=>refine mT x ?_ (.int _ _);unfold Mw;simp[ht,run_underlying v0,goInt]
      |o4 _ _ _ _=>refine mT x ?_ (.int _ _);unfold Mw;simp[ht,run_underlying v0,goInt]
      |gB=>refine mT x ?_ (.int _ _);unfold Mw;simp[ht,run_underlying v0,goInt]
   case min=>exact plain (fun cs b N=>by rw[bC]at N;cases N) j
   case max=>exact plain (fun cs b N=>by rw[bC]at N;cases N) j
 |_=>rw[bC]at j;cases j
end
theorem ace{P:Program}{base:Nat}{m:Mp}{t:TypeId}{a s r:Value}{h h1:H}{n u:Nat}{L:List En}{w:World}(A:VR m a s)(x:WR P m base h w.heap)(c:jq P t a h n=some ⟨r,h1,u,L⟩):
 ∃b off,s= .pointer (some ⟨b,off,none⟩)∧h1=h∧u=n∧∃l,VR m r l∧((do loadVar t (<-asAddr s)):Sem Value).run P w= .ok l w:=by
 unfold jq at c;split at c
 ·rename_i b off;obtain⟨d,hd,rfl⟩:=F2 A;cases o:jn P t with
  |none=>rw[o]at c;cases c
  |some g=>
   rw[o]at c;cases g with
   |false=>simp only at c;obtain⟨rfl,rfl,I,l,j,z,v⟩:=A3 x c;rw[hd]at j;cases j;refine⟨_,_,rfl,rfl,rfl,l,v, ?_⟩;simp only[asAddr,pure_bind,loadVar,eP,tf o w,ft,oQ,if_false];show(Sem.load _ _ _).run P w=_;simp[Sem.run,z]
   |true=>
    cases p:size? P t with
    |none=>rw[p]at c;cases c
    |some k=>
     rw[p]at c;simp only at c;obtain⟨D,G,E,K,J,C,B,_⟩:=bind_some c;obtain⟨rfl,rfl,rfl⟩:=bM B;obtain⟨rfl,rfl,y,e,f,q⟩:=rz x hd C;refine⟨_,_,rfl,rfl,rfl,.agg e.toArray,.agg (by simpa using f), ?_⟩;have i:e.length=k:=by rw[<-f.length,y]
     have:=vE (P:=P) q;rw[i]at this;simp only[asAddr,pure_bind,loadVar,eP,tf o w,ft,if_true,run_sizeOf p,this];rfl
 ·cases c
theorem results_at{P:Program}{base:Nat}{m:Mp}{nt:Nat}{s:S}{a:Act}(A:SR m nt s a):∀(l:List ResultVar) (h h1:H) (n j:Nat) (L:List En) (vs:List Value) (w:World),WR P m base h w.heap->jr P s l h n=some ⟨vs,h1,j,L⟩->∃d,bu m vs d∧
 ((l.mapM fun| .tmp t=>pure (a.tmps.getD t undef)| .cell b t=>do loadVar t (<-asAddr (a.tmps.getD b undef)):Sem (List Value))).run P w= .ok d w:=by
 intro l
 induction l with
 |nil=>intro h h1 n j L vs w x g;obtain⟨rfl,rfl,rfl⟩:=bM g;exact⟨[],.nil,rfl⟩
 |cons r l z=>
  intro h h1 n j L vs w x g;cases r with
  |cell b t=>
   unfold jr at g;obtain⟨v,p,D,J,I,u,q,_⟩:=bind_some g;obtain⟨C,N,K,Q,O,G,E,_⟩:=bind_some q;obtain⟨rfl,rfl,rfl⟩:=bM E;obtain⟨B,i,o,rfl,rfl,y,k,c⟩:=ace (A.at_ b) x u;obtain⟨d,e,f⟩:=z _ _ _ _ _ _ w x G;refine⟨y::d,.cons k e, ?_⟩;rw[anG];have h1:(asAddr (a.tmps.getD b undef)).run P w= .ok ⟨B,i,none⟩ w:=by rw[o];rfl
   have p:(loadVar t ⟨B,i,none⟩).run P w= .ok y w:=by rw[eP,h1]at c;exact c
   simp only[bind_assoc,pure_bind,eP,h1,ft,p,f,nu]
  |tmp t=>unfold jr at g;obtain⟨C,p,D,J,I,u,q,_⟩:=bind_some g;obtain⟨rfl,rfl,rfl⟩:=bM q;obtain⟨d,e,c⟩:=z _ _ _ _ _ _ w x u;refine⟨a.tmps.getD t undef::d,.cons (A.at_ t) e, ?_⟩;rw[anG];simp only[pure_bind,eP,c,ft,nu]
theorem acf{P:Program}{t:TypeId}{v r:Value}{h h1:H}{n d:Nat}{L:List En}(a:jq P t v h n=some ⟨r,h1,d,L⟩):h1=h∧d=n:=by
 have e:∀{b k:Nat} {h h1:H} {n d:Nat} {v:Value} {L:List En},rd b k h n=some ⟨v,h1,d,L⟩->h1=h∧d=n:=by
  intro b k h h1 n d v L a;unfold rd at a;split at a
  ·split at a
   ·split at a
    ·simp only[dH,Out.mk.injEq]at a;exact⟨a.2.1.symm,a.2.2.1.symm⟩
    ·cases a
   ·cases a
  ·cases a
 have f:∀{c b k:Nat} {h h1:H} {n d:Nat} {v:List Value} {L:List En},cR b k c h n=some ⟨v,h1,d,L⟩->h1=h∧d=n:=by
  intro c
  induction c with
  |zero=>intro b k h h1 n d v L a;obtain⟨_,rfl,rfl⟩:=bM a;exact⟨rfl,rfl⟩
  |succ c p=>intro b k h h1 n d v L a;obtain⟨D,q,o,A,z,i,x,_⟩:=bind_some (m:=rd b k) a;obtain⟨rfl,rfl⟩:=e i;obtain⟨B,G,E,J,I,u,s,_⟩:=bind_some (m:=cR b (k+1) c) x;obtain⟨rfl,rfl⟩:=p u;obtain⟨_,rfl,rfl⟩:=bM s;exact⟨rfl,rfl⟩
 unfold jq at a;split at a
 ·cases l:jn P t with
  |none=>rw[l]at a;cases a
  |some g=>
   rw[l]at a;cases g with
   |false=>exact e a
   |true=>
    cases j:size? P t with
    |none=>rw[j]at a;cases a
    |some k=>rw[j]at a;obtain⟨C,q,o,A,z,y,i,_⟩:=bind_some a;obtain⟨_,rfl,rfl⟩:=bM i;exact f y
 ·cases a
theorem acg{P:Program}{s:S}:∀(l:List ResultVar) (h h1:H) (n c:Nat) (L:List En) (vs:List Value),jr P s l h n=some ⟨vs,h1,c,L⟩->h1=h∧c=n:=by
 intro l
 induction l with
 |nil=>intro h h1 n c L vs a;obtain⟨_,rfl,rfl⟩:=bM a;exact⟨rfl,rfl⟩
 |cons r l f=>
  intro h h1 n c L vs a;cases r with
  |cell b t=>unfold jr at a;obtain⟨v,j,i,p,o,e,d,_⟩:=bind_some a;obtain⟨g,u,q,y,x,m,k,_⟩:=bind_some d;obtain⟨_,rfl,rfl⟩:=bM k;obtain⟨rfl,rfl⟩:=acf e;exact f _ _ _ _ _ _ m
  |tmp t=>unfold jr at a;obtain⟨g,j,i,p,o,e,d,_⟩:=bind_some a;obtain⟨_,rfl,rfl⟩:=bM d;exact f _ _ _ _ _ _ e
theorem ach{P:Program}{b:List FuncId}(a:qf P b=true){f:FuncId}{d:Func}{c:Code}(h:b.contains f=false)(e:P.funcs[f]? =some d)(g:d.body=some c):lB P c=true:=by
 unfold qf at a;rw[AK]at a
 have:=a (d,f) (by
  rw[List.mem_iff_getElem?]
  exact⟨f,by simp[List.getElem?_zipIdx,e]⟩)
 simp only[h,g,aaQ]at this;exact this
def aci(w:World):Prop:=∀g∈KG,w.cell? ⟨g.1,g.2.1,none⟩=some g.2.2
theorem Nv{P:Program}{m:Mp}{base:Nat}{h:H}{w:World}(x:WR P m base h w.heap)(g:Gl P m):∀{l:List (Nat×Nat×Value)} {n f:Nat} {h1:H} {u:Unit} {L:List En},nC P l h n=some ⟨u,h1,f,L⟩->h1=h∧f=n∧∀q∈l,w.cell? ⟨q.1,q.2.1,none⟩=some q.2.2
 |[],n,f,h1,u,L,i=>by obtain⟨_,rfl,rfl⟩:=bM i;exact⟨rfl,rfl,fun q k=>by simp at k⟩
 |q::l,n,f,h1,u,L,i=>by
  unfold nC at i;obtain⟨v,G,E,K,J,A,j,_⟩:=bind_some i;obtain⟨rfl,rfl,d,D,hd,o,z⟩:=A3 x A;by_cases b:(decide (q.1<P.globals.size)&&xM v q.2.2)=true
  ·rw[if_pos b]at j;simp only[bZ,decide_eq_true_eq]at b;obtain⟨I,c,C,B⟩:=g q.1 b.1;rw[hd]at c;cases c;obtain⟨s,r,p⟩:=Nv x g j;refine⟨s,r,fun y t=> ?_⟩;rcases List.mem_cons.1 t with e|e
   ·subst e;rw[C,B,fD]at o;rw[o];have a:=b.2;cases z<;>first|(simp[xM]at a;done)|skip
    cases k:y.2.2<;>rw[k]at a<;>first|(simp[xM]at a;done)|skip
    simp[xM]at a;rw[a.1,a.2]
   ·exact p y e
  ·rw[if_neg b]at j;cases j
def F8(P:Program)(h:List FuncId):Prop:=∀f k,h.contains f=true->rq f=some k->(k=1->∀(b o n c:Nat) (g:List Int) (cv:Int) (w:World),g.length=n->(∀i,i<n->w.cell? ⟨b,o+i,none⟩=some (.int .u8 (g.getD i 0)))->
 Calls P f #[.slice (some ⟨b,o,none⟩) n c,.int .u8 cv] w fun e a=>e= .returned (.int .i64 (Lib.indexByte (Lib.bytesOf g) cv.toNat.toUInt8))∧Below w.heap.size w a)∧
 (k=2->∀(s:ByteArray) (c:Nat) (w:World),c<=1000000->s.size<=1000000->Calls P f #[.string s,.int .i64 c] w fun e a=>e= .returned (.string ⟨(Lib.repeatL s.data.toList c).toArray⟩)∧Below w.heap.size w a)∧
 (k=3->∀(args:Array Value) (v:Value) (w:World),args.toList.all scalar=true->MW f args.toList=some v->(∀m,VR m v v)∧Calls P f args w fun e a=>e= .returned v∧Below w.heap.size w a)∧
 (k=4->(∀(v:Value) (w:World),AX f 0 []=some v->(∀m,VR m v v)∧Calls P f #[.slice none 0 0] w fun e a=>e= .returned v∧Below w.heap.size w a)∧
   ∀(b o n c:Nat) (d:List Value) (v:Value) (w:World),d.length=n*MX f->d.all scalar=true->(∀i v,d[i]? =some v->w.cell? ⟨b,o+i,none⟩=some v)->n<=c->AX f n d=some v->(∀m,VR m v v)∧Calls P f #[.slice (some ⟨b,o,none⟩) n c] w fun e a=>e= .returned v∧Below w.heap.size w a)
structure tg (P:Program) (bad:List FuncId):Prop where
 yes:∀f,bad.contains f=true->rq f=none->rk P f=true->∀w,aci w->Calls P f #[] w fun e w'=>e= .returned (.bool true)∧Below w.heap.size w w'
 nat:F8 P bad
theorem Nw:∀{vs:List Value} {l:List Int},xN vs=some l->vs=l.map (eJ .u8)
 |[],l,h=>by cases h;rfl
 |v::r,l,h=>by
  unfold xN at h;split at h
  ·rename_i a;cases a
  ·rename_i x c a;cases a;split at h
   ·rename_i d b;cases h;rw[Nw b];rfl
   ·cases h
  ·cases h
theorem Ny{m:Mp}{k:IntKind}:∀{l:List Int} {vs:List Value},bu m (l.map (eJ k)) vs->vs=l.map (eJ k)
 |[],_,.nil=>rfl
 |_::l,_,.cons (.int _ _) t=>by rw[Ny t];rfl
theorem A7{a:Array Value}{l:List Value}(h:a.toList=l):a=l.toArray:=by rw[<-h]
theorem bu.plain{m:Mp}:∀{l b:List Value},bu m l b->l.all scalar=true->b=l
 |_,_,.nil,_=>rfl
 |_,_,.cons h t,a=>by simp only[List.all_cons,bZ]at a;rw[h.scalar a.1,bu.plain t a.2]
theorem acj{P:Program}{O:List FuncId}{base:Nat}(K:F8 P O){f:FuncId}{k:Nat}(p:O.contains f=true)(N:rq f=some k){args:List Value}{g:Array Value}{h h1:H}{n n1:Nat}{v:Value}{L:List En}{m:Mp}{w:World}(o:ry f k args h n=some ⟨v,h1,n1,L⟩)(x:WR P m base h w.heap)(hb:base<=w.heap.size)(a:bu m args g.toList):
 Calls P f g w fun e w'=>∃m' v',e= .returned v'∧cL P m base n n1 w h1 m' w'∧VR m' v v':=by
 have fin:∀w',Below w.heap.size w w'->cL P m base n n w h m w':=fun w' j=>by refine⟨Le.refl _,fun _ _=>rfl,⟨fun b B hB=> ?_,x.inj⟩,j.mono hb⟩;obtain⟨d,cs,lo,Y,h1,Q,h3⟩:=x.live b B hB;exact⟨d,cs,lo,Y,h1,(j.block d.bf (Array.getElem?_eq_some_iff.1 Q).1).trans Q,h3⟩
 unfold ry at o;split at o
 ·unfold FP at o;split at o
  ·rename_i b R len cap c;generalize A:g.toList=as at a;cases a with
   |cons C a=>
   cases a with
   |cons Z a=>
   cases a;cases Z;unfold FO at o;obtain⟨vs,Q,n2,L1,L2,e1,z,_⟩:=bind_some o;cases C with
   |@gB _ _ _ _ r T d hd X _ _ _ _=>
    obtain⟨rfl,rfl,I,J,t,y⟩:=rz x hd e1;cases E:xN vs with
    |none=>rw[E]at z;cases z
    |some l=>
     rw[E]at z;obtain⟨rfl,rfl,rfl⟩:=bM z;have U:=Nw E;rw[U]at t I;have W:=Ny t;rw[W]at y;simp only[List.length_map]at I;rw[A7 A];refine((K f 1 p N).1 rfl d.bf T len r l c w I fun i Y=> ?_).mono ?_
     ·rw[X (.inl jO)];exact y i _ (by rw[List.getElem?_map,bB jO,List.getD_eq_getElem?_getD,bB jO];rfl)
     ·rintro e w' ⟨rfl,j⟩;exact⟨m,_,rfl,fin w' j,.int _ _⟩
  ·cases o
 ·unfold FQ at o;split at o
  ·rename_i s c;generalize A:g.toList=as at a;cases a with
   |cons C a=>
   cases a with
   |cons Z a=>
   cases a;cases Z;cases C;unfold xO at o;split at o
   ·rename_i hz;simp only[bZ,decide_eq_true_eq]at hz;obtain⟨rfl,rfl,rfl⟩:=bM o;rw[A7 A];obtain⟨c,rfl⟩:∃k:Nat,c=k:=⟨c.toNat,jO⟩;refine((K f 2 p N).2.1 rfl s c w jO hz.2).mono ?_;rintro e w' ⟨rfl,j⟩;exact⟨m,_,rfl,fin w' j,by rw[Int.toNat_natCast];exact .string _⟩
   ·cases o
  ·cases o
 ·unfold FR at o;split at o
  ·rename_i G;obtain⟨D,rfl,rfl⟩:=mg o;have e:=a.plain G;rw[<-e]at G D;obtain⟨q1,q2⟩:=(K f 3 p N).2.2.1 rfl g v w G D;refine q2.mono ?_;rintro e w' ⟨rfl,j⟩;exact⟨m,_,rfl,fin w' j,q1 m⟩
  ·cases o
 ·unfold FT at o;split at o
  ·generalize A:g.toList=as at a;cases a with
   |cons C a=>
   cases a;cases C;obtain⟨D,rfl,rfl⟩:=mg o;rw[A7 A];obtain⟨q1,q2⟩:=((K f 4 p N).2.2.2 rfl).1 v w D;refine q2.mono ?_;rintro e w' ⟨rfl,j⟩;exact⟨m,_,rfl,fin w' j,q1 m⟩
  ·rename_i b R len cap;generalize A:g.toList=as at a;cases a with
   |cons C a=>
   cases a;obtain⟨vs,Q,n2,L1,L2,e1,z,_⟩:=bind_some o;cases C with
   |@gB _ _ _ _ r T d hd X u1 u0 hn _=>
    obtain⟨rfl,rfl,I,J,t,y⟩:=rz x hd e1;split at z
    ·rename_i G;obtain⟨D,rfl,rfl⟩:=mg z;have e:=t.plain G;subst e;rw[A7 A]
     obtain⟨q1,q2⟩:=((K f 4 p N).2.2.2 rfl).2 d.bf T len r J v w I G (fun i u E=>by
      have Y:=(List.getElem?_eq_some_iff.1 E).1
      have h0:0<len:=by
       rcases aaS len with q|q
       ·rw[q,Nat.zero_mul]at I;omega
       ·exact q
      rw[X (.inl h0)]
      exact y i u E) hn D
     refine q2.mono ?_;rintro e w' ⟨rfl,j⟩;exact⟨m,_,rfl,fin w' j,q1 m⟩
    ·cases z
  ·cases o
 ·cases o
theorem Nz{P:Program}{base:Nat}{t:List FuncId}(u5:ri P=true)(u4:qf P t=true)(T:P.follows .mixedOrders=true)(U:tg P t):∀fuel,vF P base (cK P t fuel):=by
 have bC:te P base:=acd u5;intro fuel
 induction fuel with
 |zero=>intro f args h n v I Z L m w l i;cases i
 |succ fuel ih=>
  intro f args h n v I Z L m w l i x hb p hf g;unfold cK at i;by_cases o:t.contains f=true
  ·rw[if_pos o]at i;cases q:rq f with
   |some k=>rw[q]at i;exact acj U.nat o q i x hb p
   |none=>
   rw[q]at i;simp only at i;by_cases hz:(decide (args.size=0)&&rk P f)=true
   ·rw[if_pos hz]at i;simp only[bZ,decide_eq_true_eq]at hz;obtain⟨u,X,n2,L1,L2,c1,c2,_⟩:=bind_some i;obtain⟨rfl,rfl,G⟩:=Nv x g c1;obtain⟨rfl,rfl,rfl⟩:=bM c2;have hl:=p.length
    have e1:l=#[]:=by apply Array.eq_empty_of_size_eq_zero;simp at hl;omega
    subst e1;refine(U.yes f o q hz.2 w G).mono ?_;rintro e z ⟨rfl,Y⟩;refine⟨m,_,rfl,⟨Le.refl _,fun _ _=>rfl,⟨fun b B hB=> ?_,x.inj⟩,Y.mono hb⟩,.bool true⟩;obtain⟨d,cs,lo,hi,I,X,h3⟩:=x.live b B hB;exact⟨d,cs,lo,hi,I,(Y.block d.bf (Array.getElem?_eq_some_iff.1 X).1).trans X,h3⟩
   ·rw[if_neg hz]at i;cases i
  rw[if_neg o]at i;cases A:P.funcs[f]? with
  |none=>rw[A]at i;cases i
  |some D=>
   rw[A]at i;simp only at i;cases hc:D.body with
   |none=>rw[hc]at i;cases i
   |some c=>
    rw[hc]at i;simp only at i;by_cases j:(args.size<=D.ntmps&&D.ntmps<1000)=true
    ·rw[if_pos j]at i;simp only[bZ,decide_eq_true_eq]at j;obtain⟨L',i⟩:=FX i;obtain⟨y,X,n2,L1,L2,e1,e2,_⟩:=bind_some i;obtain⟨e,s1⟩:=y;have R:lB P c=true:=ach u4 (Bool.eq_false_iff.2 o) A hc;have u3:=fun f a=>Loc.cK P t fuel f a;refine calls_of_wp A hc ?_
     have fin:∀(e':Ex) (hn:cv e'= .normal∨cv e'= .ret) (W:e=e'),((jr P s1 D.results.toList).bind fun E=>M.ret (match E with|[v]=>v|_=> .tuple E.toArray)) X n2=some ⟨v,I,Z,L2⟩->
      c.wp P (bodyPost P D fun e z=>∃C J,e= .returned J∧cL P m base n Z w I C z∧VR C v J) {tmps:=l++Array.replicate (D.ntmps-l.size) undef,defers:=[]} w:=by
      intro e' hn W e3;subst W;obtain⟨E,h3,n3,L3,L4,e4,e5,_⟩:=bind_some e3;obtain⟨rfl,rfl,rfl⟩:=bM e5;obtain⟨rfl,rfl⟩:=acg _ _ _ _ _ _ _ e4;refine abH bC ih u3 T fuel c R _ m _ s1 _ w h _ n _ L1 e x hb g (abI p j.1 j.2) e1 hf fun C a' z hp N=> ?_;obtain⟨s,u0,O⟩:=results_at N _ _ _ _ _ _ _ z hp.wr e4
      have Q:(results D a'.tmps).run P z= .ok (if h:s.toArray.size=1 then s.toArray[0]else .tuple s.toArray) z:=by unfold results;rw[Array.mapM_eq_mapM_toList];simp only[map_eq_pure_bind,bind_assoc,pure_bind,eP];refine Eq.trans (congrArg (fun r=>ft r _) O) ?_;simp only[ft,nu]
      have K:VR C (match E with|[v]=>v|_=> .tuple E.toArray) (if h:s.toArray.size=1 then s.toArray[0]else .tuple s.toArray):=by
       cases u0 with
       |nil=>exact .tuple .nil
       |cons hv ht=>
        cases ht with
        |nil=>exact hv
        |cons u1 u2=>exact .tuple (.cons hv (.cons u1 u2))
      have:bodyPost P D (fun e z=>∃C J,e= .returned J∧cL P m base n Z w I C z∧VR C (match E with|[v]=>v|_=> .tuple E.toArray) J) (cv e) a' z:=by rcases hn with hn|hn<;>rw[hn]<;>exact⟨N.df,_,Q,C,_,rfl,hp,K⟩
      exact this
     cases e with
     |normal=>exact fin .normal (.inl rfl) rfl e2
     |ret=>exact fin .ret (.inr rfl) rfl e2
     |exit id=>cases e2
    ·rw[if_neg j]at i;cases i
def A8(r:Option (Out Value)):Bool:=match r with
 |some o=>(match o.val with| .bool b=>b|_=>false)
 |none=>false
end Go.Proofs.YtmjolmggelkjlaaGreat.Ev
namespace Go.Proofs.YtmjolmggelkjlaaGreat.Ev
open Go
abbrev Fr:=List (Nat×Value)
def Fr.at_:Fr->Nat->Option Value
 |[],_=>none
 |(u,v)::r,t=>match bY u t with
  |true=>some v
  |false=>Fr.at_ r t
def Fr.au(s:Fr):List Nat->Fr
 |[]=>[]
 |t::r=>match s.at_ t with
  |some v=>(t,v)::Fr.au s r
  |none=>Fr.au s r
def Fr.keys:Fr->List Nat
 |[]=>[]
 |(u,_)::r=>u::Fr.keys r
def gY(s:Fr)(a:Option Tmp)(v:Value):Fr:=match a with
 |none=>s
 |some d=>(d,v)::s
def bg{b a:Type}(o:Option b)(k:b->M a):M a:=match o with
 |some v=>k v
 |none=> .fail
def bD(s:Fr):Operand->Option Value
 | .tmp t=>s.at_ t
 | .const v=>some v
 | .global g=>some (.pointer (some ⟨g,0,none⟩))
 | .func f=>some (.func (.func f) #[] #[])
def lD{a:Type}(s:Fr):List Operand->(List Value->M a)->M a
 |[],k=>k []
 |x::r,k=>bg (bD s x) fun v=>lD s r fun b=>k (v::b)
def qj{a:Type}(s:Fr)(x:Option Operand)(k:Option Value->M a):M a:=match x with
 |some x=>bg (bD s x) fun v=>k (some v)
 |none=>k none
def aC{a:Type}(v:Value)(x y:M a):M a:=match v with
 | .bool true=>x
 | .bool false=>y
 |_=> .fail
section
variable (P:Program)
def mi(ok:Bool)(s:Sem Value):Option Value:=
 match ok with
 |true=>match jo P (do pure (.value (<-s)))with
  |some v=>match scalar v with
   |true=>some v
   |false=>none
  |none=>none
 |false=>none
def NA(c a b:Value):Option Value:=match c with
 | .bool t=>some (if t then a else b)
 |_=>none
def NC:Value->Option Value
 | .pointer (some a)=>some (.pointer (some a))
 | .func (.func f) a b=>some (.func (.func f) a b)
 |_=>none
def mj(t:TypeId):Bool:=match P.underlying t with
 |some (.pointer _)|some (.slice _)|some (.func _ _ _)|some (.struct _)=>true
 |_=>false
def F9(a:BinOp)(t:TypeId)(x y:Value):Option Value:=match oW P t x y,a with
 |some v,.eql=>some (.bool v)
 |some v,.neq=>some (.bool (!v))
 |_,_=>none
def F'(a:BinOp)(t:TypeId)(x y:Value):Option Value:=mi P (scalar x&&scalar y) (Go.binOp a t x y)
def dQ(a:BinOp)(t:TypeId)(x y:Value):Option Value:=match mj P t with
 |true=>F9 P a t x y
 |false=>F' P a t x y
def jJ(a:UnOp)(x:Value):Option Value:=mi P (scalar x) (Op.unary a x)
def th:Option TypeDesc->Option TypeDesc->Option TypeId
 |some .string,some (.slice e)=>some e
 |_,_=>none
def A9(e:TypeId)(x:Value):M Value:=match x with
 | .string s=>qd e s
 |_=> .fail
def Ba{b:Type}(src a:TypeId)(x:Value)(k:Value->M b):M b:=
 match qZ (P.underlying src) (P.underlying a)with
 |some e=>match mR P e with
  |true=>(inside (mQ x)).bind k
  |false=> .fail
 |none=>match th (P.underlying src) (P.underlying a)with
  |some e=>match mR P e&&size? P e==some 1 with
   |true=>(inside (A9 e x)).bind k
   |false=> .fail
  |none=>bg (mi P (scalar x) (Go.convert src a x)) k
def ti:Option Value->Bool
 |some v=>scalar v
 |none=>true
def Bb(t:TypeId)(x:Value)(lo b a:Option Value):Option Value:=match isStr x with
 |true=>mi P (ti lo&&ti b&&ti a) (Instr.sliceAt t x lo b a)
 |false=>none
def tj(t:TypeId)(x:Value)(lo b a:Option Value):M Value:=match isStr x with
 |true=> .fail
 |false=>ny P t x lo b a
def nF(t:TypeId):Bool:=match P.underlying t with
 |some .string=>true
 |_=>false
def vH{a:Type}(t:TypeId)(x:Value)(lo c b:Option Value)(k:Value->M a):M a:=match nF P t with
 |true=>bg (Bb P t x lo c b) k
 |false=>(inside (tj P t x lo c b)).bind k
def Bc(t:TypeId)(x a:Value):Option Value:=match isStr x with
 |true=>mi P (scalar a) (AL t x a)
 |false=>none
def Be(t:TypeId)(x a:Value):Option Value:=match isStr x with
 |true=>none
 |false=>vz P t x a
def tm(t:TypeId)(x a:Value):Option Value:=match nF P t with
 |true=>Bc P t x a
 |false=>Be P t x a
def ND:Value->Option Value
 | .slice _ n _=>some (.int .i64 n)
 |_=>none
def NF:Value->Option Value
 | .string s=>some (.int .i64 s.size)
 |_=>none
def xV(a:Array TypeId)(vs:List Value):Option Value:=match a[0]?,vs with
 |some t,[x]=>match P.underlying t with
  |some (.slice _)=>ND x
  |some .string=>NF x
  |_=>none
 |_,_=>none
def tp(a b:Int):Int:=if b<a then b else a
def min2:List Value->Option Value
 |[.int k a,.int _ b]=>some (.int k (if b<a then b else a))
 |[.int k a,.int _ b,.int _ c,.int _ d,.int _ e,.int _ f]=>some (.int k (tp (tp (tp (tp (tp a b) c) d) e) f))
 |_=>none
def max2:List Value->Option Value
 |[.int k a,.int _ b]=>some (.int k (if a<b then b else a))
 |_=>none
variable (rec:FuncId->Array Value->M Value)
def kI{a:Type}(b:Value)(vs:List Value)(k:Value->M a):M a:=
 bg (AZ b) fun q=>match nB P q.1 with
  |true=>(inside (rec q.1 (q.2.1.toList++vs++q.2.2.toList).toArray)).bind k
  |false=> .fail
def NG{b:Type}(a:Array TypeId)(vs:List Value)(k:Value->M b):M b:=
 bg (vA P a vs) fun q=>(inside (oU P q.1 q.2.1 q.2.2)).bind k
def NH{b:Type}(a:Array TypeId)(vs:List Value)(k:Value->M b):M b:=
 bg (vB a vs) fun q=>(inside (oX P q.1 q.2.1 q.2.2)).bind k
def call2{a:Type}(s:Fr)(c:Call)(vs:List Value)(k:Value->M a):M a:=
 match c.callee with
 | .value f=>bg (bD s f) fun b=>kI P rec b vs k
 | .builtin .append=>NG P c.argTypes vs k
 | .builtin .copy=>NH P c.argTypes vs k
 | .builtin .len=>bg (xV P c.argTypes vs) k
 | .builtin .min=>bg (min2 vs) k
 | .builtin .max=>bg (max2 vs) k
 |_=> .fail
def o8{r:Type}(s:Fr)(o:Oper)(k:Value->M r):M r:=
 match o.op with
 | .move x| .assign x=>bg (bD s x) k
 | .pick c a b=>bg (bD s c) fun c=>bg (bD s a) fun a=>bg (bD s b) fun b=>bg (NA c a b) k
 | .alloc e=>(inside (mO P e)).bind k
 | .box e x=>bg (bD s x) fun x=>(inside (mP P e x)).bind k
 | .build t d=>lD s (d.toList.map (·.2)) fun h=>(inside (mc P t ((d.toList.map (·.1)).zip h))).bind k
 | .buildSlice t len d=>lD s (d.toList.map (·.2)) fun h=>(inside (me P t len ((d.toList.map (·.1)).zip h))).bind k
 | .load t a=>bg (bD s a) fun a=>(inside (jq P t a)).bind k
 | .store t a x=>bg (bD s a) fun a=>bg (bD s x) fun x=>(inside (nA P t a x)).bind k
 | .nilCheck x=>bg (bD s x) fun x=>bg (NC x) k
 | .binOp j t x y _=>bg (bD s x) fun x=>bg (bD s y) fun y=>bg (dQ P j t x y) k
 | .unOp j _ x=>bg (bD s x) fun x=>bg (jJ P j x) k
 | .convert src q x=>bg (bD s x) fun x=>Ba P src q x k
 | .makeFunc u a b=>lD s a.toList fun a=>lD s b.toList fun b=>k (.func u a.toArray b.toArray)
 | .makeSlice t l c=>bg (bD s l) fun l=>bg (bD s c) fun c=>(inside (mS P t l c)).bind k
 | .slice t x n p m=>bg (bD s x) fun x=>qj s n fun n=>qj s p fun p=>qj s m fun m=>vH P t x n p m k
 | .fieldAddr t x f=>bg (bD s x) fun x=>bg (vx P t x f) k
 | .field t x f=>bg (bD s x) fun x=>bg (re P t x f) k
 | .indexAddr t x g=>bg (bD s x) fun x=>bg (bD s g) fun g=>bg (qe P t x g) k
 | .index t x g=>bg (bD s x) fun x=>bg (bD s g) fun g=>bg (tm P t x g) k
 | .extract t i=>bg (bD s t) fun t=>bg (rf t i) k
 | .call c=>lD s c.args.toList fun h=>call2 P rec s c h k
 |_=> .fail
def kind(o:Op):Nat:=match o with
 | .move _| .assign _| .pick _ _ _| .nilCheck _| .binOp _ _ _ _ _| .unOp _ _ _| .makeFunc _ _ _| .fieldAddr _ _ _| .field _ _ _| .indexAddr _ _ _| .index _ _ _| .extract _ _| .build _ _=>0
 | .load _ _| .slice _ _ _ _ _=>1
 | .alloc _| .box _ _| .buildSlice _ _ _| .makeSlice _ _ _=>2
 | .call c=>match c.callee with
   | .builtin .len| .builtin .min| .builtin .max=>0
   |_=>3
 |_=>3
def fits(i j:Nat):Bool:=i==0||j==0||(i==1&&j==1)||(i==2&&j==2)||(i==1&&j==2)
def Bf(ops:Array Oper)(a:List Nat)(j:Nat)(b:Oper):Nat->List Oper->Bool
 |_,[]=>true
 |k,ok::r=>((a.getD k 0).testBit j||(fits (kind b.op) (kind ok.op)&& !(oY ops b ok)))&&Bf ops a j b (k+1) r
def Bg(ops:Array Oper)(a:List Nat):Nat->List Oper->Bool
 |_,[]=>true
 |j,b::r=>Bf ops a j b (j+1) r&&Bg ops a (j+1) r
def Bh(ops:Array Oper):Bool:=rh ops&&Bg ops (lR ops.toList []) 0 ops.toList
end
def ek{c:Type}(m:Nat->M c)(h:H)(n:Nat)(a:c)(h1:H)(d:Nat)(L:List En):Prop:=∃e,∀b,e<=b->m b h n=some ⟨a,h1,d,L⟩
theorem ek.of{b:Type}{m:M b}{h h1:H}{n c:Nat}{a:b}{L:List En}(e:m h n=some ⟨a,h1,c,L⟩):ek (fun _=>m) h n a h1 c L:=⟨0,fun _ _=>e⟩
theorem bW{c d:Type}{m:M c}{f:c->M d}{h h1 h2:H}{n e n2:Nat}{a:c}{b:d}{L1 L2:List En}(i:m h n=some ⟨a,h1,e,L1⟩)(g:f a h1 e=some ⟨b,h2,n2,L2⟩):(m.bind f) h n=some ⟨b,h2,n2,L1++L2⟩:=by unfold M.bind;rw[i];simp only;rw[g]
theorem ek.bind{c d:Type}{m:Nat->M c}{f:Nat->c->M d}{h h1 h2:H}{n e n2:Nat}{a:c}{b:d}{L1 L2:List En}(x:ek m h n a h1 e L1)(y:ek (fun fuel=>f fuel a) h1 e b h2 n2 L2):
 ek (fun fuel=>(m fuel).bind (f fuel)) h n b h2 n2 (L1++L2):=by
 obtain⟨g,x⟩:=x;obtain⟨f1,y⟩:=y;exact⟨max g f1,fun fuel i=>bW (x fuel jO) (y fuel jO)⟩
theorem ek.map{b:Type}{m d:Nat->M b}{h h1:H}{n c:Nat}{a:b}{L:List En}(x:ek m h n a h1 c L)(e:∀fuel,d fuel=m fuel):ek d h n a h1 c L:=by obtain⟨g,x⟩:=x;exact⟨g,fun fuel f=>by rw[e];exact x fuel f⟩
theorem jL{c:Type}{m:M c}{h h1:H}{n b:Nat}{a:c}{L:List En}(e:m h n=some ⟨a,h1,b,L⟩):inside m h n=some ⟨a,h1,b,L.filter fun e=> !(n<=e.b&&e.b<b)⟩:=by unfold inside;rw[e]
theorem ek.inside{c:Type}{m:Nat->M c}{h h1:H}{n b:Nat}{a:c}{L:List En}(x:ek m h n a h1 b L):ek (fun fuel=>Ev.inside (m fuel)) h n a h1 b (L.filter fun e=> !(n<=e.b&&e.b<b)):=by obtain⟨f,x⟩:=x;exact⟨f,fun fuel d=>jL (x fuel d)⟩
theorem tq{d:Type}{m:M d}{h h1:H}{n c:Nat}{a:d}{L:List En}(b:Ev.inside m h n=some ⟨a,h1,c,L⟩):∃L',m h n=some ⟨a,h1,c,L'⟩∧L=L'.filter fun e=> !(n<=e.b&&e.b<c):=by
 unfold Ev.inside at b;split at b
 ·rename_i i g f L' e;simp only[dH,Out.mk.injEq]at b;obtain⟨rfl,rfl,rfl,rfl⟩:=b;exact⟨L',e,rfl⟩
 ·cases b
def Sub(s:Fr)(a:S):Prop:=∀t v,s.at_ t=some v->a.get t=v
theorem Sub.bD{s:Fr}{a:S}(b:Sub s a){x:Operand}{v:Value}(h:Ev.bD s x=some v):ev a x=v:=by
 cases x with
 |tmp t=>exact b t v h
 |const u=>cases h;rfl
 |global g=>cases h;rfl
 |func f=>cases h;rfl
theorem cN{b a:Type}{o:Option b}{k:b->M a}{h:H}{n:Nat}{r:Out a}(c:bg o k h n=some r):∃v,o=some v∧k v h n=some r:=by
 cases o with
 |none=>cases c
 |some v=>exact⟨v,rfl,c⟩
theorem vI{b:Type}{s:Fr}{c:S}(d:Sub s c):∀{l:List Operand} {k:List Value->M b} {h:H} {n:Nat} {r:Out b},lD s l k h n=some r->∃vs,vs=l.map (ev c)∧k vs h n=some r
 |[],k,h,n,r,a=>⟨[],rfl,a⟩
 |x::l,k,h,n,r,a=>by unfold lD at a;obtain⟨v,f,a⟩:=cN a;obtain⟨vs,e,a⟩:=vI d a;exact⟨v::vs,by rw[List.map_cons,d.bD f,e],a⟩
theorem Ga{b:Type}{s:Fr}{c:S}(e:Sub s c){x:Option Operand}{k:Option Value->M b}{h:H}{n:Nat}{r:Out b}(a:qj s x k h n=some r):k (x.map (ev c)) h n=some r:=by
 cases x with
 |none=>exact a
 |some x=>obtain⟨v,d,a⟩:=cN a;simp only[AH,e.bD d];exact a
def cont(P:Program)(kn:List FuncId)(fuel:Nat):Nx->M Value
 | .val v=> .ret v
 | .call f args=>cK P kn fuel f args
theorem mU{m:M Value}{P:Program}{kn:List FuncId}{fuel:Nat}:(m.bind fun v=> .ret (.val v)).bind (cont P kn fuel)=m:=by
 funext h n;unfold M.bind;cases m h n with
 |none=>rfl
 |some o=>simp[M.ret,cont]
theorem kJ{v:Value}{P:Program}{kn:List FuncId}{fuel:Nat}:(M.ret (Nx.val v)).bind (cont P kn fuel)=M.ret v:=by funext h n;simp[M.bind,M.ret,cont]
theorem ack{f:FuncId}{args:Array Value}{P:Program}{kn:List FuncId}{fuel:Nat}:(M.ret (Nx.call f args)).bind (cont P kn fuel)=cK P kn fuel f args:=by
 funext h n;simp only[M.bind,M.ret,cont];cases cK P kn fuel f args h n with
 |none=>rfl
 |some o=>simp
theorem tr{b:Type}(a:b):M.lift (some a)=M.ret a:=rfl
theorem nG{b c:Type}(a:b)(f:b->M c):(M.ret a).bind f=f a:=by
 funext h n;simp only[M.bind,M.ret];cases f a h n with
 |none=>rfl
 |some o=>simp
def Bi(E:Nat->M Value){b:Type}(k:Value->M b)(h:H)(n:Nat)(r:Out b):Prop:=
 ∃v d c f e,ek (fun a=>inside (E a)) h n v d c f∧k v d c=some ⟨r.val,r.h,r.n,e⟩∧r.log=f++e
section
variable {β:Type} {E:Nat->M Value} {k:Value->M β} {h:H} {n:Nat} {r:Out β}
theorem mV{m:M Value}(b:((inside m).bind k) h n=some r)(d:∀fuel,E fuel=m):Bi E k h n r:=by obtain⟨c,p,o,L⟩:=r;obtain⟨v,e,a,l,j,i,g,f⟩:=bind_some b;exact⟨v,e,a,l,j,⟨0,fun fuel _=>by show Ev.inside (E fuel) h n=_;rw[d];exact i⟩,g,f⟩
theorem j6{v:Value}(a:k v h n=some r)(b:∀fuel,E fuel=M.ret v):Bi E k h n r:=by obtain⟨c,e,d,L⟩:=r;exact⟨v,h,n,[],L,⟨0,fun fuel _=>by show Ev.inside (E fuel) h n=_;rw[b];rfl⟩,a,rfl⟩
theorem acm {P:Program} {kn:List FuncId} {rec:FuncId->Array Value->M Value} (a:∀f args h n v h1 b L,rec f args h n=some ⟨v,h1,b,L⟩->ek (fun fuel=>cK P kn fuel f args) h n v h1 b L) {g:FuncId} {args:Array Value}
 (d:((inside (rec g args)).bind k) h n=some r) (e:∀fuel,E fuel=cK P kn fuel g args):Bi E k h n r:=by
 obtain⟨c,q,p,L⟩:=r;obtain⟨v,h1,b,s,o,m,l,j⟩:=bind_some d;obtain⟨t,i,rfl⟩:=tq m;exact⟨v,h1,b,_,o,((a _ _ _ _ _ _ _ _ i).map e).inside,l,j⟩
end
theorem xW{P:Program}{ok:Bool}{s:Sem Value}{v:Value}(h:mi P ok s=some v):ok=true∧jo P (do pure (.value (<-s)))=some v∧scalar v=true:=by
 unfold mi at h;cases ok with
 |false=>cases h
 |true=>
  simp only at h;split at h
  ·rename_i u a;split at h
   ·rename_i b;cases h;exact⟨rfl,a,b⟩
   ·cases h
  ·cases h
theorem qk{P:Program}{ρ:Operand->Value}{o:Oper}{v:Value}(h1:(o.op.operands.all fun x=>scalar (ρ x))=true)(h2:jo P (execOp ρ o)=some v)(a:scalar v=true):gM P ρ o=M.ret (.val v):=by unfold gM;rw[if_pos h1,h2,tr,nG,if_pos a]
theorem acn{P:Program}{t:TypeId}(h:mj P t=false)(x y:Value):oW P t x y=none:=by
 unfold mj at h;unfold oW sZ;generalize P.underlying t=d at h;cases d with
 |none=>rfl
 |some d=>cases d<;>first|(cases h;done)|rfl|(unfold oV;rfl)
theorem aco{c:BinOp}{t:TypeId}{x y:Operand}{a b:Value}(e:scalar a=true)(d:scalar b=true):eqGuard c t x y a b=pure ():=by
 cases a<;>first|(simp[scalar]at e;done)|skip
 all_goals cases b<;>first|(simp[scalar]at d;done)|skip
 all_goals cases c<;>rfl
theorem acp {P:Program} {b:S} {d:BinOp} {t e:TypeId} {x y:Operand} {v:Value} {c:Option Tmp} {ty:TypeId} {pos:String} {after:Array Edge} {guard:Option (Nat×Bool)}
 (h:dQ P d t (ev b x) (ev b y)=some v):cx P (ev b) ⟨c,.binOp d t x y e,ty,pos,after,guard⟩=M.ret (.val v):=by
 unfold dQ at h;split at h
 ·unfold F9 at h;unfold cx;simp only;split at h
  ·rename_i q;cases h;rw[q]
  ·rename_i q;cases h;rw[q]
  ·cases h
 ·rename_i f;unfold F' at h;obtain⟨a,i,g⟩:=xW h;unfold cx;simp only[acn f];simp only[bZ]at a;refine qk (by simp[dN,a.1,a.2]) ?_ g;rw[<-i];simp only[execOp,aco a.1 a.2];rfl
theorem acq{a b:Option TypeDesc}{v:Value}(h:th a b=none):s7 a b v=none:=by
 unfold th at h;unfold s7;split at h
 ·cases h
 ·rename_i c;split
  ·rename_i e s;exact(c _ rfl rfl).elim
  ·rfl
theorem NI{d c:Type}{f:d->c}{l:List d}{a b:c}(h:l.map f=[a,b]):∃x y,l=[x,y]∧f x=a∧f y=b:=by
 match l,h with
 |[x,y],h=>simp at h;exact⟨x,y,rfl,h.1,h.2⟩
theorem acr{j i:Type}{f:j->i}{l:List j}{a b c d e g:i}(h:l.map f=[a,b,c,d,e,g]):∃x y z u t s,l=[x,y,z,u,t,s]∧f x=a∧f y=b∧f z=c∧f u=d∧f t=e∧f s=g:=by
 match l,h with
 |[x,y,z,u,t,s],h=>simp at h;exact⟨x,y,z,u,t,s,rfl,h⟩
theorem acs{c b:Type}{f:c->b}{l:List c}{a:b}(h:l.map f=[a]):∃x,l=[x]∧f x=a:=by
 match l,h with
 |[x],h=>simp at h;exact⟨x,rfl,h⟩
theorem xX{b:Type}{a:Array b}{l:List b}(h:a.toList=l):a=l.toArray:=by cases a;simp at h;rw[h]
theorem zip_map{b d c:Type}(f:b->d)(g:b->c)(l:List b):(l.map f).zip (l.map g)=l.map fun x=>(f x,g x):=by
 induction l with
 |nil=>rfl
 |cons a l e=>simp[e]
theorem acu{P:Program}{t:TypeId}{x a v:Value}(h:Bc P t x a=some v):isStr x=true∧scalar a=true∧jo P (do pure (.value (<-AL t x a)))=some v∧scalar v=true:=by
 unfold Bc at h;split at h
 ·rename_i b;obtain⟨e,d,c⟩:=xW h;exact⟨b,e,d,c⟩
 ·cases h
theorem acv{P:Program}{t:TypeId}{x a v:Value}(h:Be P t x a=some v):isStr x=false∧vz P t x a=some v:=by
 unfold Be at h;split at h
 ·cases h
 ·rename_i b;exact⟨b,h⟩
theorem NJ{x:Value}(h:isStr x=true):scalar x=true:=by cases x<;>first|rfl|(simp[isStr]at h)
theorem o9{P:Program}{t:TypeId}{d:TypeDesc}(h:P.underlying t=some d)(f:TypeDesc->Sem Next):jo P (underlying t>>=f)=jo P (f d):=by
 unfold underlying
 show jo P ((match P.underlying t with
  |some d=>pure d
  |none=>stuck "no such type")>>=f)=_
 rw[h];rfl
set_option maxHeartbeats 1000000 in
theorem acw {P:Program} {kn:List FuncId} {rec:FuncId->Array Value->M Value} (u2:∀f args h n v h1 n1 L,rec f args h n=some ⟨v,h1,n1,L⟩->ek (fun fuel=>cK P kn fuel f args) h n v h1 n1 L)
 {β:Type} {s:Fr} {s1:S} {o:Oper} {k:Value->M β} {h:H} {n:Nat} {r:Out β} (p:Sub s s1) (j:o8 P rec s o k h n=some r):Bi (fun fuel=>(cx P (ev s1) o).bind (cont P kn fuel)) k h n r:=by
 obtain⟨u4,op,ty,pos,after,guard⟩:=o;unfold o8 at j;cases op with
 |move x=>obtain⟨v,m,j⟩:=cN j;exact j6 j fun fuel=>by rw[<-p.bD m];exact kJ
 |assign x=>obtain⟨v,m,j⟩:=cN j;exact j6 j fun fuel=>by rw[<-p.bD m];exact kJ
 |pick c a b=>
  obtain⟨vc,E,j⟩:=cN j;obtain⟨K,A,j⟩:=cN j;obtain⟨vb,I,j⟩:=cN j;obtain⟨v,m,j⟩:=cN j;refine j6 j fun fuel=> ?_;unfold cx;simp only[p.bD E,p.bD A,p.bD I];unfold NA at m;split at m
  ·cases m;exact kJ
  ·cases m
 |alloc e=>exact mV j fun fuel=>mU
 |box e x=>obtain⟨v,m,j⟩:=cN j;exact mV j fun fuel=>by rw[<-p.bD m];exact mU
 |build t U=>obtain⟨vs,m,j⟩:=vI p j;refine mV j fun fuel=> ?_;rw[m,Mv,zip_map];exact mU
 |buildSlice t len U=>obtain⟨vs,m,j⟩:=vI p j;refine mV j fun fuel=> ?_;rw[m,Mv,zip_map];exact mU
 |load t a=>obtain⟨v,m,j⟩:=cN j;exact mV j fun fuel=>by rw[<-p.bD m];exact mU
 |store t a x=>obtain⟨K,A,j⟩:=cN j;obtain⟨v,m,j⟩:=cN j;exact mV j fun fuel=>by rw[<-p.bD m,<-p.bD A];exact mU
 |nilCheck x=>
  obtain⟨v,m,j⟩:=cN j;obtain⟨u,O,j⟩:=cN j;refine j6 j fun fuel=> ?_;unfold cx;simp only[p.bD m];unfold NC at O;split at O
  ·cases O;exact(congrArg (fun z=>M.bind z (cont P kn fuel)) (nG _ _)).trans kJ
  ·cases O;exact(congrArg (fun z=>M.bind z (cont P kn fuel)) (nG _ _)).trans kJ
  ·cases O
 |binOp op t x y yt=>obtain⟨K,A,j⟩:=cN j;obtain⟨vb,I,j⟩:=cN j;obtain⟨v,m,j⟩:=cN j;rw[<-p.bD A,<-p.bD I]at m;exact j6 j fun fuel=>by simp only[acp m];exact kJ
 |unOp op t x=>obtain⟨K,A,j⟩:=cN j;obtain⟨v,m,j⟩:=cN j;rw[<-p.bD A]at m;obtain⟨h1,R,X⟩:=xW m;refine j6 j fun fuel=> ?_;rw[<-kJ (P:=P) (fuel:=fuel),<-qk (ρ:=ev s1) (o:=⟨u4,.unOp op t x,ty,pos,after,guard⟩) (by simpa[dN]using h1) R X];rfl
 |convert src d x=>
  obtain⟨K,A,j⟩:=cN j;have T:=p.bD A;unfold Ba at j;cases he:qZ (P.underlying src) (P.underlying d)with
  |some e=>
   simp only[he]at j;cases O:mR P e with
   |true=>simp only[O]at j;refine mV j fun fuel=> ?_;unfold cx;simp only[he,O,if_true,T];exact mU
   |false=>simp only[O]at j;cases j
  |none=>
   simp only[he]at j;cases D:th (P.underlying src) (P.underlying d)with
   |some e=>
    simp only[D]at j;cases O:(mR P e&&size? P e==some 1)with
    |true=>
     simp only[O]at j;cases K with
     |string Z=>
      refine mV j fun fuel=> ?_;unfold cx;simp only[he,T];unfold A9
      have:s7 (P.underlying src) (P.underlying d) (.string Z)=some (e,Z):=by
       revert D;generalize P.underlying src=a;generalize P.underlying d=b;intro D;unfold th at D;split at D
       ·cases D;rfl
       ·cases D
      simp only[this,O,if_true];exact mU
     |_=>exfalso;obtain⟨c,R,n2,L⟩:=r;obtain⟨v,h1,n1,L1,L2,e1,e2,e3⟩:=bind_some j;obtain⟨L',e4,_⟩:=tq e1;cases e4
    |false=>simp only[O]at j;cases j
   |none=>simp only[D]at j;obtain⟨v,m,j⟩:=cN j;obtain⟨h1,R,X⟩:=xW m;refine j6 j fun fuel=> ?_;unfold cx;simp only[he,acq D];rw[qk (by simpa[dN,T]using h1) (by rw[<-R];simp only[execOp,T]) X];exact kJ
 |makeFunc fn a b=>obtain⟨K,A,j⟩:=vI p j;obtain⟨vb,I,j⟩:=vI p j;refine j6 j fun fuel=> ?_;subst A I;unfold cx;simp only[<-pY,Array.toArray_toList];exact kJ
 |makeSlice t l c=>obtain⟨K,A,j⟩:=cN j;obtain⟨v,m,j⟩:=cN j;exact mV j fun fuel=>by rw[<-p.bD m,<-p.bD A];exact mU
 |slice t x lo hi mx=>
  obtain⟨K,A,j⟩:=cN j;have j:=Ga p j;have j:=Ga p j;have j:=Ga p j;have T:=p.bD A;unfold vH at j;cases u1:nF P t with
  |true=>
   simp only[u1]at j;obtain⟨v,m,j⟩:=cN j;unfold Bb at m;split at m
   ·rename_i N;obtain⟨h1,R,X⟩:=xW m;refine j6 j fun fuel=> ?_;unfold cx;simp only[T,N,if_true];simp only[bZ]at h1;rw[qk ?_ (by rw[<-R];simp only[execOp,T]) X]
    ·exact kJ
    ·have q1:=h1.1.1;have q2:=h1.1.2;have q3:=h1.2;simp only[dN];have q0:=NJ N;cases lo<;>cases hi<;>cases mx<;>simp_all [ti]
   ·cases m
  |false=>
   simp only[u1]at j;refine mV j fun fuel=> ?_;unfold tj;unfold cx;simp only[T];cases N:isStr K with
   |true=>exfalso;obtain⟨c,R,n2,L⟩:=r;obtain⟨v,h1,n1,L1,L2,e1,e2,e3⟩:=bind_some j;obtain⟨L',e4,_⟩:=tq e1;unfold tj at e4;rw[N]at e4;cases e4
   |false=>simp only[oQ,if_false];exact mU
 |fieldAddr t x f=>obtain⟨K,A,j⟩:=cN j;obtain⟨v,m,j⟩:=cN j;refine j6 j fun fuel=> ?_;unfold cx;simp only[p.bD A,m,tr,nG];rfl
 |field t x f=>obtain⟨K,A,j⟩:=cN j;obtain⟨v,m,j⟩:=cN j;refine j6 j fun fuel=> ?_;unfold cx;simp only[p.bD A,m,tr,nG];rfl
 |indexAddr t x f=>obtain⟨K,A,j⟩:=cN j;obtain⟨vb,I,j⟩:=cN j;obtain⟨v,m,j⟩:=cN j;refine j6 j fun fuel=> ?_;unfold cx;simp only[p.bD A,p.bD I,m,tr,nG];rfl
 |index t x f=>
  obtain⟨K,A,j⟩:=cN j;obtain⟨vb,I,j⟩:=cN j;obtain⟨v,m,j⟩:=cN j;refine j6 j fun fuel=> ?_;unfold cx;unfold tm at m;split at m
  ·obtain⟨h0,h1,R,X⟩:=acu m;simp only[p.bD A,p.bD I,h0,if_true];rw[qk (by simp[dN,p.bD A,p.bD I,h1,NJ h0]) (by rw[<-R];simp only[execOp,p.bD A,p.bD I]) X];exact kJ
  ·obtain⟨h0,h1⟩:=acv m;simp only[p.bD A,p.bD I,h0,h1,tr,nG,oQ,if_false];rfl
 |extract t i=>obtain⟨K,A,j⟩:=cN j;obtain⟨v,m,j⟩:=cN j;refine j6 j fun fuel=> ?_;unfold cx;simp only[p.bD A,m,tr,nG];rfl
 |call c=>
  obtain⟨vs,m,j⟩:=vI p j;unfold call2 at j;cases E:c.callee with
  |value f=>
   simp only[E]at j;obtain⟨fv,u3,j⟩:=cN j;unfold kI at j;obtain⟨q,hq,j⟩:=cN j;obtain⟨g,first,Y⟩:=q;simp only at j;cases I:nB P g with
   |true=>simp only[I]at j;refine acm u2 j fun fuel=> ?_;unfold cx kG;simp only[E,p.bD u3,hq,I,if_true];rw[ack];congr 1;subst m;apply xX;simp
   |false=>simp only[I]at j;cases j
  |builtin b=>
   simp only[E]at j;cases b with
   |append=>simp only at j;unfold NG at j;obtain⟨q,hq,j⟩:=cN j;obtain⟨t,x,y⟩:=q;refine mV j fun fuel=> ?_;unfold cx kG;simp only[E,pY,<-m,hq];exact mU
   |copy=>simp only at j;unfold NH at j;obtain⟨q,hq,j⟩:=cN j;obtain⟨t,x,y⟩:=q;refine mV j fun fuel=> ?_;unfold cx kG;simp only[E,pY,<-m,hq];exact mU
   |len=>
    simp only at j;obtain⟨v,B,j⟩:=cN j;refine j6 j fun fuel=> ?_;unfold cx kG;simp only[E,pY,<-m];unfold xV at B;split at B
    ·rename_i t u ht;split at B
     ·rename_i e W;unfold ND at B;split at B
      ·cases B;simp only[s9,ht,W];exact kJ
      ·cases B
     ·rename_i W;unfold NF at B;split at B
      ·rename_i Z;cases B;have:s9 P c.argTypes [Value.string Z]=none:=by simp[s9,ht]
       simp only[this];obtain⟨x,J,G⟩:=acs m.symm;have C:=xX J;rw[qk (v:= .int .i64 Z.size) ?_ ?_ rfl]
       ·exact kJ
       ·simp[dN,vl,E,C,G,scalar]
       ·simp only[execOp,resolve,E,C];simp[G,invoke,builtin,Mw,ht];rw[o9 W];rfl
      ·cases B
     ·cases B
    ·cases B
   |min=>
    simp only at j;obtain⟨v,B,j⟩:=cN j;refine j6 j fun fuel=> ?_;unfold cx kG;simp only[E];unfold min2 at B;split at B
    ·rename_i kd a0 u0 b0;obtain⟨x,y,J,G,Q⟩:=NI m.symm;have C:=xX J;rw[qk (v:=v) ?_ ?_ (by cases B;rfl)]
     ·exact kJ
     ·simp[dN,vl,E,C,G,Q,scalar]
     ·cases B;simp only[execOp,resolve,E,C];simp[G,Q];rfl
    ·rename_i kd a0 u0 b0 u9 c0 u7 d0 u6 e0 u5 f0;obtain⟨x,y,z,u,t,s,J,q1,q2,q3,q4,q5,q6⟩:=acr m.symm;have C:=xX J;rw[qk (v:=v) ?_ ?_ (by cases B;rfl)]
     ·exact kJ
     ·simp[dN,vl,E,C,q1,q2,q3,q4,q5,q6,scalar]
     ·cases B;simp only[execOp,resolve,E,C];simp[q1,q2,q3,q4,q5,q6];rfl
    ·cases B
   |max=>
    simp only at j;obtain⟨v,B,j⟩:=cN j;refine j6 j fun fuel=> ?_;unfold cx kG;simp only[E];unfold max2 at B;split at B
    ·rename_i kd a0 u0 b0;obtain⟨x,y,J,G,Q⟩:=NI m.symm;have C:=xX J;rw[qk (v:=v) ?_ ?_ (by cases B;rfl)]
     ·exact kJ
     ·simp[dN,vl,E,C,G,Q,scalar]
     ·cases B;simp only[execOp,resolve,E,C];simp[G,Q];rfl
    ·cases B
   |_=>cases j
  |invoke _ _=>simp only[E]at j;cases j
 |_=>cases j
def Q0{c:Type}(m:M c):Prop:=∀h n a d b L,m h n=some ⟨a,d,b,L⟩->L=[]∧b=n
def Q1{c:Type}(m:M c):Prop:=∀h n a d b L,m h n=some ⟨a,d,b,L⟩->b=n∧∀e∈L,e.wr=false
def Q2{b:Type}(m:M b):Prop:=∀h n a d c L,m h n=some ⟨a,d,c,L⟩->L=[]
theorem Q0.ret{c:Type}(a:c):Q0 (M.ret a):=fun h n b f d L e=>by simp only[M.ret,dH,Out.mk.injEq]at e;exact⟨e.2.2.2.symm,e.2.2.1.symm⟩
theorem Q0.fail{a:Type}:Q0 (M.fail:M a):=fun h n b d c L e=>by cases e
theorem Q0.lift{b:Type}(o:Option b):Q0 (M.lift o):=by cases o with|none=>exact Q0.fail|some a=>exact Q0.ret a
theorem Q0.bind{c d:Type}{m:M c}{f:c->M d}(x:Q0 m)(y:∀a,Q0 (f a)):Q0 (m.bind f):=fun h n b l j L e=>by obtain⟨a,o,k,q,p,i,g,rfl⟩:=bind_some e;obtain⟨rfl,rfl⟩:=x _ _ _ _ _ _ i;obtain⟨rfl,rfl⟩:=y _ _ _ _ _ _ _ g;exact⟨rfl,rfl⟩
theorem Q0.q1{b:Type}{m:M b}(x:Q0 m):Q1 m:=fun h n a f d L e=>by obtain⟨rfl,rfl⟩:=x _ _ _ _ _ _ e;exact⟨rfl,fun e c=>nomatch c⟩
theorem Q0.q2{b:Type}{m:M b}(x:Q0 m):Q2 m:=fun h n a d c L e=>(x _ _ _ _ _ _ e).1
theorem Q1.bind{c d:Type}{m:M c}{f:c->M d}(x:Q1 m)(y:∀a,Q1 (f a)):Q1 (m.bind f):=fun h n b r o L e=>by
 obtain⟨a,s,p,u,t,l,k,rfl⟩:=bind_some e;obtain⟨rfl,j⟩:=x _ _ _ _ _ _ l;obtain⟨rfl,i⟩:=y _ _ _ _ _ _ _ k;refine⟨rfl,fun e g=> ?_⟩;rcases List.mem_append.1 g with q|q
 ·exact j e q
 ·exact i e q
theorem Q2.bind{c d:Type}{m:M c}{f:c->M d}(x:Q2 m)(y:∀a,Q2 (f a)):Q2 (m.bind f):=fun h n b l j L e=>by obtain⟨a,o,k,q,p,i,g,rfl⟩:=bind_some e;rw[x _ _ _ _ _ _ i,y _ _ _ _ _ _ _ g];rfl
theorem Q1.rd(b k:Nat):Q1 (Ev.rd b k):=fun h n a f d L e=>by
 unfold Ev.rd at e;split at e
 ·split at e
  ·split at e
   ·simp only[dH,Out.mk.injEq]at e;obtain⟨_,_,rfl,rfl⟩:=e;exact⟨rfl,fun e c=>by simp at c;subst c;rfl⟩
   ·cases e
  ·cases e
 ·cases e
theorem Q1.fw(b:Nat):Q1 (Ev.fw b):=fun h n a f d L e=>by
 unfold Ev.fw at e;split at e
 ·split at e
  ·simp only[dH,Out.mk.injEq]at e;obtain⟨_,_,rfl,rfl⟩:=e;exact⟨rfl,fun e c=>by simp at c;subst c;rfl⟩
  ·cases e
 ·cases e
theorem Q1.cR(b:Nat):∀n k,Q1 (Ev.cR b k n)
 |0,_=>(Q0.ret _).q1
 |n+1,k=>Q1.bind (Q1.rd _ _) fun _=>Q1.bind (Q1.cR b n _) fun _=>(Q0.ret _).q1
theorem Q2.cW(e:TypeId)(cs:List Value):Q2 (Ev.cW e cs):=fun h n a d c L b=>by
 unfold Ev.cW at b;split at b
 ·simp only[dH,Out.mk.injEq]at b;exact b.2.2.2.symm
 ·cases b
theorem Q0.gM(P:Program)(ρ:Operand->Value)(o:Oper):Q0 (Ev.gM P ρ o):=by
 unfold Ev.gM;split
 ·refine Q0.bind (Q0.lift _) fun v=> ?_;split
  ·exact Q0.ret _
  ·exact Q0.fail
 ·exact Q0.fail
theorem Q0.nilCheck(v:Value):Q0 (qc v):=by unfold qc;split<;>first|exact Q0.ret _|exact Q0.fail
theorem Q0.build(P:Program)(t:TypeId)(ps:List (Nat×Value)):Q0 (mc P t ps):=by
 unfold mc;split
 ·split
  ·split
   ·exact Q0.ret _
   ·exact Q0.fail
  ·exact Q0.fail
 ·exact Q0.fail
theorem Q1.load(P:Program)(t:TypeId)(v:Value):Q1 (jq P t v):=by
 unfold jq;split
 ·split
  ·exact Q1.bind (Q1.cR _ _ _) fun _=>(Q0.ret _).q1
  ·exact Q1.rd _ _
  ·exact Q0.fail.q1
 ·exact Q0.fail.q1
theorem Q1.acx(P:Program)(t:TypeId)(v:Value)(lo b a:Option Value):Q1 (ny P t v lo b a):=by
 unfold ny;split
 ·refine Q1.bind (Q1.fw _) fun _=> ?_;split
  ·split
   ·exact(Q0.lift _).q1
   ·exact Q0.fail.q1
  ·exact Q0.fail.q1
 ·exact(Q0.lift _).q1
theorem Q2.alloc(P:Program)(e:TypeId):Q2 (mO P e):=by
 unfold mO;split
 ·exact Q2.bind (Q2.cW _ _) fun _=>(Q0.ret _).q2
 ·exact Q0.fail.q2
theorem Q2.box(P:Program)(e:TypeId)(v:Value):Q2 (mP P e v):=by
 unfold mP;split
 ·exact Q2.bind (Q2.cW _ _) fun _=>(Q0.ret _).q2
 ·exact Q0.fail.q2
theorem Q2.buildSlice(P:Program)(t:TypeId)(len:Nat)(ps:List (Nat×Value)):Q2 (me P t len ps):=by
 unfold me
 repeat' (first|exact Q0.fail.q2|exact Q2.bind (Q2.cW _ _) fun _=>(Q0.ret _).q2|split)
theorem Q2.makeSlice(P:Program)(t:TypeId)(l c:Value):Q2 (mS P t l c):=by
 unfold mS
 repeat' (first|exact Q0.fail.q2|exact Q2.bind (Q2.cW _ _) fun _=>(Q0.ret _).q2|split)
def QK(k:Nat){a:Type}(m:M a):Prop:=(k=0->Q0 m)∧(k=1->Q1 m)∧(k=2->Q2 m)
theorem QK.j7{a:Type}{m:M a}(x:Q0 m)(k:Nat):QK k m:=⟨fun _=>x,fun _=>x.q1,fun _=>x.q2⟩
theorem QK.NK{a:Type}{m:M a}(x:Q1 m):QK 1 m:=⟨fun h=>by omega,fun _=>x,fun h=>by omega⟩
theorem QK.Bj{a:Type}{m:M a}(x:Q2 m):QK 2 m:=⟨fun h=>by omega,fun h=>by omega,fun _=>x⟩
theorem QK.xY{a:Type}{m:M a}:QK 3 m:=⟨fun h=>by omega,fun h=>by omega,fun h=>by omega⟩
def vJ(rec:FuncId->Array Value->M Value):Nx->M Value
 | .val v=> .ret v
 | .call f args=>rec f args
theorem acy{a b:Type}(f:a->M b):(M.fail:M a).bind f=M.fail:=rfl
theorem acz(P:Program)(ρ:Operand->Value)(rec:FuncId->Array Value->M Value)(o:Oper):QK (kind o.op) ((cx P ρ o).bind (vJ rec)):=by
 have d:∀{m:M Value},(m.bind fun v=>M.ret (Nx.val v)).bind (vJ rec)=m:=fun{m}=>by
  funext h n;unfold M.bind;cases m h n with
  |none=>rfl
  |some o=>simp[M.ret,vJ]
 have j:∀(v:Value),(M.ret (Nx.val v)).bind (vJ rec)=M.ret v:=fun v=>by rw[nG];rfl
 have g:Q0 ((gM P ρ o).bind (vJ rec)):=by
  unfold gM;split
  ·intro h n r u s L e;obtain⟨x,T,J,Z,Y,C,B,rfl⟩:=bind_some e;obtain⟨y,R,I,X,W,A,p,rfl⟩:=bind_some C;obtain⟨rfl,rfl⟩:=Q0.lift _ _ _ _ _ _ _ A;split at p
   ·obtain⟨rfl,_,_⟩:=bM p;obtain⟨rfl,rfl⟩:=Q0.ret _ _ _ _ _ _ _ p;obtain⟨rfl,rfl⟩:=Q0.ret _ _ _ _ _ _ _ B;exact⟨rfl,rfl⟩
   ·cases p
  ·intro h n r u s L e;cases e
 obtain⟨D,q,G,pos,after,guard⟩:=o;cases q with
 |move x=>exact QK.j7 (by unfold cx;rw[j];exact Q0.ret _) _
 |assign x=>exact QK.j7 (by unfold cx;rw[j];exact Q0.ret _) _
 |pick c a b=>
  refine QK.j7 ?_ _;unfold cx;simp only;split
  ·rw[j];exact Q0.ret _
  ·rw[acy];exact Q0.fail
 |alloc e=>exact QK.Bj (by unfold cx;rw[d];exact Q2.alloc _ _)
 |box e x=>exact QK.Bj (by unfold cx;rw[d];exact Q2.box _ _ _)
 |build t z=>exact QK.j7 (by unfold cx;rw[d];exact Q0.build _ _ _) _
 |buildSlice t len z=>exact QK.Bj (by unfold cx;rw[d];exact Q2.buildSlice _ _ _ _)
 |load t a=>exact QK.NK (by unfold cx;rw[d];exact Q1.load _ _ _)
 |nilCheck x=>exact QK.j7 (by unfold cx;rw[d];exact Q0.nilCheck _) _
 |binOp q t x y E=>
  refine QK.j7 ?_ _;unfold cx;simp only;split
  ·rw[j];exact Q0.ret _
  ·rw[j];exact Q0.ret _
  ·exact g
  ·intro h n a u s L e;cases e
 |unOp q t x=>exact QK.j7 (g) _
 |makeFunc U a b=>exact QK.j7 (by unfold cx;rw[j];exact Q0.ret _) _
 |makeSlice t l c=>exact QK.Bj (by unfold cx;rw[d];exact Q2.makeSlice _ _ _ _)
 |slice t x N Q K=>
  refine QK.NK ?_;unfold cx;simp only;split
  ·exact(g).q1
  ·rw[d];exact Q1.acx _ _ _ _ _ _
 |fieldAddr t x f=>exact QK.j7 (by unfold cx;rw[d];exact Q0.lift _) _
 |field t x f=>exact QK.j7 (by unfold cx;rw[d];exact Q0.lift _) _
 |indexAddr t x f=>exact QK.j7 (by unfold cx;rw[d];exact Q0.lift _) _
 |index t x O=>
  refine QK.j7 ?_ _;unfold cx;simp only;split
  ·exact g
  ·rw[d];exact Q0.lift _
 |extract t i=>exact QK.j7 (by unfold cx;rw[d];exact Q0.lift _) _
 |call c=>
  unfold kind;simp only;split
  ·rename_i k;refine QK.j7 ?_ _;unfold cx kG;simp only[k];split
   ·rw[j];exact Q0.ret _
   ·exact g
  ·rename_i k;refine QK.j7 ?_ _;unfold cx kG;simp only[k];exact g
  ·rename_i k;refine QK.j7 ?_ _;unfold cx kG;simp only[k];exact g
  ·exact QK.xY
 |_=>exact QK.xY
structure Bn (o:Oper) (t:Tk):Prop where
 le:t.n<=t.n1
 lt:∀e∈t.log,e.b<t.n1
 k0:kind o.op=0->t.log=[]∧t.n1=t.n
 k1:kind o.op=1->t.n1=t.n∧∀e∈t.log,e.wr=false
 k2:kind o.op=2->t.log=[]
inductive nH:Nat->List Oper->List Tk->Nat->Prop
 |nil (n:Nat):nH n [] [] n
 |cons {n m:Nat} {o:Oper} {t:Tk} {r:List Oper} {ts:List Tk} (h:Bn o t) (e:t.n=n) (x:nH t.n1 r ts m):nH n (o::r) (t::ts) m
theorem nH.le{n m:Nat}{l:List Oper}{a:List Tk}(x:nH n l a m):n<=m:=by
 induction x with
 |nil n=>exact ah _
 |cons h e x b=>have:=h.le;omega
theorem any_false{a:Type}{l:List a}{p:a->Bool}(h:∀x∈l,p x=false):l.any p=false:=by rw[List.any_eq_false];intro x b;rw[h x b];exact Bool.false_ne_true
theorem acA{a b:Oper}{i h:Tk}(d:Bn a i)(e:Bn b h)(k:i.n1<=h.n)(hf:fits (kind a.op) (kind b.op)=true):i.cy h=false:=by
 have n:=d.le;have m:=e.le;unfold fits at hf;simp only[oO,beq_iff_eq,bZ]at hf;unfold Tk.cy;rcases hf with (((hf|hf)|hf)|hf)|hf
 ·obtain⟨f,g⟩:=d.k0 hf;rw[f];simp only[Fv,Fw,aaQ,Fx,xE];refine⟨any_false fun x _=>rfl,any_false fun x c=> ?_⟩;simp;omega
 ·obtain⟨f,g⟩:=e.k0 hf;rw[f];simp only[Fv,Fw,xE,aaQ,Fx];refine⟨any_false fun x _=>rfl,any_false fun x c=> ?_⟩;simp;omega
 ·obtain⟨f,g⟩:=d.k1 hf.1;obtain⟨j,l⟩:=e.k1 hf.2;simp only[xE];refine⟨⟨⟨any_false fun x c=>by rw[g x c];rfl,any_false fun x c=>by rw[l x c];rfl⟩,any_false fun x c=> ?_⟩,any_false fun x c=> ?_⟩
  ·simp;omega
  ·simp;omega
 ·rw[d.k2 hf.1,e.k2 hf.2];rfl
 ·obtain⟨f,g⟩:=d.k1 hf.1;have j:=e.k2 hf.2;rw[j];simp only[Fv,Fw,xE,Fx];refine⟨any_false fun x _=>rfl,any_false fun x c=> ?_⟩;have:=d.lt x c;simp;omega
theorem NL{P:Program}{rec:FuncId->Array Value->M Value}{ops:Array Oper}{o:Oper}{s:S}(h:gy o (gX ops s)=true):fY P rec ops o s=(cx P (ev s) o).bind (vJ rec):=by unfold fY;rw[if_pos h];rfl
theorem acB{P:Program}{rec:FuncId->Array Value->M Value}{ops:Array Oper}{o:Oper}{s:S}:QK (kind o.op) (fY P rec ops o s):=by
 by_cases h:gy o (gX ops s)=true
 ·rw[NL h];exact acz _ _ _ _
 ·unfold fY;rw[if_neg h];exact QK.j7 (Q0.ret _) _
theorem filter_nil{a:Type}{L:List a}{p:a->Bool}(h:L=[]):L.filter p=[]:=by rw[h];rfl
theorem Gb{d:Type}{m:M d}{h h1:H}{n c:Nat}{x:d×Tk}{L:List En}(b:az m h n=some ⟨x,h1,c,L⟩):m h n=some ⟨x.1,h1,c,L⟩∧x.2=⟨n,c,L⟩:=by
 unfold az at b;split at b
 ·rename_i a g f i e;simp only[dH,Out.mk.injEq]at b;obtain⟨rfl,rfl,rfl,rfl⟩:=b;exact⟨e,rfl⟩
 ·cases b
theorem xZ{c:Type}{m:M c}{h h1:H}{n b:Nat}{a:c}{L:List En}(e:m h n=some ⟨a,h1,b,L⟩):az m h n=some ⟨(a,⟨n,b,L⟩),h1,b,L⟩:=by unfold az;rw[e]
theorem acD{P:Program}{rec:FuncId->Array Value->M Value}(i:∀f a,Loc (rec f a)){nt:Nat}{ops:Array Oper}:∀(l:List Oper) (s:S) (h h1:H) (n d:Nat) (y:S×List Tk) (L:List En),jg P rec nt ops l s h n=some ⟨y,h1,d,L⟩->nH n l y.2 d:=by
 intro l
 induction l with
 |nil=>intro s h h1 n d y L g;obtain⟨rfl,rfl,rfl⟩:=bM g;exact .nil _
 |cons o l m=>
  intro s h h1 n d y L g;unfold jg at g;obtain⟨x,N,G,W,U,B,v,_⟩:=bind_some g;obtain⟨C,J,E,T,R,u,t,_⟩:=bind_some v;obtain⟨z,I,D,Q,O,r,q,_⟩:=bind_some t;obtain⟨rfl,rfl,rfl⟩:=bM q;obtain⟨_,rfl,rfl⟩:=mg u;obtain⟨k,b⟩:=Gb B;obtain⟨X,j,rfl⟩:=tq k;have A:=Loc.inside (Loc.fY i ops o s) h n _ _ _ _ k;have K:=acB (P:=P) (rec:=rec) (ops:=ops) (o:=o) (s:=s);refine .cons ⟨?_, ?_,fun c=> ?_,fun c=> ?_,fun c=> ?_⟩ ?_ ?_
  ·rw[b];exact A.le
  ·rw[b];exact A.lt
  ·obtain⟨q1,q2⟩:=K.1 c _ _ _ _ _ _ j;rw[b];exact⟨filter_nil q1,q2⟩
  ·obtain⟨q1,q2⟩:=K.2.1 c _ _ _ _ _ _ j;rw[b];exact⟨q1,fun e p=>q2 e (List.mem_filter.1 p).1⟩
  ·rw[b];exact filter_nil (K.2.2 c _ _ _ _ _ _ j)
  ·rw[b]
  ·rw[b];exact m _ _ _ _ _ _ _ r
theorem acE{n m:Nat}{l:List Oper}{d:List Tk}(x:nH n l d m):∀(i:Nat) (a:Tk),d[i]? =some a->∃c:Oper,l[i]? =some c∧Bn c a∧n<=a.n:=by
 induction x with
 |nil n=>intro i a b;simp at b
 |cons h e x f=>
  intro i a b;cases i with
  |zero=>simp at b;subst b;exact⟨_,rfl,h,jO⟩
  |succ i=>obtain⟨c,j,g,k⟩:=f i a (by simpa using b);exact⟨c,by simpa using j,g,by have:=h.le;omega⟩
theorem NM{ops:Array Oper}{g:List Nat}:∀(l:List Oper) (a:List Tk) (n m j:Nat),nH n l a m->(∀i o,l[i]? =some o->ops.getD (j+i) default=o)->
 (∀p q f d r k,p<q->l[p]? =some f->l[q]? =some d->a[p]? =some r->a[q]? =some k->(g.getD (j+q) 0).testBit (j+p)=true∨((fits (kind f.op) (kind d.op)=true∨r.cy k=false)∧oY ops f d=false))->oZ ops g (tagged j a)=true:=by
 intro l
 induction l with
 |nil=>intro a n m j x _ _;cases x;rfl
 |cons o l D=>
  intro a n m j x s y;cases x with
  |@cons _ _ _ t _ a h e x=>
   unfold tagged oZ;simp only[bZ,AK]
   refine⟨?_,D a _ m (j+1) x (fun i C c=>by have:=s (i+1) C (by simpa using c);rw[show j+1+i=j+(i+1) by omega];exact this) (fun p q f d r k I N L K J=>by
    have:=y (p+1) (q+1) f d r k jO (by simpa using N) (by simpa using L) (by simpa using K) (by simpa using J);rw[show j+1+q=j+(q+1) by omega,show j+1+p=j+(p+1) by omega]
    exact this)⟩
   intro z E;obtain⟨i,c⟩:=List.mem_iff_getElem?.1 E;rw[FZ]at c;cases b:a[i]? with
   |none=>rw[b]at c;cases c
   |some u=>
    rw[b]at c;simp only[AH,dH]at c;subst c;obtain⟨v,A,P,O⟩:=acE x i u b;have B:=s 0 o rfl;have Q:=s (i+1) v (by simpa using A);have hq:=y 0 (i+1) o v t u jO rfl (by simpa using A) rfl (by simpa using b);rw[iO]at B hq;simp only[show j+1+i=j+(i+1) by omega,B,Q,oO,bZ,AN];rcases hq with hq|⟨hq,G⟩
    ·exact .inl hq
    ·refine .inr ⟨?_,G⟩;rcases hq with hq|hq
     ·exact acA h P O hq
     ·exact hq
theorem acF{ops:Array Oper}{a:List Nat}{j:Nat}{b:Oper}:∀(l:List Oper) (k:Nat),Bf ops a j b k l=true->∀i o,l[i]? =some o->(a.getD (k+i) 0).testBit j=true∨(fits (kind b.op) (kind o.op)=true∧oY ops b o=false):=by
 intro l
 induction l with
 |nil=>intro k _ i o h;simp at h
 |cons o l e=>
  intro k h i d c;unfold Bf at h;simp only[bZ,oO,AN]at h;cases i with
  |zero=>simp at c;subst c;exact h.1
  |succ i=>rw[show k+(i+1)=k+1+i by omega];exact e (k+1) h.2 i d (by simpa using c)
theorem acG{ops:Array Oper}{c:List Nat}:∀(l:List Oper) (j:Nat),Bg ops c j l=true->∀p q b a,p<q->l[p]? =some b->l[q]? =some a->(c.getD (j+q) 0).testBit (j+p)=true∨(fits (kind b.op) (kind a.op)=true∧oY ops b a=false):=by
 intro l
 induction l with
 |nil=>intro k _ p q b a _ h;simp at h
 |cons o l f=>
  intro j h p q b a g d e;unfold Bg at h;simp only[bZ]at h;cases q with
  |zero=>omega
  |succ q=>
   cases p with
   |zero=>simp at d;subst d;have:=acF l (j+1) h.1 q a (by simpa using e);rw[show j+(q+1)=j+1+q by omega,iO];exact this
   |succ p=>have:=f (j+1) h.2 p q b a jO (by simpa using d) (by simpa using e);rw[show j+(q+1)=j+1+q by omega,show j+(p+1)=j+1+p by omega];exact this
theorem NN(ops:Array Oper)(i:Nat)(o:Oper)(h:ops.toList[i]? =some o):ops.getD (0+i) default=o:=by rw[fD];rw[Fu]at h;simp[Array.getD_eq_getD_getElem?,h]
theorem acH{ops:Array Oper}{a:List Tk}{n m:Nat}(x:nH n ops.toList a m)(h:Bh ops=true):rh ops=true∧oZ ops (lR ops.toList []) (tagged 0 a)=true:=by
 unfold Bh at h;simp only[bZ]at h;refine⟨h.1,NM ops.toList a n m 0 x (NN ops) fun p q d c j i b f e l k=> ?_⟩;rcases acG ops.toList 0 h.2 p q d c b f e with g|g
 ·exact .inl g
 ·exact .inr ⟨.inl g.1,g.2⟩
end Go.Proofs.YtmjolmggelkjlaaGreat.Ev
namespace Go.Proofs.YtmjolmggelkjlaaGreat.Ev
open Go Go.RowKit
theorem aH{x:Int}(a:-9223372036854775808<=x)(h1:x<=9223372036854775807):IntKind.i64.wrap x=x:=IntWalk.i64_in x jO
def nI(k:IntKind)(z:Int):Int:=match k,z with
 | .i64,.ofNat m=>match bI m 9223372036854775807 with
   |true=>z
   |false=>k.wrap z
 | .i64,.negSucc m=>match bI m 9223372036854775807 with
   |true=>z
   |false=>k.wrap z
 | .u8,.ofNat m=> .ofNat (m %256)
 | .u32,.ofNat m=> .ofNat (m %4294967296)
 | .u64,.ofNat m=> .ofNat (m %18446744073709551616)
 |_,_=>k.wrap z
theorem kK(k:IntKind)(z:Int):nI k z=k.wrap z:=by
 unfold nI;split
 ·rename_i m;cases h:bI m 9223372036854775807 with
  |true=>have:m<=9223372036854775807:=gJ h;exact(aH (x:=((m:Nat):Int)) jO jO).symm
  |false=>rfl
 ·rename_i m;cases h:bI m 9223372036854775807 with
  |true=>have:m<=9223372036854775807:=gJ h;exact(aH (x:=an1 m) jO jO).symm
  |false=>rfl
 ·rename_i m;show((m %256:Nat):Int)=IntKind.u8.wrap m;simp[aa0,Fy,aa1]
 ·rename_i m;show((m %4294967296:Nat):Int)=IntKind.u32.wrap m;simp[aa0,Fy,aa1]
 ·rename_i m;show((m %18446744073709551616:Nat):Int)=IntKind.u64.wrap m;simp[aa0,Fy,aa1]
 ·rfl
def Bo(a b:Int):Int:=match a,b with
 | .ofNat x,.ofNat y=> .ofNat (gK x y)
 |_,_=>a+b
theorem NO(a b:Int):Bo a b=a+b:=by unfold Bo;split<;>rfl
def Bp(a b:Int):Int:=match a,b with
 | .ofNat x,.ofNat y=>match bI y x with
   |true=> .ofNat (Fz x y)
   |false=> .negSucc (Fz (Fz y x) 1)
 |_,_=>a-b
theorem Bq(a b:Int):Bp a b=a-b:=by
 unfold Bp;split
 ·rename_i x y;cases h:bI y x with
  |true=>have:=gJ h;show((x-y:Nat):Int)=(x:Int)-y;omega
  |false=>
   have:¬y<=x:=fun q=>by rw[lQ q]at h;cases h
   show an1 (y-x-1)=(x:Int)-y;omega
 ·rfl
def Gc(a b:Int):Int:=match a,b with
 | .ofNat x,.ofNat y=> .ofNat (Mz x y)
 |_,_=>a*b
theorem NP(a b:Int):Gc a b=a*b:=by unfold Gc;split<;>rfl
def pd(a b:Int):Bool:=match a,b with
 | .ofNat x,.ofNat y=>bY x y
 |_,_=>a==b
theorem rB(a b:Int):pd a b=(a==b):=by
 unfold pd;split
 ·rename_i x y;cases h:bY x y with
  |true=>rw[lf h];simp
  |false=>have:x≠y:=aa2 h;symm;rw[beq_eq_false_iff_ne];intro q;exact this (ape q)
 ·rfl
def Br(a b:Int):Bool:=match a,b with
 | .ofNat x,.ofNat y=>bI x y
 |_,_=>decide (a<=b)
theorem Bs(a b:Int):Br a b=decide (a<=b):=by
 unfold Br;split
 ·rename_i x y;cases h:bI x y with
  |true=>have:=gJ h;symm;rw[decide_eq_true_eq];show(x:Int)<=y;omega
  |false=>
   have:¬x<=y:=fun q=>by rw[lQ q]at h;cases h
   symm;rw[decide_eq_false_iff_not];show¬((x:Int)<=y);omega
 ·rfl
def vK(a b:Int):Bool:=match a,b with
 | .ofNat x,.ofNat y=>bI (fF x) y
 |_,_=>decide (a<b)
theorem ql(a b:Int):vK a b=decide (a<b):=by
 unfold vK;split
 ·rename_i x y;cases h:bI (fF x) y with
  |true=>have:=gJ h;symm;rw[decide_eq_true_eq];show(x:Int)<y;omega
  |false=>
   have:¬fF x<=y:=fun q=>by rw[lQ q]at h;cases h
   symm;rw[decide_eq_false_iff_not];show¬((x:Int)<y);omega
 ·rfl
def qm:List UInt8->List UInt8->Bool
 |[],[]=>true
 |a::l,b::m=>match bY a.toNat b.toNat with
  |true=>qm l m
  |false=>false
 |_,_=>false
theorem Bt:∀a b:List UInt8,qm a b=decide (a=b)
 |[],[]=>rfl
 |a::l,b::m=>by
  unfold qm;cases h:bY a.toNat b.toNat with
  |true=>have e:a=b:=UInt8.toNat_inj.1 (lf h);subst e;simp only;rw[Bt l m];simp
  |false=>have e:a≠b:=fun q=>aa2 h (by rw[q]);symm;rw[decide_eq_false_iff_not];intro q;exact e (apf q).1
 |[],_::_=>by unfold qm;simp
 |_::_,[]=>by unfold qm;simp
def apu:List UInt8->List UInt8->Bool
 |_,[]=>false
 |[],_::_=>true
 |a::l,b::m=>match apv a.toNat b.toNat with
  |true=>true
  |false=>match bY a.toNat b.toNat with
   |true=>apu l m
   |false=>false
theorem apw:∀a b:List UInt8,apu a b=apx a b
 |a,[]=>by cases a<;>rfl
 |[],_::_=>rfl
 |a::l,b::m=>by
  show(match apv a.toNat b.toNat with
   |true=>true
   |false=>match bY a.toNat b.toNat with
    |true=>apu l m
    |false=>false)=(decide (a<b)||(a==b&&apx l m))
  have c:decide (a<b)=apv a.toNat b.toNat:=by
   cases h:apv a.toNat b.toNat with
   |true=>rw[apA]at h;exact decide_eq_true (UInt8.lt_iff_toNat_lt.2 h)
   |false=>refine decide_eq_false fun q=> ?_;have q2:=UInt8.lt_iff_toNat_lt.1 q;rw[<-apA,h]at q2;cases q2
  rw[c];cases h:apv a.toNat b.toNat with
  |true=>rfl
  |false=>
   cases d:bY a.toNat b.toNat with
   |true=>have e:a=b:=UInt8.toNat_inj.1 (lf d);subst e;simp only[beq_self_eq_true,Mn,aaQ];exact apw l m
   |false=>have e:(a==b)=false:=beq_eq_false_iff_ne.2 fun q=>aa2 d (by rw[q]);rw[e];rfl
def Bu:List UInt8->List UInt8->List UInt8
 |[],m=>m
 |a::l,m=>a::Bu l m
theorem Gd:∀l m:List UInt8,Bu l m=l++m
 |[],_=>rfl
 |a::l,m=>by unfold Bu;rw[Gd l m];rfl
def jt:List UInt8->Nat
 |[]=>0
 |_::l=>fF (jt l)
theorem pe:∀l:List UInt8,jt l=l.length
 |[]=>rfl
 |_::l=>by unfold jt;rw[pe l];rfl
def qn:List UInt8->Nat->Option UInt8
 |[],_=>none
 |a::l,i=>match i with
  |0=>some a
  |i+1=>qn l i
theorem Ge:∀(l:List UInt8) (i:Nat) (b:UInt8),qn l i=some b->i<l.length∧l.getD i 0=b
 |[],_,_,h=>by cases h
 |a::l,0,b,h=>by unfold qn at h;cases h;exact⟨Nat.zero_lt_succ _,rfl⟩
 |a::l,i+1,b,h=>by unfold qn at h;obtain⟨d,c⟩:=Ge l i b h;exact⟨Nat.succ_lt_succ d,c⟩
def pf:IntKind->IntKind->Bool
 | .i64,.i64| .u8,.u8| .u32,.u32| .u64,.u64| .i8,.i8| .i16,.i16| .i32,.i32| .u16,.u16=>true
 |_,_=>false
theorem Bv(k:IntKind):pf k k=true:=by cases k<;>rfl
theorem Bw{a b:IntKind}(h:pf a b=true):a=b:=by cases a<;>cases b<;>first|rfl|cases h
def pw:IntKind->Nat
 | .i64| .u64=>18446744073709551616
 | .i32| .u32=>4294967296
 | .i16| .u16=>65536
 | .i8| .u8=>256
theorem acI(k:IntKind):pw k=2^k.bits:=by cases k<;>rfl
theorem NQ(w x:Nat):(BitVec.ofInt w (x:Int)).toNat=x %2^w:=by rw[BitVec.ofInt_natCast,BitVec.toNat_ofNat]
noncomputable def vL {a:Type}:Nat->Tr a->Nat->Option a
 |0,_,_=>none
 |_+1,.nil,_=>none
 |f+1,.node l v r,i=>match bY i 0 with
  |true=>v
  |false=>match bY (j2 i 2) 1 with
   |true=>vL f l (kE i 2)
   |false=>vL f r (qW (kE i 2))
theorem rD(a b:Nat):bY a b=decide (a=b):=by
 cases h:bY a b with
 |true=>rw[lf h];simp
 |false=>have:=aa2 h;simp[this]
theorem Gf{d:Type}:∀(f:Nat) (t:Tr d) (i:Nat),vL f t i=Tr.get f t i
 |0,_,_=>rfl
 |_+1,.nil,_=>rfl
 |f+1,.node l v r,i=>by
  unfold vL Tr.get;rw[rD,rD];by_cases c:i=0
  ·simp[c]
  ·by_cases b:i %2=1
   ·have a:j2 i 2=1:=b;simp only[c,b,a,decide_true,decide_false,if_true,if_false];exact Gf f l (i/2)
   ·have a:¬j2 i 2=1:=b;simp only[c,b,a,decide_false,if_false];exact Gf f r (i/2-1)
noncomputable def mn {b:Type}:Nat->Tr b->Nat->Option b->Tr b
 |0,t,_,_=>t
 |f+1,.nil,i,a=>match bY i 0 with
  |true=> .node .nil a .nil
  |false=>match bY (j2 i 2) 1 with
   |true=> .node (mn f .nil (kE i 2) a) none .nil
   |false=> .node .nil none (mn f .nil (qW (kE i 2)) a)
 |f+1,.node l v r,i,a=>match bY i 0 with
  |true=> .node l a r
  |false=>match bY (j2 i 2) 1 with
   |true=> .node (mn f l (kE i 2) a) v r
   |false=> .node l v (mn f r (qW (kE i 2)) a)
theorem ya{e:Type}:∀(f:Nat) (t:Tr e) (i:Nat) (a:Option e),mn f t i a=Tr.set f t i a
 |0,_,_,_=>rfl
 |f+1,.nil,i,a=>by
  unfold mn Tr.set;rw[rD,rD];by_cases d:i=0
  ·simp[d]
  ·by_cases c:i %2=1
   ·have b:j2 i 2=1:=c;simp only[d,c,b,decide_true,decide_false,if_true,if_false];rw[ya f .nil];rfl
   ·have b:¬j2 i 2=1:=c;simp only[d,c,b,decide_false,if_false];rw[ya f .nil];rfl
 |f+1,.node l v r,i,a=>by
  unfold mn Tr.set;rw[rD,rD];by_cases d:i=0
  ·simp[d]
  ·by_cases c:i %2=1
   ·have b:j2 i 2=1:=c;simp only[d,c,b,decide_true,decide_false,if_true,if_false];rw[ya f l];rfl
   ·have b:¬j2 i 2=1:=c;simp only[d,c,b,decide_false,if_false];rw[ya f r];rfl
noncomputable def Bx {a:Type} (t:Tr a):Nat->Option a:=Tr.rec (motive:=fun _=>Nat->Option a) (fun _=>none) (fun _ v _ c b i=>match bY i 0 with
 |true=>v
 |false=>match bY (j2 i 2) 1 with
  |true=>c (kE i 2)
  |false=>b (qW (kE i 2))) t
theorem Gg{a:Type}:∀(t:Tr a) (f i:Nat),i<f->Bx t i=vL f t i
 | .nil,0,i,h=>by omega
 | .nil,f+1,i,h=>rfl
 | .node l v r,0,i,h=>by omega
 | .node l v r,f+1,i,h=>by
   show(match bY i 0 with
    |true=>v
    |false=>match bY (j2 i 2) 1 with
     |true=>Bx l (kE i 2)
     |false=>Bx r (qW (kE i 2)))=_
   unfold vL;cases e:bY i 0 with
   |true=>rfl
   |false=>
    have g:i≠0:=fun q=>by subst q;simp at e
    have d:i/2<f:=jO;have c:kE i 2=i/2:=rfl;have b:qW (i/2)=i/2-1:=rfl;simp only[c,b];rw[Gg l f (i/2) d,Gg r f (i/2-1) jO]
noncomputable def Bz {b:Type} (t:Tr b):Nat->Option b->Tr b:=Tr.rec (motive:=fun _=>Nat->Option b->Tr b) (fun i a=>mn (fF i) .nil i a) (fun l v r d c i a=>match bY i 0 with
 |true=> .node l a r
 |false=>match bY (j2 i 2) 1 with
  |true=> .node (d (kE i 2) a) v r
  |false=> .node l v (c (qW (kE i 2)) a)) t
theorem Gh{b:Type}(a:Option b):∀(f i g:Nat),i<f->i<g->mn f .nil i a=mn g .nil i a
 |0,_,_,h,_=>by omega
 |f+1,_,0,_,h=>by omega
 |f+1,i,g+1,h,k=>by
  unfold mn;cases e:bY i 0 with
  |true=>rfl
  |false=>
   have j:i≠0:=fun q=>by subst q;simp at e
   have d:kE i 2=i/2:=rfl;have c:qW (i/2)=i/2-1:=rfl;simp only[d,c];rw[Gh a f (i/2) g jO jO,Gh a f (i/2-1) g jO jO]
theorem Gi{b:Type}(a:Option b):∀(t:Tr b) (f i:Nat),i<f->Bz t i a=mn f t i a
 | .nil,f,i,h=>Gh a _ _ _ (dI i) h
 | .node l v r,0,i,h=>by omega
 | .node l v r,f+1,i,h=>by
   show(match bY i 0 with
    |true=>Tr.node l a r
    |false=>match bY (j2 i 2) 1 with
     |true=>Tr.node (Bz l (kE i 2) a) v r
     |false=>Tr.node l v (Bz r (qW (kE i 2)) a))=_
   unfold mn;cases e:bY i 0 with
   |true=>rfl
   |false=>
    have g:i≠0:=fun q=>by subst q;simp at e
    have d:kE i 2=i/2:=rfl;have c:qW (i/2)=i/2-1:=rfl;simp only[d,c];rw[Gi a l f (i/2) jO,Gi a r f (i/2-1) jO]
noncomputable def iR (h:H) (b:Nat):Option AB:=Bx h b
theorem rE(h:H)(b:Nat):iR h b=h.get b:=(Gg h (b+1) b (dI b)).trans (Gf _ _ _)
noncomputable def nD (h:H) (b:Nat) (x:Option AB):H:=Bz h b x
theorem Gj(h:H)(b:Nat)(x:Option AB):nD h b x=h.set b x:=(Gi x h (b+1) b (dI b)).trans (ya _ _ _ _)
theorem qo(a b:Nat):bI a b=decide (a<=b):=by
 cases h:bI a b with
 |true=>have:=gJ h;simp[this]
 |false=>
  have:¬a<=b:=fun q=>by rw[lQ q]at h;cases h
  simp[this]
noncomputable def rF (l:List Value):Nat->Option Value:=AO (motive:=fun _=>Nat->Option Value) (fun _=>none) (fun a _ b i=>aa3 (motive:=fun _=>Option Value) (some a) (fun j _=>b j) i) l
theorem BA:∀(l:List Value) (i:Nat),rF l i=l[i]?
 |[],_=>rfl
 |_::_,0=>rfl
 |a::l,i+1=>by show rF l i=_;rw[BA l i];rfl
noncomputable def Gk (l:List Value):Nat->Value->Option (List Value):=AO (motive:=fun _=>Nat->Value->Option (List Value)) (fun _ _=>none) (fun a l c i v=>aa3 (motive:=fun _=>Option (List Value)) (some (v::l)) (fun j _=>match c j v with
 |some b=>some (a::b)
 |none=>none) i) l
theorem NS:∀(l:List Value) (i:Nat) (v:Value),Gk l i v=if i<l.length then some (l.set i v)else none
 |[],i,v=>by show none=_;simp
 |a::l,0,v=>by show some (v::l)=_;simp
 |a::l,i+1,v=>by
  show(match Gk l i v with
   |some b=>some (a::b)
   |none=>none)=_
  rw[NS l i v];by_cases h:i<l.length
  ·simp[h]
  ·simp[h]
noncomputable def vM (b k:Nat):M Value:=fun h n=>match bI (fF b) n with
 |true=>match iR h b with
  |some B=>match rF B.cells k with
   |some v=>some ⟨v,h,n,[⟨false,b,some k⟩]⟩
   |none=>none
  |none=>none
 |false=>none
theorem BB:vM=rd:=by
 funext b k h n;unfold vM rd;rw[qo,rE];by_cases a:b<n
 ·have:b.succ<=n:=a;simp only[a,this,decide_true,if_true];cases h.get b with
  |none=>rfl
  |some B=>simp only[BA];rfl
 ·have:¬b.succ<=n:=a;simp only[a,this,decide_false,if_false]
noncomputable def tu (b k:Nat) (v:Value):M Unit:=fun h n=>match bI (fF b) n with
 |true=>match iR h b with
  |some B=>match B.own with
   |true=>match one v with
    |true=>match Gk B.cells k v with
     |some a=>some ⟨(),nD h b (some ⟨B.elem,true,a⟩),n,[⟨false,b,some k⟩,⟨true,b,some k⟩]⟩
     |none=>none
    |false=>none
   |false=>none
  |none=>none
 |false=>none
theorem BC:tu=wr:=by
 funext b k v h n;unfold tu wr;rw[qo,rE];by_cases a:b<n
 ·have:b.succ<=n:=a;simp only[a,this,decide_true,if_true];cases h.get b with
  |none=>rfl
  |some B=>
   obtain⟨e,o,d⟩:=B;simp only[NS,Gj];cases o with
   |false=>simp
   |true=>
    cases f:one v with
    |false=>simp
    |true=>
     by_cases c:k<d.length
     ·simp[c]
     ·simp[c]
 ·have:¬b.succ<=n:=a;simp only[a,this,decide_false,if_false]
noncomputable def jM (e:TypeId) (cs:List Value):M Nat:=fun h n=>some ⟨n,nD h n (some ⟨e,true,cs⟩),fF n,[]⟩
theorem lS:jM=cW:=by funext e a h n;unfold jM cW;rw[if_pos (dI n),Gj]
noncomputable def yf (b:Nat):M TypeId:=fun h n=>match bI (fF b) n with
 |true=>match iR h b with
  |some B=>some ⟨B.elem,h,n,[⟨false,b,some 1099511627776⟩]⟩
  |none=>none
 |false=>none
theorem vN:yf=fw:=by
 funext b h n;unfold yf fw;rw[qo,rE];by_cases a:b<n
 ·have:b.succ<=n:=a;simp only[a,this,decide_true,if_true];rfl
 ·have:¬b.succ<=n:=a;simp only[a,this,decide_false,if_false]
noncomputable def Gm (b:Nat):M Unit:=fun h n=>match bI (fF b) n with
 |true=>match iR h b with
  |some B=>match B.own with
   |true=>some ⟨(),nD h b none,n,[⟨false,b,none⟩,⟨true,b,none⟩]⟩
   |false=>none
  |none=>none
 |false=>none
theorem Gn:Gm=kill:=by
 funext b h n;unfold Gm kill;rw[qo,rE];by_cases a:b<n
 ·have:b.succ<=n:=a;simp only[a,this,decide_true,if_true];cases h.get b with
  |none=>rfl
  |some B=>simp only[Gj];cases B.own<;>simp
 ·have:¬b.succ<=n:=a;simp only[a,this,decide_false,if_false]
noncomputable def nJ (b k:Nat):List Value->M Unit
 |[]=> .ret ()
 |v::a=>(tu b k v).bind fun _=>nJ b (fF k) a
theorem NT(b:Nat):∀(vs:List Value) (k:Nat),nJ b k vs=eQ b k vs
 |[],_=>rfl
 |v::vs,k=>by unfold nJ eQ;rw[BC,NT b vs (fF k)]
theorem yg:nJ=eQ:=by funext b k a;exact NT b a k
noncomputable def fL (l:List Value):Nat:=AO (motive:=fun _=>Nat) 0 (fun _ _ a=>fF a) l
theorem mo:∀l:List Value,fL l=l.length
 |[]=>rfl
 |a::l=>by show fF (fL l)=_;rw[mo l];rfl
noncomputable def BD (b k:Nat):Nat->List En
 |0=>[]
 |c+1=>⟨false,b,some k⟩::BD b (k+1) c
noncomputable def gZ (b k c:Nat):M (List Value):=fun h n=>match c with
 |0=>some ⟨[],h,n,[]⟩
 |c+1=>match bI (fF b) n with
  |true=>match iR h b with
   |some B=>match bI (gK k (c+1)) (fL B.cells)with
    |true=>some ⟨(B.cells.drop k).take (c+1),h,n,BD b k (c+1)⟩
    |false=>none
   |none=>none
  |false=>none
theorem NU(b:Nat)(h:H)(n:Nat):∀c k:Nat,gZ b k c h n=cR b k c h n
 |0,_=>rfl
 |c+1,k=>by
  have p:=NU b h n c (k+1);have s:cR b k (c+1) h n=((rd b k).bind fun v=>(cR b (k+1) c).bind fun o=>M.ret (v::o)) h n:=rfl;rw[s];unfold M.bind;cases f:bI (fF b) n with
  |false=>
   have d:¬b<n:=fun q=>by rw[lQ q]at f;cases f
   have a:rd b k h n=none:=by unfold rd;rw[if_neg d]
   have l:gZ b k (c+1) h n=none:=by unfold gZ;simp only[f]
   rw[l];simp only[a]
  |true=>
   have d:b<n:=gJ f;cases g:h.get b with
   |none=>
    have a:rd b k h n=none:=by unfold rd;rw[if_pos d,g]
    have l:gZ b k (c+1) h n=none:=by unfold gZ;simp only[f,rE,g]
    rw[l];simp only[a]
   |some B=>
    cases i:B.cells[k]? with
    |none=>
     have r:B.cells.length<=k:=List.getElem?_eq_none_iff.1 i
     have j:bI (gK k (c+1)) (fL B.cells)=false:=by
      rw[mo];cases j:bI (gK k (c+1)) B.cells.length with
      |false=>rfl
      |true=>have:=gJ j;have e:gK k (c+1)=k+(c+1):=rfl;omega
     have a:rd b k h n=none:=by unfold rd;rw[if_pos d,g];simp only[i]
     have l:gZ b k (c+1) h n=none:=by unfold gZ;simp only[f,rE,g,j]
     rw[l];simp only[a]
    |some v=>
     have m:k<B.cells.length:=(List.getElem?_eq_some_iff.1 i).1
     have hd:B.cells.drop k=v::B.cells.drop (k+1):=by rw[List.drop_eq_getElem_cons m];rw[bB m]at i;cases i;rfl
     have a:rd b k h n=some ⟨v,h,n,[⟨false,b,some k⟩]⟩:=by unfold rd;rw[if_pos d,g];simp only[i]
     simp only[a,<-p]
     match c with
     |0=>
      have j:bI (gK k (0+1)) (fL B.cells)=true:=by rw[mo];exact lQ (by show k+1<=_;omega)
      unfold gZ;simp only[f,rE,g,j,hd];simp[BD,M.ret]
     |c+1=>
      have e:gK k (c+1+1)=gK (k+1) (c+1):=by show k+(c+1+1)=k+1+(c+1);omega
      unfold gZ;simp only[f,rE,g,e];cases bI (gK (k+1) (c+1)) (fL B.cells)with
      |false=>rfl
      |true=>simp only[M.ret,hd,List.take_succ_cons];simp[BD]
theorem mq:gZ=cR:=by funext b k c h n;exact NU b h n c k
noncomputable def j8:List Value->Option (List UInt8)
 |[]=>some []
 | .int .u8 n::r=>match j8 r with
   |some l=>some (gU n.toNat::l)
   |none=>none
 |_=>none
theorem acJ:∀(vs:List Value) (acc:List UInt8),bytesOf vs ⟨⟨acc⟩⟩=(j8 vs).map fun l=>⟨⟨acc++l⟩⟩:=by
 intro vs
 induction vs with
 |nil=>intro acc;simp[bytesOf,j8]
 |cons v r a=>
  intro acc;cases v<;>try rfl
  rename_i k n;cases k<;>try rfl
  show bytesOf r (aa4 ⟨⟨acc⟩⟩ (gU n.toNat))=Option.map _ (match j8 r with
   |some l=>some (gU n.toNat::l)
   |none=>none)
  have e:(aa4 ⟨⟨acc⟩⟩ (gU n.toNat))=⟨⟨acc++[gU n.toNat]⟩⟩:=by apply ByteArray.ext;simp[aa4]
  rw[e,a];cases j8 r with
  |none=>rfl
  |some l=>simp
noncomputable def NW:Value->M Value
 | .slice (some ⟨b,a,none⟩) len _=>(gZ b a len).bind fun c=>match j8 c with
   |some l=> .ret (.string ⟨⟨l⟩⟩)
   |none=> .fail
 |x=>mQ x
theorem acK:NW=mQ:=by
 funext x;unfold NW;split
 ·rename_i b d len c;unfold mQ;rw[mq];congr 1;funext a;have:=acJ a [];have e:(apg)=⟨⟨[]⟩⟩:=rfl;rw[e,this];cases j8 a with
  |none=>rfl
  |some l=>simp
 ·rfl
noncomputable def rG (sz:Nat) (n:Nat):Value->M (List Value)
 | .slice (some ⟨b,a,none⟩) _ _=>gZ b a (n*sz)
 | .string ⟨⟨l⟩⟩=> .ret ((l.take n).map fun b=>eJ .u8 (.ofNat b.toNat))
 |_=> .fail
theorem qp:rG=kF:=by
 funext d n x;cases x<;>try rfl
 ·rename_i s;obtain⟨⟨l⟩⟩:=s;unfold rG kF;simp only;congr 1;simp[aaX]
 ·rename_i a len cap;cases a with
  |none=>rfl
  |some a=>
   obtain⟨b,c,p⟩:=a;cases p with
   |none=>unfold rG kF;rw[mq]
   |some p=>rfl
noncomputable def over:List Value->List Value->List Value
 |[],a=>a
 |x::l,a=>match a with
  |[]=>[]
  |_::a=>x::over l a
noncomputable def ph:List Value->Nat->List Value->List Value
 |cs,0,l=>over l cs
 |[],_+1,_=>[]
 |a::cs,b+1,l=>a::ph cs b l
noncomputable def nK:List Value->Nat->List Value->List Value
 |cs,_,[]=>cs
 |cs,a,x::l=>nK (cs.set a x) (a+1) l
theorem Gp(a:Value):∀(l cs:List Value) (off:Nat),nK (a::cs) (off+1) l=a::nK cs off l
 |[],_,_=>rfl
 |x::l,cs,off=>by show nK ((a::cs).set (off+1) x) (off+1+1) l=a::nK (cs.set off x) (off+1) l;rw[List.set_cons_succ];exact Gp a l _ _
theorem Gq:∀(l:List Value) (off:Nat),nK [] off l=[]
 |[],_=>rfl
 |x::l,off=>by show nK (([]:List Value).set off x) (off+1) l=[];rw[List.set_nil];exact Gq l _
theorem Gr:∀(l cs:List Value),over l cs=nK cs 0 l
 |[],_=>rfl
 |x::l,[]=>by rw[Gq];rfl
 |x::l,c::cs=>by show x::over l cs=nK ((c::cs).set 0 x) (0+1) l;rw[List.set_cons_zero,Gp,Gr l cs]
theorem Gs:∀(off:Nat) (cs l:List Value),ph cs off l=nK cs off l
 |0,cs,l=>by
  have:ph cs 0 l=over l cs:=by cases cs<;>rfl
  rw[this];exact Gr l cs
 |off+1,[],l=>by rw[Gq];rfl
 |off+1,a::cs,l=>by rw[Gp];show a::ph cs off l=_;rw[Gs off cs l]
theorem NX(off:Nat):∀(l:List Value) (j:Nat) (cells:Array Value),((l.zipIdx j).foldl (fun cs (x:Value×Nat)=>cs.setIfInBounds (off+x.2) x.1) cells).toList=nK cells.toList (off+j) l
 |[],_,_=>rfl
 |x::l,j,cells=>by rw[List.zipIdx_cons,List.foldl_cons,NX off l (j+1)];rw[Array.toList_setIfInBounds];rfl
noncomputable def dy:Value->List Value
 | .agg ⟨l⟩=>l
 |v=>[v]
theorem nL(v:Value):dy v=v.cells.toList:=by cases v<;>rfl
noncomputable def rH (a:Nat->Option (Nat×Nat)) (cells:List Value):List (Nat×Value)->Option (List Value)
 |[]=>some cells
 |(i,v)::rest=>match a i with
  |none=>none
  |some (c,b)=>match bY (fL (dy v)) b&&bI (gK c (fL (dy v))) (fL cells)with
   |true=>rH a (ph cells c (dy v)) rest
   |false=>none
theorem BE(a:Nat->Option (Nat×Nat)):∀(b:List (Nat×Value)) (cells:Array Value),rH a cells.toList b=(lP a cells b).map (·.toList)
 |[],_=>rfl
 |(i,v)::rest,cells=>by
  unfold rH lP;cases a i with
  |none=>rfl
  |some q=>
   obtain⟨c,f⟩:=q;simp only;rw[mo,mo,nL,rD,qo];have j:v.cells.toList.length=v.cells.size:=jS;have h:cells.toList.length=cells.size:=jS;rw[j,h];by_cases e:v.cells.size=f
   ·by_cases g:c+v.cells.size<=cells.size
    ·have d:gK c v.cells.size<=cells.size:=g;have k:¬c+v.cells.size>cells.size:=jO;rw[if_neg (by simp[e];omega)];simp only[e,d,decide_true,Bool.and_true];rw[<-e];simp only[d,decide_true,Mn];rw[<-BE a rest];congr 1;rw[Gs];have:=NX c v.cells.toList 0 cells;rw[iO]at this;rw[<-this];congr 1;rw[<-Array.foldl_toList,Array.toList_zipIdx]
    ·have d:¬gK c v.cells.size<=cells.size:=g;rw[if_pos (by simp[e];omega)];simp[g,d]
   ·rw[if_pos (by simp[e])];simp[e]
noncomputable def tz (v:Value) (n:Nat):List Value:=aa3 (motive:=fun _=>List Value) [] (fun _ a=>v::a) n
theorem yh(v:Value):∀n:Nat,tz v n=List.replicate n v
 |0=>rfl
 |n+1=>by show v::tz v n=_;rw[yh v n];rfl
noncomputable def qq (a b:List Value):List Value:=AO (motive:=fun _=>List Value) b (fun v _ c=>v::c) a
noncomputable def tA (n b:Nat) (L L2:List En):List En:=AO (motive:=fun _=>List En) L2 (fun e _ a=>match bI n e.b with
 |true=>(match bI (fF e.b) b with
  |true=>a
  |false=>e::a)
 |false=>e::a) L
theorem NY(n a:Nat)(L2:List En):∀L:List En,tA n a L L2=(L.filter fun e=> !(decide (n<=e.b)&&decide (e.b<a)))++L2
 |[]=>rfl
 |e::L=>by
  show(match bI n e.b with
   |true=>(match bI (fF e.b) a with
    |true=>tA n a L L2
    |false=>e::tA n a L L2)
   |false=>e::tA n a L L2)=_
  rw[NY n a L2 L,List.filter_cons,qo,qo];by_cases d:n<=e.b
  ·by_cases b:e.b<a
   ·have c:e.b.succ<=a:=b;simp[d,b,c]
   ·have c:¬e.b.succ<=a:=b;simp[d,b,c]
  ·simp[d]
noncomputable def eA {d c:Type} (m:M d) (k:d->M c):M c:=fun h n=>match m h n with
 |some ⟨a,i,e,L⟩=>(match k a i e with
  |some ⟨b,g,f,j⟩=>some ⟨b,g,f,tA n e L j⟩
  |none=>none)
 |none=>none
theorem lT{b d:Type}(m:M b)(k:b->M d):eA m k=(inside m).bind k:=by
 funext h n;unfold eA M.bind inside;cases c:m h n with
 |none=>simp only[c]
 |some o=>obtain⟨a,f,e,L⟩:=o;simp only[c,NY];rfl
noncomputable def qt (p:En->Bool) (L:List En):Bool:=AO (motive:=fun _=>Bool) false (fun e _ a=>match p e with
 |true=>true
 |false=>a) L
theorem Gu(p:En->Bool):∀L:List En,qt p L=L.any p
 |[]=>rfl
 |e::L=>by
  show(match p e with
   |true=>true
   |false=>qt p L)=_
  rw[Gu p L,List.any_cons];cases p e<;>rfl
noncomputable def vO (a b:Bool):Bool:=match a with
 |true=>b
 |false=>false
theorem NZ(a b:Bool):vO a b=(a&&b):=by cases a<;>rfl
noncomputable def BF (x y:En):Bool:=match bY x.b y.b with
 |true=>(x.k==y.k||x.k.isNone||y.k.isNone)
 |false=>false
theorem acL(x y:En):BF x y=x.meets y:=by
 unfold BF En.meets;rw[rD];by_cases h:x.b=y.b
 ·simp[h]
 ·have:(x.b==y.b)=false:=by simpa using h
  simp[h]
noncomputable def bP (a b:Tk):Bool:=
 match qt (fun x=>vO x.wr (qt (fun y=>BF x y) b.log)) a.log with
 |true=>true
 |false=>match qt (fun x=>vO x.wr (qt (fun y=>BF x y) a.log)) b.log with
  |true=>true
  |false=>match qt (fun x=>vO (bI b.n x.b) (bI (fF x.b) b.n1)) a.log with
   |true=>true
   |false=>qt (fun x=>vO (bI a.n x.b) (bI (fF x.b) a.n1)) b.log
theorem tB(a b:Tk):bP a b=a.cy b:=by
 have c:∀(n d:Nat) (L:List En),(qt (fun x=>vO (bI n x.b) (bI (fF x.b) d)) L)=L.any fun x=>decide (n<=x.b)&&decide (x.b<d):=fun n d L=>by rw[Gu];congr 1;funext x;rw[NZ,qo,qo];rfl
 unfold bP Tk.cy;rw[c,c];simp only[Gu,NZ,acL];cases (a.log.any fun x=>x.wr&&b.log.any fun y=>x.meets y)<;>cases (b.log.any fun x=>x.wr&&a.log.any fun y=>x.meets y)<;>cases (a.log.any fun x=>decide (b.n<=x.b)&&decide (x.b<b.n1))<;>simp
noncomputable section
variable {β:Type}
def kL(f:IntKind->Int->Int->Value)(x y:Value)(k:Value->M β):M β:=match x with
 | .int a p=>match y with
   | .int b q=>match pf a b with
     |true=>k (f a p q)
     |false=> .fail
   |_=> .fail
 |_=> .fail
def tC(f:Nat->Nat->Nat)(x y:Value)(k:Value->M β):M β:=match x with
 | .int a (.ofNat p)=>match y with
   | .int b (.ofNat q)=>match pf a b with
     |true=>k (.int a (nI a (.ofNat (f (j2 p (pw a)) (j2 q (pw a))))))
     |false=> .fail
   |_=> .fail
 |_=> .fail
def aq(x y:Value)(k:Value->M β):M β:=match x with
 | .string ⟨⟨a⟩⟩=>match y with
   | .string ⟨⟨b⟩⟩=>match bI (gK (jt a) (jt b)) 9223372036854775807 with
     |true=>k (.string ⟨⟨Bu a b⟩⟩)
     |false=> .fail
   |_=> .fail
 |x=>kL (fun k a b=> .int k (nI k (Bo a b))) x y k
def cO(x y:Value)(k:Value->M β):M β:=kL (fun k a b=> .int k (nI k (Bp a b))) x y k
def dR(x y:Value)(k:Value->M β):M β:=kL (fun k a b=> .int k (nI k (Gc a b))) x y k
def cH(x y:Value)(k:Value->M β):M β:=match x with
 | .string ⟨⟨a⟩⟩=>match y with
   | .string ⟨⟨b⟩⟩=>k (.bool (qm a b))
   |_=> .fail
 |x=>kL (fun _ a b=> .bool (pd a b)) x y k
def fG(x y:Value)(k:Value->M β):M β:=match x with
 | .string ⟨⟨a⟩⟩=>match y with
   | .string ⟨⟨b⟩⟩=>k (.bool (!qm a b))
   |_=> .fail
 |x=>kL (fun _ a b=> .bool (!pd a b)) x y k
def dV(x y:Value)(k:Value->M β):M β:=match x with
 | .string ⟨⟨a⟩⟩=>match y with
   | .string ⟨⟨b⟩⟩=>k (.bool (apu a b))
   |_=> .fail
 |x=>kL (fun _ a b=> .bool (vK a b)) x y k
def mr(x y:Value)(k:Value->M β):M β:=kL (fun _ a b=> .bool (Br a b)) x y k
def jh(x y:Value)(k:Value->M β):M β:=kL (fun _ a b=> .bool (vK b a)) x y k
def qu(x y:Value)(k:Value->M β):M β:=kL (fun _ a b=> .bool (Br b a)) x y k
def yi(x y:Value)(k:Value->M β):M β:=tC Nat.land x y k
def yk(x y:Value)(k:Value->M β):M β:=tC Nat.lor x y k
def nN(x y:Value)(k:Value->M β):M β:=tC Nat.xor x y k
def mv(x y:Value)(k:Value->M β):M β:=match x with
 | .int a (.ofNat p)=>match y with
   | .int _ (.ofNat q)=>k (.int a (nI a (.ofNat (Mz p (an6 2 (Nat.min q a.bits))))))
   |_=> .fail
 |_=> .fail
def pj(x y:Value)(k:Value->M β):M β:=match x with
 | .int a (.ofNat p)=>match y with
   | .int _ (.ofNat q)=>k (.int a (.ofNat (kE p (an6 2 (Nat.min q a.bits)))))
   |_=> .fail
 |_=> .fail
def iS(x y:Value)(k:Value->M β):M β:=match x with
 | .int a p=>match y with
   | .int b q=>match pf a b with
     |true=>match pd q 0 with
      |true=> .fail
      |false=>k (.int a (nI a (Int.tdiv p q)))
     |false=> .fail
   |_=> .fail
 |_=> .fail
def kN(x y:Value)(k:Value->M β):M β:=match x with
 | .int a p=>match y with
   | .int b q=>match pf a b with
     |true=>match pd q 0 with
      |true=> .fail
      |false=>k (.int a (Int.tmod p q))
     |false=> .fail
   |_=> .fail
 |_=> .fail
def BG(x y:Value)(k:Value->M β):M β:=match x with
 | .bool a=>match y with
   | .bool b=>k (.bool (match a with
     |true=>b
     |false=> !b))
   |_=> .fail
 |_=> .fail
def yl(x y:Value)(k:Value->M β):M β:=match x with
 | .bool a=>match y with
   | .bool b=>k (.bool (match a with
     |true=> !b
     |false=>b))
   |_=> .fail
 |_=> .fail
def BH(f:Bool->Bool)(x y:Value)(k:Value->M β):M β:=match x with
 | .pointer none=>match y with
   | .pointer b=>k (.bool (f b.isNone))
   |_=> .fail
 | .pointer (some _)=>match y with
   | .pointer none=>k (.bool (f false))
   |_=> .fail
 |_=> .fail
def BI(f:Bool->Bool)(x y:Value)(k:Value->M β):M β:=match x with
 | .slice none _ _=>match y with
   | .slice b _ _=>k (.bool (f b.isNone))
   |_=> .fail
 | .slice (some _) _ _=>match y with
   | .slice none _ _=>k (.bool (f false))
   |_=> .fail
 |_=> .fail
def BJ(f:Bool->Bool)(x y:Value)(k:Value->M β):M β:=match x with
 | .nilFunc=>match y with
   | .nilFunc=>k (.bool (f true))
   | .func _ _ _=>k (.bool (f false))
   |_=> .fail
 | .func _ _ _=>match y with
   | .nilFunc=>k (.bool (f false))
   |_=> .fail
 |_=> .fail
def Gv(a:List Nat)(x y:Value)(k:Value->M β):M β:=match x with
 | .agg ⟨l⟩=>match y with
   | .agg ⟨m⟩=>match lA a l m with
     |some b=>k (.bool b)
     |none=> .fail
   |_=> .fail
 |_=> .fail
def N0(a:List Nat)(x y:Value)(k:Value->M β):M β:=match x with
 | .agg ⟨l⟩=>match y with
   | .agg ⟨m⟩=>match lA a l m with
     |some b=>k (.bool !b)
     |none=> .fail
   |_=> .fail
 |_=> .fail
def qv(x y:Value)(k:Value->M β):M β:=BH (fun b=>b) x y k
def ym(x y:Value)(k:Value->M β):M β:=BH (fun b=> !b) x y k
def yn(x y:Value)(k:Value->M β):M β:=BI (fun b=>b) x y k
def yo(x y:Value)(k:Value->M β):M β:=BI (fun b=> !b) x y k
def Gw(x y:Value)(k:Value->M β):M β:=BJ (fun b=>b) x y k
def Gx(x y:Value)(k:Value->M β):M β:=BJ (fun b=> !b) x y k
def dC(x:Value)(k:Value->M β):M β:=match x with
 | .bool b=>k (.bool (!b))
 |_=> .fail
def BK(x:Value)(k:Value->M β):M β:=match x with
 | .int a p=>k (.int a (nI a (Bp 0 p)))
 |_=> .fail
def BL(x:Value)(k:Value->M β):M β:=match x with
 | .int .u32 (.ofNat p)=>match bI p 4294967295 with
   |true=>k (.int .u32 (.ofNat (Fz 4294967295 p)))
   |false=> .fail
 |_=> .fail
def dh(a:IntKind)(x:Value)(k:Value->M β):M β:=match x with
 | .int _ p=>k (.int a (nI a p))
 |_=> .fail
def N2(x:Value)(k:Value->M β):M β:=match x with
 | .string s=>k (.string s)
 |_=> .fail
def bA(x:Value)(k:Value->M β):M β:=match x with
 | .slice _ n _=>k (.int .i64 (.ofNat n))
 |_=> .fail
def bH(x:Value)(k:Value->M β):M β:=match x with
 | .string ⟨⟨l⟩⟩=>k (.int .i64 (.ofNat (jt l)))
 |_=> .fail
def kO(x y:Value)(k:Value->M β):M β:=match x with
 | .int a p=>match y with
   | .int _ q=>k (.int a (match vK q p with
     |true=>q
     |false=>p))
   |_=> .fail
 |_=> .fail
def N3(x y z u v w:Value)(k:Value->M β):M β:=kO x y fun a=>kO a z fun a=>kO a u fun a=>kO a v fun a=>kO a w k
def nO(x y:Value)(k:Value->M β):M β:=match x with
 | .int a p=>match y with
   | .int _ q=>k (.int a (match vK p q with
     |true=>q
     |false=>p))
   |_=> .fail
 |_=> .fail
def Gy(c a b:Value)(k:Value->M β):M β:=match c with
 | .bool true=>k a
 | .bool false=>k b
 |_=> .fail
def ak(x:Value)(k:Value->M β):M β:=match x with
 | .pointer (some a)=>k (.pointer (some a))
 | .func (.func f) a b=>k (.func (.func f) a b)
 |_=> .fail
def ay(K:Nat)(x:Value)(k:Value->M β):M β:=match x with
 | .pointer (some ⟨b,a,none⟩)=>k (.pointer (some ⟨b,gK a K,none⟩))
 |_=> .fail
def Gz(K:Nat)(x:Value)(k:Value->M β):M β:=match x with
 | .agg ⟨l⟩=>match rF l K with
   |some v=>k v
   |none=> .fail
 |_=> .fail
def GA(K m:Nat)(x:Value)(k:Value->M β):M β:=match x with
 | .agg ⟨l⟩=>k (.agg ⟨(l.drop K).take m⟩)
 |_=> .fail
def bQ(x c:Value)(k:Value->M β):M β:=match x with
 | .slice (some ⟨b,a,none⟩) n _=>match c with
   | .int _ (.ofNat i)=>match bI (fF i) n with
     |true=>k (.pointer (some ⟨b,gK a i,none⟩))
     |false=> .fail
   |_=> .fail
 |_=> .fail
def mw(sz:Nat)(x c:Value)(k:Value->M β):M β:=match x with
 | .slice (some ⟨b,a,none⟩) n _=>match c with
   | .int _ (.ofNat i)=>match bI (fF i) n with
     |true=>k (.pointer (some ⟨b,gK a (Mz i sz),none⟩))
     |false=> .fail
   |_=> .fail
 |_=> .fail
def gN(n:Nat)(x c:Value)(k:Value->M β):M β:=match x with
 | .pointer (some ⟨b,a,none⟩)=>match c with
   | .int _ (.ofNat i)=>match bI (fF i) n with
     |true=>k (.pointer (some ⟨b,gK a i,none⟩))
     |false=> .fail
   |_=> .fail
 |_=> .fail
def BM(n sz:Nat)(x c:Value)(k:Value->M β):M β:=match x with
 | .pointer (some ⟨b,a,none⟩)=>match c with
   | .int _ (.ofNat i)=>match bI (fF i) n with
     |true=>k (.pointer (some ⟨b,gK a (Mz i sz),none⟩))
     |false=> .fail
   |_=> .fail
 |_=> .fail
def cU(x a:Value)(k:Value->M β):M β:=match x with
 | .string ⟨⟨l⟩⟩=>match a with
   | .int _ (.ofNat i)=>match qn l i with
     |some c=>k (.int .u8 (.ofNat c.toNat))
     |none=> .fail
   |_=> .fail
 |_=> .fail
def vP(n:Nat)(x a:Value)(k:Value->M β):M β:=match x with
 | .agg ⟨l⟩=>match a with
   | .int _ (.ofNat i)=>match bI (fF i) n with
     |true=>match rF l i with
      |some v=>k v
      |none=> .fail
     |false=> .fail
   |_=> .fail
 |_=> .fail
def aU(x:Value)(i:Nat)(k:Value->M β):M β:=match x with
 | .tuple ⟨l⟩=>match rF l i with
   |some v=>k v
   |none=> .fail
 |_=> .fail
def qw(o:Option Value)(d:Nat):Option Nat:=match o with
 |none=>some d
 |some (.int _ (.ofNat i))=>some i
 |_=>none
def bL(x:Value)(lo c:Option Value)(k:Value->M β):M β:=match x with
 | .string ⟨⟨l⟩⟩=>match qw lo 0 with
   |some a=>match qw c (jt l)with
    |some b=>match bI a b with
     |true=>match bI b (jt l)with
      |true=>k (.string ⟨⟨(l.drop a).take (Fz b a)⟩⟩)
      |false=> .fail
     |false=> .fail
    |none=> .fail
   |none=> .fail
 |_=> .fail
def aP(x:Value)(k:Value->M β):M β:=match x with
 | .pointer (some ⟨b,a,none⟩)=>eA (vM b a) k
 |_=> .fail
def bc(sz:Nat)(x:Value)(k:Value->M β):M β:=match x with
 | .pointer (some ⟨b,a,none⟩)=>eA ((gZ b a sz).bind fun c=> .ret (.agg ⟨c⟩)) k
 |_=> .fail
def aJ(a x:Value)(k:Value->M β):M β:=match a with
 | .pointer (some ⟨b,c,none⟩)=>match one x with
   |true=>eA ((tu b c x).bind fun _=> .ret undef) k
   |false=> .fail
 |_=> .fail
def aQ(sz:Nat)(a x:Value)(k:Value->M β):M β:=match a with
 | .pointer (some ⟨b,c,none⟩)=>match x with
   | .agg ⟨l⟩=>match bY (fL l) sz with
     |true=>eA ((nJ b c l).bind fun _=> .ret undef) k
     |false=> .fail
   |_=> .fail
 |_=> .fail
def cC(e:TypeId)(z:List Value)(k:Value->M β):M β:=eA ((jM e z).bind fun id=> .ret (.pointer (some ⟨id,0,none⟩))) k
def dW(e:TypeId)(v:Value)(k:Value->M β):M β:=eA ((jM e (dy v)).bind fun id=> .ret (.pointer (some ⟨id,0,none⟩))) k
def fN:List Value->List (Nat×Nat×Value)->Option (List Value)
 |cs,[]=>some cs
 |cs,q::r=>match bY (fL (dy q.2.2)) q.2.1 with
  |true=>match bI (gK q.1 (fL (dy q.2.2))) (fL cs)with
   |true=>fN (ph cs q.1 (dy q.2.2)) r
   |false=>none
  |false=>none
def bp(z:List Value)(ps:List (Nat×Nat×Value))(k:Value->M β):M β:=match fN z ps with
 |some a=>k (.agg ⟨a⟩)
 |none=> .fail
def bO(e:TypeId)(sz:Nat)(v:Value)(k:Value->M β):M β:=match bY (fL (dy v)) sz with
 |true=>eA ((jM e (dy v)).bind fun id=> .ret (.slice (some ⟨id,0,none⟩) 1 1)) k
 |false=> .fail
def vQ(e:TypeId)(z:List Value)(len:Nat)(ps:List (Nat×Nat×Value))(k:Value->M β):M β:=match fN z ps with
 |some a=>eA ((jM e a).bind fun id=> .ret (.slice (some ⟨id,0,none⟩) len len)) k
 |none=> .fail
def kP(z:List Value):Nat->List Value
 |0=>[]
 |n+1=>qq z (kP z n)
def po(e:TypeId)(z:List Value)(l c:Value)(k:Value->M β):M β:=match l with
 | .int _ (.ofNat l)=>match c with
   | .int _ (.ofNat c)=>match bI l c with
     |true=>match bI c 1099511627776 with
      |true=>eA ((jM e (kP z c)).bind fun id=> .ret (.slice (some ⟨id,0,none⟩) l c)) k
      |false=> .fail
     |false=> .fail
   |_=> .fail
 |_=> .fail
def pq(sz:Nat)(a:Option Addr)(len cap:Nat)(lo d:Option Value):Option Value:=match ej d len,ej lo 0 with
 |some h,some l=>
  if l<=h&&h<=cap&&cap<=cap&&(cap<bo||((none:Option Value).isNone&&h<=len))then
   match a with
   |none=>some (.slice none (h-l) (cap-l))
   |some ⟨b,c,none⟩=>some (.slice (some ⟨b,if cap=l then c else c+l*sz,none⟩) (h-l) (cap-l))
   |_=>none
  else none
 |_,_=>none
def nQ(e:TypeId)(sz:Nat)(x:Value)(lo c:Option Value)(k:Value->M β):M β:=match x with
 | .slice none len cap=>match pq sz none len cap lo c with
   |some v=>k v
   |none=> .fail
 | .slice (some ⟨b,a,none⟩) len cap=>eA ((yf b).bind fun d=>match bY d e with
   |true=>M.lift (pq sz (some ⟨b,a,none⟩) len cap lo c)
   |false=> .fail) k
 |_=> .fail
def yp(e:TypeId)(n sz b off l cap:Nat)(c:List Value):M Value:=
 if cap<bo then
  if l+n<=cap then(nJ b (off+l*sz) c).bind fun _=> .ret (.slice (some ⟨b,off,none⟩) (l+n) cap)
  else(gZ b off (l*sz)).bind fun a=>(jM e (a++c)).bind fun id=> .ret (.slice (some ⟨id,0,none⟩) (l+n) (bo+(l+n)))
 else(gZ b off (l*sz)).bind fun a=>(Gm b).bind fun _=>(jM e (a++c)).bind fun id=> .ret (.slice (some ⟨id,0,none⟩) (l+n) (bo+(l+n)))
def mz(e:TypeId)(sz:Nat)(s x:Value):M Value:=match iz x with
 |some n=>
  if n=0 then(match s with| .slice _ _ _=> .ret s|_=> .fail)else
  match s with
  | .slice none 0 0=>if n<=1099511627776 then(rG sz n x).bind fun a=>if a.length=n*sz&&a.all one then(jM e ([]++a)).bind fun id=> .ret (.slice (some ⟨id,0,none⟩) (0+n) (bo+(0+n)))else .fail else .fail
  | .slice (some ⟨b,c,none⟩) l cap=>
    if l+n<=1099511627776 then
    (yf b).bind fun d=>if d=e then
      (rG sz n x).bind fun a=>if a.length=n*sz&&a.all one then yp e n sz b c l cap a else .fail
    else .fail
    else .fail
  |_=> .fail
 |none=> .fail
def bN(e:TypeId)(sz:Nat)(s x:Value)(k:Value->M β):M β:=eA (mz e sz s x) k
def tD(sz:Nat)(d s:Value):M Value:=match d,iz s with
 | .slice a f _,some c=>
   if 0<Nat.min c f then(match a with
    |some ⟨b,e,none⟩=>(rG sz (Nat.min c f) s).bind fun g=>(nJ b e g).bind fun _=> .ret (.int .i64 (Nat.min c f))
    |_=> .fail)
   else .ret (.int .i64 0)
 |_,_=> .fail
def BN(sz:Nat)(d s:Value)(k:Value->M β):M β:=eA (tD sz d s) k
def hC(x:Value)(k:Value->M β):M β:=match x with
 | .slice (some ⟨b,a,none⟩) len _=>eA ((gZ b a len).bind fun c=>match j8 c with
   |some l=> .ret (.string ⟨⟨l⟩⟩)
   |none=> .fail) k
 | .slice none _ _=>k (.string ⟨⟨[]⟩⟩)
 |_=> .fail
def vR(e:TypeId)(x:Value)(k:Value->M β):M β:=match x with
 | .string ⟨⟨l⟩⟩=>match bI (jt l) 1099511627776 with
   |true=>eA ((jM e (l.map fun b=>eJ .u8 (.ofNat b.toNat))).bind fun id=> .ret (.slice (some ⟨id,0,none⟩) (jt l) (bo+jt l))) k
   |false=> .fail
 |_=> .fail
def ai(R:FuncId->Array Value->M Value)(f:FuncId)(vs:List Value)(k:Value->M β):M β:=eA (R f ⟨vs⟩) k
end
end Go.Proofs.YtmjolmggelkjlaaGreat.Ev
