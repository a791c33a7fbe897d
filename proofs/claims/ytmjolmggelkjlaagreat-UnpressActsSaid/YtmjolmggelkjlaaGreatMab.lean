import Derived.Test.YtmjolmggelkjlaaGreatMaa
import Derived.Laws.StructEq
open Nat renaming le_refl→ah, ble→bG, beq→bV, lt_succ_self→dO, zero_add→fy, succ→fz, lt_of_lt_of_le→fP, le_of_ble_eq_true→gC, add→gD, add_zero→jd, mod→jW, div→kj, eq_of_beq_eq_true→kO, ble_eq_true_of_le→lF, add_mul→oH, pred→qO, sub→E5, mul→LH, eq_zero_or_pos→ZM, ne_of_beq_eq_false→ZW, rec→ZX, pow→amM
open List renaming getElem?_eq_getElem→bA, length_append→bE, all_eq_true→Am, rec→Ap, any_nil→E1, map_map→LC, mapM_cons→amm, tail→amC, tail_drop→amD
open Bool renaming and_eq_true→bW, or_eq_true→oD, false_eq_true→oF, or_eq_false_iff→xf, not_eq_true'→Ao, and_false→E2, or_false→E3, false_or→ZK
open Option.some renaming injEq→dx
open Go.Op renaming operands→dG, equal→qN, equalIn→uU, eqFields→amB
open Go.Sem renaming run_bind→eF, run_pure→m6, bind→xe
open Go.Value renaming int→eJ
open Go.Result renaming andThen→fg
open Go.Region renaming wanted→gh
open UInt8 renaming ofNat→gP
open Go.Builtin renaming firstCells→kg, append_→xm, zeroCells→EY, copy_→EZ, len_→LD, lenOf→ZQ
open Go.Instr renaming fill→lE, index→An
open Array renaming toList_map→pR, getElem?_toList→E0, ext'→Lw, mem_append→amF
open Go.RowKit.Below renaming refl→qK
open Go.Call renaming operands→uQ
open Option renaming map_some→Aj, mem_def→ZS
open Go.IntKind renaming bits→E4, wrap→ZU, signed→ZV
open Function renaming comp_def→LB
open Go.Question renaming cut→ZO, forced→amr
open ByteArray renaming data_extract→ZR, push→ZY, empty→anZ
open Go.World renaming cell?→amb
open Int renaming negSucc→amH
open Go.Deferred renaming ofValue→anW
open Int.ofNat renaming inj→anX
open List.cons renaming inj→anY
set_option linter.unusedVariables false
set_option linter.unusedSimpArgs false
namespace Go.Proofs.YtmjolmggelkjlaaGreat.Ev
open Go Go.RowKit
section
variable {P:Program} {base:Nat} {m:Mp} {w:World} {h h1:H} {n n1:Nat} {r:Value} {L:List En}
theorem p'{x a:Value}{k:Nat}(c:VR m x a)(b:ic x=some k)(w:World):(ZQ a).run P w= .ok k w:=by cases c<;>simp[ic]at b<;>subst b<;>rfl
theorem FB{sz k u:Nat}{x B:Value}{vs:List Value}(C:VR m x B)(q:ic x=some k)(G:0<k)(wr:WR P m base h w.heap)(g:kp sz u x h n=some ⟨vs,h1,n1,L⟩):
 h1=h∧n1=n∧∃a,bp m vs a∧∀e:World,e.heap=w.heap->(kg sz u B).run P e= .ok a.toArray e:=by
 unfold kp at g;split at g
 ·rename_i b t l c;simp[ic]at q;subst q;cases C with
  |@gp _ _ _ _ D I d hd E O N K J=>
   obtain⟨rfl,rfl,p,a,f,A⟩:=qZ wr hd g;refine⟨rfl,rfl,a,f,fun e y=> ?_⟩;have z:a.length=u*sz:=by rw[<-f.length,p]
   have:=vk (P:=P) (w:=e) (c:=d.bc) (o:=d.sh+t) (vs:=a) (fun j v r=>by
    have:=A j v r;unfold amb at this⊢
    rw[y];exact this)
   rw[z]at this;simp only[kg,E (.inl G)];exact this
 ·rename_i s;simp[ic]at q;subst q;cases C;obtain⟨rfl,rfl,rfl⟩:=bK g
  refine⟨rfl,rfl,_,bp.lY rfl (fun j v r=>⟨v,r, ?_⟩),fun e _=>by
   simp[kg];apply Lw
   simp⟩
  have i:=List.mem_of_getElem? r;simp only[ZR,Array.map_extract,Array.toList_extract,List.extract_eq_take_drop,List.drop_zero,pR]at i;have i:=List.mem_of_mem_take i;simp at i;obtain⟨b,_,rfl⟩:=i;exact .int _ _
 ·cases g
theorem aaW{c o:Nat}{e:TypeId}{lo k:Nat}:∀(vs:List Value) (i:Nat) (w:World) (cs:Array Value),w.heap[c]? =some (.cells cs e (lo,k))->(∀j,j<vs.length->o+i+j<cs.size∧¬(lo<=o+i+j∧o+i+j<k))->(∀v∈vs,Ev.one v=true)->base<=c->
 ∃w' cs',(storeCells ⟨c,o,none⟩ vs i).run P w= .ok () w'∧w'.heap[c]? =some (.cells cs' e (lo,k))∧cs'.size=cs.size∧(∀j,cs'[j]? =if o+i<=j∧j<o+i+vs.length then vs[j-(o+i)]? else cs[j]?)∧(∀b,b≠c->w'.heap[b]? =w.heap[b]?)∧Below base w w':=by
 intro vs
 induction vs with
 |nil=>intro i w cs f _ _ _;exact⟨w,cs,rfl,f,rfl,fun j=>by rw[if_neg jS],fun _ _=>rfl,qK _ _⟩
 |cons v vs m=>
  intro i w cs f d h1 l;obtain⟨a,q⟩:=d 0 jS
  have nm:(w.setCell ⟨c,o+i,none⟩ v).heap[c]? =some (.cells (cs.setIfInBounds (o+i) v) e (lo,k)):=by simp only[World.setCell,Array.getElem?_modify,if_true,f];simp
  obtain⟨w',cs',A,z,y,x,t,s⟩:=m (i+1) (w.setCell ⟨c,o+i,none⟩ v) _ nm (fun j h=>by
   have:=d (j+1) (by simpa using h);rw[show o+(i+1)+j=o+i+(j+1) by omega]
   simpa using this) (fun u n=>h1 u (by simp[n])) l
  refine⟨w',cs', ?_,z,by rw[y];simp,fun j=> ?_,fun b g=> ?_,((qK base w).setCell (p:=⟨c,o+i,none⟩) l _).trans s⟩
  ·unfold storeCells;rw[kW];show(xe (store _ _) _).run P w=_;unfold store;simp only[xe]
   rw[Mu (by rw[vj w _ _ f];simpa using a) (by
    unfold World.frozen?;simp only[f,Bool.and_eq_false_iff,decide_eq_false_iff_not]
    omega) (h1 v jS)]
   exact A
  ·rw[x j];simp only[List.length_cons];by_cases h:o+(i+1)<=j∧j<o+(i+1)+vs.length
   ·rw[if_pos h,if_pos jO];rw[show j-(o+i)=(j-(o+(i+1)))+1 by omega];simp
   ·rw[if_neg h];by_cases r:j=o+i
    ·subst r;rw[if_pos jO];simp at a;simp[a]
    ·rw[if_neg jO,Array.getElem?_setIfInBounds_ne jO]
  ·rw[t b g,Below.heap_setCell w _ _ _ g]
theorem FC {c:Array TypeId} {t u ty e:TypeId} {i:TypeInfo} {x:Value} {k:Nat} {news:List Value} {b off l cap:Nat} {w':World} (f:c[0]? =some t) (d:c[1]? =some u) (n:P.underlying t=some (.slice e)) (m:(∃h,P.underlying u=some (.slice h))∨P.underlying u=some .string) (p:P.info? e=some i)
 (o:(ZQ x).run P w= .ok k w) (a:l+k<=cap) (j:(kg i.size k x).run P w= .ok news.toArray w) (g:(storeCells ⟨b,off+l*i.size,none⟩ news).run P w= .ok () w'):
 (xm c ty #[.slice (some ⟨b,off,none⟩) l cap,x]).run P w= .ok (.slice (some ⟨b,off,none⟩) (l+k) cap) w':=by
 rcases m with ⟨h,hk⟩|hk<;>simp[xm,f,d,run_underlying n,run_underlying hk,sizeOf,typeInfo,p,o,a,j,kW,g]
theorem FD {b:Array TypeId} {t u ty e:TypeId} {i:TypeInfo} {z:Value} {x:Value} {k:Nat} {olds news:List Value} {o:Option Addr} {l cap:Nat} (g:b[0]? =some t) (f:b[1]? =some u) (s:P.underlying t=some (.slice e)) (r:(∃n,P.underlying u=some (.slice n))∨P.underlying u=some .string) (B:P.info? e=some i) (p:i.zero=some z)
 (A:(ZQ x).run P w= .ok k w) (a:cap<l+k) (h:l+k<=1099511627776) (j:i.bytes<=64) (q:(kg i.size k x).run P w.drew= .ok news.toArray w.drew) (v:(kg i.size l (.slice o l cap)).run P w.drew= .ok olds.toArray w.drew):
 (xm b ty #[.slice o l cap,x]).run P w= .ok (.slice (some ⟨w.heap.size,0,none⟩) (l+k) (grownCap w (l+k) cap e))
   (w.drew.alloc (.cells ((olds++news).toArray++EY z.cells (grownCap w (l+k) cap e-(l+k))) e)):=by
 have y:¬(l+k<=cap):=jO;have c:¬(9223372036854775807<((l:Int)+(k:Int))):=jO
 have m:=growslice_fits (need:=l+k) (old:=cap) (bytes:=i.bytes) a (by
  have:=Nat.mul_le_mul h j
  omega)
 have d:¬(281474976710656<Builtin.nextslicecap (l+k) cap*i.bytes):=jO
 rcases r with ⟨n,hk⟩|hk<;>
  (simp[xm,g,f,run_underlying s,run_underlying hk,sizeOf,typeInfo,zeroValue,B,p,A,y,c,d,amr,q,v,newRow,grownCap]
   congr 2;apply Lw
   simp[List.append_assoc])
theorem size_zeroCells(z:Array Value)(k:Nat):(EY z k).size=k*z.size:=by simp[EY]
theorem aaX(w:World)(need old:Nat)(e:TypeId):need<=grownCap w need old e:=by unfold grownCap ZO;exact Nat.le_add_right _ _
theorem FE {e:TypeId} {i:TypeInfo} {z:Value} {l k cap:Nat} {old c old' a:List Value} (x:WR P m base h w.heap) (K:base<=w.heap.size) (I:iF m n n1) (G:P.info? e=some i) (p:z.cells.size=i.size) (C:bp m old old') (D:bp m c a) (t:old.length=l*i.size) (u:c.length=k*i.size)
 (A:mD e l k old c h n=some ⟨r,h1,n1,L⟩):∃g,cI P m base n n1 w h1 g (w.drew.alloc (.cells ((old'++a).toArray++EY z.cells (grownCap w (l+k) cap e-(l+k))) e))∧
   VR g r (.slice (some ⟨w.heap.size,0,none⟩) (l+k) (grownCap w (l+k) cap e)):=by
 unfold mD at A;obtain⟨id,R,Q,U,T,O,N,_⟩:=bind_some A;obtain⟨rfl,rfl,rfl⟩:=bK N;have J:=aaX w (l+k) cap e;have f:=C.append D;have b:=f.length
 obtain⟨rfl,rfl,g,y,o⟩:=sT (w:=w.drew) (P:=P) (m:=m) (base:=base) x O I K (cs':=(old'++a).toArray++EY z.cells (grownCap w (l+k) cap e-(l+k))) (by simp at b⊢;omega) (fun j v E=>by
  obtain⟨B,d,s⟩:=f.get j v E;refine⟨B, ?_,s⟩
  have:j<(old'++a).length:=by
   rcases Nat.lt_or_ge j (old'++a).length with q|q
   ·exact q
   ·rw[List.getElem?_eq_none q]at d;cases d
  rw[Array.getElem?_append_left (by simpa using this)]
  simpa using d) (esz:=i.size) (by simp[size?,G])
 refine⟨g,⟨o.le,o.out,o.wr,(Below.drew (qK base w)).trans o.below⟩,VR.gp y (fun _=>rfl) (fun q=>by unfold bh at q;omega) (fun _=>⟨ah _,jO⟩) J ?_⟩;simp only[Array.size_append,size_zeroCells,p,List.size_toArray,<-b,bE,t,u];rw[<-oH,<-oH,fy];exact Nat.le_of_eq (by congr 1;omega)
theorem aaY {w6:Array TypeId} {t u ty:TypeId} {s s' x x':Value} (G:w6[0]? =some t) (E:w6[1]? =some u) (hu:(∃e',P.underlying u=some (.slice e'))∨P.underlying u=some .string) (hs:VR m s s') (W:VR m x x') (wr:WR P m base h w.heap) (hb:base<=w.heap.size) (hf:iF m n n1)
 (f:oJ P t s x h n=some ⟨r,h1,n1,L⟩):Sound P base m w h n (xm w6 ty #[s',x']) r h1 n1:=by
 unfold oJ at f;cases ht:P.underlying t with
 |none=>rw[ht]at f;cases f
 |some dt=>
  rw[ht]at f;cases dt<;>try(cases f;done)
  rename_i e;simp only at f;cases N:P.info? e with
  |none=>rw[N]at f;cases f
  |some ie=>
   cases hz:gm P e with
   |none=>rw[N,hz]at f;cases f
   |some z=>
    cases Q:ic x with
    |none=>rw[N,hz,Q]at f;cases f
    |some k=>
     rw[N,hz,Q]at f;simp only at f;obtain⟨i2,v5,v8⟩:=AG hz;rw[N]at v5;cases v5;split at f
     ·rename_i u6;simp only[bW,decide_eq_true_eq]at u6;obtain⟨⟨v7,f'⟩,w5⟩:=u6;by_cases hk:k=0
      ·rw[if_pos hk]at f;subst hk;cases hs<;>try(cases f;done)
       case l5 l cap A=>
        obtain⟨rfl,rfl,rfl⟩:=bK f;refine⟨m,w,.slice none l cap, ?_,cI.refl wr,.l5 _ _ A⟩
        have Y:(kg ie.size 0 x').run P w= .ok #[] w:=by cases W<;>simp[ic]at Q<;>simp[kg,loadCells,loadCellsFrom]
        have:=p' (P:=P) W Q w;rcases hu with ⟨e',hk⟩|hk<;>simp[xm,G,E,run_underlying ht,run_underlying hk,sizeOf,typeInfo,N,this,A.1,Y]
       case oQ b off s a'=>
        obtain⟨rfl,rfl,rfl⟩:=bK f;refine⟨m,w,.slice (some a') 0 0, ?_,cI.refl wr,.oQ _ _ _ _⟩
        have Y:(kg ie.size 0 x').run P w= .ok #[] w:=by cases W<;>simp[ic]at Q<;>simp[kg,loadCells,loadCellsFrom]
        have:=p' (P:=P) W Q w;rcases hu with ⟨e',hk⟩|hk<;>simp[xm,G,E,run_underlying ht,run_underlying hk,sizeOf,typeInfo,N,this,Y,storeCells]
       case gp b off l cap y o' d hd ho c1 c2 c3 c4=>
        obtain⟨rfl,rfl,rfl⟩:=bK f;refine⟨m,w,_, ?_,cI.refl wr,.gp hd ho c1 c2 c3 c4⟩
        have Y:(kg ie.size 0 x').run P w= .ok ([]:List Value).toArray w:=by cases W<;>simp[ic]at Q<;>simp[kg,loadCells,loadCellsFrom]
        have:=FC (P:=P) (ty:=ty) G E ht hu N (p' (P:=P) W Q w) (b:=d.bc) (off:=o') (l:=l) (cap:=y) jO Y (w':=w) rfl;simpa using this
      ·rw[if_neg hk]at f;have x6:0<k:=jO;cases hs<;>try(cases f;done)
       case l5 l cap A=>
        cases l<;>try(cases f;done)
        cases cap<;>try(cases f;done)
        simp only at f;split at f
        ·rename_i u4;obtain⟨u9,h2,n2,L1,L2,e1,R,_⟩:=bind_some f;obtain⟨rfl,rfl,D,hn,X⟩:=FB W Q x6 wr e1;split at R
         ·rename_i hc;simp only[bW,decide_eq_true_eq]at hc;obtain⟨U,hp,hv⟩:=FE (cap:=0) (old:=[]) (old':=[]) (l:=0) wr hb hf N v7 .nil hn jS hc.1 R;refine⟨U,_,_, ?_,hp,hv⟩;exact FD (P:=P) G E ht hu N v8 (p' (P:=P) W Q w) jO jO w5 (X _ rfl) (by simp[kg])
         ·cases R
        ·cases f
       case gp b off l cap y o' d hd ho c1 c2 c3 c4=>
        simp only at f;split at f
        ·rename_i u4;obtain⟨e',h2,n2,L1,L2,e1,R,_⟩:=bind_some f;obtain⟨rfl,rfl,d2,y0,x9,B0,y1,z6⟩:=Ms wr e1;rw[hd]at y0;cases y0;split at R
         ·rename_i he;subst he;have u5:ie.size=d.esz:=by simpa[size?,N]using x9
          obtain⟨u9,h3,n3,L3,L4,e3,e4,_⟩:=bind_some R;obtain⟨rfl,rfl,D,hn,X⟩:=FB W Q x6 wr e3;split at e4
          ·rename_i hc;simp only[bW,decide_eq_true_eq]at hc;obtain⟨v1,w3⟩:=hc;have x4:D.length=k*ie.size:=by rw[<-hn.length];exact v1
           have w1:∀v∈D,Ev.one v=true:=by
            intro v hv;obtain⟨j,hj⟩:=List.mem_iff_getElem?.1 hv
            have C:j<u9.length:=by rw[hn.length];exact(List.getElem?_eq_some_iff.1 hj).1
            obtain⟨v2,w9,y8⟩:=hn.get j u9[j] (by simp[C]);rw[hj]at w9;cases w9;rw[y8.one];exact Am.1 w3 _ (List.getElem_mem C)
           unfold sP at e4;by_cases A:cap<bh
           ·rw[if_pos A]at e4;have z4:=c1 A;subst z4;have w0:=ho (.inr A);subst w0;by_cases g:l+k<=y
            ·rw[if_pos g]at e4;obtain⟨uu,h5,T,L5,L6,e5,e6,_⟩:=bind_some e4;obtain⟨rfl,rfl,rfl⟩:=bK e6;cases uu;obtain⟨rfl,w',y7,x2,z5⟩:=Ft hd hn (i:=0) (d.sh+off+l*ie.size) jO wr e5;refine⟨m,w',_, ?_,⟨Le.refl _,fun _ _=>rfl,x2,z5⟩,.gp hd (fun _=>rfl) (fun _=>rfl) (fun q=>by omega) jO c4⟩;exact FC (P:=P) G E ht hu N (p' (P:=P) W Q w) g (X w rfl) y7
            ·rw[if_neg g]at e4;obtain⟨old,h5,T,L5,L6,e5,e6,_⟩:=bind_some e4;obtain⟨rfl,rfl,J,old',I,v0⟩:=qZ wr hd e5;obtain⟨U,hp,hv⟩:=FE (cap:=y) wr hb hf N v7 I hn J v1 e6;refine⟨U,_,_, ?_,hp,hv⟩;refine FD (P:=P) G E ht hu N v8 (p' (P:=P) W Q w) jO u4 w5 (X _ rfl) ?_;have:=vk (P:=P) (w:=w.drew) (c:=d.bc) (o:=d.sh+off) (vs:=old') v0;rw[<-I.length,J]at this;simpa[kg]using this
           ·rw[if_neg A]at e4;obtain⟨old,h5,T,L5,L6,e5,e6,_⟩:=bind_some e4;obtain⟨rfl,rfl,J,old',I,v0⟩:=qZ wr hd e5;obtain⟨uu,h7,n7,L7,L8,e7,e8,_⟩:=bind_some e6;unfold kill at e7;split at e7
            ·split at e7
             ·rename_i k' _ B hB;split at e7
              ·rename_i u0;simp only[dx,Out.mk.injEq]at e7;obtain⟨_,rfl,rfl,_⟩:=e7;have xk:=wr.kill hB
               have x3:∀(w2:World),w2.heap=w.heap->(kg ie.size l (.slice (some ⟨d.bc,o',none⟩) l y)).run P w2= .ok old'.toArray w2:=by
                intro w2 y6
                have p:∀j v,old'[j]? =some v->w2.cell? ⟨d.bc,o'+j,none⟩=some v:=by
                 intro j v hj;have C:j<old'.length:=(List.getElem?_eq_some_iff.1 hj).1
                 have w4:0<l:=by
                  rcases ZM l with q|q
                  ·rw[<-I.length,J,q]at C;simp at C
                  ·exact q
                 rw[ho (.inl w4)];have:=v0 j v hj;unfold amb at this⊢;rw[y6];exact this
                have:=vk (P:=P) p;rw[<-I.length,J]at this;simpa[kg]using this
               by_cases g:l+k<=y
               ·
                obtain⟨dB,cs,lo,v5,b1,b2,b3,b4,b5,b6,b7⟩:=wr.live b B hB;rw[hd]at b1;cases b1;obtain⟨z3,u8,x8⟩:=b6 u0;have i':l*d.esz+k*d.esz<=y*d.esz:=by rw[<-oH];exact Nat.mul_le_mul_right _ g
                obtain⟨w',y2,s1,s2,s3,s4,s5,s6⟩:=aaW (P:=P) (base:=base) (o:=o'+l*ie.size) D 0 w cs b2 (fun j hj=>by
                 rw[x4,u5]at hj;rw[u5]
                 exact⟨jO,x8 _ jO⟩) w1 u8
                unfold mD at e8;obtain⟨id,h9,n9,L9,l',e9,z8,_⟩:=bind_some e8;obtain⟨rfl,rfl,rfl⟩:=bK z8;unfold cS at e9;split at e9
                ·rename_i g';simp only[dx,Out.mk.injEq]at e9;obtain⟨rfl,rfl,rfl,_⟩:=e9;have z7:B.elem=e':=by rw[hB]at y1;cases y1;exact z6
                 rw[z3,z7]at s2;have z1:m T=none:=hf T (ah _) jO;obtain⟨U,x5⟩:∃U:Mp,U=fun q=>if q=T then some ⟨d.bc,o',d.tot,d.esz,e'⟩else m q:=⟨_,rfl⟩
                 have v3:U T=some ⟨d.bc,o',d.tot,d.esz,e'⟩:=by rw[x5];simp
                 have u2:∀q,q≠T->U q=m q:=fun q p=>by rw[x5];simp[p]
                 have v4:Le m U:=fun q dd p=>by
                  by_cases e:q=T
                  ·subst e;rw[z1]at p;cases p
                  ·rw[u2 q e];exact p
                 refine⟨U,w',.slice (some ⟨d.bc,o',none⟩) (l+k) y, ?_,⟨v4,fun q p=>u2 q jO,⟨?_, ?_⟩,s6⟩,VR.gp (d:=⟨d.bc,o',d.tot,d.esz,e'⟩) v3 (fun _=>rfl) (fun q=>by unfold bh at*;omega) (fun _=>⟨ah _,jO⟩) g c4⟩
                 ·exact FC (P:=P) G E ht hu N (p' (P:=P) W Q w) g (X w rfl) s1
                 ·intro q B2 p;rw[H.jk _ _]at p;by_cases e:q=T
                  ·subst e;rw[if_pos rfl]at p;cases p;refine⟨_,y2,lo,v5,v3,s2,by rw[s3,b3], ?_,x9,fun _=>⟨rfl,u8,x8⟩,fun j v hj=> ?_⟩
                   ·simp only[bE,J,v1,u5];omega
                   ·obtain⟨v',O,v9⟩:=(I.append hn).get j v hj;refine⟨v', ?_,v9.mono v4⟩;show y2[o'+j]? =_;rw[s4];have u1:old'.length=l*ie.size:=by rw[<-I.length,J]
                    by_cases C:j<old'.length
                    ·rw[if_neg (by rw[u1]at C;omega)];rw[List.getElem?_append_left C]at O
                     have w4:0<l:=by
                      rcases ZM l with q|q
                      ·rw[u1,q]at C;simp at C
                      ·exact q
                     have:=v0 j v' O;rw[vj w _ _ b2]at this;rw[ho (.inl w4)];exact this
                    ·have x7:j<(old'++D).length:=(List.getElem?_eq_some_iff.1 O).1;rw[List.getElem?_append_right jO]at O;simp only[bE]at x7;rw[if_pos jO];rw[<-O,u1];congr 1;omega
                  ·rw[if_neg e]at p;obtain⟨d3,z9,y5,z2,g1,g2,g3,g4,g5,g6,g7⟩:=xk.live q B2 p
                   have x1:q≠b∧h5.get q=some B2:=by
                    rw[H.jk _ _]at p;by_cases e3:q=b
                    ·rw[if_pos e3]at p;cases p
                    ·rw[if_neg e3]at p;exact⟨e3,p⟩
                   have z0:d3.bc≠d.bc:=fun e3=>x1.1 (wr.inj q b B2 B d3 d x1.2 hB (.inr u0) g1 hd e3);refine⟨d3,z9,y5,z2,v4 _ _ g1,by rw[s5 _ z0];exact g2,g3,g4,g5,g6,fun j v hj=> ?_⟩;obtain⟨v',O,v9⟩:=g7 j v hj;exact⟨v',O,v9.mono v4⟩
                 ·intro q q' B2 B3 d2 d3 p Z w0 K u3 u7;rw[H.jk _ _]at p Z
                  have w7:∀q B2 d2,q≠T->(h5.set b none).get q=some B2->U q=some d2->d2.bc≠d.bc:=by
                   intro q B2 d2 y9 p K u7;rw[H.jk _ _]at p;by_cases e3:q=b
                   ·rw[if_pos e3]at p;cases p
                   ·rw[if_neg e3]at p;rw[u2 q y9]at K;exact e3 (wr.inj q b B2 B d2 d p hB (.inr u0) K hd u7)
                  by_cases e1:q=T
                  ·by_cases R:q'=T
                   ·rw[e1,R]
                   ·rw[if_neg R]at Z;subst e1;rw[v3]at K;cases K;exact absurd u7.symm (w7 q' B3 d3 R Z u3)
                  ·rw[if_neg e1]at p;by_cases R:q'=T
                   ·subst R;rw[v3]at u3;cases u3;exact absurd u7 (w7 q B2 d2 e1 p K)
                   ·rw[if_neg R]at Z;rw[u2 q e1]at K;rw[u2 q' R]at u3;exact xk.inj q q' B2 B3 d2 d3 p Z w0 K u3 u7
                ·cases e9
               ·
                obtain⟨U,hp,hv⟩:=FE (cap:=y) xk hb hf N v7 I hn J v1 e8;refine⟨U,_,_, ?_,hp,hv⟩;exact FD (P:=P) G E ht hu N v8 (p' (P:=P) W Q w) jO u4 w5 (X _ rfl) (x3 _ rfl)
              ·cases e7
             ·cases e7
            ·cases e7
          ·cases e4
         ·cases R
        ·cases f
     ·cases f
theorem aaZ{C:Array TypeId}{t ty:TypeId}{d N s D:Value}(o:C[0]? =some t)(hd:VR m d N)(G:VR m s D)(wr:WR P m base h w.heap)(a:oM P t d s h n=some ⟨r,h1,n1,L⟩):
 Sound P base m w h n (EZ C ty #[N,D]) r h1 n1:=by
 unfold oM at a;cases j:P.underlying t with
 |none=>rw[j]at a;cases a
 |some du=>
  rw[j]at a;cases du<;>try(cases a;done)
  rename_i e;simp only at a;cases c:size? P e with
  |none=>rw[c]at a;cases a
  |some U=>
   cases l:ic s with
   |none=>rw[c,l]at a;cases hd<;>cases a
   |some v=>
    rw[c,l]at a;have f:=p' (P:=P) G l w
    have zero:∀k,¬0<Nat.min v k->Nat.min v k=0∧(kg U (Nat.min v k) D).run P w= .ok #[] w:=by intro k g;have B:Nat.min v k=0:=jO;refine⟨B, ?_⟩;rw[B];cases G<;>simp[ic]at l<;>simp[kg,loadCells,loadCellsFrom]
    cases hd with
    |l5 k cap hc=>
     simp only at a;by_cases g:0<Nat.min v k
     ·rw[if_pos g]at a;cases a
     ·rw[if_neg g]at a;obtain⟨rfl,rfl,rfl⟩:=bK a;obtain⟨q,p⟩:=zero k g;refine⟨m,w,_, ?_,cI.refl wr,.int _ _⟩;rw[q]at p;simp[EZ,o,run_underlying j,run_sizeOf c,f,q,p,goInt]
    |oQ b x sp a'=>
     simp only at a;by_cases g:0<Nat.min v 0
     ·rw[if_pos g]at a;cases a
     ·rw[if_neg g]at a;obtain⟨rfl,rfl,rfl⟩:=bK a;obtain⟨q,p⟩:=zero 0 g;refine⟨m,w,_, ?_,cI.refl wr,.int _ _⟩;rw[q]at p;simp[EZ,o,run_underlying j,run_sizeOf c,f,q,p,goInt,storeCells]
    |@gp b x k cap O o' dd J W c1 c2 c3 c4=>
     simp only at a;by_cases g:0<Nat.min v k
     ·rw[if_pos g]at a;obtain⟨vs,h2,n2,L1,L2,e1,e2,_⟩:=bind_some a;have z:0<v:=fP g (Nat.min_le_left _ _);have A:0<k:=fP g (Nat.min_le_right _ _);obtain⟨rfl,rfl,T,E,I⟩:=FB G l z wr e1;obtain⟨u,h3,n3,L3,L4,Z,Y,_⟩:=bind_some e2;obtain⟨rfl,rfl,rfl⟩:=bK Y;cases u;obtain⟨rfl,R,y,Q,K⟩:=Ft J E (i:=0) (dd.sh+x) jO wr Z;refine⟨m,R,_, ?_,⟨Le.refl _,fun _ _=>rfl,Q,K⟩,.int _ _⟩;have X:=I w rfl;rw[<-W (.inl A)]at y;simp[EZ,o,run_underlying j,run_sizeOf c,f,X,y,goInt]
     ·rw[if_neg g]at a;obtain⟨rfl,rfl,rfl⟩:=bK a;obtain⟨q,p⟩:=zero k g;refine⟨m,w,_, ?_,cI.refl wr,.int _ _⟩;rw[q]at p;simp[EZ,o,run_underlying j,run_sizeOf c,f,q,p,goInt,storeCells]
    |_=>cases a
end
theorem bp.maps{m:Mp}{ρ ρ':Operand->Value}:∀(l:List Operand),(∀y∈l,VR m (ρ y) (ρ' y))->bp m (l.map ρ) (l.map ρ')
 |[],_=> .nil
 |x::l,h=> .cons (h x jS) (bp.maps l fun y a=>h y (by simp[a]))
theorem AH{P:Program}{w:World}{s:Sem Value}{v:Value}{w':World}(h:s.run P w= .ok v w'):((do pure (.value (<-s)):Sem Next)).run P w= .ok (.value v) w':=by simp only[eF,h,fg,m6]
section
variable {P:Program} {base:Nat}
def Goal(P:Program)(base:Nat)(m:Mp)(w:World)(n c:Nat)(h1:H)(r:Nx)(s:Sem Next):Prop:=∃b a R,s.run P w= .ok R a∧cI P m base n c w h1 b a∧NR b r R
theorem Goal.of{m:Mp}{w:World}{h h1:H}{n a:Nat}{v:Value}{s:Sem Value}(x:Sound P base m w h n s v h1 a):Goal P base m w n a h1 (.val v) (do pure (.value (<-s))):=by obtain⟨d,b,c,f,g,e⟩:=x;exact⟨d,b,.value c,AH f,g,.val e⟩
theorem jv{m:M Value}{h h2:H}{n n2:Nat}{r:Nx}{L:List En}(a:(m.bind fun v=>M.ret (Nx.val v)) h n=some ⟨r,h2,n2,L⟩):∃v L',r= .val v∧m h n=some ⟨v,h2,n2,L'⟩:=by obtain⟨v,f,e,d,g,c,b,_⟩:=bind_some a;obtain⟨rfl,rfl,rfl⟩:=bK b;exact⟨v,d,rfl,c⟩
theorem aa0{ρ ρ':Operand->Value}{o:Oper}{m:Mp}{w:World}{h h1:H}{n g:Nat}{r:Nx}{L:List En}(j:∀cs b,o.op≠ .select cs b)(d:∀y∈o.op.operands,VR m (ρ y) (ρ' y))(x:WR P m base h w.heap)(c:gF P ρ o h n=some ⟨r,h1,g,L⟩):
 Goal P base m w n g h1 r (execOp ρ' o):=by
 unfold gF at c;split at c
 ·rename_i a;obtain⟨v,q,p,t,s,l,f,_⟩:=bind_some c;obtain⟨k,rfl,rfl⟩:=lZ l;split at f
  ·rename_i e;obtain⟨rfl,rfl,rfl⟩:=bK f;have:execOp ρ' o=execOp ρ o:=execOp_congr o j fun y i=>(d y i).scalar ((Array.all_eq_true_iff_forall_mem.1 a) y i);rw[this];exact⟨m,w,.value v,aaE _ _ k w,cI.refl x,.val (VR.self e)⟩
  ·cases f
 ·cases c
theorem mJ{m:Mp}{w:World}{h:H}{n:Nat}{v a:Value}{s:Sem Value}(x:WR P m base h w.heap)(c:s.run P w= .ok a w)(b:VR m v a):Goal P base m w n n h (.val v) (do pure (.value (<-s))):=
 ⟨m,w,.value a,AH c,cI.refl x,.val b⟩
theorem FF{m:Mp}{ρ ρ':Operand->Value}{o:Option Operand}(h:∀y∈o,VR m (ρ y) (ρ' y)):q8 m (o.map ρ) (o.map ρ'):=by
 cases o with
 |none=>trivial
 |some y=>exact h y rfl
theorem aa1{m:Mp}{t:TypeId}{v c u e:Value}{b:Bool}(g:VR m v c)(i:VR m u e)(h:oK (P.underlying t) v u=some b)(w:World):
 (qN t c e).run P w= .ok b w∧(∀a x y,(eqGuard a t x y c e).run P w= .ok () w)∧(∀a:BinOp,a= .eql∨a= .neq->binOp a t c e=(if a= .eql then do pure (.bool (<-qN t c e))else do pure (.bool (!(<-qN t c e))))):=by
 cases hd:P.underlying t with
 |none=>rw[hd]at h;simp[oK]at h
 |some d=>
  rw[hd]at h;have f:Op.maxDepth=9999+1:=rfl;unfold qN;rw[f];cases d<;>try(simp[oK]at h;done)
  all_goals (cases g<;>try(simp[oK]at h;done))
  all_goals (cases i<;>try(simp[oK]at h;done))
  all_goals (
   simp[oK]at h;subst h;refine⟨?_,fun a x y=> ?_,fun a bD=> ?_⟩
   ·rw[uU];simp only[eF,run_underlying hd,fg];rfl
   ·unfold eqGuard;split<;>rfl
   ·rcases bD with rfl|rfl<;>rfl)
theorem aa2{m:Mp}{d:Nat}{x y f e:Value}{b:Bool}(h:Ax d x y=some b)(c:VR m x f)(a:VR m y e):f=x∧e=y:=by
 unfold Ax at h;split at h
 ·cases c;cases a;exact⟨rfl,rfl⟩
 ·cases c;cases a;exact⟨rfl,rfl⟩
 ·cases c;cases a;exact⟨rfl,rfl⟩
 ·cases h
theorem MI{m:Mp}:∀{c:List Nat} {l k e f:List Value} {b:Bool},kU c l k=some b->bp m l e->bp m k f->e=l∧f=k∧l.length=c.length∧k.length=c.length
 |[],[],[],_,_,_,_,.nil,.nil=>⟨rfl,rfl,rfl,rfl⟩
 |d::c,x::l,y::k,_,_,b,h,.cons i j,.cons g n=>by
  unfold kU at h;split at h
  ·rename_i a b p o;obtain⟨rfl,rfl⟩:=aa2 p i g;obtain⟨rfl,rfl,r,q⟩:=MI o j n;exact⟨rfl,rfl,by simp[r],by simp[q]⟩
  ·cases h
 |[],[],_::_,_,_,_,h,_,_=>by simp[kU]at h
 |[],_::_,_,_,_,_,h,_,_=>by simp[kU]at h
 |_::_,[],_,_,_,_,h,_,_=>by simp[kU]at h
 |_::_,_::_,[],_,_,_,h,_,_=>by simp[kU]at h
theorem MJ{t:TypeId}{cs:Array Value}{i:Nat}{v:Value}(b:jg P t=some false)(a:cs[i]? =some v)(w:World):(part t cs i).run P w= .ok v w:=by unfold part;simp only[eF,sW b,fg,oF,if_false,a];rfl
theorem MK{xs ys:Array Value}(D:Nat):∀(m:List Field) (i:Nat) (n:List Nat) (b:Bool),xu P i m=some n->kU n (xs.toList.drop i) (ys.toList.drop i)=some b->∀w,(amB (D+1) xs ys m).run P w= .ok b w
 |[],i,n,b,h,e,w=>by
  simp only[xu,dx]at h;subst h;unfold kU at e;split at e<;>first|(cases e;done)|skip
  ·cases e;rfl
  ·rename_i q _ _;cases q
 |f::m,i,n,b,h,e,w=>by
  unfold xu at h;split at h
  ·rename_i d l g Q E;split at h
   ·rename_i s;cases h;simp only[bW,bne_iff_ne,ne_eq,beq_iff_eq]at s;obtain⟨o,k⟩:=s;unfold kU at e;split at e<;>first|(cases e;done)|skip
    ·rename_i q _ _;cases q
    ·rename_i R K x A y z G v t;cases G;split at e
     ·rename_i a O c B;cases e
      have N:xs[i]? =some x:=by rw[<-E0];have:=congrArg (·[0]?) v;simpa using this
      have L:ys[i]? =some y:=by rw[<-E0];have:=congrArg (·[0]?) t;simpa using this
      have J:xs.toList.drop (i+1)=A:=by have:=congrArg amC v;simpa[amD]using this
      have I:ys.toList.drop (i+1)=z:=by have:=congrArg amC t;simpa[amD]using this
      have r:jg P f.type=some false∧∀w,(uU (D+1) f.type x y).run P w= .ok a w:=by
       unfold Mh at g;unfold jg;cases j:P.underlying f.type with
       |none=>rw[j]at g;cases g
       |some u=>
        rw[j]at g;unfold Ax at c;cases u<;>first|(cases g;done)|skip
        ·cases g;refine⟨rfl,fun w=> ?_⟩;split at c<;>first|(cases c;done)|skip
         ·rename_i q;cases q
         ·rename_i q;cases q
         ·cases c;simp[uU,run_underlying j]
        ·cases g;refine⟨rfl,fun w=> ?_⟩;split at c<;>first|(cases c;done)|skip
         ·split at c
          ·rename_i p;cases c;simp[uU,run_underlying j,p]
          ·cases c
         ·rename_i q;cases q
         ·rename_i q;cases q
        ·cases g;refine⟨rfl,fun w=> ?_⟩;split at c<;>first|(cases c;done)|skip
         ·rename_i q;cases q
         ·cases c;simp[uU,run_underlying j]
         ·rename_i q;cases q
      have C:=MK (xs:=xs) (ys:=ys) D m (i+1) l O E (by rw[J,I];exact B);unfold amB;rw[if_pos o];simp only[eF,k,MJ r.1 N,MJ r.1 L,fg,r.2];cases a
      ·simp
      ·simpa using C w
     ·cases e
   ·cases h
  ·cases h
theorem aa3{m:Mp}{t:TypeId}{v c u d:Value}{b:Bool}(r:VR m v c)(s:VR m u d)(h:oL P t v u=some b)(w:World):
 (qN t c d).run P w= .ok b w∧(∀a x y,(eqGuard a t x y c d).run P w= .ok () w)∧(∀a:BinOp,a= .eql∨a= .neq->binOp a t c d=(if a= .eql then do pure (.bool (<-qN t c d))else do pure (.bool (!(<-qN t c d))))):=by
 unfold oL at h;split at h
 ·rename_i D B;cases h;exact aa1 r s B w
 ·unfold Fj at h;split at h
  ·rename_i C q p hd z;cases r with
   |agg n=>
   cases s with
   |agg l=>
   rename_i f e;obtain⟨k,j,_,_⟩:=MI h n l;have k:f=q:=by cases f;cases q;simp at k;rw[k]
   have j:e=p:=by cases e;cases p;simp at j;rw[j]
   subst k;subst j;unfold sQ at hd;split at hd
   ·rename_i A g;split at hd
    ·cases hd
    ·rename_i o;simp only[oD,not_or,Bool.not_eq_true]at o;have i:P.fieldsOf t=A:=by unfold Program.fieldsOf;rw[g]
     refine⟨?_,fun a x y=>run_eqGuard_agg w a t x y _ _ o.2,fun a bD=> ?_⟩
     ·show(uU (9998+1+1) t _ _).run P w=_;rw[run_equalIn_struct w (9998+1) t _ _ (by rw[i];exact g) o.1,i];exact MK 9998 A.toList 0 C b hd h w
     ·rcases bD with rfl|rfl<;>rfl
   ·cases hd
  ·cases h
theorem aa4{a b:Option TypeDesc}{e:TypeId}(h:qQ a b=some e):a=some (.slice e)∧b=some .string:=by
 unfold qQ at h;split at h
 ·cases h;exact⟨rfl,rfl⟩
 ·cases h
theorem aa5{a b:Option TypeDesc}{v:Value}{e:TypeId}{s:ByteArray}(h:sR a b v=some (e,s)):a=some .string∧b=some (.slice e)∧v= .string s:=by
 unfold sR at h;split at h
 ·cases h;exact⟨rfl,rfl,rfl⟩
 ·cases h
theorem ML{e:TypeId}(h:mH P e=true):P.underlying e=some (.int .u8):=by
 unfold mH at h;split at h
 ·assumption
 ·cases h
theorem aa6{a:Array TypeId}{args:List Value}{t:TypeId}{d y:Value}(h:vh a args=some (t,d,y)):a[0]? =some t∧args=[d,y]:=by
 unfold vh at h;split at h
 ·rename_i e f c b;cases h;exact⟨b,rfl⟩
 ·cases h
theorem aa7{a:Array TypeId}{args:List Value}{t:TypeId}{s y:Value}(h:vg P a args=some (t,s,y)):∃u,a[0]? =some t∧a[1]? =some u∧args=[s,y]∧((∃g,P.underlying u=some (.slice g))∨P.underlying u=some .string):=by
 unfold vg at h;split at h
 ·rename_i j u k i f d;split at h
  ·rename_i b;cases h;refine⟨u,f,d,rfl, ?_⟩;unfold Mi at b;split at b
   ·rename_i e c;exact .inl ⟨e,c⟩
   ·rename_i c;exact .inr c
   ·cases b
  ·cases h
 ·cases h
theorem aa8{b:Array TypeId}{args:List Value}{k:Nat}(h:sS P b args=some k):∃t e a cp rest,b[0]? =some t∧P.underlying t=some (.slice e)∧args= .slice a k cp::rest:=by
 unfold sS at h;split at h
 ·rename_i t a n cp rest d;split at h
  ·rename_i e c;cases h;exact⟨t,e,a,cp,rest,d,c,rfl⟩
  ·cases h
 ·cases h
theorem aa9(w2:qU P=true):sV P base:=by
 intro ρ ρ' o h n r h1 n1 L m w j A x hb hf;show Goal P base m w n n1 h1 r (execOp ρ' o);have plain:(∀cs b,o.op≠ .select cs b)->gF P ρ o h n=some ⟨r,h1,n1,L⟩->Goal P base m w n n1 h1 r (execOp ρ' o):=fun hs j=>aa0 hs A x j;unfold cu at j;cases bD:o.op with
 |move y=>rw[bD]at j A;unfold execOp;rw[bD];obtain⟨rfl,rfl,rfl⟩:=bK j;exact⟨m,w,.value (ρ' y),rfl,cI.refl x,.val (A y (by simp[dG]))⟩
 |assign y=>rw[bD]at j A;unfold execOp;rw[bD];obtain⟨rfl,rfl,rfl⟩:=bK j;exact⟨m,w,.value (ρ' y),rfl,cI.refl x,.val (A y (by simp[dG]))⟩
 |pick c a b=>
  rw[bD]at j A;unfold execOp;rw[bD];simp only at j;dsimp only;have hc:=A c (by simp[dG]);have ha:=A a (by simp[dG]);have y3:=A b (by simp[dG]);generalize ρ c=vc at j hc;generalize ρ' c=y6 at hc⊢;cases hc<;>try(cases j;done)
  rename_i t;obtain⟨rfl,rfl,rfl⟩:=bK j;refine⟨m,w,.value (if t then ρ' a else ρ' b),by cases t<;>rfl,cI.refl x,.val ?_⟩;cases t
  ·exact y3
  ·exact ha
 |alloc e=>rw[bD]at j A;unfold execOp;rw[bD];obtain⟨v,Q,rfl,D⟩:=jv j;exact Goal.of (aaG x hb hf D)
 |box e y=>rw[bD]at j A;unfold execOp;rw[bD];obtain⟨v,Q,rfl,D⟩:=jv j;exact Goal.of (aaH (A y (by simp[dG])) x hb hf D)
 |build t R=>
  rw[bD]at j A;unfold execOp;rw[bD];obtain⟨v,Q,rfl,D⟩:=jv j;have w0:(R.toList.map fun(i,x)=>(i,ρ x)).map (·.1)=(R.toList.map fun(i,x)=>(i,ρ' x)).map (·.1):=by simp[LB]
  have v9:bp m ((R.toList.map fun(i,x)=>(i,ρ x)).map (·.2)) ((R.toList.map fun(i,x)=>(i,ρ' x)).map (·.2)):=by have:=bp.maps (m:=m) (ρ:=ρ) (ρ':=ρ') (R.toList.map (·.2)) fun y J=>A y (by simp only[dG];simpa using J);simpa[LC,LB]using this
  have v4:(R.map fun(i,x)=>(i,ρ' x))=(R.toList.map fun(i,x)=>(i,ρ' x)).toArray:=by apply Lw;simp
  dsimp only;rw[v4];exact Goal.of (aaJ w0 v9 x D)
 |buildSlice t len R=>
  rw[bD]at j A;unfold execOp;rw[bD];obtain⟨v,Q,rfl,D⟩:=jv j;have w0:(R.toList.map fun(i,x)=>(i,ρ x)).map (·.1)=(R.toList.map fun(i,x)=>(i,ρ' x)).map (·.1):=by simp[LB]
  have v9:bp m ((R.toList.map fun(i,x)=>(i,ρ x)).map (·.2)) ((R.toList.map fun(i,x)=>(i,ρ' x)).map (·.2)):=by have:=bp.maps (m:=m) (ρ:=ρ) (ρ':=ρ') (R.toList.map (·.2)) fun y J=>A y (by simp only[dG];simpa using J);simpa[LC,LB]using this
  have v4:(R.map fun(i,x)=>(i,ρ' x))=(R.toList.map fun(i,x)=>(i,ρ' x)).toArray:=by apply Lw;simp
  dsimp only;rw[v4];exact Goal.of (aaK w0 v9 x hb hf D)
 |load t a=>rw[bD]at j A;unfold execOp;rw[bD];obtain⟨v,Q,rfl,D⟩:=jv j;exact Goal.of (aaL (A a (by simp[dG])) x D)
 |store t a y=>rw[bD]at j A;unfold execOp;rw[bD];obtain⟨v,Q,rfl,D⟩:=jv j;obtain⟨rfl,w',x6,hp⟩:=aaM (A a (by simp[dG])) (A y (by simp[dG])) x D;refine⟨m,w',.skip, ?_,hp,.skip⟩;simp only[eF,x6,fg,m6]
 |nilCheck y=>rw[bD]at j A;unfold execOp;rw[bD];obtain⟨v,Q,rfl,D⟩:=jv j;obtain⟨rfl,rfl,hv,x7⟩:=aaN (A y (by simp[dG])) x D;dsimp only;rcases x7 with ⟨a,ha⟩|⟨f,a,b,ha⟩<;>rw[ha]at hv⊢<;>exact⟨m,w,_,rfl,cI.refl x,.val hv⟩
 |binOp op t y z yt=>
  rw[bD]at j;simp only at j;have B:=A;rw[bD]at B;have J:=B y (by simp[dG]);have hz:=B z (by simp[dG]);cases W:oL P t (ρ y) (ρ z)with
  |none=>rw[W]at j;exact plain (fun cs b N=>by rw[bD]at N;cases N) j
  |some b=>
   rw[W]at j;unfold execOp;rw[bD];obtain⟨q1,q2,q3⟩:=aa3 J hz W w;cases op<;>try(cases j;done)
   case eql=>obtain⟨rfl,rfl,rfl⟩:=bK j;refine mJ x ?_ (.bool b);rw[eF,q2];simp only[fg];rw[q3 .eql (.inl rfl),if_pos rfl,eF,q1];rfl
   case neq=>obtain⟨rfl,rfl,rfl⟩:=bK j;refine mJ x ?_ (.bool !b);rw[eF,q2];simp only[fg];rw[q3 .neq (.inr rfl),if_neg jD,eF,q1];rfl
 |unOp op t y=>rw[bD]at j;exact plain (fun cs b N=>by rw[bD]at N;cases N) j
 |convert src w1 y=>
  rw[bD]at j;simp only at j;have B:=A;rw[bD]at B;have J:=B y (by simp[dG]);have x8:∀cs b,o.op≠ .select cs b:=fun cs b N=>by rw[bD]at N;cases N
  cases v2:qQ (P.underlying src) (P.underlying w1)with
  |some e=>
   rw[v2]at j;obtain⟨hs,hd⟩:=aa4 v2;simp only at j;split at j
   ·rename_i Y;obtain⟨v,Q,rfl,D⟩:=jv j;obtain⟨a,l,c,Z,u7⟩:=aaP J x D;unfold execOp;rw[bD];simp only[Z]at u7⊢;obtain⟨m',w',v',u0,hp,hv⟩:=u7;exact⟨m',w',.value v',AH (by rw[run_convert_bytes_string w src w1 e a l c hs (ML Y) hd];exact u0),hp,.val hv⟩
   ·cases j
  |none=>
   rw[v2]at j;simp only at j;cases v3:sR (P.underlying src) (P.underlying w1) (ρ y)with
   |none=>rw[v3]at j;exact plain x8 j
   |some es=>
    obtain⟨e,s⟩:=es;rw[v3]at j;simp only at j;obtain⟨hs,hd,x3⟩:=aa5 v3;split at j
    ·rename_i Y;simp only[bW,beq_iff_eq]at Y;obtain⟨v,Q,rfl,D⟩:=jv j;rw[x3]at J;have x4:ρ' y= .string s:=by generalize ρ' y=q at J;cases J;rfl
     obtain⟨m',w',v',u0,hp,hv⟩:=aaQ Y.2 x hb hf D;unfold execOp;rw[bD];simp only[x4];refine⟨m',w',.value v',AH ?_,hp,.val hv⟩;rw[<-u0];simp[convert,run_underlying hs,run_underlying hd,run_underlying (ML Y.1)]
    ·cases j
 |makeFunc fn a b=>
  rw[bD]at j A;unfold execOp;rw[bD];obtain⟨rfl,rfl,rfl⟩:=bK j;refine⟨m,w,.value (.func fn (a.map ρ') (b.map ρ')),rfl,cI.refl x,.val (.func fn ?_ ?_)⟩
  ·rw[pR,pR];exact bp.maps _ fun y J=>A y (by simp only[dG,amF];exact .inl (by simpa using J))
  ·rw[pR,pR];exact bp.maps _ fun y J=>A y (by simp only[dG,amF];exact .inr (by simpa using J))
 |makeSlice t l c=>rw[bD]at j A;unfold execOp;rw[bD];obtain⟨v,Q,rfl,D⟩:=jv j;exact Goal.of (aaR (A l (by simp[dG])) (A c (by simp[dG])) x hb hf D)
 |slice t y lo hi mx=>
  rw[bD]at j;simp only at j;have B:=A;rw[bD]at B;have J:=B y (by simp[dG]);by_cases u6:isStr (ρ y)=true
  ·rw[if_pos u6]at j;exact plain (fun cs b N=>by rw[bD]at N;cases N) j
  ·rw[if_neg u6]at j;obtain⟨v,Q,rfl,D⟩:=jv j;unfold execOp;rw[bD];have w4:q8 m (lo.map ρ) (lo.map ρ'):=FF fun q W=>B q (by rw[ZS]at W;subst W;simp[dG]);have w5:q8 m (hi.map ρ) (hi.map ρ'):=FF fun q W=>B q (by rw[ZS]at W;subst W;simp[dG]);have w3:q8 m (mx.map ρ) (mx.map ρ'):=FF fun q W=>B q (by rw[ZS]at W;subst W;simp[dG]);generalize ρ y=vy at D J;unfold ng at D;split at D
   ·rename_i b y7 l c;obtain⟨e',h2,n2,L1,L2,e2,e3,_⟩:=bind_some D;obtain⟨rfl,rfl,d2,y1,y0,_⟩:=Ms x e2;cases T:P.underlying t with
    |none=>rw[T]at e3;cases e3
    |some du=>
     rw[T]at e3;cases du<;>try(cases e3;done)
     rename_i e;simp only at e3;split at e3
     ·rename_i x5;obtain⟨I,rfl,rfl⟩:=lZ e3
      obtain⟨u,v0,G⟩:=MH (fun b' u5 l' c' y5 u8 v1=>by
       cases u8;rw[T]at v1;cases v1
       exact⟨d2,y1,by rw[<-x5];exact y0⟩) J w4 w5 w3 I w
      exact mJ x v0 G
     ·cases e3
   ·rename_i x9;obtain⟨I,rfl,rfl⟩:=lZ D;obtain⟨u,v0,G⟩:=MH (fun b' u5 l' c' y5 u8 v1=>absurd u8 (x9 b' u5 l' c')) J w4 w5 w3 I w;exact mJ x v0 G
 |fieldAddr t y f=>rw[bD]at j A;unfold execOp;rw[bD];obtain⟨v,Q,rfl,D⟩:=jv j;obtain⟨I,rfl,rfl⟩:=lZ D;obtain⟨u,T,G⟩:=aaS (A y (by simp[dG])) I w;exact mJ x T G
 |field t y f=>rw[bD]at j A;unfold execOp;rw[bD];obtain⟨v,Q,rfl,D⟩:=jv j;obtain⟨I,rfl,rfl⟩:=lZ D;obtain⟨u,T,G⟩:=xD (A y (by simp[dG])) I w;exact mJ x T G
 |indexAddr t y i=>rw[bD]at j A;unfold execOp;rw[bD];obtain⟨v,Q,rfl,D⟩:=jv j;obtain⟨I,rfl,rfl⟩:=lZ D;obtain⟨u,T,G⟩:=aaT (A y (by simp[dG])) (A i (by simp[dG])) I w;exact mJ x T G
 |index t y i=>
  rw[bD]at j;simp only at j;have B:=A;rw[bD]at B;split at j
  ·exact plain (fun cs b N=>by rw[bD]at N;cases N) j
  ·unfold execOp;rw[bD];obtain⟨v,Q,rfl,D⟩:=jv j;obtain⟨I,rfl,rfl⟩:=lZ D;obtain⟨u,T,G⟩:=aaU (B y (by simp[dG])) (B i (by simp[dG])) I w;exact mJ x T G
 |extract y i=>rw[bD]at j A;unfold execOp;rw[bD];obtain⟨v,Q,rfl,D⟩:=jv j;obtain⟨I,rfl,rfl⟩:=lZ D;obtain⟨u,T,G⟩:=aaV (A y (by simp[dG])) I w;exact mJ x T G
 |call c=>
  rw[bD]at j;simp only at j;have B:=A;rw[bD]at B;simp only[dG]at B
  have C:bp m (c.args.map ρ).toList (c.args.map ρ').toList:=by rw[pR,pR];exact bp.maps _ fun y J=>B y (by unfold uQ;exact amF.2 (.inr (by simpa using J)))
  have w7:execOp ρ' o=(do let d<-resolve ρ' c o.type;invoke d.target d.args):=by unfold execOp;rw[bD]
  unfold kq at j;cases O:c.callee with
  |invoke a b=>rw[O]at j;cases j
  |value f=>
   rw[O]at j;simp only at j;have v7:=B f (by unfold uQ;rw[O];simp);cases U:Ay (ρ f)with
   |none=>rw[U]at j;cases j
   |some y4=>
    obtain⟨g,first,cap⟩:=y4;rw[U]at j;simp only at j
    obtain⟨K,X,w6,u4,w9⟩:∃K X,ρ' f= .func (.func g) K X∧bp m first.toList K.toList∧bp m cap.toList X.toList:=by
     generalize ρ f=p at U v7;generalize ρ' f=q at v7;unfold Ay at U;split at U
     ·cases U;cases v7 with
      |func fn h1 h2=>exact⟨_,_,rfl,h1,h2⟩
     ·cases U
    split at j
    ·rename_i E;obtain⟨rfl,rfl,rfl⟩:=bK j;rw[w7];unfold ni at E;cases u3:P.funcs[g]? with
     |none=>rw[u3]at E;cases E
     |some fn=>
      rw[u3]at E;have E:fn.body.isSome=true:=E;refine⟨m,w,.enter g (K++c.args.map ρ'++X), ?_,cI.refl x,.call ?_⟩
      ·have v5:(fn.name== "runtime.NumGoroutine")=false:=by unfold qU at w2;have:=(Array.all_eq_true_iff_forall_mem.1 w2) fn (Array.mem_of_getElem? u3);simpa using this
       have y2:fn.body.isNone=false:=by
        cases W:fn.body with
        |none=>rw[W]at E;cases E
        |some _=>rfl
       unfold resolve;rw[O];simp only[w6,anW,pure_bind,invoke];unfold callFunc;simp only[eF];show fg (.ok P w) _=_;simp only[fg,u3,v5,oF,if_false,y2];rfl
      ·simp only[Array.toList_append];exact(u4.append C).append w9
    ·cases j
  |builtin b=>
   rw[O]at j
   have u1:execOp ρ' o=builtin b c.argTypes o.type (c.args.map fun| .const _=>true|_=>false) (c.args.map ρ'):=by rw[w7];unfold resolve;rw[O];rfl
   cases b<;>simp only at j<;>try(cases j;done)
   case append=>
    cases u2:vg P c.argTypes (c.args.map ρ).toList with
    |none=>rw[u2]at j;cases j
    |some x1=>
     obtain⟨t,s,y⟩:=x1;rw[u2]at j;simp only at j;obtain⟨u,ht,T,hl,hk⟩:=aa7 u2;rw[hl]at C;rw[u1]
     obtain⟨s',y',v6,hs,J⟩:∃s' y',c.args.map ρ'=#[s',y']∧VR m s s'∧VR m y y':=by
      generalize c.args.map ρ'=q at C;obtain⟨q⟩:=q;simp only at C;cases C with
      |cons h1 t1=>cases t1 with
       |cons h2 t2=>cases t2 with
        |nil=>exact⟨_,_,rfl,h1,h2⟩
     rw[v6];obtain⟨v,Q,rfl,D⟩:=jv j;exact Goal.of (aaY ht T hk hs J x hb hf D)
   case copy=>
    cases v8:vh c.argTypes (c.args.map ρ).toList with
    |none=>rw[v8]at j;cases j
    |some x2=>
     obtain⟨t,d,y⟩:=x2;rw[v8]at j;simp only at j;obtain⟨ht,hl⟩:=aa6 v8;rw[hl]at C;rw[u1]
     obtain⟨d',y',v6,hd,J⟩:∃d' y',c.args.map ρ'=#[d',y']∧VR m d d'∧VR m y y':=by
      generalize c.args.map ρ'=q at C;obtain⟨q⟩:=q;simp only at C;cases C with
      |cons h1 t1=>cases t1 with
       |cons h2 t2=>cases t2 with
        |nil=>exact⟨_,_,rfl,h1,h2⟩
     rw[v6];obtain⟨v,Q,rfl,D⟩:=jv j;exact Goal.of (aaZ ht hd J x D)
   case len=>
    cases Z:sS P c.argTypes (c.args.map ρ).toList with
    |none=>rw[Z]at j;exact plain (fun cs b N=>by rw[bD]at N;cases N) j
    |some k=>
     rw[Z]at j;obtain⟨t,e,a,cp,rest,ht,u9,hl⟩:=aa8 Z;rw[hl]at C;obtain⟨rfl,rfl,rfl⟩:=bK j;rw[u1];generalize c.args.map ρ'=q at C;obtain⟨q⟩:=q;simp only at C;cases C with
     |cons h1 t1=>
      cases h1 with
      |l5 _ _ hc=>refine mJ x ?_ (.int _ _);unfold LD;simp[ht,run_underlying u9,goInt]
      |oQ _ _ _ _=>refine mJ x ?_ (.int _ _);unfold LD;simp[ht,run_underlying u9,goInt]
      |gp=>refine mJ x ?_ (.int _ _);unfold LD;simp[ht,run_underlying u9,goInt]
   case min=>exact plain (fun cs b N=>by rw[bD]at N;cases N) j
   case max=>exact plain (fun cs b N=>by rw[bD]at N;cases N) j
 |_=>rw[bD]at j;cases j
end
theorem aa'{P:Program}{base:Nat}{m:Mp}{t:TypeId}{a s r:Value}{h h1:H}{n u:Nat}{L:List En}{w:World}(A:VR m a s)(x:WR P m base h w.heap)(c:ji P t a h n=some ⟨r,h1,u,L⟩):
 ∃b off,s= .pointer (some ⟨b,off,none⟩)∧h1=h∧u=n∧∃l,VR m r l∧((do loadVar t (<-asAddr s)):Sem Value).run P w= .ok l w:=by
 unfold ji at c;split at c
 ·rename_i b off;obtain⟨d,hd,rfl⟩:=FA A;cases o:jg P t with
  |none=>rw[o]at c;cases c
  |some g=>
   rw[o]at c;cases g with
   |false=>simp only at c;obtain⟨rfl,rfl,I,l,j,z,v⟩:=AE x c;rw[hd]at j;cases j;refine⟨_,_,rfl,rfl,rfl,l,v, ?_⟩;simp only[asAddr,pure_bind,loadVar,eF,sW o w,fg,oF,if_false];show(Sem.load _ _ _).run P w=_;simp[Sem.run,z]
   |true=>
    cases p:size? P t with
    |none=>rw[p]at c;cases c
    |some k=>
     rw[p]at c;simp only at c;obtain⟨D,G,E,K,J,C,B,_⟩:=bind_some c;obtain⟨rfl,rfl,rfl⟩:=bK B;obtain⟨rfl,rfl,y,e,f,q⟩:=qZ x hd C;refine⟨_,_,rfl,rfl,rfl,.agg e.toArray,.agg (by simpa using f), ?_⟩;have i:e.length=k:=by rw[<-f.length,y]
     have:=vk (P:=P) q;rw[i]at this;simp only[asAddr,pure_bind,loadVar,eF,sW o w,fg,if_true,run_sizeOf p,this];rfl
 ·cases c
theorem results_at{P:Program}{base:Nat}{m:Mp}{nt:Nat}{s:S}{a:Act}(A:SR m nt s a):∀(l:List ResultVar) (h h1:H) (n j:Nat) (L:List En) (vs:List Value) (w:World),WR P m base h w.heap->jj P s l h n=some ⟨vs,h1,j,L⟩->∃d,bp m vs d∧
 ((l.mapM fun| .tmp t=>pure (a.tmps.getD t undef)| .cell b t=>do loadVar t (<-asAddr (a.tmps.getD b undef)):Sem (List Value))).run P w= .ok d w:=by
 intro l
 induction l with
 |nil=>intro h h1 n j L vs w x g;obtain⟨rfl,rfl,rfl⟩:=bK g;exact⟨[],.nil,rfl⟩
 |cons r l z=>
  intro h h1 n j L vs w x g;cases r with
  |cell b t=>
   unfold jj at g;obtain⟨v,p,D,J,I,u,q,_⟩:=bind_some g;obtain⟨C,N,K,Q,O,G,E,_⟩:=bind_some q;obtain⟨rfl,rfl,rfl⟩:=bK E;obtain⟨B,i,o,rfl,rfl,y,k,c⟩:=aa' (A.at_ b) x u;obtain⟨d,e,f⟩:=z _ _ _ _ _ _ w x G;refine⟨y::d,.cons k e, ?_⟩;rw[amm];have h1:(asAddr (a.tmps.getD b undef)).run P w= .ok ⟨B,i,none⟩ w:=by rw[o];rfl
   have p:(loadVar t ⟨B,i,none⟩).run P w= .ok y w:=by rw[eF,h1]at c;exact c
   simp only[bind_assoc,pure_bind,eF,h1,fg,p,f,m6]
  |tmp t=>unfold jj at g;obtain⟨C,p,D,J,I,u,q,_⟩:=bind_some g;obtain⟨rfl,rfl,rfl⟩:=bK q;obtain⟨d,e,c⟩:=z _ _ _ _ _ _ w x u;refine⟨a.tmps.getD t undef::d,.cons (A.at_ t) e, ?_⟩;rw[amm];simp only[pure_bind,eF,c,fg,m6]
theorem aa_{P:Program}{t:TypeId}{v r:Value}{h h1:H}{n d:Nat}{L:List En}(a:ji P t v h n=some ⟨r,h1,d,L⟩):h1=h∧d=n:=by
 have e:∀{b k:Nat} {h h1:H} {n d:Nat} {v:Value} {L:List En},rd b k h n=some ⟨v,h1,d,L⟩->h1=h∧d=n:=by
  intro b k h h1 n d v L a;unfold rd at a;split at a
  ·split at a
   ·split at a
    ·simp only[dx,Out.mk.injEq]at a;exact⟨a.2.1.symm,a.2.2.1.symm⟩
    ·cases a
   ·cases a
  ·cases a
 have f:∀{c b k:Nat} {h h1:H} {n d:Nat} {v:List Value} {L:List En},cT b k c h n=some ⟨v,h1,d,L⟩->h1=h∧d=n:=by
  intro c
  induction c with
  |zero=>intro b k h h1 n d v L a;obtain⟨_,rfl,rfl⟩:=bK a;exact⟨rfl,rfl⟩
  |succ c p=>intro b k h h1 n d v L a;obtain⟨D,q,o,A,z,i,x,_⟩:=bind_some (m:=rd b k) a;obtain⟨rfl,rfl⟩:=e i;obtain⟨B,G,E,J,I,u,s,_⟩:=bind_some (m:=cT b (k+1) c) x;obtain⟨rfl,rfl⟩:=p u;obtain⟨_,rfl,rfl⟩:=bK s;exact⟨rfl,rfl⟩
 unfold ji at a;split at a
 ·cases l:jg P t with
  |none=>rw[l]at a;cases a
  |some g=>
   rw[l]at a;cases g with
   |false=>exact e a
   |true=>
    cases j:size? P t with
    |none=>rw[j]at a;cases a
    |some k=>rw[j]at a;obtain⟨C,q,o,A,z,y,i,_⟩:=bind_some a;obtain⟨_,rfl,rfl⟩:=bK i;exact f y
 ·cases a
theorem aba{P:Program}{s:S}:∀(l:List ResultVar) (h h1:H) (n c:Nat) (L:List En) (vs:List Value),jj P s l h n=some ⟨vs,h1,c,L⟩->h1=h∧c=n:=by
 intro l
 induction l with
 |nil=>intro h h1 n c L vs a;obtain⟨_,rfl,rfl⟩:=bK a;exact⟨rfl,rfl⟩
 |cons r l f=>
  intro h h1 n c L vs a;cases r with
  |cell b t=>unfold jj at a;obtain⟨v,j,i,p,o,e,d,_⟩:=bind_some a;obtain⟨g,u,q,y,x,m,k,_⟩:=bind_some d;obtain⟨_,rfl,rfl⟩:=bK k;obtain⟨rfl,rfl⟩:=aa_ e;exact f _ _ _ _ _ _ m
  |tmp t=>unfold jj at a;obtain⟨g,j,i,p,o,e,d,_⟩:=bind_some a;obtain⟨_,rfl,rfl⟩:=bK d;exact f _ _ _ _ _ _ e
theorem abb{P:Program}{b:List FuncId}(a:pY P b=true){f:FuncId}{d:Func}{c:Code}(h:b.contains f=false)(e:P.funcs[f]? =some d)(g:d.body=some c):kV P c=true:=by
 unfold pY at a;rw[Am]at a
 have:=a (d,f) (by
  rw[List.mem_iff_getElem?]
  exact⟨f,by simp[List.getElem?_zipIdx,e]⟩)
 simp only[h,g,ZK]at this;exact this
def abc(w:World):Prop:=∀g∈KG,w.cell? ⟨g.1,g.2.1,none⟩=some g.2.2
theorem MM{P:Program}{m:Mp}{base:Nat}{h:H}{w:World}(x:WR P m base h w.heap)(g:Gl P m):∀{l:List (Nat×Nat×Value)} {n f:Nat} {h1:H} {u:Unit} {L:List En},nk P l h n=some ⟨u,h1,f,L⟩->h1=h∧f=n∧∀q∈l,w.cell? ⟨q.1,q.2.1,none⟩=some q.2.2
 |[],n,f,h1,u,L,i=>by obtain⟨_,rfl,rfl⟩:=bK i;exact⟨rfl,rfl,fun q k=>by simp at k⟩
 |q::l,n,f,h1,u,L,i=>by
  unfold nk at i;obtain⟨v,G,E,K,J,A,j,_⟩:=bind_some i;obtain⟨rfl,rfl,d,D,hd,o,z⟩:=AE x A;by_cases b:(decide (q.1<P.globals.size)&&xv v q.2.2)=true
  ·rw[if_pos b]at j;simp only[bW,decide_eq_true_eq]at b;obtain⟨I,c,C,B⟩:=g q.1 b.1;rw[hd]at c;cases c;obtain⟨s,r,p⟩:=MM x g j;refine⟨s,r,fun y t=> ?_⟩;rcases List.mem_cons.1 t with e|e
   ·subst e;rw[C,B,fy]at o;rw[o];have a:=b.2;cases z<;>first|(simp[xv]at a;done)|skip
    cases k:y.2.2<;>rw[k]at a<;>first|(simp[xv]at a;done)|skip
    simp[xv]at a;rw[a.1,a.2]
   ·exact p y e
  ·rw[if_neg b]at j;cases j
def FG(P:Program)(h:List FuncId):Prop:=∀f k,h.contains f=true->qX f=some k->(k=1->∀(b o n c:Nat) (g:List Int) (cv:Int) (w:World),g.length=n->(∀i,i<n->w.cell? ⟨b,o+i,none⟩=some (.int .u8 (g.getD i 0)))->
 Calls P f #[.slice (some ⟨b,o,none⟩) n c,.int .u8 cv] w fun e a=>e= .returned (.int .i64 (Lib.indexByte (Lib.bytesOf g) cv.toNat.toUInt8))∧Below w.heap.size w a)∧
 (k=2->∀(s:ByteArray) (c:Nat) (w:World),c<=1000000->s.size<=1000000->Calls P f #[.string s,.int .i64 c] w fun e a=>e= .returned (.string ⟨(Lib.repeatL s.data.toList c).toArray⟩)∧Below w.heap.size w a)∧
 (k=3->∀(args:Array Value) (v:Value) (w:World),args.toList.all scalar=true->Mf f args.toList=some v->(∀m,VR m v v)∧Calls P f args w fun e a=>e= .returned v∧Below w.heap.size w a)∧
 (k=4->(∀(v:Value) (w:World),Aw f 0 []=some v->(∀m,VR m v v)∧Calls P f #[.slice none 0 0] w fun e a=>e= .returned v∧Below w.heap.size w a)∧
   ∀(b o n c:Nat) (d:List Value) (v:Value) (w:World),d.length=n*Mg f->d.all scalar=true->(∀i v,d[i]? =some v->w.cell? ⟨b,o+i,none⟩=some v)->n<=c->Aw f n d=some v->(∀m,VR m v v)∧Calls P f #[.slice (some ⟨b,o,none⟩) n c] w fun e a=>e= .returned v∧Below w.heap.size w a)
structure sX (P:Program) (bad:List FuncId):Prop where
 yes:∀f,bad.contains f=true->qX f=none->qW P f=true->∀w,abc w->Calls P f #[] w fun e w'=>e= .returned (.bool true)∧Below w.heap.size w w'
 nat:FG P bad
theorem MN:∀{vs:List Value} {l:List Int},xw vs=some l->vs=l.map (eJ .u8)
 |[],l,h=>by cases h;rfl
 |v::r,l,h=>by
  unfold xw at h;split at h
  ·rename_i a;cases a
  ·rename_i x c a;cases a;split at h
   ·rename_i d b;cases h;rw[MN b];rfl
   ·cases h
  ·cases h
theorem MO{m:Mp}{k:IntKind}:∀{l:List Int} {vs:List Value},bp m (l.map (eJ k)) vs->vs=l.map (eJ k)
 |[],_,.nil=>rfl
 |_::l,_,.cons (.int _ _) t=>by rw[MO t];rfl
theorem AJ{a:Array Value}{l:List Value}(h:a.toList=l):a=l.toArray:=by rw[<-h]
theorem bp.plain{m:Mp}:∀{l b:List Value},bp m l b->l.all scalar=true->b=l
 |_,_,.nil,_=>rfl
 |_,_,.cons h t,a=>by simp only[List.all_cons,bW]at a;rw[h.scalar a.1,bp.plain t a.2]
theorem abd{P:Program}{O:List FuncId}{base:Nat}(K:FG P O){f:FuncId}{k:Nat}(p:O.contains f=true)(N:qX f=some k){args:List Value}{g:Array Value}{h h1:H}{n n1:Nat}{v:Value}{L:List En}{m:Mp}{w:World}(o:qY f k args h n=some ⟨v,h1,n1,L⟩)(x:WR P m base h w.heap)(hb:base<=w.heap.size)(a:bp m args g.toList):
 Calls P f g w fun e w'=>∃m' v',e= .returned v'∧cI P m base n n1 w h1 m' w'∧VR m' v v':=by
 have fin:∀w',Below w.heap.size w w'->cI P m base n n w h m w':=fun w' j=>by refine⟨Le.refl _,fun _ _=>rfl,⟨fun b B hB=> ?_,x.inj⟩,j.mono hb⟩;obtain⟨d,cs,lo,Y,h1,Q,h3⟩:=x.live b B hB;exact⟨d,cs,lo,Y,h1,(j.block d.bc (Array.getElem?_eq_some_iff.1 Q).1).trans Q,h3⟩
 unfold qY at o;split at o
 ·unfold Fm at o;split at o
  ·rename_i b R len cap c;generalize A:g.toList=as at a;cases a with
   |cons C a=>
   cases a with
   |cons Z a=>
   cases a;cases Z;unfold Fk at o;obtain⟨vs,Q,n2,L1,L2,e1,z,_⟩:=bind_some o;cases C with
   |@gp _ _ _ _ r T d hd X _ _ _ _=>
    obtain⟨rfl,rfl,I,J,t,y⟩:=qZ x hd e1;cases E:xw vs with
    |none=>rw[E]at z;cases z
    |some l=>
     rw[E]at z;obtain⟨rfl,rfl,rfl⟩:=bK z;have U:=MN E;rw[U]at t I;have W:=MO t;rw[W]at y;simp only[List.length_map]at I;rw[AJ A];refine((K f 1 p N).1 rfl d.bc T len r l c w I fun i Y=> ?_).mono ?_
     ·rw[X (.inl jO)];exact y i _ (by rw[List.getElem?_map,bA jO,List.getD_eq_getElem?_getD,bA jO];rfl)
     ·rintro e w' ⟨rfl,j⟩;exact⟨m,_,rfl,fin w' j,.int _ _⟩
  ·cases o
 ·unfold Fo at o;split at o
  ·rename_i s c;generalize A:g.toList=as at a;cases a with
   |cons C a=>
   cases a with
   |cons Z a=>
   cases a;cases Z;cases C;unfold xx at o;split at o
   ·rename_i hz;simp only[bW,decide_eq_true_eq]at hz;obtain⟨rfl,rfl,rfl⟩:=bK o;rw[AJ A];obtain⟨c,rfl⟩:∃k:Nat,c=k:=⟨c.toNat,jO⟩;refine((K f 2 p N).2.1 rfl s c w jO hz.2).mono ?_;rintro e w' ⟨rfl,j⟩;exact⟨m,_,rfl,fin w' j,by rw[Int.toNat_natCast];exact .string _⟩
   ·cases o
  ·cases o
 ·unfold Fp at o;split at o
  ·rename_i G;obtain⟨D,rfl,rfl⟩:=lZ o;have e:=a.plain G;rw[<-e]at G D;obtain⟨q1,q2⟩:=(K f 3 p N).2.2.1 rfl g v w G D;refine q2.mono ?_;rintro e w' ⟨rfl,j⟩;exact⟨m,_,rfl,fin w' j,q1 m⟩
  ·cases o
 ·unfold Fq at o;split at o
  ·generalize A:g.toList=as at a;cases a with
   |cons C a=>
   cases a;cases C;obtain⟨D,rfl,rfl⟩:=lZ o;rw[AJ A];obtain⟨q1,q2⟩:=((K f 4 p N).2.2.2 rfl).1 v w D;refine q2.mono ?_;rintro e w' ⟨rfl,j⟩;exact⟨m,_,rfl,fin w' j,q1 m⟩
  ·rename_i b R len cap;generalize A:g.toList=as at a;cases a with
   |cons C a=>
   cases a;obtain⟨vs,Q,n2,L1,L2,e1,z,_⟩:=bind_some o;cases C with
   |@gp _ _ _ _ r T d hd X u1 u0 hn _=>
    obtain⟨rfl,rfl,I,J,t,y⟩:=qZ x hd e1;split at z
    ·rename_i G;obtain⟨D,rfl,rfl⟩:=lZ z;have e:=t.plain G;subst e;rw[AJ A]
     obtain⟨q1,q2⟩:=((K f 4 p N).2.2.2 rfl).2 d.bc T len r J v w I G (fun i u E=>by
      have Y:=(List.getElem?_eq_some_iff.1 E).1
      have h0:0<len:=by
       rcases ZM len with q|q
       ·rw[q,Nat.zero_mul]at I;omega
       ·exact q
      rw[X (.inl h0)]
      exact y i u E) hn D
     refine q2.mono ?_;rintro e w' ⟨rfl,j⟩;exact⟨m,_,rfl,fin w' j,q1 m⟩
    ·cases z
  ·cases o
 ·cases o
theorem MP{P:Program}{base:Nat}{t:List FuncId}(u5:qU P=true)(u4:pY P t=true)(T:P.follows .mixedOrders=true)(U:sX P t):∀fuel,vl P base (cH P t fuel):=by
 have bD:sV P base:=aa9 u5;intro fuel
 induction fuel with
 |zero=>intro f args h n v I Z L m w l i;cases i
 |succ fuel ih=>
  intro f args h n v I Z L m w l i x hb p hf g;unfold cH at i;by_cases o:t.contains f=true
  ·rw[if_pos o]at i;cases q:qX f with
   |some k=>rw[q]at i;exact abd U.nat o q i x hb p
   |none=>
   rw[q]at i;simp only at i;by_cases hz:(decide (args.size=0)&&qW P f)=true
   ·rw[if_pos hz]at i;simp only[bW,decide_eq_true_eq]at hz;obtain⟨u,X,n2,L1,L2,c1,c2,_⟩:=bind_some i;obtain⟨rfl,rfl,G⟩:=MM x g c1;obtain⟨rfl,rfl,rfl⟩:=bK c2;have hl:=p.length
    have e1:l=#[]:=by apply Array.eq_empty_of_size_eq_zero;simp at hl;omega
    subst e1;refine(U.yes f o q hz.2 w G).mono ?_;rintro e z ⟨rfl,Y⟩;refine⟨m,_,rfl,⟨Le.refl _,fun _ _=>rfl,⟨fun b B hB=> ?_,x.inj⟩,Y.mono hb⟩,.bool true⟩;obtain⟨d,cs,lo,hi,I,X,h3⟩:=x.live b B hB;exact⟨d,cs,lo,hi,I,(Y.block d.bc (Array.getElem?_eq_some_iff.1 X).1).trans X,h3⟩
   ·rw[if_neg hz]at i;cases i
  rw[if_neg o]at i;cases A:P.funcs[f]? with
  |none=>rw[A]at i;cases i
  |some D=>
   rw[A]at i;simp only at i;cases hc:D.body with
   |none=>rw[hc]at i;cases i
   |some c=>
    rw[hc]at i;simp only at i;by_cases j:(args.size<=D.ntmps&&D.ntmps<1000)=true
    ·rw[if_pos j]at i;simp only[bW,decide_eq_true_eq]at j;obtain⟨L',i⟩:=Fv i;obtain⟨y,X,n2,L1,L2,e1,e2,_⟩:=bind_some i;obtain⟨e,s1⟩:=y;have R:kV P c=true:=abb u4 (Bool.eq_false_iff.2 o) A hc;have u3:=fun f a=>Loc.cH P t fuel f a;refine calls_of_wp A hc ?_
     have fin:∀(e':Ex) (hn:cv e'= .normal∨cv e'= .ret) (W:e=e'),((jj P s1 D.results.toList).bind fun E=>M.ret (match E with|[v]=>v|_=> .tuple E.toArray)) X n2=some ⟨v,I,Z,L2⟩->
      c.wp P (bodyPost P D fun e z=>∃C J,e= .returned J∧cI P m base n Z w I C z∧VR C v J) {tmps:=l++Array.replicate (D.ntmps-l.size) undef,defers:=[]} w:=by
      intro e' hn W e3;subst W;obtain⟨E,h3,n3,L3,L4,e4,e5,_⟩:=bind_some e3;obtain⟨rfl,rfl,rfl⟩:=bK e5;obtain⟨rfl,rfl⟩:=aba _ _ _ _ _ _ _ e4;refine aaC bD ih u3 T fuel c R _ m _ s1 _ w h _ n _ L1 e x hb g (aaD p j.1 j.2) e1 hf fun C a' z hp N=> ?_;obtain⟨s,u0,O⟩:=results_at N _ _ _ _ _ _ _ z hp.wr e4
      have Q:(results D a'.tmps).run P z= .ok (if h:s.toArray.size=1 then s.toArray[0]else .tuple s.toArray) z:=by unfold results;rw[Array.mapM_eq_mapM_toList];simp only[map_eq_pure_bind,bind_assoc,pure_bind,eF];refine Eq.trans (congrArg (fun r=>fg r _) O) ?_;simp only[fg,m6]
      have K:VR C (match E with|[v]=>v|_=> .tuple E.toArray) (if h:s.toArray.size=1 then s.toArray[0]else .tuple s.toArray):=by
       cases u0 with
       |nil=>exact .tuple .nil
       |cons hv ht=>
        cases ht with
        |nil=>exact hv
        |cons u1 u2=>exact .tuple (.cons hv (.cons u1 u2))
      have:bodyPost P D (fun e z=>∃C J,e= .returned J∧cI P m base n Z w I C z∧VR C (match E with|[v]=>v|_=> .tuple E.toArray) J) (cv e) a' z:=by rcases hn with hn|hn<;>rw[hn]<;>exact⟨N.df,_,Q,C,_,rfl,hp,K⟩
      exact this
     cases e with
     |normal=>exact fin .normal (.inl rfl) rfl e2
     |ret=>exact fin .ret (.inr rfl) rfl e2
     |exit id=>cases e2
    ·rw[if_neg j]at i;cases i
def AK(r:Option (Out Value)):Bool:=match r with
 |some o=>(match o.val with| .bool b=>b|_=>false)
 |none=>false
end Go.Proofs.YtmjolmggelkjlaaGreat.Ev
namespace Go.Proofs.YtmjolmggelkjlaaGreat.Ev
open Go
abbrev Fr:=List (Nat×Value)
def Fr.at_:Fr->Nat->Option Value
 |[],_=>none
 |(u,v)::r,t=>match bV u t with
  |true=>some v
  |false=>Fr.at_ r t
def Fr.au(s:Fr):List Nat->Fr
 |[]=>[]
 |t::r=>match s.at_ t with
  |some v=>(t,v)::Fr.au s r
  |none=>Fr.au s r
def Fr.keys:Fr->List Nat
 |[]=>[]
 |(u,_)::r=>u::Fr.keys r
def gS(s:Fr)(a:Option Tmp)(v:Value):Fr:=match a with
 |none=>s
 |some d=>(d,v)::s
def bf{b a:Type}(o:Option b)(k:b->M a):M a:=match o with
 |some v=>k v
 |none=> .fail
def bB(s:Fr):Operand->Option Value
 | .tmp t=>s.at_ t
 | .const v=>some v
 | .global g=>some (.pointer (some ⟨g,0,none⟩))
 | .func f=>some (.func (.func f) #[] #[])
def kX{a:Type}(s:Fr):List Operand->(List Value->M a)->M a
 |[],k=>k []
 |x::r,k=>bf (bB s x) fun v=>kX s r fun b=>k (v::b)
def qa{a:Type}(s:Fr)(x:Option Operand)(k:Option Value->M a):M a:=match x with
 |some x=>bf (bB s x) fun v=>k (some v)
 |none=>k none
def aA{a:Type}(v:Value)(x y:M a):M a:=match v with
 | .bool true=>x
 | .bool false=>y
 |_=> .fail
section
variable (P:Program)
def l9(ok:Bool)(s:Sem Value):Option Value:=
 match ok with
 |true=>match jh P (do pure (.value (<-s)))with
  |some v=>match scalar v with
   |true=>some v
   |false=>none
  |none=>none
 |false=>none
def MQ(c a b:Value):Option Value:=match c with
 | .bool t=>some (if t then a else b)
 |_=>none
def MR:Value->Option Value
 | .pointer (some a)=>some (.pointer (some a))
 | .func (.func f) a b=>some (.func (.func f) a b)
 |_=>none
def mb(t:TypeId):Bool:=match P.underlying t with
 |some (.pointer _)|some (.slice _)|some (.func _ _ _)|some (.struct _)=>true
 |_=>false
def FH(a:BinOp)(t:TypeId)(x y:Value):Option Value:=match oL P t x y,a with
 |some v,.eql=>some (.bool v)
 |some v,.neq=>some (.bool (!v))
 |_,_=>none
def FI(a:BinOp)(t:TypeId)(x y:Value):Option Value:=l9 P (scalar x&&scalar y) (Go.binOp a t x y)
def dJ(a:BinOp)(t:TypeId)(x y:Value):Option Value:=match mb P t with
 |true=>FH P a t x y
 |false=>FI P a t x y
def jx(a:UnOp)(x:Value):Option Value:=l9 P (scalar x) (Op.unary a x)
def sY:Option TypeDesc->Option TypeDesc->Option TypeId
 |some .string,some (.slice e)=>some e
 |_,_=>none
def AL(e:TypeId)(x:Value):M Value:=match x with
 | .string s=>pW e s
 |_=> .fail
def AM{b:Type}(src a:TypeId)(x:Value)(k:Value->M b):M b:=
 match qQ (P.underlying src) (P.underlying a)with
 |some e=>match mH P e with
  |true=>(inside (mG x)).bind k
  |false=> .fail
 |none=>match sY (P.underlying src) (P.underlying a)with
  |some e=>match mH P e&&size? P e==some 1 with
   |true=>(inside (AL e x)).bind k
   |false=> .fail
  |none=>bf (l9 P (scalar x) (Go.convert src a x)) k
def sZ:Option Value->Bool
 |some v=>scalar v
 |none=>true
def AN(t:TypeId)(x:Value)(lo b a:Option Value):Option Value:=match isStr x with
 |true=>l9 P (sZ lo&&sZ b&&sZ a) (Instr.sliceAt t x lo b a)
 |false=>none
def s7(t:TypeId)(x:Value)(lo b a:Option Value):M Value:=match isStr x with
 |true=> .fail
 |false=>ng P t x lo b a
def nq(t:TypeId):Bool:=match P.underlying t with
 |some .string=>true
 |_=>false
def vn{a:Type}(t:TypeId)(x:Value)(lo c b:Option Value)(k:Value->M a):M a:=match nq P t with
 |true=>bf (AN P t x lo c b) k
 |false=>(inside (s7 P t x lo c b)).bind k
def AO(t:TypeId)(x a:Value):Option Value:=match isStr x with
 |true=>l9 P (scalar a) (An t x a)
 |false=>none
def AP(t:TypeId)(x a:Value):Option Value:=match isStr x with
 |true=>none
 |false=>ve P t x a
def s9(t:TypeId)(x a:Value):Option Value:=match nq P t with
 |true=>AO P t x a
 |false=>AP P t x a
def MS:Value->Option Value
 | .slice _ n _=>some (.int .i64 n)
 |_=>none
def MT:Value->Option Value
 | .string s=>some (.int .i64 s.size)
 |_=>none
def xE(a:Array TypeId)(vs:List Value):Option Value:=match a[0]?,vs with
 |some t,[x]=>match P.underlying t with
  |some (.slice _)=>MS x
  |some .string=>MT x
  |_=>none
 |_,_=>none
def tc(a b:Int):Int:=if b<a then b else a
def min2:List Value->Option Value
 |[.int k a,.int _ b]=>some (.int k (if b<a then b else a))
 |[.int k a,.int _ b,.int _ c,.int _ d,.int _ e,.int _ f]=>some (.int k (tc (tc (tc (tc (tc a b) c) d) e) f))
 |_=>none
def max2:List Value->Option Value
 |[.int k a,.int _ b]=>some (.int k (if a<b then b else a))
 |_=>none
variable (rec:FuncId->Array Value->M Value)
def ku{a:Type}(b:Value)(vs:List Value)(k:Value->M a):M a:=
 bf (Ay b) fun q=>match ni P q.1 with
  |true=>(inside (rec q.1 (q.2.1.toList++vs++q.2.2.toList).toArray)).bind k
  |false=> .fail
def MU{b:Type}(a:Array TypeId)(vs:List Value)(k:Value->M b):M b:=
 bf (vg P a vs) fun q=>(inside (oJ P q.1 q.2.1 q.2.2)).bind k
def MV{b:Type}(a:Array TypeId)(vs:List Value)(k:Value->M b):M b:=
 bf (vh a vs) fun q=>(inside (oM P q.1 q.2.1 q.2.2)).bind k
def call2{a:Type}(s:Fr)(c:Call)(vs:List Value)(k:Value->M a):M a:=
 match c.callee with
 | .value f=>bf (bB s f) fun b=>ku P rec b vs k
 | .builtin .append=>MU P c.argTypes vs k
 | .builtin .copy=>MV P c.argTypes vs k
 | .builtin .len=>bf (xE P c.argTypes vs) k
 | .builtin .min=>bf (min2 vs) k
 | .builtin .max=>bf (max2 vs) k
 |_=> .fail
def oS{r:Type}(s:Fr)(o:Oper)(k:Value->M r):M r:=
 match o.op with
 | .move x| .assign x=>bf (bB s x) k
 | .pick c a b=>bf (bB s c) fun c=>bf (bB s a) fun a=>bf (bB s b) fun b=>bf (MQ c a b) k
 | .alloc e=>(inside (mE P e)).bind k
 | .box e x=>bf (bB s x) fun x=>(inside (mF P e x)).bind k
 | .build t d=>kX s (d.toList.map (·.2)) fun h=>(inside (lW P t ((d.toList.map (·.1)).zip h))).bind k
 | .buildSlice t len d=>kX s (d.toList.map (·.2)) fun h=>(inside (lX P t len ((d.toList.map (·.1)).zip h))).bind k
 | .load t a=>bf (bB s a) fun a=>(inside (ji P t a)).bind k
 | .store t a x=>bf (bB s a) fun a=>bf (bB s x) fun x=>(inside (nh P t a x)).bind k
 | .nilCheck x=>bf (bB s x) fun x=>bf (MR x) k
 | .binOp j t x y _=>bf (bB s x) fun x=>bf (bB s y) fun y=>bf (dJ P j t x y) k
 | .unOp j _ x=>bf (bB s x) fun x=>bf (jx P j x) k
 | .convert src q x=>bf (bB s x) fun x=>AM P src q x k
 | .makeFunc u a b=>kX s a.toList fun a=>kX s b.toList fun b=>k (.func u a.toArray b.toArray)
 | .makeSlice t l c=>bf (bB s l) fun l=>bf (bB s c) fun c=>(inside (mI P t l c)).bind k
 | .slice t x n p m=>bf (bB s x) fun x=>qa s n fun n=>qa s p fun p=>qa s m fun m=>vn P t x n p m k
 | .fieldAddr t x f=>bf (bB s x) fun x=>bf (vd P t x f) k
 | .field t x f=>bf (bB s x) fun x=>bf (qR P t x f) k
 | .indexAddr t x g=>bf (bB s x) fun x=>bf (bB s g) fun g=>bf (pX P t x g) k
 | .index t x g=>bf (bB s x) fun x=>bf (bB s g) fun g=>bf (s9 P t x g) k
 | .extract t i=>bf (bB s t) fun t=>bf (qS t i) k
 | .call c=>kX s c.args.toList fun h=>call2 P rec s c h k
 |_=> .fail
def kind(o:Op):Nat:=match o with
 | .move _| .assign _| .pick _ _ _| .nilCheck _| .binOp _ _ _ _ _| .unOp _ _ _| .makeFunc _ _ _| .fieldAddr _ _ _| .field _ _ _| .indexAddr _ _ _| .index _ _ _| .extract _ _| .build _ _=>0
 | .load _ _| .slice _ _ _ _ _=>1
 | .alloc _| .box _ _| .buildSlice _ _ _| .makeSlice _ _ _=>2
 | .call c=>match c.callee with
   | .builtin .len| .builtin .min| .builtin .max=>0
   |_=>3
 |_=>3
def fits(i j:Nat):Bool:=i==0||j==0||(i==1&&j==1)||(i==2&&j==2)||(i==1&&j==2)
def AQ(ops:Array Oper)(a:List Nat)(j:Nat)(b:Oper):Nat->List Oper->Bool
 |_,[]=>true
 |k,ok::r=>((a.getD k 0).testBit j||(fits (kind b.op) (kind ok.op)&& !(oN ops b ok)))&&AQ ops a j b (k+1) r
def AR(ops:Array Oper)(a:List Nat):Nat->List Oper->Bool
 |_,[]=>true
 |j,b::r=>AQ ops a j b (j+1) r&&AR ops a (j+1) r
def AS(ops:Array Oper):Bool:=qT ops&&AR ops (lH ops.toList []) 0 ops.toList
end
def ed{c:Type}(m:Nat->M c)(h:H)(n:Nat)(a:c)(h1:H)(d:Nat)(L:List En):Prop:=∃e,∀b,e<=b->m b h n=some ⟨a,h1,d,L⟩
theorem ed.of{b:Type}{m:M b}{h h1:H}{n c:Nat}{a:b}{L:List En}(e:m h n=some ⟨a,h1,c,L⟩):ed (fun _=>m) h n a h1 c L:=⟨0,fun _ _=>e⟩
theorem bX{c d:Type}{m:M c}{f:c->M d}{h h1 h2:H}{n e n2:Nat}{a:c}{b:d}{L1 L2:List En}(i:m h n=some ⟨a,h1,e,L1⟩)(g:f a h1 e=some ⟨b,h2,n2,L2⟩):(m.bind f) h n=some ⟨b,h2,n2,L1++L2⟩:=by unfold M.bind;rw[i];simp only;rw[g]
theorem ed.bind{c d:Type}{m:Nat->M c}{f:Nat->c->M d}{h h1 h2:H}{n e n2:Nat}{a:c}{b:d}{L1 L2:List En}(x:ed m h n a h1 e L1)(y:ed (fun fuel=>f fuel a) h1 e b h2 n2 L2):
 ed (fun fuel=>(m fuel).bind (f fuel)) h n b h2 n2 (L1++L2):=by
 obtain⟨g,x⟩:=x;obtain⟨f1,y⟩:=y;exact⟨max g f1,fun fuel i=>bX (x fuel jO) (y fuel jO)⟩
theorem ed.map{b:Type}{m d:Nat->M b}{h h1:H}{n c:Nat}{a:b}{L:List En}(x:ed m h n a h1 c L)(e:∀fuel,d fuel=m fuel):ed d h n a h1 c L:=by obtain⟨g,x⟩:=x;exact⟨g,fun fuel f=>by rw[e];exact x fuel f⟩
theorem jy{c:Type}{m:M c}{h h1:H}{n b:Nat}{a:c}{L:List En}(e:m h n=some ⟨a,h1,b,L⟩):inside m h n=some ⟨a,h1,b,L.filter fun e=> !(n<=e.b&&e.b<b)⟩:=by unfold inside;rw[e]
theorem ed.inside{c:Type}{m:Nat->M c}{h h1:H}{n b:Nat}{a:c}{L:List En}(x:ed m h n a h1 b L):ed (fun fuel=>Ev.inside (m fuel)) h n a h1 b (L.filter fun e=> !(n<=e.b&&e.b<b)):=by obtain⟨f,x⟩:=x;exact⟨f,fun fuel d=>jy (x fuel d)⟩
theorem td{d:Type}{m:M d}{h h1:H}{n c:Nat}{a:d}{L:List En}(b:Ev.inside m h n=some ⟨a,h1,c,L⟩):∃L',m h n=some ⟨a,h1,c,L'⟩∧L=L'.filter fun e=> !(n<=e.b&&e.b<c):=by
 unfold Ev.inside at b;split at b
 ·rename_i i g f L' e;simp only[dx,Out.mk.injEq]at b;obtain⟨rfl,rfl,rfl,rfl⟩:=b;exact⟨L',e,rfl⟩
 ·cases b
def Sub(s:Fr)(a:S):Prop:=∀t v,s.at_ t=some v->a.get t=v
theorem Sub.bB{s:Fr}{a:S}(b:Sub s a){x:Operand}{v:Value}(h:Ev.bB s x=some v):ev a x=v:=by
 cases x with
 |tmp t=>exact b t v h
 |const u=>cases h;rfl
 |global g=>cases h;rfl
 |func f=>cases h;rfl
theorem cJ{b a:Type}{o:Option b}{k:b->M a}{h:H}{n:Nat}{r:Out a}(c:bf o k h n=some r):∃v,o=some v∧k v h n=some r:=by
 cases o with
 |none=>cases c
 |some v=>exact⟨v,rfl,c⟩
theorem vo{b:Type}{s:Fr}{c:S}(d:Sub s c):∀{l:List Operand} {k:List Value->M b} {h:H} {n:Nat} {r:Out b},kX s l k h n=some r->∃vs,vs=l.map (ev c)∧k vs h n=some r
 |[],k,h,n,r,a=>⟨[],rfl,a⟩
 |x::l,k,h,n,r,a=>by unfold kX at a;obtain⟨v,f,a⟩:=cJ a;obtain⟨vs,e,a⟩:=vo d a;exact⟨v::vs,by rw[List.map_cons,d.bB f,e],a⟩
theorem FJ{b:Type}{s:Fr}{c:S}(e:Sub s c){x:Option Operand}{k:Option Value->M b}{h:H}{n:Nat}{r:Out b}(a:qa s x k h n=some r):k (x.map (ev c)) h n=some r:=by
 cases x with
 |none=>exact a
 |some x=>obtain⟨v,d,a⟩:=cJ a;simp only[Aj,e.bB d];exact a
def cont(P:Program)(kn:List FuncId)(fuel:Nat):Nx->M Value
 | .val v=> .ret v
 | .call f args=>cH P kn fuel f args
theorem mK{m:M Value}{P:Program}{kn:List FuncId}{fuel:Nat}:(m.bind fun v=> .ret (.val v)).bind (cont P kn fuel)=m:=by
 funext h n;unfold M.bind;cases m h n with
 |none=>rfl
 |some o=>simp[M.ret,cont]
theorem kv{v:Value}{P:Program}{kn:List FuncId}{fuel:Nat}:(M.ret (Nx.val v)).bind (cont P kn fuel)=M.ret v:=by funext h n;simp[M.bind,M.ret,cont]
theorem abe{f:FuncId}{args:Array Value}{P:Program}{kn:List FuncId}{fuel:Nat}:(M.ret (Nx.call f args)).bind (cont P kn fuel)=cH P kn fuel f args:=by
 funext h n;simp only[M.bind,M.ret,cont];cases cH P kn fuel f args h n with
 |none=>rfl
 |some o=>simp
theorem te{b:Type}(a:b):M.lift (some a)=M.ret a:=rfl
theorem nr{b c:Type}(a:b)(f:b->M c):(M.ret a).bind f=f a:=by
 funext h n;simp only[M.bind,M.ret];cases f a h n with
 |none=>rfl
 |some o=>simp
def AU(E:Nat->M Value){b:Type}(k:Value->M b)(h:H)(n:Nat)(r:Out b):Prop:=
 ∃v d c f e,ed (fun a=>inside (E a)) h n v d c f∧k v d c=some ⟨r.val,r.h,r.n,e⟩∧r.log=f++e
section
variable {β:Type} {E:Nat->M Value} {k:Value->M β} {h:H} {n:Nat} {r:Out β}
theorem mL{m:M Value}(b:((inside m).bind k) h n=some r)(d:∀fuel,E fuel=m):AU E k h n r:=by obtain⟨c,p,o,L⟩:=r;obtain⟨v,e,a,l,j,i,g,f⟩:=bind_some b;exact⟨v,e,a,l,j,⟨0,fun fuel _=>by show Ev.inside (E fuel) h n=_;rw[d];exact i⟩,g,f⟩
theorem jZ{v:Value}(a:k v h n=some r)(b:∀fuel,E fuel=M.ret v):AU E k h n r:=by obtain⟨c,e,d,L⟩:=r;exact⟨v,h,n,[],L,⟨0,fun fuel _=>by show Ev.inside (E fuel) h n=_;rw[b];rfl⟩,a,rfl⟩
theorem abf {P:Program} {kn:List FuncId} {rec:FuncId->Array Value->M Value} (a:∀f args h n v h1 b L,rec f args h n=some ⟨v,h1,b,L⟩->ed (fun fuel=>cH P kn fuel f args) h n v h1 b L) {g:FuncId} {args:Array Value}
 (d:((inside (rec g args)).bind k) h n=some r) (e:∀fuel,E fuel=cH P kn fuel g args):AU E k h n r:=by
 obtain⟨c,q,p,L⟩:=r;obtain⟨v,h1,b,s,o,m,l,j⟩:=bind_some d;obtain⟨t,i,rfl⟩:=td m;exact⟨v,h1,b,_,o,((a _ _ _ _ _ _ _ _ i).map e).inside,l,j⟩
end
theorem xF{P:Program}{ok:Bool}{s:Sem Value}{v:Value}(h:l9 P ok s=some v):ok=true∧jh P (do pure (.value (<-s)))=some v∧scalar v=true:=by
 unfold l9 at h;cases ok with
 |false=>cases h
 |true=>
  simp only at h;split at h
  ·rename_i u a;split at h
   ·rename_i b;cases h;exact⟨rfl,a,b⟩
   ·cases h
  ·cases h
theorem qb{P:Program}{ρ:Operand->Value}{o:Oper}{v:Value}(h1:(o.op.operands.all fun x=>scalar (ρ x))=true)(h2:jh P (execOp ρ o)=some v)(a:scalar v=true):gF P ρ o=M.ret (.val v):=by unfold gF;rw[if_pos h1,h2,te,nr,if_pos a]
theorem abg{P:Program}{t:TypeId}(h:mb P t=false)(x y:Value):oL P t x y=none:=by
 unfold mb at h;unfold oL sQ;generalize P.underlying t=d at h;cases d with
 |none=>rfl
 |some d=>cases d<;>first|(cases h;done)|rfl|(unfold oK;rfl)
theorem abh{c:BinOp}{t:TypeId}{x y:Operand}{a b:Value}(e:scalar a=true)(d:scalar b=true):eqGuard c t x y a b=pure ():=by
 cases a<;>first|(simp[scalar]at e;done)|skip
 all_goals cases b<;>first|(simp[scalar]at d;done)|skip
 all_goals cases c<;>rfl
theorem abj {P:Program} {b:S} {d:BinOp} {t e:TypeId} {x y:Operand} {v:Value} {c:Option Tmp} {ty:TypeId} {pos:String} {after:Array Edge} {guard:Option (Nat×Bool)}
 (h:dJ P d t (ev b x) (ev b y)=some v):cu P (ev b) ⟨c,.binOp d t x y e,ty,pos,after,guard⟩=M.ret (.val v):=by
 unfold dJ at h;split at h
 ·unfold FH at h;unfold cu;simp only;split at h
  ·rename_i q;cases h;rw[q]
  ·rename_i q;cases h;rw[q]
  ·cases h
 ·rename_i f;unfold FI at h;obtain⟨a,i,g⟩:=xF h;unfold cu;simp only[abg f];simp only[bW]at a;refine qb (by simp[dG,a.1,a.2]) ?_ g;rw[<-i];simp only[execOp,abh a.1 a.2];rfl
theorem abk{a b:Option TypeDesc}{v:Value}(h:sY a b=none):sR a b v=none:=by
 unfold sY at h;unfold sR;split at h
 ·cases h
 ·rename_i c;split
  ·rename_i e s;exact(c _ rfl rfl).elim
  ·rfl
theorem MW{d c:Type}{f:d->c}{l:List d}{a b:c}(h:l.map f=[a,b]):∃x y,l=[x,y]∧f x=a∧f y=b:=by
 match l,h with
 |[x,y],h=>simp at h;exact⟨x,y,rfl,h.1,h.2⟩
theorem abl{j i:Type}{f:j->i}{l:List j}{a b c d e g:i}(h:l.map f=[a,b,c,d,e,g]):∃x y z u t s,l=[x,y,z,u,t,s]∧f x=a∧f y=b∧f z=c∧f u=d∧f t=e∧f s=g:=by
 match l,h with
 |[x,y,z,u,t,s],h=>simp at h;exact⟨x,y,z,u,t,s,rfl,h⟩
theorem abm{c b:Type}{f:c->b}{l:List c}{a:b}(h:l.map f=[a]):∃x,l=[x]∧f x=a:=by
 match l,h with
 |[x],h=>simp at h;exact⟨x,rfl,h⟩
theorem xG{b:Type}{a:Array b}{l:List b}(h:a.toList=l):a=l.toArray:=by cases a;simp at h;rw[h]
theorem zip_map{b d c:Type}(f:b->d)(g:b->c)(l:List b):(l.map f).zip (l.map g)=l.map fun x=>(f x,g x):=by
 induction l with
 |nil=>rfl
 |cons a l e=>simp[e]
theorem abn{P:Program}{t:TypeId}{x a v:Value}(h:AO P t x a=some v):isStr x=true∧scalar a=true∧jh P (do pure (.value (<-An t x a)))=some v∧scalar v=true:=by
 unfold AO at h;split at h
 ·rename_i b;obtain⟨e,d,c⟩:=xF h;exact⟨b,e,d,c⟩
 ·cases h
theorem abo{P:Program}{t:TypeId}{x a v:Value}(h:AP P t x a=some v):isStr x=false∧ve P t x a=some v:=by
 unfold AP at h;split at h
 ·cases h
 ·rename_i b;exact⟨b,h⟩
theorem MX{x:Value}(h:isStr x=true):scalar x=true:=by cases x<;>first|rfl|(simp[isStr]at h)
theorem oU{P:Program}{t:TypeId}{d:TypeDesc}(h:P.underlying t=some d)(f:TypeDesc->Sem Next):jh P (underlying t>>=f)=jh P (f d):=by
 unfold underlying
 show jh P ((match P.underlying t with
  |some d=>pure d
  |none=>stuck "no such type")>>=f)=_
 rw[h];rfl
set_option maxHeartbeats 1000000 in
theorem abp {P:Program} {kn:List FuncId} {rec:FuncId->Array Value->M Value} (u2:∀f args h n v h1 n1 L,rec f args h n=some ⟨v,h1,n1,L⟩->ed (fun fuel=>cH P kn fuel f args) h n v h1 n1 L)
 {β:Type} {s:Fr} {s1:S} {o:Oper} {k:Value->M β} {h:H} {n:Nat} {r:Out β} (p:Sub s s1) (j:oS P rec s o k h n=some r):AU (fun fuel=>(cu P (ev s1) o).bind (cont P kn fuel)) k h n r:=by
 obtain⟨u4,op,ty,pos,after,guard⟩:=o;unfold oS at j;cases op with
 |move x=>obtain⟨v,m,j⟩:=cJ j;exact jZ j fun fuel=>by rw[<-p.bB m];exact kv
 |assign x=>obtain⟨v,m,j⟩:=cJ j;exact jZ j fun fuel=>by rw[<-p.bB m];exact kv
 |pick c a b=>
  obtain⟨vc,E,j⟩:=cJ j;obtain⟨K,A,j⟩:=cJ j;obtain⟨vb,I,j⟩:=cJ j;obtain⟨v,m,j⟩:=cJ j;refine jZ j fun fuel=> ?_;unfold cu;simp only[p.bB E,p.bB A,p.bB I];unfold MQ at m;split at m
  ·cases m;exact kv
  ·cases m
 |alloc e=>exact mL j fun fuel=>mK
 |box e x=>obtain⟨v,m,j⟩:=cJ j;exact mL j fun fuel=>by rw[<-p.bB m];exact mK
 |build t U=>obtain⟨vs,m,j⟩:=vo p j;refine mL j fun fuel=> ?_;rw[m,LC,zip_map];exact mK
 |buildSlice t len U=>obtain⟨vs,m,j⟩:=vo p j;refine mL j fun fuel=> ?_;rw[m,LC,zip_map];exact mK
 |load t a=>obtain⟨v,m,j⟩:=cJ j;exact mL j fun fuel=>by rw[<-p.bB m];exact mK
 |store t a x=>obtain⟨K,A,j⟩:=cJ j;obtain⟨v,m,j⟩:=cJ j;exact mL j fun fuel=>by rw[<-p.bB m,<-p.bB A];exact mK
 |nilCheck x=>
  obtain⟨v,m,j⟩:=cJ j;obtain⟨u,O,j⟩:=cJ j;refine jZ j fun fuel=> ?_;unfold cu;simp only[p.bB m];unfold MR at O;split at O
  ·cases O;exact(congrArg (fun z=>M.bind z (cont P kn fuel)) (nr _ _)).trans kv
  ·cases O;exact(congrArg (fun z=>M.bind z (cont P kn fuel)) (nr _ _)).trans kv
  ·cases O
 |binOp op t x y yt=>obtain⟨K,A,j⟩:=cJ j;obtain⟨vb,I,j⟩:=cJ j;obtain⟨v,m,j⟩:=cJ j;rw[<-p.bB A,<-p.bB I]at m;exact jZ j fun fuel=>by simp only[abj m];exact kv
 |unOp op t x=>obtain⟨K,A,j⟩:=cJ j;obtain⟨v,m,j⟩:=cJ j;rw[<-p.bB A]at m;obtain⟨h1,R,X⟩:=xF m;refine jZ j fun fuel=> ?_;rw[<-kv (P:=P) (fuel:=fuel),<-qb (ρ:=ev s1) (o:=⟨u4,.unOp op t x,ty,pos,after,guard⟩) (by simpa[dG]using h1) R X];rfl
 |convert src d x=>
  obtain⟨K,A,j⟩:=cJ j;have T:=p.bB A;unfold AM at j;cases he:qQ (P.underlying src) (P.underlying d)with
  |some e=>
   simp only[he]at j;cases O:mH P e with
   |true=>simp only[O]at j;refine mL j fun fuel=> ?_;unfold cu;simp only[he,O,if_true,T];exact mK
   |false=>simp only[O]at j;cases j
  |none=>
   simp only[he]at j;cases D:sY (P.underlying src) (P.underlying d)with
   |some e=>
    simp only[D]at j;cases O:(mH P e&&size? P e==some 1)with
    |true=>
     simp only[O]at j;cases K with
     |string Z=>
      refine mL j fun fuel=> ?_;unfold cu;simp only[he,T];unfold AL
      have:sR (P.underlying src) (P.underlying d) (.string Z)=some (e,Z):=by
       revert D;generalize P.underlying src=a;generalize P.underlying d=b;intro D;unfold sY at D;split at D
       ·cases D;rfl
       ·cases D
      simp only[this,O,if_true];exact mK
     |_=>exfalso;obtain⟨c,R,n2,L⟩:=r;obtain⟨v,h1,n1,L1,L2,e1,e2,e3⟩:=bind_some j;obtain⟨L',e4,_⟩:=td e1;cases e4
    |false=>simp only[O]at j;cases j
   |none=>simp only[D]at j;obtain⟨v,m,j⟩:=cJ j;obtain⟨h1,R,X⟩:=xF m;refine jZ j fun fuel=> ?_;unfold cu;simp only[he,abk D];rw[qb (by simpa[dG,T]using h1) (by rw[<-R];simp only[execOp,T]) X];exact kv
 |makeFunc fn a b=>obtain⟨K,A,j⟩:=vo p j;obtain⟨vb,I,j⟩:=vo p j;refine jZ j fun fuel=> ?_;subst A I;unfold cu;simp only[<-pR,Array.toArray_toList];exact kv
 |makeSlice t l c=>obtain⟨K,A,j⟩:=cJ j;obtain⟨v,m,j⟩:=cJ j;exact mL j fun fuel=>by rw[<-p.bB m,<-p.bB A];exact mK
 |slice t x lo hi mx=>
  obtain⟨K,A,j⟩:=cJ j;have j:=FJ p j;have j:=FJ p j;have j:=FJ p j;have T:=p.bB A;unfold vn at j;cases u1:nq P t with
  |true=>
   simp only[u1]at j;obtain⟨v,m,j⟩:=cJ j;unfold AN at m;split at m
   ·rename_i N;obtain⟨h1,R,X⟩:=xF m;refine jZ j fun fuel=> ?_;unfold cu;simp only[T,N,if_true];simp only[bW]at h1;rw[qb ?_ (by rw[<-R];simp only[execOp,T]) X]
    ·exact kv
    ·have q1:=h1.1.1;have q2:=h1.1.2;have q3:=h1.2;simp only[dG];have q0:=MX N;cases lo<;>cases hi<;>cases mx<;>simp_all [sZ]
   ·cases m
  |false=>
   simp only[u1]at j;refine mL j fun fuel=> ?_;unfold s7;unfold cu;simp only[T];cases N:isStr K with
   |true=>exfalso;obtain⟨c,R,n2,L⟩:=r;obtain⟨v,h1,n1,L1,L2,e1,e2,e3⟩:=bind_some j;obtain⟨L',e4,_⟩:=td e1;unfold s7 at e4;rw[N]at e4;cases e4
   |false=>simp only[oF,if_false];exact mK
 |fieldAddr t x f=>obtain⟨K,A,j⟩:=cJ j;obtain⟨v,m,j⟩:=cJ j;refine jZ j fun fuel=> ?_;unfold cu;simp only[p.bB A,m,te,nr];rfl
 |field t x f=>obtain⟨K,A,j⟩:=cJ j;obtain⟨v,m,j⟩:=cJ j;refine jZ j fun fuel=> ?_;unfold cu;simp only[p.bB A,m,te,nr];rfl
 |indexAddr t x f=>obtain⟨K,A,j⟩:=cJ j;obtain⟨vb,I,j⟩:=cJ j;obtain⟨v,m,j⟩:=cJ j;refine jZ j fun fuel=> ?_;unfold cu;simp only[p.bB A,p.bB I,m,te,nr];rfl
 |index t x f=>
  obtain⟨K,A,j⟩:=cJ j;obtain⟨vb,I,j⟩:=cJ j;obtain⟨v,m,j⟩:=cJ j;refine jZ j fun fuel=> ?_;unfold cu;unfold s9 at m;split at m
  ·obtain⟨h0,h1,R,X⟩:=abn m;simp only[p.bB A,p.bB I,h0,if_true];rw[qb (by simp[dG,p.bB A,p.bB I,h1,MX h0]) (by rw[<-R];simp only[execOp,p.bB A,p.bB I]) X];exact kv
  ·obtain⟨h0,h1⟩:=abo m;simp only[p.bB A,p.bB I,h0,h1,te,nr,oF,if_false];rfl
 |extract t i=>obtain⟨K,A,j⟩:=cJ j;obtain⟨v,m,j⟩:=cJ j;refine jZ j fun fuel=> ?_;unfold cu;simp only[p.bB A,m,te,nr];rfl
 |call c=>
  obtain⟨vs,m,j⟩:=vo p j;unfold call2 at j;cases E:c.callee with
  |value f=>
   simp only[E]at j;obtain⟨fv,u3,j⟩:=cJ j;unfold ku at j;obtain⟨q,hq,j⟩:=cJ j;obtain⟨g,first,Y⟩:=q;simp only at j;cases I:ni P g with
   |true=>simp only[I]at j;refine abf u2 j fun fuel=> ?_;unfold cu kq;simp only[E,p.bB u3,hq,I,if_true];rw[abe];congr 1;subst m;apply xG;simp
   |false=>simp only[I]at j;cases j
  |builtin b=>
   simp only[E]at j;cases b with
   |append=>simp only at j;unfold MU at j;obtain⟨q,hq,j⟩:=cJ j;obtain⟨t,x,y⟩:=q;refine mL j fun fuel=> ?_;unfold cu kq;simp only[E,pR,<-m,hq];exact mK
   |copy=>simp only at j;unfold MV at j;obtain⟨q,hq,j⟩:=cJ j;obtain⟨t,x,y⟩:=q;refine mL j fun fuel=> ?_;unfold cu kq;simp only[E,pR,<-m,hq];exact mK
   |len=>
    simp only at j;obtain⟨v,B,j⟩:=cJ j;refine jZ j fun fuel=> ?_;unfold cu kq;simp only[E,pR,<-m];unfold xE at B;split at B
    ·rename_i t u ht;split at B
     ·rename_i e W;unfold MS at B;split at B
      ·cases B;simp only[sS,ht,W];exact kv
      ·cases B
     ·rename_i W;unfold MT at B;split at B
      ·rename_i Z;cases B;have:sS P c.argTypes [Value.string Z]=none:=by simp[sS,ht]
       simp only[this];obtain⟨x,J,G⟩:=abm m.symm;have C:=xG J;rw[qb (v:= .int .i64 Z.size) ?_ ?_ rfl]
       ·exact kv
       ·simp[dG,uQ,E,C,G,scalar]
       ·simp only[execOp,resolve,E,C];simp[G,invoke,builtin,LD,ht];rw[oU W];rfl
      ·cases B
     ·cases B
    ·cases B
   |min=>
    simp only at j;obtain⟨v,B,j⟩:=cJ j;refine jZ j fun fuel=> ?_;unfold cu kq;simp only[E];unfold min2 at B;split at B
    ·rename_i kd a0 u0 b0;obtain⟨x,y,J,G,Q⟩:=MW m.symm;have C:=xG J;rw[qb (v:=v) ?_ ?_ (by cases B;rfl)]
     ·exact kv
     ·simp[dG,uQ,E,C,G,Q,scalar]
     ·cases B;simp only[execOp,resolve,E,C];simp[G,Q];rfl
    ·rename_i kd a0 u0 b0 uu8 c0 u7 d0 u6 e0 u5 f0;obtain⟨x,y,z,u,t,s,J,q1,q2,q3,q4,q5,q6⟩:=abl m.symm;have C:=xG J;rw[qb (v:=v) ?_ ?_ (by cases B;rfl)]
     ·exact kv
     ·simp[dG,uQ,E,C,q1,q2,q3,q4,q5,q6,scalar]
     ·cases B;simp only[execOp,resolve,E,C];simp[q1,q2,q3,q4,q5,q6];rfl
    ·cases B
   |max=>
    simp only at j;obtain⟨v,B,j⟩:=cJ j;refine jZ j fun fuel=> ?_;unfold cu kq;simp only[E];unfold max2 at B;split at B
    ·rename_i kd a0 u0 b0;obtain⟨x,y,J,G,Q⟩:=MW m.symm;have C:=xG J;rw[qb (v:=v) ?_ ?_ (by cases B;rfl)]
     ·exact kv
     ·simp[dG,uQ,E,C,G,Q,scalar]
     ·cases B;simp only[execOp,resolve,E,C];simp[G,Q];rfl
    ·cases B
   |_=>cases j
  |invoke _ _=>simp only[E]at j;cases j
 |_=>cases j
def Q0{c:Type}(m:M c):Prop:=∀h n a d b L,m h n=some ⟨a,d,b,L⟩->L=[]∧b=n
def Q1{c:Type}(m:M c):Prop:=∀h n a d b L,m h n=some ⟨a,d,b,L⟩->b=n∧∀e∈L,e.wr=false
def Q2{b:Type}(m:M b):Prop:=∀h n a d c L,m h n=some ⟨a,d,c,L⟩->L=[]
theorem Q0.ret{c:Type}(a:c):Q0 (M.ret a):=fun h n b f d L e=>by simp only[M.ret,dx,Out.mk.injEq]at e;exact⟨e.2.2.2.symm,e.2.2.1.symm⟩
theorem Q0.fail{a:Type}:Q0 (M.fail:M a):=fun h n b d c L e=>by cases e
theorem Q0.lift{b:Type}(o:Option b):Q0 (M.lift o):=by cases o with|none=>exact Q0.fail|some a=>exact Q0.ret a
theorem Q0.bind{c d:Type}{m:M c}{f:c->M d}(x:Q0 m)(y:∀a,Q0 (f a)):Q0 (m.bind f):=fun h n b l j L e=>by obtain⟨a,o,k,q,p,i,g,rfl⟩:=bind_some e;obtain⟨rfl,rfl⟩:=x _ _ _ _ _ _ i;obtain⟨rfl,rfl⟩:=y _ _ _ _ _ _ _ g;exact⟨rfl,rfl⟩
theorem Q0.q1{b:Type}{m:M b}(x:Q0 m):Q1 m:=fun h n a f d L e=>by obtain⟨rfl,rfl⟩:=x _ _ _ _ _ _ e;exact⟨rfl,fun e c=>nomatch c⟩
theorem Q0.q2{b:Type}{m:M b}(x:Q0 m):Q2 m:=fun h n a d c L e=>(x _ _ _ _ _ _ e).1
theorem Q1.bind{c d:Type}{m:M c}{f:c->M d}(x:Q1 m)(y:∀a,Q1 (f a)):Q1 (m.bind f):=fun h n b r o L e=>by
 obtain⟨a,s,p,u,t,l,k,rfl⟩:=bind_some e;obtain⟨rfl,j⟩:=x _ _ _ _ _ _ l;obtain⟨rfl,i⟩:=y _ _ _ _ _ _ _ k;refine⟨rfl,fun e g=> ?_⟩;rcases List.mem_append.1 g with q|q
 ·exact j e q
 ·exact i e q
theorem Q2.bind{c d:Type}{m:M c}{f:c->M d}(x:Q2 m)(y:∀a,Q2 (f a)):Q2 (m.bind f):=fun h n b l j L e=>by obtain⟨a,o,k,q,p,i,g,rfl⟩:=bind_some e;rw[x _ _ _ _ _ _ i,y _ _ _ _ _ _ _ g];rfl
theorem Q1.rd(b k:Nat):Q1 (Ev.rd b k):=fun h n a f d L e=>by
 unfold Ev.rd at e;split at e
 ·split at e
  ·split at e
   ·simp only[dx,Out.mk.injEq]at e;obtain⟨_,_,rfl,rfl⟩:=e;exact⟨rfl,fun e c=>by simp at c;subst c;rfl⟩
   ·cases e
  ·cases e
 ·cases e
theorem Q1.fh(b:Nat):Q1 (Ev.fh b):=fun h n a f d L e=>by
 unfold Ev.fh at e;split at e
 ·split at e
  ·simp only[dx,Out.mk.injEq]at e;obtain⟨_,_,rfl,rfl⟩:=e;exact⟨rfl,fun e c=>by simp at c;subst c;rfl⟩
  ·cases e
 ·cases e
theorem Q1.cT(b:Nat):∀n k,Q1 (Ev.cT b k n)
 |0,_=>(Q0.ret _).q1
 |n+1,k=>Q1.bind (Q1.rd _ _) fun _=>Q1.bind (Q1.cT b n _) fun _=>(Q0.ret _).q1
theorem Q2.cS(e:TypeId)(cs:List Value):Q2 (Ev.cS e cs):=fun h n a d c L b=>by
 unfold Ev.cS at b;split at b
 ·simp only[dx,Out.mk.injEq]at b;exact b.2.2.2.symm
 ·cases b
theorem Q0.gF(P:Program)(ρ:Operand->Value)(o:Oper):Q0 (Ev.gF P ρ o):=by
 unfold Ev.gF;split
 ·refine Q0.bind (Q0.lift _) fun v=> ?_;split
  ·exact Q0.ret _
  ·exact Q0.fail
 ·exact Q0.fail
theorem Q0.nilCheck(v:Value):Q0 (pV v):=by unfold pV;split<;>first|exact Q0.ret _|exact Q0.fail
theorem Q0.build(P:Program)(t:TypeId)(ps:List (Nat×Value)):Q0 (lW P t ps):=by
 unfold lW;split
 ·split
  ·split
   ·exact Q0.ret _
   ·exact Q0.fail
  ·exact Q0.fail
 ·exact Q0.fail
theorem Q1.load(P:Program)(t:TypeId)(v:Value):Q1 (ji P t v):=by
 unfold ji;split
 ·split
  ·exact Q1.bind (Q1.cT _ _ _) fun _=>(Q0.ret _).q1
  ·exact Q1.rd _ _
  ·exact Q0.fail.q1
 ·exact Q0.fail.q1
theorem Q1.abq(P:Program)(t:TypeId)(v:Value)(lo b a:Option Value):Q1 (ng P t v lo b a):=by
 unfold ng;split
 ·refine Q1.bind (Q1.fh _) fun _=> ?_;split
  ·split
   ·exact(Q0.lift _).q1
   ·exact Q0.fail.q1
  ·exact Q0.fail.q1
 ·exact(Q0.lift _).q1
theorem Q2.alloc(P:Program)(e:TypeId):Q2 (mE P e):=by
 unfold mE;split
 ·exact Q2.bind (Q2.cS _ _) fun _=>(Q0.ret _).q2
 ·exact Q0.fail.q2
theorem Q2.box(P:Program)(e:TypeId)(v:Value):Q2 (mF P e v):=by
 unfold mF;split
 ·exact Q2.bind (Q2.cS _ _) fun _=>(Q0.ret _).q2
 ·exact Q0.fail.q2
theorem Q2.buildSlice(P:Program)(t:TypeId)(len:Nat)(ps:List (Nat×Value)):Q2 (lX P t len ps):=by
 unfold lX
 repeat' (first|exact Q0.fail.q2|exact Q2.bind (Q2.cS _ _) fun _=>(Q0.ret _).q2|split)
theorem Q2.makeSlice(P:Program)(t:TypeId)(l c:Value):Q2 (mI P t l c):=by
 unfold mI
 repeat' (first|exact Q0.fail.q2|exact Q2.bind (Q2.cS _ _) fun _=>(Q0.ret _).q2|split)
def QK(k:Nat){a:Type}(m:M a):Prop:=(k=0->Q0 m)∧(k=1->Q1 m)∧(k=2->Q2 m)
theorem QK.j0{a:Type}{m:M a}(x:Q0 m)(k:Nat):QK k m:=⟨fun _=>x,fun _=>x.q1,fun _=>x.q2⟩
theorem QK.MY{a:Type}{m:M a}(x:Q1 m):QK 1 m:=⟨fun h=>by omega,fun _=>x,fun h=>by omega⟩
theorem QK.AV{a:Type}{m:M a}(x:Q2 m):QK 2 m:=⟨fun h=>by omega,fun h=>by omega,fun _=>x⟩
theorem QK.xH{a:Type}{m:M a}:QK 3 m:=⟨fun h=>by omega,fun h=>by omega,fun h=>by omega⟩
def vp(rec:FuncId->Array Value->M Value):Nx->M Value
 | .val v=> .ret v
 | .call f args=>rec f args
theorem abr{a b:Type}(f:a->M b):(M.fail:M a).bind f=M.fail:=rfl
theorem abt(P:Program)(ρ:Operand->Value)(rec:FuncId->Array Value->M Value)(o:Oper):QK (kind o.op) ((cu P ρ o).bind (vp rec)):=by
 have d:∀{m:M Value},(m.bind fun v=>M.ret (Nx.val v)).bind (vp rec)=m:=fun{m}=>by
  funext h n;unfold M.bind;cases m h n with
  |none=>rfl
  |some o=>simp[M.ret,vp]
 have j:∀(v:Value),(M.ret (Nx.val v)).bind (vp rec)=M.ret v:=fun v=>by rw[nr];rfl
 have g:Q0 ((gF P ρ o).bind (vp rec)):=by
  unfold gF;split
  ·intro h n r u s L e;obtain⟨x,T,J,Z,Y,C,B,rfl⟩:=bind_some e;obtain⟨y,R,I,X,W,A,p,rfl⟩:=bind_some C;obtain⟨rfl,rfl⟩:=Q0.lift _ _ _ _ _ _ _ A;split at p
   ·obtain⟨rfl,_,_⟩:=bK p;obtain⟨rfl,rfl⟩:=Q0.ret _ _ _ _ _ _ _ p;obtain⟨rfl,rfl⟩:=Q0.ret _ _ _ _ _ _ _ B;exact⟨rfl,rfl⟩
   ·cases p
  ·intro h n r u s L e;cases e
 obtain⟨D,q,G,pos,after,guard⟩:=o;cases q with
 |move x=>exact QK.j0 (by unfold cu;rw[j];exact Q0.ret _) _
 |assign x=>exact QK.j0 (by unfold cu;rw[j];exact Q0.ret _) _
 |pick c a b=>
  refine QK.j0 ?_ _;unfold cu;simp only;split
  ·rw[j];exact Q0.ret _
  ·rw[abr];exact Q0.fail
 |alloc e=>exact QK.AV (by unfold cu;rw[d];exact Q2.alloc _ _)
 |box e x=>exact QK.AV (by unfold cu;rw[d];exact Q2.box _ _ _)
 |build t z=>exact QK.j0 (by unfold cu;rw[d];exact Q0.build _ _ _) _
 |buildSlice t len z=>exact QK.AV (by unfold cu;rw[d];exact Q2.buildSlice _ _ _ _)
 |load t a=>exact QK.MY (by unfold cu;rw[d];exact Q1.load _ _ _)
 |nilCheck x=>exact QK.j0 (by unfold cu;rw[d];exact Q0.nilCheck _) _
 |binOp q t x y E=>
  refine QK.j0 ?_ _;unfold cu;simp only;split
  ·rw[j];exact Q0.ret _
  ·rw[j];exact Q0.ret _
  ·exact g
  ·intro h n a u s L e;cases e
 |unOp q t x=>exact QK.j0 (g) _
 |makeFunc U a b=>exact QK.j0 (by unfold cu;rw[j];exact Q0.ret _) _
 |makeSlice t l c=>exact QK.AV (by unfold cu;rw[d];exact Q2.makeSlice _ _ _ _)
 |slice t x N Q K=>
  refine QK.MY ?_;unfold cu;simp only;split
  ·exact(g).q1
  ·rw[d];exact Q1.abq _ _ _ _ _ _
 |fieldAddr t x f=>exact QK.j0 (by unfold cu;rw[d];exact Q0.lift _) _
 |field t x f=>exact QK.j0 (by unfold cu;rw[d];exact Q0.lift _) _
 |indexAddr t x f=>exact QK.j0 (by unfold cu;rw[d];exact Q0.lift _) _
 |index t x O=>
  refine QK.j0 ?_ _;unfold cu;simp only;split
  ·exact g
  ·rw[d];exact Q0.lift _
 |extract t i=>exact QK.j0 (by unfold cu;rw[d];exact Q0.lift _) _
 |call c=>
  unfold kind;simp only;split
  ·rename_i k;refine QK.j0 ?_ _;unfold cu kq;simp only[k];split
   ·rw[j];exact Q0.ret _
   ·exact g
  ·rename_i k;refine QK.j0 ?_ _;unfold cu kq;simp only[k];exact g
  ·rename_i k;refine QK.j0 ?_ _;unfold cu kq;simp only[k];exact g
  ·exact QK.xH
 |_=>exact QK.xH
structure AW (o:Oper) (t:Tk):Prop where
 le:t.n<=t.n1
 lt:∀e∈t.log,e.b<t.n1
 k0:kind o.op=0->t.log=[]∧t.n1=t.n
 k1:kind o.op=1->t.n1=t.n∧∀e∈t.log,e.wr=false
 k2:kind o.op=2->t.log=[]
inductive nu:Nat->List Oper->List Tk->Nat->Prop
 |nil (n:Nat):nu n [] [] n
 |cons {n m:Nat} {o:Oper} {t:Tk} {r:List Oper} {ts:List Tk} (h:AW o t) (e:t.n=n) (x:nu t.n1 r ts m):nu n (o::r) (t::ts) m
theorem nu.le{n m:Nat}{l:List Oper}{a:List Tk}(x:nu n l a m):n<=m:=by
 induction x with
 |nil n=>exact ah _
 |cons h e x b=>have:=h.le;omega
theorem any_false{a:Type}{l:List a}{p:a->Bool}(h:∀x∈l,p x=false):l.any p=false:=by rw[List.any_eq_false];intro x b;rw[h x b];exact Bool.false_ne_true
theorem abu{a b:Oper}{i h:Tk}(d:AW a i)(e:AW b h)(k:i.n1<=h.n)(hf:fits (kind a.op) (kind b.op)=true):i.cA h=false:=by
 have n:=d.le;have m:=e.le;unfold fits at hf;simp only[oD,beq_iff_eq,bW]at hf;unfold Tk.cA;rcases hf with (((hf|hf)|hf)|hf)|hf
 ·obtain⟨f,g⟩:=d.k0 hf;rw[f];simp only[E1,E2,ZK,E3,xf];refine⟨any_false fun x _=>rfl,any_false fun x c=> ?_⟩;simp;omega
 ·obtain⟨f,g⟩:=e.k0 hf;rw[f];simp only[E1,E2,xf,ZK,E3];refine⟨any_false fun x _=>rfl,any_false fun x c=> ?_⟩;simp;omega
 ·obtain⟨f,g⟩:=d.k1 hf.1;obtain⟨j,l⟩:=e.k1 hf.2;simp only[xf];refine⟨⟨⟨any_false fun x c=>by rw[g x c];rfl,any_false fun x c=>by rw[l x c];rfl⟩,any_false fun x c=> ?_⟩,any_false fun x c=> ?_⟩
  ·simp;omega
  ·simp;omega
 ·rw[d.k2 hf.1,e.k2 hf.2];rfl
 ·obtain⟨f,g⟩:=d.k1 hf.1;have j:=e.k2 hf.2;rw[j];simp only[E1,E2,xf,E3];refine⟨any_false fun x _=>rfl,any_false fun x c=> ?_⟩;have:=d.lt x c;simp;omega
theorem MZ{P:Program}{rec:FuncId->Array Value->M Value}{ops:Array Oper}{o:Oper}{s:S}(h:gh o (gR ops s)=true):fR P rec ops o s=(cu P (ev s) o).bind (vp rec):=by unfold fR;rw[if_pos h];rfl
theorem abv{P:Program}{rec:FuncId->Array Value->M Value}{ops:Array Oper}{o:Oper}{s:S}:QK (kind o.op) (fR P rec ops o s):=by
 by_cases h:gh o (gR ops s)=true
 ·rw[MZ h];exact abt _ _ _ _
 ·unfold fR;rw[if_neg h];exact QK.j0 (Q0.ret _) _
theorem filter_nil{a:Type}{L:List a}{p:a->Bool}(h:L=[]):L.filter p=[]:=by rw[h];rfl
theorem FK{d:Type}{m:M d}{h h1:H}{n c:Nat}{x:d×Tk}{L:List En}(b:az m h n=some ⟨x,h1,c,L⟩):m h n=some ⟨x.1,h1,c,L⟩∧x.2=⟨n,c,L⟩:=by
 unfold az at b;split at b
 ·rename_i a g f i e;simp only[dx,Out.mk.injEq]at b;obtain⟨rfl,rfl,rfl,rfl⟩:=b;exact⟨e,rfl⟩
 ·cases b
theorem xI{c:Type}{m:M c}{h h1:H}{n b:Nat}{a:c}{L:List En}(e:m h n=some ⟨a,h1,b,L⟩):az m h n=some ⟨(a,⟨n,b,L⟩),h1,b,L⟩:=by unfold az;rw[e]
theorem abw{P:Program}{rec:FuncId->Array Value->M Value}(i:∀f a,Loc (rec f a)){nt:Nat}{ops:Array Oper}:∀(l:List Oper) (s:S) (h h1:H) (n d:Nat) (y:S×List Tk) (L:List En),iZ P rec nt ops l s h n=some ⟨y,h1,d,L⟩->nu n l y.2 d:=by
 intro l
 induction l with
 |nil=>intro s h h1 n d y L g;obtain⟨rfl,rfl,rfl⟩:=bK g;exact .nil _
 |cons o l m=>
  intro s h h1 n d y L g;unfold iZ at g;obtain⟨x,N,G,W,U,B,v,_⟩:=bind_some g;obtain⟨C,J,E,T,R,u,t,_⟩:=bind_some v;obtain⟨z,I,D,Q,O,r,q,_⟩:=bind_some t;obtain⟨rfl,rfl,rfl⟩:=bK q;obtain⟨_,rfl,rfl⟩:=lZ u;obtain⟨k,b⟩:=FK B;obtain⟨X,j,rfl⟩:=td k;have A:=Loc.inside (Loc.fR i ops o s) h n _ _ _ _ k;have K:=abv (P:=P) (rec:=rec) (ops:=ops) (o:=o) (s:=s);refine .cons ⟨?_, ?_,fun c=> ?_,fun c=> ?_,fun c=> ?_⟩ ?_ ?_
  ·rw[b];exact A.le
  ·rw[b];exact A.lt
  ·obtain⟨q1,q2⟩:=K.1 c _ _ _ _ _ _ j;rw[b];exact⟨filter_nil q1,q2⟩
  ·obtain⟨q1,q2⟩:=K.2.1 c _ _ _ _ _ _ j;rw[b];exact⟨q1,fun e p=>q2 e (List.mem_filter.1 p).1⟩
  ·rw[b];exact filter_nil (K.2.2 c _ _ _ _ _ _ j)
  ·rw[b]
  ·rw[b];exact m _ _ _ _ _ _ _ r
theorem abx{n m:Nat}{l:List Oper}{d:List Tk}(x:nu n l d m):∀(i:Nat) (a:Tk),d[i]? =some a->∃c:Oper,l[i]? =some c∧AW c a∧n<=a.n:=by
 induction x with
 |nil n=>intro i a b;simp at b
 |cons h e x f=>
  intro i a b;cases i with
  |zero=>simp at b;subst b;exact⟨_,rfl,h,jO⟩
  |succ i=>obtain⟨c,j,g,k⟩:=f i a (by simpa using b);exact⟨c,by simpa using j,g,by have:=h.le;omega⟩
theorem M0{ops:Array Oper}{g:List Nat}:∀(l:List Oper) (a:List Tk) (n m j:Nat),nu n l a m->(∀i o,l[i]? =some o->ops.getD (j+i) default=o)->
 (∀p q f d r k,p<q->l[p]? =some f->l[q]? =some d->a[p]? =some r->a[q]? =some k->(g.getD (j+q) 0).testBit (j+p)=true∨((fits (kind f.op) (kind d.op)=true∨r.cA k=false)∧oN ops f d=false))->oO ops g (tagged j a)=true:=by
 intro l
 induction l with
 |nil=>intro a n m j x _ _;cases x;rfl
 |cons o l D=>
  intro a n m j x s y;cases x with
  |@cons _ _ _ t _ a h e x=>
   unfold tagged oO;simp only[bW,Am]
   refine⟨?_,D a _ m (j+1) x (fun i C c=>by have:=s (i+1) C (by simpa using c);rw[show j+1+i=j+(i+1) by omega];exact this) (fun p q f d r k I N L K J=>by
    have:=y (p+1) (q+1) f d r k jO (by simpa using N) (by simpa using L) (by simpa using K) (by simpa using J);rw[show j+1+q=j+(q+1) by omega,show j+1+p=j+(p+1) by omega]
    exact this)⟩
   intro z E;obtain⟨i,c⟩:=List.mem_iff_getElem?.1 E;rw[Fx]at c;cases b:a[i]? with
   |none=>rw[b]at c;cases c
   |some u=>
    rw[b]at c;simp only[Aj,dx]at c;subst c;obtain⟨v,A,P,O⟩:=abx x i u b;have B:=s 0 o rfl;have Q:=s (i+1) v (by simpa using A);have hq:=y 0 (i+1) o v t u jO rfl (by simpa using A) rfl (by simpa using b);rw[jd]at B hq;simp only[show j+1+i=j+(i+1) by omega,B,Q,oD,bW,Ao];rcases hq with hq|⟨hq,G⟩
    ·exact .inl hq
    ·refine .inr ⟨?_,G⟩;rcases hq with hq|hq
     ·exact abu h P O hq
     ·exact hq
theorem aby{ops:Array Oper}{a:List Nat}{j:Nat}{b:Oper}:∀(l:List Oper) (k:Nat),AQ ops a j b k l=true->∀i o,l[i]? =some o->(a.getD (k+i) 0).testBit j=true∨(fits (kind b.op) (kind o.op)=true∧oN ops b o=false):=by
 intro l
 induction l with
 |nil=>intro k _ i o h;simp at h
 |cons o l e=>
  intro k h i d c;unfold AQ at h;simp only[bW,oD,Ao]at h;cases i with
  |zero=>simp at c;subst c;exact h.1
  |succ i=>rw[show k+(i+1)=k+1+i by omega];exact e (k+1) h.2 i d (by simpa using c)
theorem abz{ops:Array Oper}{c:List Nat}:∀(l:List Oper) (j:Nat),AR ops c j l=true->∀p q b a,p<q->l[p]? =some b->l[q]? =some a->(c.getD (j+q) 0).testBit (j+p)=true∨(fits (kind b.op) (kind a.op)=true∧oN ops b a=false):=by
 intro l
 induction l with
 |nil=>intro k _ p q b a _ h;simp at h
 |cons o l f=>
  intro j h p q b a g d e;unfold AR at h;simp only[bW]at h;cases q with
  |zero=>omega
  |succ q=>
   cases p with
   |zero=>simp at d;subst d;have:=aby l (j+1) h.1 q a (by simpa using e);rw[show j+(q+1)=j+1+q by omega,jd];exact this
   |succ p=>have:=f (j+1) h.2 p q b a jO (by simpa using d) (by simpa using e);rw[show j+(q+1)=j+1+q by omega,show j+(p+1)=j+1+p by omega];exact this
theorem M3(ops:Array Oper)(i:Nat)(o:Oper)(h:ops.toList[i]? =some o):ops.getD (0+i) default=o:=by rw[fy];rw[E0]at h;simp[Array.getD_eq_getD_getElem?,h]
theorem abA{ops:Array Oper}{a:List Tk}{n m:Nat}(x:nu n ops.toList a m)(h:AS ops=true):qT ops=true∧oO ops (lH ops.toList []) (tagged 0 a)=true:=by
 unfold AS at h;simp only[bW]at h;refine⟨h.1,M0 ops.toList a n m 0 x (M3 ops) fun p q d c j i b f e l k=> ?_⟩;rcases abz ops.toList 0 h.2 p q d c b f e with g|g
 ·exact .inl g
 ·exact .inr ⟨.inl g.1,g.2⟩
end Go.Proofs.YtmjolmggelkjlaaGreat.Ev
namespace Go.Proofs.YtmjolmggelkjlaaGreat.Ev
open Go Go.RowKit
theorem aH{x:Int}(a:-9223372036854775808<=x)(h1:x<=9223372036854775807):IntKind.i64.wrap x=x:=IntWalk.i64_in x jO
def nv(k:IntKind)(z:Int):Int:=match k,z with
 | .i64,.ofNat m=>match bG m 9223372036854775807 with
   |true=>z
   |false=>k.wrap z
 | .i64,.negSucc m=>match bG m 9223372036854775807 with
   |true=>z
   |false=>k.wrap z
 | .u8,.ofNat m=> .ofNat (m %256)
 | .u32,.ofNat m=> .ofNat (m %4294967296)
 | .u64,.ofNat m=> .ofNat (m %18446744073709551616)
 |_,_=>k.wrap z
theorem ky(k:IntKind)(z:Int):nv k z=k.wrap z:=by
 unfold nv;split
 ·rename_i m;cases h:bG m 9223372036854775807 with
  |true=>have:m<=9223372036854775807:=gC h;exact(aH (x:=((m:Nat):Int)) jO jO).symm
  |false=>rfl
 ·rename_i m;cases h:bG m 9223372036854775807 with
  |true=>have:m<=9223372036854775807:=gC h;exact(aH (x:=amH m) jO jO).symm
  |false=>rfl
 ·rename_i m;show((m %256:Nat):Int)=IntKind.u8.wrap m;simp[ZU,E4,ZV]
 ·rename_i m;show((m %4294967296:Nat):Int)=IntKind.u32.wrap m;simp[ZU,E4,ZV]
 ·rename_i m;show((m %18446744073709551616:Nat):Int)=IntKind.u64.wrap m;simp[ZU,E4,ZV]
 ·rfl
def AX(a b:Int):Int:=match a,b with
 | .ofNat x,.ofNat y=> .ofNat (gD x y)
 |_,_=>a+b
theorem M4(a b:Int):AX a b=a+b:=by unfold AX;split<;>rfl
def AY(a b:Int):Int:=match a,b with
 | .ofNat x,.ofNat y=>match bG y x with
   |true=> .ofNat (E5 x y)
   |false=> .negSucc (E5 (E5 y x) 1)
 |_,_=>a-b
theorem AZ(a b:Int):AY a b=a-b:=by
 unfold AY;split
 ·rename_i x y;cases h:bG y x with
  |true=>have:=gC h;show((x-y:Nat):Int)=(x:Int)-y;omega
  |false=>
   have:¬y<=x:=fun q=>by rw[lF q]at h;cases h
   show amH (y-x-1)=(x:Int)-y;omega
 ·rfl
def FL(a b:Int):Int:=match a,b with
 | .ofNat x,.ofNat y=> .ofNat (LH x y)
 |_,_=>a*b
theorem M5(a b:Int):FL a b=a*b:=by unfold FL;split<;>rfl
def oV(a b:Int):Bool:=match a,b with
 | .ofNat x,.ofNat y=>bV x y
 |_,_=>a==b
theorem q9(a b:Int):oV a b=(a==b):=by
 unfold oV;split
 ·rename_i x y;cases h:bV x y with
  |true=>rw[kO h];simp
  |false=>have:x≠y:=ZW h;symm;rw[beq_eq_false_iff_ne];intro q;exact this (anX q)
 ·rfl
def A0(a b:Int):Bool:=match a,b with
 | .ofNat x,.ofNat y=>bG x y
 |_,_=>decide (a<=b)
theorem A1(a b:Int):A0 a b=decide (a<=b):=by
 unfold A0;split
 ·rename_i x y;cases h:bG x y with
  |true=>have:=gC h;symm;rw[decide_eq_true_eq];show(x:Int)<=y;omega
  |false=>
   have:¬x<=y:=fun q=>by rw[lF q]at h;cases h
   symm;rw[decide_eq_false_iff_not];show¬((x:Int)<=y);omega
 ·rfl
def vq(a b:Int):Bool:=match a,b with
 | .ofNat x,.ofNat y=>bG (fz x) y
 |_,_=>decide (a<b)
theorem qc(a b:Int):vq a b=decide (a<b):=by
 unfold vq;split
 ·rename_i x y;cases h:bG (fz x) y with
  |true=>have:=gC h;symm;rw[decide_eq_true_eq];show(x:Int)<y;omega
  |false=>
   have:¬fz x<=y:=fun q=>by rw[lF q]at h;cases h
   symm;rw[decide_eq_false_iff_not];show¬((x:Int)<y);omega
 ·rfl
def qd:List UInt8->List UInt8->Bool
 |[],[]=>true
 |a::l,b::m=>match bV a.toNat b.toNat with
  |true=>qd l m
  |false=>false
 |_,_=>false
theorem A2:∀a b:List UInt8,qd a b=decide (a=b)
 |[],[]=>rfl
 |a::l,b::m=>by
  unfold qd;cases h:bV a.toNat b.toNat with
  |true=>have e:a=b:=UInt8.toNat_inj.1 (kO h);subst e;simp only;rw[A2 l m];simp
  |false=>have e:a≠b:=fun q=>ZW h (by rw[q]);symm;rw[decide_eq_false_iff_not];intro q;exact e (anY q).1
 |[],_::_=>by unfold qd;simp
 |_::_,[]=>by unfold qd;simp
def A3:List UInt8->List UInt8->List UInt8
 |[],m=>m
 |a::l,m=>a::A3 l m
theorem FM:∀l m:List UInt8,A3 l m=l++m
 |[],_=>rfl
 |a::l,m=>by unfold A3;rw[FM l m];rfl
def jl:List UInt8->Nat
 |[]=>0
 |_::l=>fz (jl l)
theorem oW:∀l:List UInt8,jl l=l.length
 |[]=>rfl
 |_::l=>by unfold jl;rw[oW l];rfl
def qe:List UInt8->Nat->Option UInt8
 |[],_=>none
 |a::l,i=>match i with
  |0=>some a
  |i+1=>qe l i
theorem FN:∀(l:List UInt8) (i:Nat) (b:UInt8),qe l i=some b->i<l.length∧l.getD i 0=b
 |[],_,_,h=>by cases h
 |a::l,0,b,h=>by unfold qe at h;cases h;exact⟨Nat.zero_lt_succ _,rfl⟩
 |a::l,i+1,b,h=>by unfold qe at h;obtain⟨d,c⟩:=FN l i b h;exact⟨Nat.succ_lt_succ d,c⟩
def oX:IntKind->IntKind->Bool
 | .i64,.i64| .u8,.u8| .u32,.u32| .u64,.u64| .i8,.i8| .i16,.i16| .i32,.i32| .u16,.u16=>true
 |_,_=>false
theorem A4(k:IntKind):oX k k=true:=by cases k<;>rfl
theorem A5{a b:IntKind}(h:oX a b=true):a=b:=by cases a<;>cases b<;>first|rfl|cases h
def pw:IntKind->Nat
 | .i64| .u64=>18446744073709551616
 | .i32| .u32=>4294967296
 | .i16| .u16=>65536
 | .i8| .u8=>256
theorem abB(k:IntKind):pw k=2^k.bits:=by cases k<;>rfl
theorem M6(w x:Nat):(BitVec.ofInt w (x:Int)).toNat=x %2^w:=by rw[BitVec.ofInt_natCast,BitVec.toNat_ofNat]
noncomputable def vr {a:Type}:Nat->Tr a->Nat->Option a
 |0,_,_=>none
 |_+1,.nil,_=>none
 |f+1,.node l v r,i=>match bV i 0 with
  |true=>v
  |false=>match bV (jW i 2) 1 with
   |true=>vr f l (kj i 2)
   |false=>vr f r (qO (kj i 2))
theorem re(a b:Nat):bV a b=decide (a=b):=by
 cases h:bV a b with
 |true=>rw[kO h];simp
 |false=>have:=ZW h;simp[this]
theorem FO{d:Type}:∀(f:Nat) (t:Tr d) (i:Nat),vr f t i=Tr.get f t i
 |0,_,_=>rfl
 |_+1,.nil,_=>rfl
 |f+1,.node l v r,i=>by
  unfold vr Tr.get;rw[re,re];by_cases c:i=0
  ·simp[c]
  ·by_cases b:i %2=1
   ·have a:jW i 2=1:=b;simp only[c,b,a,decide_true,decide_false,if_true,if_false];exact FO f l (i/2)
   ·have a:¬jW i 2=1:=b;simp only[c,b,a,decide_false,if_false];exact FO f r (i/2-1)
noncomputable def mc {b:Type}:Nat->Tr b->Nat->Option b->Tr b
 |0,t,_,_=>t
 |f+1,.nil,i,a=>match bV i 0 with
  |true=> .node .nil a .nil
  |false=>match bV (jW i 2) 1 with
   |true=> .node (mc f .nil (kj i 2) a) none .nil
   |false=> .node .nil none (mc f .nil (qO (kj i 2)) a)
 |f+1,.node l v r,i,a=>match bV i 0 with
  |true=> .node l a r
  |false=>match bV (jW i 2) 1 with
   |true=> .node (mc f l (kj i 2) a) v r
   |false=> .node l v (mc f r (qO (kj i 2)) a)
theorem xJ{e:Type}:∀(f:Nat) (t:Tr e) (i:Nat) (a:Option e),mc f t i a=Tr.set f t i a
 |0,_,_,_=>rfl
 |f+1,.nil,i,a=>by
  unfold mc Tr.set;rw[re,re];by_cases d:i=0
  ·simp[d]
  ·by_cases c:i %2=1
   ·have b:jW i 2=1:=c;simp only[d,c,b,decide_true,decide_false,if_true,if_false];rw[xJ f .nil];rfl
   ·have b:¬jW i 2=1:=c;simp only[d,c,b,decide_false,if_false];rw[xJ f .nil];rfl
 |f+1,.node l v r,i,a=>by
  unfold mc Tr.set;rw[re,re];by_cases d:i=0
  ·simp[d]
  ·by_cases c:i %2=1
   ·have b:jW i 2=1:=c;simp only[d,c,b,decide_true,decide_false,if_true,if_false];rw[xJ f l];rfl
   ·have b:¬jW i 2=1:=c;simp only[d,c,b,decide_false,if_false];rw[xJ f r];rfl
noncomputable def A6 {a:Type} (t:Tr a):Nat->Option a:=Tr.rec (motive:=fun _=>Nat->Option a) (fun _=>none) (fun _ v _ c b i=>match bV i 0 with
 |true=>v
 |false=>match bV (jW i 2) 1 with
  |true=>c (kj i 2)
  |false=>b (qO (kj i 2))) t
theorem FP{a:Type}:∀(t:Tr a) (f i:Nat),i<f->A6 t i=vr f t i
 | .nil,0,i,h=>by omega
 | .nil,f+1,i,h=>rfl
 | .node l v r,0,i,h=>by omega
 | .node l v r,f+1,i,h=>by
   show(match bV i 0 with
    |true=>v
    |false=>match bV (jW i 2) 1 with
     |true=>A6 l (kj i 2)
     |false=>A6 r (qO (kj i 2)))=_
   unfold vr;cases e:bV i 0 with
   |true=>rfl
   |false=>
    have g:i≠0:=fun q=>by subst q;simp at e
    have d:i/2<f:=jO;have c:kj i 2=i/2:=rfl;have b:qO (i/2)=i/2-1:=rfl;simp only[c,b];rw[FP l f (i/2) d,FP r f (i/2-1) jO]
noncomputable def A7 {b:Type} (t:Tr b):Nat->Option b->Tr b:=Tr.rec (motive:=fun _=>Nat->Option b->Tr b) (fun i a=>mc (fz i) .nil i a) (fun l v r d c i a=>match bV i 0 with
 |true=> .node l a r
 |false=>match bV (jW i 2) 1 with
  |true=> .node (d (kj i 2) a) v r
  |false=> .node l v (c (qO (kj i 2)) a)) t
theorem FQ{b:Type}(a:Option b):∀(f i g:Nat),i<f->i<g->mc f .nil i a=mc g .nil i a
 |0,_,_,h,_=>by omega
 |f+1,_,0,_,h=>by omega
 |f+1,i,g+1,h,k=>by
  unfold mc;cases e:bV i 0 with
  |true=>rfl
  |false=>
   have j:i≠0:=fun q=>by subst q;simp at e
   have d:kj i 2=i/2:=rfl;have c:qO (i/2)=i/2-1:=rfl;simp only[d,c];rw[FQ a f (i/2) g jO jO,FQ a f (i/2-1) g jO jO]
theorem FR{b:Type}(a:Option b):∀(t:Tr b) (f i:Nat),i<f->A7 t i a=mc f t i a
 | .nil,f,i,h=>FQ a _ _ _ (dO i) h
 | .node l v r,0,i,h=>by omega
 | .node l v r,f+1,i,h=>by
   show(match bV i 0 with
    |true=>Tr.node l a r
    |false=>match bV (jW i 2) 1 with
     |true=>Tr.node (A7 l (kj i 2) a) v r
     |false=>Tr.node l v (A7 r (qO (kj i 2)) a))=_
   unfold mc;cases e:bV i 0 with
   |true=>rfl
   |false=>
    have g:i≠0:=fun q=>by subst q;simp at e
    have d:kj i 2=i/2:=rfl;have c:qO (i/2)=i/2-1:=rfl;simp only[d,c];rw[FR a l f (i/2) jO,FR a r f (i/2-1) jO]
noncomputable def iG (h:H) (b:Nat):Option AB:=A6 h b
theorem rf(h:H)(b:Nat):iG h b=h.get b:=(FP h (b+1) b (dO b)).trans (FO _ _ _)
noncomputable def nm (h:H) (b:Nat) (x:Option AB):H:=A7 h b x
theorem FT(h:H)(b:Nat)(x:Option AB):nm h b x=h.set b x:=(FR x h (b+1) b (dO b)).trans (xJ _ _ _ _)
theorem qf(a b:Nat):bG a b=decide (a<=b):=by
 cases h:bG a b with
 |true=>have:=gC h;simp[this]
 |false=>
  have:¬a<=b:=fun q=>by rw[lF q]at h;cases h
  simp[this]
noncomputable def rh (l:List Value):Nat->Option Value:=Ap (motive:=fun _=>Nat->Option Value) (fun _=>none) (fun a _ b i=>ZX (motive:=fun _=>Option Value) (some a) (fun j _=>b j) i) l
theorem A8:∀(l:List Value) (i:Nat),rh l i=l[i]?
 |[],_=>rfl
 |_::_,0=>rfl
 |a::l,i+1=>by show rh l i=_;rw[A8 l i];rfl
noncomputable def FU (l:List Value):Nat->Value->Option (List Value):=Ap (motive:=fun _=>Nat->Value->Option (List Value)) (fun _ _=>none) (fun a l c i v=>ZX (motive:=fun _=>Option (List Value)) (some (v::l)) (fun j _=>match c j v with
 |some b=>some (a::b)
 |none=>none) i) l
theorem M7:∀(l:List Value) (i:Nat) (v:Value),FU l i v=if i<l.length then some (l.set i v)else none
 |[],i,v=>by show none=_;simp
 |a::l,0,v=>by show some (v::l)=_;simp
 |a::l,i+1,v=>by
  show(match FU l i v with
   |some b=>some (a::b)
   |none=>none)=_
  rw[M7 l i v];by_cases h:i<l.length
  ·simp[h]
  ·simp[h]
noncomputable def vt (b k:Nat):M Value:=fun h n=>match bG (fz b) n with
 |true=>match iG h b with
  |some B=>match rh B.cells k with
   |some v=>some ⟨v,h,n,[⟨false,b,some k⟩]⟩
   |none=>none
  |none=>none
 |false=>none
theorem A9:vt=rd:=by
 funext b k h n;unfold vt rd;rw[qf,rf];by_cases a:b<n
 ·have:b.succ<=n:=a;simp only[a,this,decide_true,if_true];cases h.get b with
  |none=>rfl
  |some B=>simp only[A8];rfl
 ·have:¬b.succ<=n:=a;simp only[a,this,decide_false,if_false]
noncomputable def tf (b k:Nat) (v:Value):M Unit:=fun h n=>match bG (fz b) n with
 |true=>match iG h b with
  |some B=>match B.own with
   |true=>match one v with
    |true=>match FU B.cells k v with
     |some a=>some ⟨(),nm h b (some ⟨B.elem,true,a⟩),n,[⟨false,b,some k⟩,⟨true,b,some k⟩]⟩
     |none=>none
    |false=>none
   |false=>none
  |none=>none
 |false=>none
theorem Ba:tf=wr:=by
 funext b k v h n;unfold tf wr;rw[qf,rf];by_cases a:b<n
 ·have:b.succ<=n:=a;simp only[a,this,decide_true,if_true];cases h.get b with
  |none=>rfl
  |some B=>
   obtain⟨e,o,d⟩:=B;simp only[M7,FT];cases o with
   |false=>simp
   |true=>
    cases f:one v with
    |false=>simp
    |true=>
     by_cases c:k<d.length
     ·simp[c]
     ·simp[c]
 ·have:¬b.succ<=n:=a;simp only[a,this,decide_false,if_false]
noncomputable def jz (e:TypeId) (cs:List Value):M Nat:=fun h n=>some ⟨n,nm h n (some ⟨e,true,cs⟩),fz n,[]⟩
theorem lI:jz=cS:=by funext e a h n;unfold jz cS;rw[if_pos (dO n),FT]
noncomputable def xK (b:Nat):M TypeId:=fun h n=>match bG (fz b) n with
 |true=>match iG h b with
  |some B=>some ⟨B.elem,h,n,[⟨false,b,some 1099511627776⟩]⟩
  |none=>none
 |false=>none
theorem vu:xK=fh:=by
 funext b h n;unfold xK fh;rw[qf,rf];by_cases a:b<n
 ·have:b.succ<=n:=a;simp only[a,this,decide_true,if_true];rfl
 ·have:¬b.succ<=n:=a;simp only[a,this,decide_false,if_false]
noncomputable def FV (b:Nat):M Unit:=fun h n=>match bG (fz b) n with
 |true=>match iG h b with
  |some B=>match B.own with
   |true=>some ⟨(),nm h b none,n,[⟨false,b,none⟩,⟨true,b,none⟩]⟩
   |false=>none
  |none=>none
 |false=>none
theorem FW:FV=kill:=by
 funext b h n;unfold FV kill;rw[qf,rf];by_cases a:b<n
 ·have:b.succ<=n:=a;simp only[a,this,decide_true,if_true];cases h.get b with
  |none=>rfl
  |some B=>simp only[FT];cases B.own<;>simp
 ·have:¬b.succ<=n:=a;simp only[a,this,decide_false,if_false]
noncomputable def ny (b k:Nat):List Value->M Unit
 |[]=> .ret ()
 |v::a=>(tf b k v).bind fun _=>ny b (fz k) a
theorem M8(b:Nat):∀(vs:List Value) (k:Nat),ny b k vs=eG b k vs
 |[],_=>rfl
 |v::vs,k=>by unfold ny eG;rw[Ba,M8 b vs (fz k)]
theorem xL:ny=eG:=by funext b k a;exact M8 b a k
noncomputable def fF (l:List Value):Nat:=Ap (motive:=fun _=>Nat) 0 (fun _ _ a=>fz a) l
theorem me:∀l:List Value,fF l=l.length
 |[]=>rfl
 |a::l=>by show fz (fF l)=_;rw[me l];rfl
noncomputable def Bb (b k:Nat):Nat->List En
 |0=>[]
 |c+1=>⟨false,b,some k⟩::Bb b (k+1) c
noncomputable def ig (b k c:Nat):M (List Value):=fun h n=>match c with
 |0=>some ⟨[],h,n,[]⟩
 |c+1=>match bG (fz b) n with
  |true=>match iG h b with
   |some B=>match bG (gD k (c+1)) (fF B.cells)with
    |true=>some ⟨(B.cells.drop k).take (c+1),h,n,Bb b k (c+1)⟩
    |false=>none
   |none=>none
  |false=>none
theorem M9(b:Nat)(h:H)(n:Nat):∀c k:Nat,ig b k c h n=cT b k c h n
 |0,_=>rfl
 |c+1,k=>by
  have p:=M9 b h n c (k+1);have s:cT b k (c+1) h n=((rd b k).bind fun v=>(cT b (k+1) c).bind fun o=>M.ret (v::o)) h n:=rfl;rw[s];unfold M.bind;cases f:bG (fz b) n with
  |false=>
   have d:¬b<n:=fun q=>by rw[lF q]at f;cases f
   have a:rd b k h n=none:=by unfold rd;rw[if_neg d]
   have l:ig b k (c+1) h n=none:=by unfold ig;simp only[f]
   rw[l];simp only[a]
  |true=>
   have d:b<n:=gC f;cases g:h.get b with
   |none=>
    have a:rd b k h n=none:=by unfold rd;rw[if_pos d,g]
    have l:ig b k (c+1) h n=none:=by unfold ig;simp only[f,rf,g]
    rw[l];simp only[a]
   |some B=>
    cases i:B.cells[k]? with
    |none=>
     have r:B.cells.length<=k:=List.getElem?_eq_none_iff.1 i
     have j:bG (gD k (c+1)) (fF B.cells)=false:=by
      rw[me];cases j:bG (gD k (c+1)) B.cells.length with
      |false=>rfl
      |true=>have:=gC j;have e:gD k (c+1)=k+(c+1):=rfl;omega
     have a:rd b k h n=none:=by unfold rd;rw[if_pos d,g];simp only[i]
     have l:ig b k (c+1) h n=none:=by unfold ig;simp only[f,rf,g,j]
     rw[l];simp only[a]
    |some v=>
     have m:k<B.cells.length:=(List.getElem?_eq_some_iff.1 i).1
     have hd:B.cells.drop k=v::B.cells.drop (k+1):=by rw[List.drop_eq_getElem_cons m];rw[bA m]at i;cases i;rfl
     have a:rd b k h n=some ⟨v,h,n,[⟨false,b,some k⟩]⟩:=by unfold rd;rw[if_pos d,g];simp only[i]
     simp only[a,<-p]
     match c with
     |0=>
      have j:bG (gD k (0+1)) (fF B.cells)=true:=by rw[me];exact lF (by show k+1<=_;omega)
      unfold ig;simp only[f,rf,g,j,hd];simp[Bb,M.ret]
     |c+1=>
      have e:gD k (c+1+1)=gD (k+1) (c+1):=by show k+(c+1+1)=k+1+(c+1);omega
      unfold ig;simp only[f,rf,g,e];cases bG (gD (k+1) (c+1)) (fF B.cells)with
      |false=>rfl
      |true=>simp only[M.ret,hd,List.take_succ_cons];simp[Bb]
theorem mM:ig=cT:=by funext b k c h n;exact M9 b h n c k
noncomputable def lJ:List Value->Option (List UInt8)
 |[]=>some []
 | .int .u8 n::r=>match lJ r with
   |some l=>some (gP n.toNat::l)
   |none=>none
 |_=>none
theorem abC:∀(vs:List Value) (acc:List UInt8),bytesOf vs ⟨⟨acc⟩⟩=(lJ vs).map fun l=>⟨⟨acc++l⟩⟩:=by
 intro vs
 induction vs with
 |nil=>intro acc;simp[bytesOf,lJ]
 |cons v r a=>
  intro acc;cases v<;>try rfl
  rename_i k n;cases k<;>try rfl
  show bytesOf r (ZY ⟨⟨acc⟩⟩ (gP n.toNat))=Option.map _ (match lJ r with
   |some l=>some (gP n.toNat::l)
   |none=>none)
  have e:(ZY ⟨⟨acc⟩⟩ (gP n.toNat))=⟨⟨acc++[gP n.toNat]⟩⟩:=by apply ByteArray.ext;simp[ZY]
  rw[e,a];cases lJ r with
  |none=>rfl
  |some l=>simp
noncomputable def M':Value->M Value
 | .slice (some ⟨b,a,none⟩) len _=>(ig b a len).bind fun c=>match lJ c with
   |some l=> .ret (.string ⟨⟨l⟩⟩)
   |none=> .fail
 |x=>mG x
theorem abD:M'=mG:=by
 funext x;unfold M';split
 ·rename_i b d len c;unfold mG;rw[mM];congr 1;funext a;have:=abC a [];have e:(anZ)=⟨⟨[]⟩⟩:=rfl;rw[e,this];cases lJ a with
  |none=>rfl
  |some l=>simp
 ·rfl
noncomputable def ri (sz:Nat) (n:Nat):Value->M (List Value)
 | .slice (some ⟨b,a,none⟩) _ _=>ig b a (n*sz)
 | .string ⟨⟨l⟩⟩=> .ret ((l.take n).map fun b=>eJ .u8 (.ofNat b.toNat))
 |_=> .fail
theorem qg:ri=kp:=by
 funext d n x;cases x<;>try rfl
 ·rename_i s;obtain⟨⟨l⟩⟩:=s;unfold ri kp;simp only;congr 1;simp[ZR]
 ·rename_i a len cap;cases a with
  |none=>rfl
  |some a=>
   obtain⟨b,c,p⟩:=a;cases p with
   |none=>unfold ri kp;rw[mM]
   |some p=>rfl
noncomputable def over:List Value->List Value->List Value
 |[],a=>a
 |x::l,a=>match a with
  |[]=>[]
  |_::a=>x::over l a
noncomputable def oY:List Value->Nat->List Value->List Value
 |cs,0,l=>over l cs
 |[],_+1,_=>[]
 |a::cs,b+1,l=>a::oY cs b l
noncomputable def nA:List Value->Nat->List Value->List Value
 |cs,_,[]=>cs
 |cs,a,x::l=>nA (cs.set a x) (a+1) l
theorem FX(a:Value):∀(l cs:List Value) (off:Nat),nA (a::cs) (off+1) l=a::nA cs off l
 |[],_,_=>rfl
 |x::l,cs,off=>by show nA ((a::cs).set (off+1) x) (off+1+1) l=a::nA (cs.set off x) (off+1) l;rw[List.set_cons_succ];exact FX a l _ _
theorem FY:∀(l:List Value) (off:Nat),nA [] off l=[]
 |[],_=>rfl
 |x::l,off=>by show nA (([]:List Value).set off x) (off+1) l=[];rw[List.set_nil];exact FY l _
theorem FZ:∀(l cs:List Value),over l cs=nA cs 0 l
 |[],_=>rfl
 |x::l,[]=>by rw[FY];rfl
 |x::l,c::cs=>by show x::over l cs=nA ((c::cs).set 0 x) (0+1) l;rw[List.set_cons_zero,FX,FZ l cs]
theorem F0:∀(off:Nat) (cs l:List Value),oY cs off l=nA cs off l
 |0,cs,l=>by
  have:oY cs 0 l=over l cs:=by cases cs<;>rfl
  rw[this];exact FZ l cs
 |off+1,[],l=>by rw[FY];rfl
 |off+1,a::cs,l=>by rw[FX];show a::oY cs off l=_;rw[F0 off cs l]
theorem Na(off:Nat):∀(l:List Value) (j:Nat) (cells:Array Value),((l.zipIdx j).foldl (fun cs (x:Value×Nat)=>cs.setIfInBounds (off+x.2) x.1) cells).toList=nA cells.toList (off+j) l
 |[],_,_=>rfl
 |x::l,j,cells=>by rw[List.zipIdx_cons,List.foldl_cons,Na off l (j+1)];rw[Array.toList_setIfInBounds];rfl
noncomputable def di:Value->List Value
 | .agg ⟨l⟩=>l
 |v=>[v]
theorem nB(v:Value):di v=v.cells.toList:=by cases v<;>rfl
noncomputable def rj (a:Nat->Option (Nat×Nat)) (cells:List Value):List (Nat×Value)->Option (List Value)
 |[]=>some cells
 |(i,v)::rest=>match a i with
  |none=>none
  |some (c,b)=>match bV (fF (di v)) b&&bG (gD c (fF (di v))) (fF cells)with
   |true=>rj a (oY cells c (di v)) rest
   |false=>none
theorem Bc(a:Nat->Option (Nat×Nat)):∀(b:List (Nat×Value)) (cells:Array Value),rj a cells.toList b=(lE a cells b).map (·.toList)
 |[],_=>rfl
 |(i,v)::rest,cells=>by
  unfold rj lE;cases a i with
  |none=>rfl
  |some q=>
   obtain⟨c,f⟩:=q;simp only;rw[me,me,nB,re,qf];have j:v.cells.toList.length=v.cells.size:=jS;have h:cells.toList.length=cells.size:=jS;rw[j,h];by_cases e:v.cells.size=f
   ·by_cases g:c+v.cells.size<=cells.size
    ·have d:gD c v.cells.size<=cells.size:=g;have k:¬c+v.cells.size>cells.size:=jO;rw[if_neg (by simp[e];omega)];simp only[e,d,decide_true,Bool.and_true];rw[<-e];simp only[d,decide_true,Bool.true_and];rw[<-Bc a rest];congr 1;rw[F0];have:=Na c v.cells.toList 0 cells;rw[jd]at this;rw[<-this];congr 1;rw[<-Array.foldl_toList,Array.toList_zipIdx]
    ·have d:¬gD c v.cells.size<=cells.size:=g;rw[if_pos (by simp[e];omega)];simp[g,d]
   ·rw[if_pos (by simp[e])];simp[e]
noncomputable def tg (v:Value) (n:Nat):List Value:=ZX (motive:=fun _=>List Value) [] (fun _ a=>v::a) n
theorem xM(v:Value):∀n:Nat,tg v n=List.replicate n v
 |0=>rfl
 |n+1=>by show v::tg v n=_;rw[xM v n];rfl
noncomputable def qh (a b:List Value):List Value:=Ap (motive:=fun _=>List Value) b (fun v _ c=>v::c) a
noncomputable def th (n b:Nat) (L L2:List En):List En:=Ap (motive:=fun _=>List En) L2 (fun e _ a=>match bG n e.b with
 |true=>(match bG (fz e.b) b with
  |true=>a
  |false=>e::a)
 |false=>e::a) L
theorem Nb(n a:Nat)(L2:List En):∀L:List En,th n a L L2=(L.filter fun e=> !(decide (n<=e.b)&&decide (e.b<a)))++L2
 |[]=>rfl
 |e::L=>by
  show(match bG n e.b with
   |true=>(match bG (fz e.b) a with
    |true=>th n a L L2
    |false=>e::th n a L L2)
   |false=>e::th n a L L2)=_
  rw[Nb n a L2 L,List.filter_cons,qf,qf];by_cases d:n<=e.b
  ·by_cases b:e.b<a
   ·have c:e.b.succ<=a:=b;simp[d,b,c]
   ·have c:¬e.b.succ<=a:=b;simp[d,b,c]
  ·simp[d]
noncomputable def ek {d c:Type} (m:M d) (k:d->M c):M c:=fun h n=>match m h n with
 |some ⟨a,i,e,L⟩=>(match k a i e with
  |some ⟨b,g,f,j⟩=>some ⟨b,g,f,th n e L j⟩
  |none=>none)
 |none=>none
theorem lK{b d:Type}(m:M b)(k:b->M d):ek m k=(inside m).bind k:=by
 funext h n;unfold ek M.bind inside;cases c:m h n with
 |none=>simp only[c]
 |some o=>obtain⟨a,f,e,L⟩:=o;simp only[c,Nb];rfl
noncomputable def qi (p:En->Bool) (L:List En):Bool:=Ap (motive:=fun _=>Bool) false (fun e _ a=>match p e with
 |true=>true
 |false=>a) L
theorem F1(p:En->Bool):∀L:List En,qi p L=L.any p
 |[]=>rfl
 |e::L=>by
  show(match p e with
   |true=>true
   |false=>qi p L)=_
  rw[F1 p L,List.any_cons];cases p e<;>rfl
noncomputable def vv (a b:Bool):Bool:=match a with
 |true=>b
 |false=>false
theorem Nc(a b:Bool):vv a b=(a&&b):=by cases a<;>rfl
noncomputable def Be (x y:En):Bool:=match bV x.b y.b with
 |true=>(x.k==y.k||x.k.isNone||y.k.isNone)
 |false=>false
theorem abE(x y:En):Be x y=x.meets y:=by
 unfold Be En.meets;rw[re];by_cases h:x.b=y.b
 ·simp[h]
 ·have:(x.b==y.b)=false:=by simpa using h
  simp[h]
noncomputable def cz (a b:Tk):Bool:=
 match qi (fun x=>vv x.wr (qi (fun y=>Be x y) b.log)) a.log with
 |true=>true
 |false=>match qi (fun x=>vv x.wr (qi (fun y=>Be x y) a.log)) b.log with
  |true=>true
  |false=>match qi (fun x=>vv (bG b.n x.b) (bG (fz x.b) b.n1)) a.log with
   |true=>true
   |false=>qi (fun x=>vv (bG a.n x.b) (bG (fz x.b) a.n1)) b.log
theorem vw(a b:Tk):cz a b=a.cA b:=by
 have c:∀(n d:Nat) (L:List En),(qi (fun x=>vv (bG n x.b) (bG (fz x.b) d)) L)=L.any fun x=>decide (n<=x.b)&&decide (x.b<d):=fun n d L=>by rw[F1];congr 1;funext x;rw[Nc,qf,qf];rfl
 unfold cz Tk.cA;rw[c,c];simp only[F1,Nc,abE];cases (a.log.any fun x=>x.wr&&b.log.any fun y=>x.meets y)<;>cases (b.log.any fun x=>x.wr&&a.log.any fun y=>x.meets y)<;>cases (a.log.any fun x=>decide (b.n<=x.b)&&decide (x.b<b.n1))<;>simp
noncomputable section
variable {β:Type}
def kz(f:IntKind->Int->Int->Value)(x y:Value)(k:Value->M β):M β:=match x with
 | .int a p=>match y with
   | .int b q=>match oX a b with
     |true=>k (f a p q)
     |false=> .fail
   |_=> .fail
 |_=> .fail
def ti(f:Nat->Nat->Nat)(x y:Value)(k:Value->M β):M β:=match x with
 | .int a (.ofNat p)=>match y with
   | .int b (.ofNat q)=>match oX a b with
     |true=>k (.int a (nv a (.ofNat (f (jW p (pw a)) (jW q (pw a))))))
     |false=> .fail
   |_=> .fail
 |_=> .fail
def aq(x y:Value)(k:Value->M β):M β:=match x with
 | .string ⟨⟨a⟩⟩=>match y with
   | .string ⟨⟨b⟩⟩=>match bG (gD (jl a) (jl b)) 9223372036854775807 with
     |true=>k (.string ⟨⟨A3 a b⟩⟩)
     |false=> .fail
   |_=> .fail
 |x=>kz (fun k a b=> .int k (nv k (AX a b))) x y k
def cL(x y:Value)(k:Value->M β):M β:=kz (fun k a b=> .int k (nv k (AY a b))) x y k
def dK(x y:Value)(k:Value->M β):M β:=kz (fun k a b=> .int k (nv k (FL a b))) x y k
def cD(x y:Value)(k:Value->M β):M β:=match x with
 | .string ⟨⟨a⟩⟩=>match y with
   | .string ⟨⟨b⟩⟩=>k (.bool (qd a b))
   |_=> .fail
 |x=>kz (fun _ a b=> .bool (oV a b)) x y k
def fA(x y:Value)(k:Value->M β):M β:=match x with
 | .string ⟨⟨a⟩⟩=>match y with
   | .string ⟨⟨b⟩⟩=>k (.bool (!qd a b))
   |_=> .fail
 |x=>kz (fun _ a b=> .bool (!oV a b)) x y k
def eg(x y:Value)(k:Value->M β):M β:=kz (fun _ a b=> .bool (vq a b)) x y k
def mf(x y:Value)(k:Value->M β):M β:=kz (fun _ a b=> .bool (A0 a b)) x y k
def iH(x y:Value)(k:Value->M β):M β:=kz (fun _ a b=> .bool (vq b a)) x y k
def qj(x y:Value)(k:Value->M β):M β:=kz (fun _ a b=> .bool (A0 b a)) x y k
def xN(x y:Value)(k:Value->M β):M β:=ti Nat.land x y k
def xO(x y:Value)(k:Value->M β):M β:=ti Nat.lor x y k
def nC(x y:Value)(k:Value->M β):M β:=ti Nat.xor x y k
def mg(x y:Value)(k:Value->M β):M β:=match x with
 | .int a (.ofNat p)=>match y with
   | .int _ (.ofNat q)=>k (.int a (nv a (.ofNat (LH p (amM 2 (Nat.min q a.bits))))))
   |_=> .fail
 |_=> .fail
def oZ(x y:Value)(k:Value->M β):M β:=match x with
 | .int a (.ofNat p)=>match y with
   | .int _ (.ofNat q)=>k (.int a (.ofNat (kj p (amM 2 (Nat.min q a.bits)))))
   |_=> .fail
 |_=> .fail
def jm(x y:Value)(k:Value->M β):M β:=match x with
 | .int a p=>match y with
   | .int b q=>match oX a b with
     |true=>match oV q 0 with
      |true=> .fail
      |false=>k (.int a (nv a (Int.tdiv p q)))
     |false=> .fail
   |_=> .fail
 |_=> .fail
def nD(x y:Value)(k:Value->M β):M β:=match x with
 | .int a p=>match y with
   | .int b q=>match oX a b with
     |true=>match oV q 0 with
      |true=> .fail
      |false=>k (.int a (Int.tmod p q))
     |false=> .fail
   |_=> .fail
 |_=> .fail
def Bf(x y:Value)(k:Value->M β):M β:=match x with
 | .bool a=>match y with
   | .bool b=>k (.bool (match a with
     |true=>b
     |false=> !b))
   |_=> .fail
 |_=> .fail
def xP(x y:Value)(k:Value->M β):M β:=match x with
 | .bool a=>match y with
   | .bool b=>k (.bool (match a with
     |true=> !b
     |false=>b))
   |_=> .fail
 |_=> .fail
def Bg(f:Bool->Bool)(x y:Value)(k:Value->M β):M β:=match x with
 | .pointer none=>match y with
   | .pointer b=>k (.bool (f b.isNone))
   |_=> .fail
 | .pointer (some _)=>match y with
   | .pointer none=>k (.bool (f false))
   |_=> .fail
 |_=> .fail
def Bh(f:Bool->Bool)(x y:Value)(k:Value->M β):M β:=match x with
 | .slice none _ _=>match y with
   | .slice b _ _=>k (.bool (f b.isNone))
   |_=> .fail
 | .slice (some _) _ _=>match y with
   | .slice none _ _=>k (.bool (f false))
   |_=> .fail
 |_=> .fail
def Bi(f:Bool->Bool)(x y:Value)(k:Value->M β):M β:=match x with
 | .nilFunc=>match y with
   | .nilFunc=>k (.bool (f true))
   | .func _ _ _=>k (.bool (f false))
   |_=> .fail
 | .func _ _ _=>match y with
   | .nilFunc=>k (.bool (f false))
   |_=> .fail
 |_=> .fail
def F2(a:List Nat)(x y:Value)(k:Value->M β):M β:=match x with
 | .agg ⟨l⟩=>match y with
   | .agg ⟨m⟩=>match kU a l m with
     |some b=>k (.bool b)
     |none=> .fail
   |_=> .fail
 |_=> .fail
def Nd(a:List Nat)(x y:Value)(k:Value->M β):M β:=match x with
 | .agg ⟨l⟩=>match y with
   | .agg ⟨m⟩=>match kU a l m with
     |some b=>k (.bool !b)
     |none=> .fail
   |_=> .fail
 |_=> .fail
def rk(x y:Value)(k:Value->M β):M β:=Bg (fun b=>b) x y k
def xQ(x y:Value)(k:Value->M β):M β:=Bg (fun b=> !b) x y k
def xR(x y:Value)(k:Value->M β):M β:=Bh (fun b=>b) x y k
def xS(x y:Value)(k:Value->M β):M β:=Bh (fun b=> !b) x y k
def F3(x y:Value)(k:Value->M β):M β:=Bi (fun b=>b) x y k
def F4(x y:Value)(k:Value->M β):M β:=Bi (fun b=> !b) x y k
def dC(x:Value)(k:Value->M β):M β:=match x with
 | .bool b=>k (.bool (!b))
 |_=> .fail
def Bj(x:Value)(k:Value->M β):M β:=match x with
 | .int a p=>k (.int a (nv a (AY 0 p)))
 |_=> .fail
def Bn(x:Value)(k:Value->M β):M β:=match x with
 | .int .u32 (.ofNat p)=>match bG p 4294967295 with
   |true=>k (.int .u32 (.ofNat (E5 4294967295 p)))
   |false=> .fail
 |_=> .fail
def dm(a:IntKind)(x:Value)(k:Value->M β):M β:=match x with
 | .int _ p=>k (.int a (nv a p))
 |_=> .fail
def Nf(x:Value)(k:Value->M β):M β:=match x with
 | .string s=>k (.string s)
 |_=> .fail
def bx(x:Value)(k:Value->M β):M β:=match x with
 | .slice _ n _=>k (.int .i64 (.ofNat n))
 |_=> .fail
def bJ(x:Value)(k:Value->M β):M β:=match x with
 | .string ⟨⟨l⟩⟩=>k (.int .i64 (.ofNat (jl l)))
 |_=> .fail
def kY(x y:Value)(k:Value->M β):M β:=match x with
 | .int a p=>match y with
   | .int _ q=>k (.int a (match vq q p with
     |true=>q
     |false=>p))
   |_=> .fail
 |_=> .fail
def Ng(x y z u v w:Value)(k:Value->M β):M β:=kY x y fun a=>kY a z fun a=>kY a u fun a=>kY a v fun a=>kY a w k
def o0(x y:Value)(k:Value->M β):M β:=match x with
 | .int a p=>match y with
   | .int _ q=>k (.int a (match vq p q with
     |true=>q
     |false=>p))
   |_=> .fail
 |_=> .fail
def F5(c a b:Value)(k:Value->M β):M β:=match c with
 | .bool true=>k a
 | .bool false=>k b
 |_=> .fail
def an(x:Value)(k:Value->M β):M β:=match x with
 | .pointer (some a)=>k (.pointer (some a))
 | .func (.func f) a b=>k (.func (.func f) a b)
 |_=> .fail
def ay(K:Nat)(x:Value)(k:Value->M β):M β:=match x with
 | .pointer (some ⟨b,a,none⟩)=>k (.pointer (some ⟨b,gD a K,none⟩))
 |_=> .fail
def F6(K:Nat)(x:Value)(k:Value->M β):M β:=match x with
 | .agg ⟨l⟩=>match rh l K with
   |some v=>k v
   |none=> .fail
 |_=> .fail
def F7(K m:Nat)(x:Value)(k:Value->M β):M β:=match x with
 | .agg ⟨l⟩=>k (.agg ⟨(l.drop K).take m⟩)
 |_=> .fail
def bM(x c:Value)(k:Value->M β):M β:=match x with
 | .slice (some ⟨b,a,none⟩) n _=>match c with
   | .int _ (.ofNat i)=>match bG (fz i) n with
     |true=>k (.pointer (some ⟨b,gD a i,none⟩))
     |false=> .fail
   |_=> .fail
 |_=> .fail
def mh(sz:Nat)(x c:Value)(k:Value->M β):M β:=match x with
 | .slice (some ⟨b,a,none⟩) n _=>match c with
   | .int _ (.ofNat i)=>match bG (fz i) n with
     |true=>k (.pointer (some ⟨b,gD a (LH i sz),none⟩))
     |false=> .fail
   |_=> .fail
 |_=> .fail
def gG(n:Nat)(x c:Value)(k:Value->M β):M β:=match x with
 | .pointer (some ⟨b,a,none⟩)=>match c with
   | .int _ (.ofNat i)=>match bG (fz i) n with
     |true=>k (.pointer (some ⟨b,gD a i,none⟩))
     |false=> .fail
   |_=> .fail
 |_=> .fail
def Bo(n sz:Nat)(x c:Value)(k:Value->M β):M β:=match x with
 | .pointer (some ⟨b,a,none⟩)=>match c with
   | .int _ (.ofNat i)=>match bG (fz i) n with
     |true=>k (.pointer (some ⟨b,gD a (LH i sz),none⟩))
     |false=> .fail
   |_=> .fail
 |_=> .fail
def cP(x a:Value)(k:Value->M β):M β:=match x with
 | .string ⟨⟨l⟩⟩=>match a with
   | .int _ (.ofNat i)=>match qe l i with
     |some c=>k (.int .u8 (.ofNat c.toNat))
     |none=> .fail
   |_=> .fail
 |_=> .fail
def vx(n:Nat)(x a:Value)(k:Value->M β):M β:=match x with
 | .agg ⟨l⟩=>match a with
   | .int _ (.ofNat i)=>match bG (fz i) n with
     |true=>match rh l i with
      |some v=>k v
      |none=> .fail
     |false=> .fail
   |_=> .fail
 |_=> .fail
def aV(x:Value)(i:Nat)(k:Value->M β):M β:=match x with
 | .tuple ⟨l⟩=>match rh l i with
   |some v=>k v
   |none=> .fail
 |_=> .fail
def qk(o:Option Value)(d:Nat):Option Nat:=match o with
 |none=>some d
 |some (.int _ (.ofNat i))=>some i
 |_=>none
def bN(x:Value)(lo c:Option Value)(k:Value->M β):M β:=match x with
 | .string ⟨⟨l⟩⟩=>match qk lo 0 with
   |some a=>match qk c (jl l)with
    |some b=>match bG a b with
     |true=>match bG b (jl l)with
      |true=>k (.string ⟨⟨(l.drop a).take (E5 b a)⟩⟩)
      |false=> .fail
     |false=> .fail
    |none=> .fail
   |none=> .fail
 |_=> .fail
def aQ(x:Value)(k:Value->M β):M β:=match x with
 | .pointer (some ⟨b,a,none⟩)=>ek (vt b a) k
 |_=> .fail
def aT(sz:Nat)(x:Value)(k:Value->M β):M β:=match x with
 | .pointer (some ⟨b,a,none⟩)=>ek ((ig b a sz).bind fun c=> .ret (.agg ⟨c⟩)) k
 |_=> .fail
def aK(a x:Value)(k:Value->M β):M β:=match a with
 | .pointer (some ⟨b,c,none⟩)=>match one x with
   |true=>ek ((tf b c x).bind fun _=> .ret undef) k
   |false=> .fail
 |_=> .fail
def aM(sz:Nat)(a x:Value)(k:Value->M β):M β:=match a with
 | .pointer (some ⟨b,c,none⟩)=>match x with
   | .agg ⟨l⟩=>match bV (fF l) sz with
     |true=>ek ((ny b c l).bind fun _=> .ret undef) k
     |false=> .fail
   |_=> .fail
 |_=> .fail
def cy(e:TypeId)(z:List Value)(k:Value->M β):M β:=ek ((jz e z).bind fun id=> .ret (.pointer (some ⟨id,0,none⟩))) k
def dP(e:TypeId)(v:Value)(k:Value->M β):M β:=ek ((jz e (di v)).bind fun id=> .ret (.pointer (some ⟨id,0,none⟩))) k
def fG:List Value->List (Nat×Nat×Value)->Option (List Value)
 |cs,[]=>some cs
 |cs,q::r=>match bV (fF (di q.2.2)) q.2.1 with
  |true=>match bG (gD q.1 (fF (di q.2.2))) (fF cs)with
   |true=>fG (oY cs q.1 (di q.2.2)) r
   |false=>none
  |false=>none
def bo(z:List Value)(ps:List (Nat×Nat×Value))(k:Value->M β):M β:=match fG z ps with
 |some a=>k (.agg ⟨a⟩)
 |none=> .fail
def bO(e:TypeId)(sz:Nat)(v:Value)(k:Value->M β):M β:=match bV (fF (di v)) sz with
 |true=>ek ((jz e (di v)).bind fun id=> .ret (.slice (some ⟨id,0,none⟩) 1 1)) k
 |false=> .fail
def vz(e:TypeId)(z:List Value)(len:Nat)(ps:List (Nat×Nat×Value))(k:Value->M β):M β:=match fG z ps with
 |some a=>ek ((jz e a).bind fun id=> .ret (.slice (some ⟨id,0,none⟩) len len)) k
 |none=> .fail
def kB(z:List Value):Nat->List Value
 |0=>[]
 |n+1=>qh z (kB z n)
def o4(e:TypeId)(z:List Value)(l c:Value)(k:Value->M β):M β:=match l with
 | .int _ (.ofNat l)=>match c with
   | .int _ (.ofNat c)=>match bG l c with
     |true=>match bG c 1099511627776 with
      |true=>ek ((jz e (kB z c)).bind fun id=> .ret (.slice (some ⟨id,0,none⟩) l c)) k
      |false=> .fail
     |false=> .fail
   |_=> .fail
 |_=> .fail
def o7(sz:Nat)(a:Option Addr)(len cap:Nat)(lo d:Option Value):Option Value:=match dZ d len,dZ lo 0 with
 |some h,some l=>
  if l<=h&&h<=cap&&cap<=cap&&(cap<bh||((none:Option Value).isNone&&h<=len))then
   match a with
   |none=>some (.slice none (h-l) (cap-l))
   |some ⟨b,c,none⟩=>some (.slice (some ⟨b,if cap=l then c else c+l*sz,none⟩) (h-l) (cap-l))
   |_=>none
  else none
 |_,_=>none
def nF(e:TypeId)(sz:Nat)(x:Value)(lo c:Option Value)(k:Value->M β):M β:=match x with
 | .slice none len cap=>match o7 sz none len cap lo c with
   |some v=>k v
   |none=> .fail
 | .slice (some ⟨b,a,none⟩) len cap=>ek ((xK b).bind fun d=>match bV d e with
   |true=>M.lift (o7 sz (some ⟨b,a,none⟩) len cap lo c)
   |false=> .fail) k
 |_=> .fail
def xT(e:TypeId)(n sz b off l cap:Nat)(c:List Value):M Value:=
 if cap<bh then
  if l+n<=cap then(ny b (off+l*sz) c).bind fun _=> .ret (.slice (some ⟨b,off,none⟩) (l+n) cap)
  else(ig b off (l*sz)).bind fun a=>(jz e (a++c)).bind fun id=> .ret (.slice (some ⟨id,0,none⟩) (l+n) (bh+(l+n)))
 else(ig b off (l*sz)).bind fun a=>(FV b).bind fun _=>(jz e (a++c)).bind fun id=> .ret (.slice (some ⟨id,0,none⟩) (l+n) (bh+(l+n)))
def mi(e:TypeId)(sz:Nat)(s x:Value):M Value:=match ic x with
 |some n=>
  if n=0 then(match s with| .slice _ _ _=> .ret s|_=> .fail)else
  match s with
  | .slice none 0 0=>if n<=1099511627776 then(ri sz n x).bind fun a=>if a.length=n*sz&&a.all one then(jz e ([]++a)).bind fun id=> .ret (.slice (some ⟨id,0,none⟩) (0+n) (bh+(0+n)))else .fail else .fail
  | .slice (some ⟨b,c,none⟩) l cap=>
    if l+n<=1099511627776 then
    (xK b).bind fun d=>if d=e then
      (ri sz n x).bind fun a=>if a.length=n*sz&&a.all one then xT e n sz b c l cap a else .fail
    else .fail
    else .fail
  |_=> .fail
 |none=> .fail
def bL(e:TypeId)(sz:Nat)(s x:Value)(k:Value->M β):M β:=ek (mi e sz s x) k
def tj(sz:Nat)(d s:Value):M Value:=match d,ic s with
 | .slice a f _,some c=>
   if 0<Nat.min c f then(match a with
    |some ⟨b,e,none⟩=>(ri sz (Nat.min c f) s).bind fun g=>(ny b e g).bind fun _=> .ret (.int .i64 (Nat.min c f))
    |_=> .fail)
   else .ret (.int .i64 0)
 |_,_=> .fail
def Bp(sz:Nat)(d s:Value)(k:Value->M β):M β:=ek (tj sz d s) k
def iI(x:Value)(k:Value->M β):M β:=match x with
 | .slice (some ⟨b,a,none⟩) len _=>ek ((ig b a len).bind fun c=>match lJ c with
   |some l=> .ret (.string ⟨⟨l⟩⟩)
   |none=> .fail) k
 | .slice none _ _=>k (.string ⟨⟨[]⟩⟩)
 |_=> .fail
def vA(e:TypeId)(x:Value)(k:Value->M β):M β:=match x with
 | .string ⟨⟨l⟩⟩=>match bG (jl l) 1099511627776 with
   |true=>ek ((jz e (l.map fun b=>eJ .u8 (.ofNat b.toNat))).bind fun id=> .ret (.slice (some ⟨id,0,none⟩) (jl l) (bh+jl l))) k
   |false=> .fail
 |_=> .fail
def ai(R:FuncId->Array Value->M Value)(f:FuncId)(vs:List Value)(k:Value->M β):M β:=ek (R f ⟨vs⟩) k
end
end Go.Proofs.YtmjolmggelkjlaaGreat.Ev
