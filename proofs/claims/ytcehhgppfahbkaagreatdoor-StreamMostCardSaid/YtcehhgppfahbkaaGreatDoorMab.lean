import Derived.Test.YtcehhgppfahbkaaGreatDoorMaa
import Derived.Laws.StructEq
open Nat renaming le_refl→ag, ble→bh, beq→bq, lt_of_lt_of_le→dC, lt_succ_self→dL, succ→dT, le_of_ble_eq_true→eS, add→eT, add_mul→ff, zero_add→fD, add_zero→iA, mod→iB, eq_of_beq_eq_true→iX, div→iY, ble_eq_true_of_le→jT, pred→p5, eq_zero_or_pos→tX, sub→C1, blt→C4, mul→IB, ne_of_beq_eq_false→IC, rec→VD, blt_eq→agM, pow→agT
open List renaming length_append→ay, getElem?_eq_getElem→aC, all_eq_true→kz, map_map→mq, rec→yp, any_nil→Vz, mapM_cons→agt, tail→agH, tail_drop→agJ
open Bool renaming and_eq_true→bE, false_eq_true→lF, or_eq_true→ml, true_and→oq, or_eq_false_iff→yl, false_or→yn, and_false→CZ, not_eq_true'→IA, or_false→VA
open Go.Op renaming operands→dc, equal→pY, equalIn→tY, bytesLess→IE, eqFields→agG
open Option.some renaming injEq→dm
open Go.Sem renaming run_bind→dD, run_pure→mn, bind→vH
open Go.Result renaming andThen→dK
open UInt8 renaming ofNat→dZ
open Go.Region renaming wanted→eE
open Go.Value renaming int→iz
open Go.Builtin renaming firstCells→iW, append_→vK, zeroCells→CW, copy_→CX, len_→Ix, lenOf→Vw
open Go.Instr renaming fill→jR, index→yo
open Array renaming toList_map→ot, getElem?_toList→CY, ext'→Ir, mem_append→agK
open Go.RowKit.Below renaming refl→pT
open Go.Call renaming operands→tV
open Option renaming map_some→yh, mem_def→Vy
open Go.IntKind renaming bits→C0, wrap→VB, signed→VC
open Function renaming comp_def→Iw
open List.cons renaming inj→ID
open Go.Question renaming cut→Vr, forced→agx
open ByteArray renaming data_extract→Vx, push→VE, empty→aiv
open Go.World renaming cell?→agi
open Int renaming negSucc→agL
open Go.Deferred renaming ofValue→ait
open Int.ofNat renaming inj→aiu
set_option linter.unusedVariables false
set_option linter.unusedSimpArgs false
namespace Go.Proofs.YtcehhgppfahbkaaGreatDoor.Ev
open Go Go.RowKit
section
variable {P:Program} {base:Nat} {m:Mp} {w:World} {h h1:H} {n n1:Nat} {r:Value} {L:List En}
theorem oN{x x':Value}{k:Nat}(b:VR m x x')(a:fx x=some k)(w:World):(Vw x').run P w= .ok k w:=by cases b<;>simp[fx]at a<;>subst a<;>rfl
theorem DD{sz k u:Nat}{x x':Value}{vs:List Value}(B:VR m x x')(q:fx x=some k)(E:0<k)(wr:WR P m base h w.heap)(g:iE sz u x h n=some ⟨vs,h1,n1,L⟩):
 h1=h∧n1=n∧∃a,aT m vs a∧∀e:World,e.heap=w.heap->(iW sz u x').run P e= .ok a.toArray e:=by
 unfold iE at g;split at g
 ·rename_i b t l c;simp[fx]at q;subst q;cases B with
  |@eH _ _ _ _ C F d hd D K J I G=>
   obtain⟨rfl,rfl,p,a,f,A⟩:=qn wr hd g;refine⟨rfl,rfl,a,f,fun e y=> ?_⟩;have z:a.length=u*sz:=by rw[<-f.length,p]
   have:=ur (P:=P) (w:=e) (c:=d.cM) (o:=d.sh+t) (vs:=a) (fun j v r=>by
    have:=A j v r;unfold agi at this⊢
    rw[y];exact this)
   rw[z]at this;simp only[iW,D (.inl E)];exact this
 ·rename_i s;simp[fx]at q;subst q;cases B;obtain⟨rfl,rfl,rfl⟩:=bp g
  refine⟨rfl,rfl,_,aT.kI rfl (fun j v r=>⟨v,r, ?_⟩),fun e _=>by
   simp[iW];apply Ir
   simp⟩
  have i:=List.mem_of_getElem? r;simp only[Vx,Array.map_extract,Array.toList_extract,List.extract_eq_take_drop,List.drop_zero,ot]at i;have i:=List.mem_of_mem_take i;simp at i;obtain⟨b,_,rfl⟩:=i;exact .int _ _
 ·cases g
theorem WH{c o:Nat}{e:TypeId}{lo k:Nat}:∀(vs:List Value) (i:Nat) (w:World) (cs:Array Value),w.heap[c]? =some (.cells cs e (lo,k))->(∀j,j<vs.length->o+i+j<cs.size∧¬(lo<=o+i+j∧o+i+j<k))->(∀v∈vs,Ev.one v=true)->base<=c->
 ∃w' cs',(storeCells ⟨c,o,none⟩ vs i).run P w= .ok () w'∧w'.heap[c]? =some (.cells cs' e (lo,k))∧cs'.size=cs.size∧(∀j,cs'[j]? =if o+i<=j∧j<o+i+vs.length then vs[j-(o+i)]? else cs[j]?)∧(∀b,b≠c->w'.heap[b]? =w.heap[b]?)∧Below base w w':=by
 intro vs
 induction vs with
 |nil=>intro i w cs f _ _ _;exact⟨w,cs,rfl,f,rfl,fun j=>by rw[if_neg jS],fun _ _=>rfl,pT _ _⟩
 |cons v vs m=>
  intro i w cs f d h1 l;obtain⟨a,q⟩:=d 0 jS
  have hC:(w.setCell ⟨c,o+i,none⟩ v).heap[c]? =some (.cells (cs.setIfInBounds (o+i) v) e (lo,k)):=by simp only[World.setCell,Array.getElem?_modify,if_true,f];simp
  obtain⟨w',cs',A,z,y,x,t,s⟩:=m (i+1) (w.setCell ⟨c,o+i,none⟩ v) _ hC (fun j h=>by
   have:=d (j+1) (by simpa using h);rw[show o+(i+1)+j=o+i+(j+1) by omega]
   simpa using this) (fun u n=>h1 u (by simp[n])) l
  refine⟨w',cs', ?_,z,by rw[y];simp,fun j=> ?_,fun b g=> ?_,((pT base w).setCell (p:=⟨c,o+i,none⟩) l _).trans s⟩
  ·unfold storeCells;rw[lP];show(vH (store _ _) _).run P w=_;unfold store;simp only[vH]
   rw[Jb (by rw[rE w _ _ f];simpa using a) (by
    unfold World.frozen?;simp only[f,Bool.and_eq_false_iff,decide_eq_false_iff_not]
    omega) (h1 v jS)]
   exact A
  ·rw[x j];simp only[List.length_cons];by_cases h:o+(i+1)<=j∧j<o+(i+1)+vs.length
   ·rw[if_pos h,if_pos jO];rw[show j-(o+i)=(j-(o+(i+1)))+1 by omega];simp
   ·rw[if_neg h];by_cases r:j=o+i
    ·subst r;rw[if_pos jO];simp at a;simp[a]
    ·rw[if_neg jO,Array.getElem?_setIfInBounds_ne jO]
  ·rw[t b g,Below.heap_setCell w _ _ _ g]
theorem DE {c:Array TypeId} {t u ty e:TypeId} {i:TypeInfo} {x:Value} {k:Nat} {news:List Value} {b off l cap:Nat} {w':World} (f:c[0]? =some t) (d:c[1]? =some u) (n:P.underlying t=some (.slice e)) (m:(∃h,P.underlying u=some (.slice h))∨P.underlying u=some .string) (p:P.info? e=some i)
 (o:(Vw x).run P w= .ok k w) (a:l+k<=cap) (j:(iW i.size k x).run P w= .ok news.toArray w) (g:(storeCells ⟨b,off+l*i.size,none⟩ news).run P w= .ok () w'):
 (vK c ty #[.slice (some ⟨b,off,none⟩) l cap,x]).run P w= .ok (.slice (some ⟨b,off,none⟩) (l+k) cap) w':=by
 rcases m with ⟨h,hk⟩|hk<;>simp[vK,f,d,run_underlying n,run_underlying hk,sizeOf,typeInfo,p,o,a,j,lP,g]
theorem DF {b:Array TypeId} {t u ty e:TypeId} {i:TypeInfo} {z:Value} {x:Value} {k:Nat} {olds news:List Value} {o:Option Addr} {l cap:Nat} (g:b[0]? =some t) (f:b[1]? =some u) (s:P.underlying t=some (.slice e)) (r:(∃n,P.underlying u=some (.slice n))∨P.underlying u=some .string) (B:P.info? e=some i) (p:i.zero=some z)
 (A:(Vw x).run P w= .ok k w) (a:cap<l+k) (h:l+k<=1099511627776) (j:i.bytes<=64) (q:(iW i.size k x).run P w.drew= .ok news.toArray w.drew) (v:(iW i.size l (.slice o l cap)).run P w.drew= .ok olds.toArray w.drew):
 (vK b ty #[.slice o l cap,x]).run P w= .ok (.slice (some ⟨w.heap.size,0,none⟩) (l+k) (grownCap w (l+k) cap e))
   (w.drew.alloc (.cells ((olds++news).toArray++CW z.cells (grownCap w (l+k) cap e-(l+k))) e)):=by
 have y:¬(l+k<=cap):=jO;have c:¬(9223372036854775807<((l:Int)+(k:Int))):=jO
 have m:=growslice_fits (need:=l+k) (old:=cap) (bytes:=i.bytes) a (by
  have:=Nat.mul_le_mul h j
  omega)
 have d:¬(281474976710656<Builtin.nextslicecap (l+k) cap*i.bytes):=jO
 rcases r with ⟨n,hk⟩|hk<;>
  (simp[vK,g,f,run_underlying s,run_underlying hk,sizeOf,typeInfo,zeroValue,B,p,A,y,c,d,agx,q,v,newRow,grownCap]
   congr 2;apply Ir
   simp[List.append_assoc])
theorem size_zeroCells(z:Array Value)(k:Nat):(CW z k).size=k*z.size:=by simp[CW]
theorem WI(w:World)(need old:Nat)(e:TypeId):need<=grownCap w need old e:=by unfold grownCap Vr;exact Nat.le_add_right _ _
theorem DG {e:TypeId} {i:TypeInfo} {z:Value} {l k cap:Nat} {old c old' a:List Value} (x:WR P m base h w.heap) (I:base<=w.heap.size) (F:fP m n n1) (E:P.info? e=some i) (o:z.cells.size=i.size) (B:aT m old old') (C:aT m c a) (s:old.length=l*i.size) (t:c.length=k*i.size)
 (y:lI e l k old c h n=some ⟨r,h1,n1,L⟩):∃m',bY P m base n n1 w h1 m' (w.drew.alloc (.cells ((old'++a).toArray++CW z.cells (grownCap w (l+k) cap e-(l+k))) e))∧
   VR m' r (.slice (some ⟨w.heap.size,0,none⟩) (l+k) (grownCap w (l+k) cap e)):=by
 unfold lI at y;obtain⟨id,O,N,R,Q,K,J,_⟩:=bind_some y;obtain⟨rfl,rfl,rfl⟩:=bp J;have G:=WI w (l+k) cap e;have f:=B.append C;have b:=f.length
 obtain⟨rfl,rfl,m',u,g⟩:=rF (w:=w.drew) (P:=P) (m:=m) (base:=base) x K F I (cs':=(old'++a).toArray++CW z.cells (grownCap w (l+k) cap e-(l+k))) (by simp at b⊢;omega) (fun j v D=>by
  obtain⟨A,d,p⟩:=f.get j v D;refine⟨A, ?_,p⟩
  have:j<(old'++a).length:=by
   rcases Nat.lt_or_ge j (old'++a).length with q|q
   ·exact q
   ·rw[List.getElem?_eq_none q]at d;cases d
  rw[Array.getElem?_append_left (by simpa using this)]
  simpa using d) (esz:=i.size) (by simp[size?,E])
 refine⟨m',⟨g.le,g.out,g.wr,(Below.drew (pT base w)).trans g.below⟩,VR.eH u (fun _=>rfl) (fun q=>by unfold aL at q;omega) (fun _=>⟨ag _,jO⟩) G ?_⟩;simp only[Array.size_append,size_zeroCells,o,List.size_toArray,<-b,ay,s,t];rw[<-ff,<-ff,fD];exact Nat.le_of_eq (by congr 1;omega)
theorem WJ {w6:Array TypeId} {t u ty:TypeId} {s s' x x':Value} (F:w6[0]? =some t) (E:w6[1]? =some u) (hu:(∃e',P.underlying u=some (.slice e'))∨P.underlying u=some .string) (hs:VR m s s') (U:VR m x x') (wr:WR P m base h w.heap) (hb:base<=w.heap.size) (hf:fP m n n1)
 (f:nj P t s x h n=some ⟨r,h1,n1,L⟩):Sound P base m w h n (vK w6 ty #[s',x']) r h1 n1:=by
 unfold nj at f;cases ht:P.underlying t with
 |none=>rw[ht]at f;cases f
 |some dt=>
  rw[ht]at f;cases dt<;>try(cases f;done)
  rename_i e;simp only at f;cases K:P.info? e with
  |none=>rw[K]at f;cases f
  |some ie=>
   cases hz:eG P e with
   |none=>rw[K,hz]at f;cases f
   |some z=>
    cases O:fx x with
    |none=>rw[K,hz,O]at f;cases f
    |some k=>
     rw[K,hz,O]at f;simp only at f;obtain⟨i2,v5,v8⟩:=yF hz;rw[K]at v5;cases v5;split at f
     ·rename_i u5;simp only[bE,decide_eq_true_eq]at u5;obtain⟨⟨v7,g'⟩,w5⟩:=u5;by_cases hk:k=0
      ·rw[if_pos hk]at f;subst hk;cases hs<;>try(cases f;done)
       case kK l cap A=>
        obtain⟨rfl,rfl,rfl⟩:=bp f;refine⟨m,w,.slice none l cap, ?_,bY.refl wr,.kK _ _ A⟩
        have X:(iW ie.size 0 x').run P w= .ok #[] w:=by cases U<;>simp[fx]at O<;>simp[iW,loadCells,loadCellsFrom]
        have:=oN (P:=P) U O w;rcases hu with ⟨e',hk⟩|hk<;>simp[vK,F,E,run_underlying ht,run_underlying hk,sizeOf,typeInfo,K,this,A.1,X]
       case nz b off s a'=>
        obtain⟨rfl,rfl,rfl⟩:=bp f;refine⟨m,w,.slice (some a') 0 0, ?_,bY.refl wr,.nz _ _ _ _⟩
        have X:(iW ie.size 0 x').run P w= .ok #[] w:=by cases U<;>simp[fx]at O<;>simp[iW,loadCells,loadCellsFrom]
        have:=oN (P:=P) U O w;rcases hu with ⟨e',hk⟩|hk<;>simp[vK,F,E,run_underlying ht,run_underlying hk,sizeOf,typeInfo,K,this,X,storeCells]
       case eH b off l cap y o' d hd ho c1 c2 c3 c4=>
        obtain⟨rfl,rfl,rfl⟩:=bp f;refine⟨m,w,_, ?_,bY.refl wr,.eH hd ho c1 c2 c3 c4⟩
        have X:(iW ie.size 0 x').run P w= .ok ([]:List Value).toArray w:=by cases U<;>simp[fx]at O<;>simp[iW,loadCells,loadCellsFrom]
        have:=DE (P:=P) (ty:=ty) F E ht hu K (oN (P:=P) U O w) (b:=d.cM) (off:=o') (l:=l) (cap:=y) jO X (w':=w) rfl;simpa using this
      ·rw[if_neg hk]at f;have x5:0<k:=jO;cases hs<;>try(cases f;done)
       case kK l cap A=>
        cases l<;>try(cases f;done)
        cases cap<;>try(cases f;done)
        simp only at f;split at f
        ·rename_i u3;obtain⟨u9,h2,n2,L1,L2,e1,Q,_⟩:=bind_some f;obtain⟨rfl,rfl,D,hn,W⟩:=DD U O x5 wr e1;split at Q
         ·rename_i hc;simp only[bE,decide_eq_true_eq]at hc;obtain⟨T,hp,hv⟩:=DG (cap:=0) (old:=[]) (old':=[]) (l:=0) wr hb hf K v7 .nil hn jS hc.1 Q;refine⟨T,_,_, ?_,hp,hv⟩;exact DF (P:=P) F E ht hu K v8 (oN (P:=P) U O w) jO jO w5 (W _ rfl) (by simp[iW])
         ·cases Q
        ·cases f
       case eH b off l cap y o' d hd ho c1 c2 c3 c4=>
        simp only at f;split at f
        ·rename_i u3;obtain⟨e',h2,n2,L1,L2,e1,Q,_⟩:=bind_some f;obtain⟨rfl,rfl,d2,x9,x8,B0,y0,z6⟩:=Ja wr e1;rw[hd]at x9;cases x9;split at Q
         ·rename_i he;subst he;have u4:ie.size=d.esz:=by simpa[size?,K]using x8
          obtain⟨u9,h3,n3,L3,L4,e3,e4,_⟩:=bind_some Q;obtain⟨rfl,rfl,D,hn,W⟩:=DD U O x5 wr e3;split at e4
          ·rename_i hc;simp only[bE,decide_eq_true_eq]at hc;obtain⟨v1,w3⟩:=hc;have x3:D.length=k*ie.size:=by rw[<-hn.length];exact v1
           have w1:∀v∈D,Ev.one v=true:=by
            intro v hv;obtain⟨j,hj⟩:=List.mem_iff_getElem?.1 hv
            have C:j<u9.length:=by rw[hn.length];exact(List.getElem?_eq_some_iff.1 hj).1
            obtain⟨v2,w9,y7⟩:=hn.get j u9[j] (by simp[C]);rw[hj]at w9;cases w9;rw[y7.one];exact kz.1 w3 _ (List.getElem_mem C)
           unfold ry at e4;by_cases A:cap<aL
           ·rw[if_pos A]at e4;have z4:=c1 A;subst z4;have w0:=ho (.inr A);subst w0;by_cases g:l+k<=y
            ·rw[if_pos g]at e4;obtain⟨uu,h5,R,L5,L6,e5,e6,_⟩:=bind_some e4;obtain⟨rfl,rfl,rfl⟩:=bp e6;cases uu;obtain⟨rfl,w',y6,x2,z5⟩:=Dv hd hn (i:=0) (d.sh+off+l*ie.size) jO wr e5;refine⟨m,w',_, ?_,⟨Le.refl _,fun _ _=>rfl,x2,z5⟩,.eH hd (fun _=>rfl) (fun _=>rfl) (fun q=>by omega) jO c4⟩;exact DE (P:=P) F E ht hu K (oN (P:=P) U O w) g (W w rfl) y6
            ·rw[if_neg g]at e4;obtain⟨old,h5,R,L5,L6,e5,e6,_⟩:=bind_some e4;obtain⟨rfl,rfl,I,old',G,v0⟩:=qn wr hd e5;obtain⟨T,hp,hv⟩:=DG (cap:=y) wr hb hf K v7 G hn I v1 e6;refine⟨T,_,_, ?_,hp,hv⟩;refine DF (P:=P) F E ht hu K v8 (oN (P:=P) U O w) jO u3 w5 (W _ rfl) ?_;have:=ur (P:=P) (w:=w.drew) (c:=d.cM) (o:=d.sh+off) (vs:=old') v0;rw[<-G.length,I]at this;simpa[iW]using this
           ·rw[if_neg A]at e4;obtain⟨old,h5,R,L5,L6,e5,e6,_⟩:=bind_some e4;obtain⟨rfl,rfl,I,old',G,v0⟩:=qn wr hd e5;obtain⟨uu,h7,n7,L7,L8,e7,e8,_⟩:=bind_some e6;unfold kill at e7;split at e7
            ·split at e7
             ·rename_i l' _ B hB;split at e7
              ·rename_i Z;simp only[dm,Out.mk.injEq]at e7;obtain⟨_,rfl,rfl,_⟩:=e7;have xk:=wr.kill hB
               have x1:∀(w2:World),w2.heap=w.heap->(iW ie.size l (.slice (some ⟨d.cM,o',none⟩) l y)).run P w2= .ok old'.toArray w2:=by
                intro w2 y5
                have p:∀j v,old'[j]? =some v->w2.cell? ⟨d.cM,o'+j,none⟩=some v:=by
                 intro j v hj;have C:j<old'.length:=(List.getElem?_eq_some_iff.1 hj).1
                 have w4:0<l:=by
                  rcases tX l with q|q
                  ·rw[<-G.length,I,q]at C;simp at C
                  ·exact q
                 rw[ho (.inl w4)];have:=v0 j v hj;unfold agi at this⊢;rw[y5];exact this
                have:=ur (P:=P) p;rw[<-G.length,I]at this;simpa[iW]using this
               by_cases g:l+k<=y
               ·
                obtain⟨dB,cs,lo,v5,b1,b2,b3,b4,b5,b6,b7⟩:=wr.live b B hB;rw[hd]at b1;cases b1;obtain⟨z2,u7,x7⟩:=b6 Z;have j':l*d.esz+k*d.esz<=y*d.esz:=by rw[<-ff];exact Nat.mul_le_mul_right _ g
                obtain⟨w',y1,s1,s2,s3,s4,s5,s6⟩:=WH (P:=P) (base:=base) (o:=o'+l*ie.size) D 0 w cs b2 (fun j hj=>by
                 rw[x3,u4]at hj;rw[u4]
                 exact⟨jO,x7 _ jO⟩) w1 u7
                unfold lI at e8;obtain⟨id,h9,n9,L9,m',e9,z8,_⟩:=bind_some e8;obtain⟨rfl,rfl,rfl⟩:=bp z8;unfold cJ at e9;split at e9
                ·rename_i i';simp only[dm,Out.mk.injEq]at e9;obtain⟨rfl,rfl,rfl,_⟩:=e9;have z7:B.elem=e':=by rw[hB]at y0;cases y0;exact z6
                 rw[z2,z7]at s2;have z0:m R=none:=hf R (ag _) jO;obtain⟨T,x4⟩:∃T:Mp,T=fun q=>if q=R then some ⟨d.cM,o',d.rD,d.esz,e'⟩else m q:=⟨_,rfl⟩
                 have v3:T R=some ⟨d.cM,o',d.rD,d.esz,e'⟩:=by rw[x4];simp
                 have u1:∀q,q≠R->T q=m q:=fun q p=>by rw[x4];simp[p]
                 have v4:Le m T:=fun q dd p=>by
                  by_cases e:q=R
                  ·subst e;rw[z0]at p;cases p
                  ·rw[u1 q e];exact p
                 refine⟨T,w',.slice (some ⟨d.cM,o',none⟩) (l+k) y, ?_,⟨v4,fun q p=>u1 q jO,⟨?_, ?_⟩,s6⟩,VR.eH (d:=⟨d.cM,o',d.rD,d.esz,e'⟩) v3 (fun _=>rfl) (fun q=>by unfold aL at*;omega) (fun _=>⟨ag _,jO⟩) g c4⟩
                 ·exact DE (P:=P) F E ht hu K (oN (P:=P) U O w) g (W w rfl) s1
                 ·intro q B2 p;rw[H.gM _ _]at p;by_cases e:q=R
                  ·subst e;rw[if_pos rfl]at p;cases p;refine⟨_,y1,lo,v5,v3,s2,by rw[s3,b3], ?_,x8,fun _=>⟨rfl,u7,x7⟩,fun j v hj=> ?_⟩
                   ·simp only[ay,I,v1,u4];omega
                   ·obtain⟨v',N,v9⟩:=(G.append hn).get j v hj;refine⟨v', ?_,v9.mono v4⟩;show y1[o'+j]? =_;rw[s4];have u0:old'.length=l*ie.size:=by rw[<-G.length,I]
                    by_cases C:j<old'.length
                    ·rw[if_neg (by rw[u0]at C;omega)];rw[List.getElem?_append_left C]at N
                     have w4:0<l:=by
                      rcases tX l with q|q
                      ·rw[u0,q]at C;simp at C
                      ·exact q
                     have:=v0 j v' N;rw[rE w _ _ b2]at this;rw[ho (.inl w4)];exact this
                    ·have x6:j<(old'++D).length:=(List.getElem?_eq_some_iff.1 N).1;rw[List.getElem?_append_right jO]at N;simp only[ay]at x6;rw[if_pos jO];rw[<-N,u0];congr 1;omega
                  ·rw[if_neg e]at p;obtain⟨d3,z9,y4,z1,g1,g2,g3,g4,g5,g6,g7⟩:=xk.live q B2 p
                   have x0:q≠b∧h5.get q=some B2:=by
                    rw[H.gM _ _]at p;by_cases e3:q=b
                    ·rw[if_pos e3]at p;cases p
                    ·rw[if_neg e3]at p;exact⟨e3,p⟩
                   have y9:d3.cM≠d.cM:=fun e3=>x0.1 (wr.inj q b B2 B d3 d x0.2 hB (.inr Z) g1 hd e3);refine⟨d3,z9,y4,z1,v4 _ _ g1,by rw[s5 _ y9];exact g2,g3,g4,g5,g6,fun j v hj=> ?_⟩;obtain⟨v',N,v9⟩:=g7 j v hj;exact⟨v',N,v9.mono v4⟩
                 ·intro q q' B2 B3 d2 d3 p Y w0 J u2 u6;rw[H.gM _ _]at p Y
                  have w7:∀q B2 d2,q≠R->(h5.set b none).get q=some B2->T q=some d2->d2.cM≠d.cM:=by
                   intro q B2 d2 y8 p J u6;rw[H.gM _ _]at p;by_cases e3:q=b
                   ·rw[if_pos e3]at p;cases p
                   ·rw[if_neg e3]at p;rw[u1 q y8]at J;exact e3 (wr.inj q b B2 B d2 d p hB (.inr Z) J hd u6)
                  by_cases e1:q=R
                  ·by_cases Q:q'=R
                   ·rw[e1,Q]
                   ·rw[if_neg Q]at Y;subst e1;rw[v3]at J;cases J;exact absurd u6.symm (w7 q' B3 d3 Q Y u2)
                  ·rw[if_neg e1]at p;by_cases Q:q'=R
                   ·subst Q;rw[v3]at u2;cases u2;exact absurd u6 (w7 q B2 d2 e1 p J)
                   ·rw[if_neg Q]at Y;rw[u1 q e1]at J;rw[u1 q' Q]at u2;exact xk.inj q q' B2 B3 d2 d3 p Y w0 J u2 u6
                ·cases e9
               ·
                obtain⟨T,hp,hv⟩:=DG (cap:=y) xk hb hf K v7 G hn I v1 e8;refine⟨T,_,_, ?_,hp,hv⟩;exact DF (P:=P) F E ht hu K v8 (oN (P:=P) U O w) jO u3 w5 (W _ rfl) (x1 _ rfl)
              ·cases e7
             ·cases e7
            ·cases e7
          ·cases e4
         ·cases Q
        ·cases f
     ·cases f
theorem WK{D:Array TypeId}{t ty:TypeId}{d N s E:Value}(p:D[0]? =some t)(hd:VR m d N)(G:VR m s E)(wr:WR P m base h w.heap)(a:nn P t d s h n=some ⟨r,h1,n1,L⟩):
 Sound P base m w h n (CX D ty #[N,E]) r h1 n1:=by
 unfold nn at a;cases j:P.underlying t with
 |none=>rw[j]at a;cases a
 |some du=>
  rw[j]at a;cases du<;>try(cases a;done)
  rename_i e;simp only at a;cases c:size? P e with
  |none=>rw[c]at a;cases a
  |some U=>
   cases o:fx s with
   |none=>rw[c,o]at a;cases hd<;>cases a
   |some x=>
    rw[c,o]at a;have f:=oN (P:=P) G o w
    have l:∀k,¬0<Nat.min x k->Nat.min x k=0∧(iW U (Nat.min x k) E).run P w= .ok #[] w:=by intro k g;have C:Nat.min x k=0:=jO;refine⟨C, ?_⟩;rw[C];cases G<;>simp[fx]at o<;>simp[iW,loadCells,loadCellsFrom]
    cases hd with
    |kK k cap hc=>
     simp only at a;by_cases g:0<Nat.min x k
     ·rw[if_pos g]at a;cases a
     ·rw[if_neg g]at a;obtain⟨rfl,rfl,rfl⟩:=bp a;obtain⟨v,q⟩:=l k g;refine⟨m,w,_, ?_,bY.refl wr,.int _ _⟩;rw[v]at q;simp[CX,p,run_underlying j,run_sizeOf c,f,v,q,goInt]
    |nz b y sp a'=>
     simp only at a;by_cases g:0<Nat.min x 0
     ·rw[if_pos g]at a;cases a
     ·rw[if_neg g]at a;obtain⟨rfl,rfl,rfl⟩:=bp a;obtain⟨v,q⟩:=l 0 g;refine⟨m,w,_, ?_,bY.refl wr,.int _ _⟩;rw[v]at q;simp[CX,p,run_underlying j,run_sizeOf c,f,v,q,goInt,storeCells]
    |@eH b y k cap O o' dd J W c1 c2 c3 c4=>
     simp only at a;by_cases g:0<Nat.min x k
     ·rw[if_pos g]at a;obtain⟨vs,h2,n2,L1,L2,e1,e2,_⟩:=bind_some a;have A:0<x:=dC g (Nat.min_le_left _ _);have B:0<k:=dC g (Nat.min_le_right _ _);obtain⟨rfl,rfl,T,F,I⟩:=DD G o A wr e1;obtain⟨u,h3,n3,L3,L4,Z,Y,_⟩:=bind_some e2;obtain⟨rfl,rfl,rfl⟩:=bp Y;cases u;obtain⟨rfl,R,z,Q,K⟩:=Dv J F (i:=0) (dd.sh+y) jO wr Z;refine⟨m,R,_, ?_,⟨Le.refl _,fun _ _=>rfl,Q,K⟩,.int _ _⟩;have X:=I w rfl;rw[<-W (.inl B)]at z;simp[CX,p,run_underlying j,run_sizeOf c,f,X,z,goInt]
     ·rw[if_neg g]at a;obtain⟨rfl,rfl,rfl⟩:=bp a;obtain⟨v,q⟩:=l k g;refine⟨m,w,_, ?_,bY.refl wr,.int _ _⟩;rw[v]at q;simp[CX,p,run_underlying j,run_sizeOf c,f,v,q,goInt,storeCells]
    |_=>cases a
end
theorem aT.maps{m:Mp}{ρ ρ':Operand->Value}:∀(l:List Operand),(∀y∈l,VR m (ρ y) (ρ' y))->aT m (l.map ρ) (l.map ρ')
 |[],_=> .nil
 |x::l,h=> .cons (h x jS) (aT.maps l fun y a=>h y (by simp[a]))
theorem yH{P:Program}{w:World}{s:Sem Value}{v:Value}{w':World}(h:s.run P w= .ok v w'):((do pure (.value (<-s)):Sem Next)).run P w= .ok (.value v) w':=by simp only[dD,h,dK,mn]
section
variable {P:Program} {base:Nat}
def Goal(P:Program)(base:Nat)(m:Mp)(w:World)(n c:Nat)(d:H)(r:Nx)(s:Sem Next):Prop:=∃b a R,s.run P w= .ok R a∧bY P m base n c w d b a∧NR b r R
theorem Goal.of{m:Mp}{w:World}{h b:H}{n a:Nat}{v:Value}{s:Sem Value}(x:Sound P base m w h n s v b a):Goal P base m w n a b (.val v) (do pure (.value (<-s))):=by obtain⟨e,c,d,g,i,f⟩:=x;exact⟨e,c,.value d,yH g,i,.val f⟩
theorem hF{m:M Value}{h h2:H}{n n2:Nat}{r:Nx}{L:List En}(a:(m.bind fun v=>M.ret (Nx.val v)) h n=some ⟨r,h2,n2,L⟩):∃v L',r= .val v∧m h n=some ⟨v,h2,n2,L'⟩:=by obtain⟨v,f,e,d,g,c,b,_⟩:=bind_some a;obtain⟨rfl,rfl,rfl⟩:=bp b;exact⟨v,d,rfl,c⟩
theorem WL{ρ ρ':Operand->Value}{o:Oper}{m:Mp}{w:World}{h j:H}{n g:Nat}{r:Nx}{L:List En}(k:∀cs b,o.op≠ .select cs b)(d:∀y∈o.op.operands,VR m (ρ y) (ρ' y))(x:WR P m base h w.heap)(c:eV P ρ o h n=some ⟨r,j,g,L⟩):
 Goal P base m w n g j r (execOp ρ' o):=by
 unfold eV at c;split at c
 ·rename_i a;obtain⟨v,s,q,u,t,p,f,_⟩:=bind_some c;obtain⟨l,rfl,rfl⟩:=kJ p;split at f
  ·rename_i e;obtain⟨rfl,rfl,rfl⟩:=bp f;have:execOp ρ' o=execOp ρ o:=execOp_congr o k fun y i=>(d y i).scalar ((Array.all_eq_true_iff_forall_mem.1 a) y i);rw[this];exact⟨m,w,.value v,Wm _ _ l w,bY.refl x,.val (VR.self e)⟩
  ·cases f
 ·cases c
theorem lQ{m:Mp}{w:World}{h:H}{n:Nat}{v a:Value}{s:Sem Value}(x:WR P m base h w.heap)(c:s.run P w= .ok a w)(b:VR m v a):Goal P base m w n n h (.val v) (do pure (.value (<-s))):=
 ⟨m,w,.value a,yH c,bY.refl x,.val b⟩
theorem DH{m:Mp}{ρ ρ':Operand->Value}{o:Option Operand}(h:∀y∈o,VR m (ρ y) (ρ' y)):qo m (o.map ρ) (o.map ρ'):=by
 cases o with
 |none=>trivial
 |some y=>exact h y rfl
theorem WM{m:Mp}{t:TypeId}{v c u e:Value}{b:Bool}(i:VR m v c)(j:VR m u e)(h:nk (P.underlying t) v u=some b)(w:World):
 (pY t c e).run P w= .ok b w∧(∀a x y,(eqGuard a t x y c e).run P w= .ok () w)∧(∀a:BinOp,a= .eql∨a= .neq->binOp a t c e=(if a= .eql then do pure (.bool (<-pY t c e))else do pure (.bool (!(<-pY t c e))))):=by
 cases hd:P.underlying t with
 |none=>rw[hd]at h;simp[nk]at h
 |some d=>
  rw[hd]at h;have f:Op.maxDepth=9999+1:=rfl;unfold pY;rw[f];cases d<;>try(simp[nk]at h;done)
  all_goals (cases i<;>try(simp[nk]at h;done))
  all_goals (cases j<;>try(simp[nk]at h;done))
  all_goals (
   simp[nk]at h;subst h;refine⟨?_,fun a x y=> ?_,fun a g=> ?_⟩
   ·rw[tY];simp only[dD,run_underlying hd,dK];rfl
   ·unfold eqGuard;split<;>rfl
   ·rcases g with rfl|rfl<;>rfl)
theorem WN{m:Mp}{d:Nat}{x y x' e:Value}{b:Bool}(h:yz d x y=some b)(c:VR m x x')(a:VR m y e):x'=x∧e=y:=by
 unfold yz at h;split at h
 ·cases c;cases a;exact⟨rfl,rfl⟩
 ·cases c;cases a;exact⟨rfl,rfl⟩
 ·cases c;cases a;exact⟨rfl,rfl⟩
 ·cases h
theorem Jp{m:Mp}:∀{c:List Nat} {l k e f:List Value} {b:Bool},ju c l k=some b->aT m l e->aT m k f->e=l∧f=k∧l.length=c.length∧k.length=c.length
 |[],[],[],_,_,_,_,.nil,.nil=>⟨rfl,rfl,rfl,rfl⟩
 |d::c,x::l,y::k,_,_,b,h,.cons i j,.cons g n=>by
  unfold ju at h;split at h
  ·rename_i a b p o;obtain⟨rfl,rfl⟩:=WN p i g;obtain⟨rfl,rfl,r,q⟩:=Jp o j n;exact⟨rfl,rfl,by simp[r],by simp[q]⟩
  ·cases h
 |[],[],_::_,_,_,_,h,_,_=>by simp[ju]at h
 |[],_::_,_,_,_,_,h,_,_=>by simp[ju]at h
 |_::_,[],_,_,_,_,h,_,_=>by simp[ju]at h
 |_::_,_::_,[],_,_,_,h,_,_=>by simp[ju]at h
theorem Jq{t:TypeId}{cs:Array Value}{i:Nat}{v:Value}(b:gI P t=some false)(a:cs[i]? =some v)(w:World):(part t cs i).run P w= .ok v w:=by unfold part;simp only[dD,rH b,dK,lF,if_false,a];rfl
theorem Jr{xs ys:Array Value}(D:Nat):∀(m:List Field) (i:Nat) (n:List Nat) (b:Bool),vT P i m=some n->ju n (xs.toList.drop i) (ys.toList.drop i)=some b->∀w,(agG (D+1) xs ys m).run P w= .ok b w
 |[],i,n,b,h,e,w=>by
  simp only[vT,dm]at h;subst h;unfold ju at e;split at e<;>first|(cases e;done)|skip
  ·cases e;rfl
  ·rename_i q _ _;cases q
 |f::m,i,n,b,h,e,w=>by
  unfold vT at h;split at h
  ·rename_i d l g O E;split at h
   ·rename_i s;cases h;simp only[bE,bne_iff_ne,ne_eq,beq_iff_eq]at s;obtain⟨o,k⟩:=s;unfold ju at e;split at e<;>first|(cases e;done)|skip
    ·rename_i q _ _;cases q
    ·rename_i Q J x A y z F v t;cases F;split at e
     ·rename_i a N c B;cases e
      have L:xs[i]? =some x:=by rw[<-CY];have:=congrArg (·[0]?) v;simpa using this
      have K:ys[i]? =some y:=by rw[<-CY];have:=congrArg (·[0]?) t;simpa using this
      have I:xs.toList.drop (i+1)=A:=by have:=congrArg agH v;simpa[agJ]using this
      have G:ys.toList.drop (i+1)=z:=by have:=congrArg agH t;simpa[agJ]using this
      have r:gI P f.type=some false∧∀w,(tY (D+1) f.type x y).run P w= .ok a w:=by
       unfold I2 at g;unfold gI;cases j:P.underlying f.type with
       |none=>rw[j]at g;cases g
       |some u=>
        rw[j]at g;unfold yz at c;cases u<;>first|(cases g;done)|skip
        ·cases g;refine⟨rfl,fun w=> ?_⟩;split at c<;>first|(cases c;done)|skip
         ·rename_i q;cases q
         ·rename_i q;cases q
         ·cases c;simp[tY,run_underlying j]
        ·cases g;refine⟨rfl,fun w=> ?_⟩;split at c<;>first|(cases c;done)|skip
         ·split at c
          ·rename_i p;cases c;simp[tY,run_underlying j,p]
          ·cases c
         ·rename_i q;cases q
         ·rename_i q;cases q
        ·cases g;refine⟨rfl,fun w=> ?_⟩;split at c<;>first|(cases c;done)|skip
         ·rename_i q;cases q
         ·cases c;simp[tY,run_underlying j]
         ·rename_i q;cases q
      have C:=Jr (xs:=xs) (ys:=ys) D m (i+1) l N E (by rw[I,G];exact B);unfold agG;rw[if_pos o];simp only[dD,k,Jq r.1 L,Jq r.1 K,dK,r.2];cases a
      ·simp
      ·simpa using C w
     ·cases e
   ·cases h
  ·cases h
theorem WO{m:Mp}{t:TypeId}{v c u d:Value}{b:Bool}(s:VR m v c)(z:VR m u d)(h:nm P t v u=some b)(w:World):
 (pY t c d).run P w= .ok b w∧(∀a x y,(eqGuard a t x y c d).run P w= .ok () w)∧(∀a:BinOp,a= .eql∨a= .neq->binOp a t c d=(if a= .eql then do pure (.bool (<-pY t c d))else do pure (.bool (!(<-pY t c d))))):=by
 unfold nm at h;split at h
 ·rename_i E C;cases h;exact WM s z C w
 ·unfold Dj at h;split at h
  ·rename_i D r q hd A;cases s with
   |agg n=>
   cases z with
   |agg l=>
   rename_i f e;obtain⟨k,j,_,_⟩:=Jp h n l;have k:f=r:=by cases f;cases r;simp at k;rw[k]
   have j:e=q:=by cases e;cases q;simp at j;rw[j]
   subst k;subst j;unfold rz at hd;split at hd
   ·rename_i B g;split at hd
    ·cases hd
    ·rename_i p;simp only[ml,not_or,Bool.not_eq_true]at p;have i:P.fieldsOf t=B:=by unfold Program.fieldsOf;rw[g]
     refine⟨?_,fun a x y=>run_eqGuard_agg w a t x y _ _ p.2,fun a o=> ?_⟩
     ·show(tY (9998+1+1) t _ _).run P w=_;rw[run_equalIn_struct w (9998+1) t _ _ (by rw[i];exact g) p.1,i];exact Jr 9998 B.toList 0 D b hd h w
     ·rcases o with rfl|rfl<;>rfl
   ·cases hd
  ·cases h
theorem WQ{a b:Option TypeDesc}{e:TypeId}(h:qe a b=some e):a=some (.slice e)∧b=some .string:=by
 unfold qe at h;split at h
 ·cases h;exact⟨rfl,rfl⟩
 ·cases h
theorem WT{a b:Option TypeDesc}{v:Value}{e:TypeId}{s:ByteArray}(h:rA a b v=some (e,s)):a=some .string∧b=some (.slice e)∧v= .string s:=by
 unfold rA at h;split at h
 ·cases h;exact⟨rfl,rfl,rfl⟩
 ·cases h
theorem Js{e:TypeId}(h:lM P e=true):P.underlying e=some (.int .u8):=by
 unfold lM at h;split at h
 ·assumption
 ·cases h
theorem WU{a:Array TypeId}{args:List Value}{t:TypeId}{d y:Value}(h:um a args=some (t,d,y)):a[0]? =some t∧args=[d,y]:=by
 unfold um at h;split at h
 ·rename_i e f c b;cases h;exact⟨b,rfl⟩
 ·cases h
theorem WV{a:Array TypeId}{args:List Value}{t:TypeId}{s y:Value}(h:uk P a args=some (t,s,y)):∃u,a[0]? =some t∧a[1]? =some u∧args=[s,y]∧((∃g,P.underlying u=some (.slice g))∨P.underlying u=some .string):=by
 unfold uk at h;split at h
 ·rename_i j u k i f d;split at h
  ·rename_i b;cases h;refine⟨u,f,d,rfl, ?_⟩;unfold I3 at b;split at b
   ·rename_i e c;exact .inl ⟨e,c⟩
   ·rename_i c;exact .inr c
   ·cases b
  ·cases h
 ·cases h
theorem WW{c:Array TypeId}{args:List Value}{k:Nat}(h:rB P c args=some k):∃t e a cp b,c[0]? =some t∧P.underlying t=some (.slice e)∧args= .slice a k cp::b:=by
 unfold rB at h;split at h
 ·rename_i t a n cp b f;split at h
  ·rename_i e d;cases h;exact⟨t,e,a,cp,b,f,d,rfl⟩
  ·cases h
 ·cases h
theorem WX(w3:qi P=true):rG P base:=by
 intro ρ ρ' o h n r h1 n1 L m w A B x hb hf;show Goal P base m w n n1 h1 r (execOp ρ' o);have plain:(∀cs b,o.op≠ .select cs b)->eV P ρ o h n=some ⟨r,h1,n1,L⟩->Goal P base m w n n1 h1 r (execOp ρ' o):=fun hs A=>WL hs B x A;unfold bG at A;cases j:o.op with
 |move y=>rw[j]at A B;unfold execOp;rw[j];obtain⟨rfl,rfl,rfl⟩:=bp A;exact⟨m,w,.value (ρ' y),rfl,bY.refl x,.val (B y (by simp[dc]))⟩
 |assign y=>rw[j]at A B;unfold execOp;rw[j];obtain⟨rfl,rfl,rfl⟩:=bp A;exact⟨m,w,.value (ρ' y),rfl,bY.refl x,.val (B y (by simp[dc]))⟩
 |pick c a b=>
  rw[j]at A B;unfold execOp;rw[j];simp only at A;dsimp only;have hc:=B c (by simp[dc]);have ha:=B a (by simp[dc]);have y3:=B b (by simp[dc]);generalize ρ c=vc at A hc;generalize ρ' c=y7 at hc⊢;cases hc<;>try(cases A;done)
  rename_i t;obtain⟨rfl,rfl,rfl⟩:=bp A;refine⟨m,w,.value (if t then ρ' a else ρ' b),by cases t<;>rfl,bY.refl x,.val ?_⟩;cases t
  ·exact y3
  ·exact ha
 |alloc e=>rw[j]at A B;unfold execOp;rw[j];obtain⟨v,Q,rfl,E⟩:=hF A;exact Goal.of (Wo x hb hf E)
 |box e y=>rw[j]at A B;unfold execOp;rw[j];obtain⟨v,Q,rfl,E⟩:=hF A;exact Goal.of (Wp (B y (by simp[dc])) x hb hf E)
 |build t R=>
  rw[j]at A B;unfold execOp;rw[j];obtain⟨v,Q,rfl,E⟩:=hF A;have w1:(R.toList.map fun(i,x)=>(i,ρ x)).map (·.1)=(R.toList.map fun(i,x)=>(i,ρ' x)).map (·.1):=by simp[Iw]
  have w0:aT m ((R.toList.map fun(i,x)=>(i,ρ x)).map (·.2)) ((R.toList.map fun(i,x)=>(i,ρ' x)).map (·.2)):=by have:=aT.maps (m:=m) (ρ:=ρ) (ρ':=ρ') (R.toList.map (·.2)) fun y J=>B y (by simp only[dc];simpa using J);simpa[mq,Iw]using this
  have v5:(R.map fun(i,x)=>(i,ρ' x))=(R.toList.map fun(i,x)=>(i,ρ' x)).toArray:=by apply Ir;simp
  dsimp only;rw[v5];exact Goal.of (Wt w1 w0 x E)
 |buildSlice t len R=>
  rw[j]at A B;unfold execOp;rw[j];obtain⟨v,Q,rfl,E⟩:=hF A;have w1:(R.toList.map fun(i,x)=>(i,ρ x)).map (·.1)=(R.toList.map fun(i,x)=>(i,ρ' x)).map (·.1):=by simp[Iw]
  have w0:aT m ((R.toList.map fun(i,x)=>(i,ρ x)).map (·.2)) ((R.toList.map fun(i,x)=>(i,ρ' x)).map (·.2)):=by have:=aT.maps (m:=m) (ρ:=ρ) (ρ':=ρ') (R.toList.map (·.2)) fun y J=>B y (by simp only[dc];simpa using J);simpa[mq,Iw]using this
  have v5:(R.map fun(i,x)=>(i,ρ' x))=(R.toList.map fun(i,x)=>(i,ρ' x)).toArray:=by apply Ir;simp
  dsimp only;rw[v5];exact Goal.of (Wu w1 w0 x hb hf E)
 |load t a=>rw[j]at A B;unfold execOp;rw[j];obtain⟨v,Q,rfl,E⟩:=hF A;exact Goal.of (Wv (B a (by simp[dc])) x E)
 |store t a y=>rw[j]at A B;unfold execOp;rw[j];obtain⟨v,Q,rfl,E⟩:=hF A;obtain⟨rfl,w',x6,hp⟩:=Ww (B a (by simp[dc])) (B y (by simp[dc])) x E;refine⟨m,w',.skip, ?_,hp,.skip⟩;simp only[dD,x6,dK,mn]
 |nilCheck y=>rw[j]at A B;unfold execOp;rw[j];obtain⟨v,Q,rfl,E⟩:=hF A;obtain⟨rfl,rfl,hv,x7⟩:=Wx (B y (by simp[dc])) x E;dsimp only;rcases x7 with ⟨a,ha⟩|⟨f,a,b,ha⟩<;>rw[ha]at hv⊢<;>exact⟨m,w,_,rfl,bY.refl x,.val hv⟩
 |binOp op t y z yt=>
  rw[j]at A;simp only at A;have C:=B;rw[j]at C;have J:=C y (by simp[dc]);have hz:=C z (by simp[dc]);cases W:nm P t (ρ y) (ρ z)with
  |none=>rw[W]at A;exact plain (fun cs b N=>by rw[j]at N;cases N) A
  |some b=>
   rw[W]at A;unfold execOp;rw[j];obtain⟨q1,q2,q3⟩:=WO J hz W w;cases op<;>try(cases A;done)
   case eql=>obtain⟨rfl,rfl,rfl⟩:=bp A;refine lQ x ?_ (.bool b);rw[dD,q2];simp only[dK];rw[q3 .eql (.inl rfl),if_pos rfl,dD,q1];rfl
   case neq=>obtain⟨rfl,rfl,rfl⟩:=bp A;refine lQ x ?_ (.bool !b);rw[dD,q2];simp only[dK];rw[q3 .neq (.inr rfl),if_neg jD,dD,q1];rfl
 |unOp op t y=>rw[j]at A;exact plain (fun cs b N=>by rw[j]at N;cases N) A
 |convert src w2 y=>
  rw[j]at A;simp only at A;have C:=B;rw[j]at C;have J:=C y (by simp[dc]);have x8:∀cs b,o.op≠ .select cs b:=fun cs b N=>by rw[j]at N;cases N
  cases v3:qe (P.underlying src) (P.underlying w2)with
  |some e=>
   rw[v3]at A;obtain⟨hs,hd⟩:=WQ v3;simp only at A;split at A
   ·rename_i Y;obtain⟨v,Q,rfl,E⟩:=hF A;obtain⟨a,l,c,Z,u7⟩:=Wz J x E;unfold execOp;rw[j];simp only[Z]at u7⊢;obtain⟨m',w',v',u0,hp,hv⟩:=u7;exact⟨m',w',.value v',yH (by rw[run_convert_bytes_string w src w2 e a l c hs (Js Y) hd];exact u0),hp,.val hv⟩
   ·cases A
  |none=>
   rw[v3]at A;simp only at A;cases v4:rA (P.underlying src) (P.underlying w2) (ρ y)with
   |none=>rw[v4]at A;exact plain x8 A
   |some es=>
    obtain⟨e,s⟩:=es;rw[v4]at A;simp only at A;obtain⟨hs,hd,x3⟩:=WT v4;split at A
    ·rename_i Y;simp only[bE,beq_iff_eq]at Y;obtain⟨v,Q,rfl,E⟩:=hF A;rw[x3]at J;have x4:ρ' y= .string s:=by generalize ρ' y=q at J;cases J;rfl
     obtain⟨m',w',v',u0,hp,hv⟩:=WA Y.2 x hb hf E;unfold execOp;rw[j];simp only[x4];refine⟨m',w',.value v',yH ?_,hp,.val hv⟩;rw[<-u0];simp[convert,run_underlying hs,run_underlying hd,run_underlying (Js Y.1)]
    ·cases A
 |makeFunc fn a b=>
  rw[j]at A B;unfold execOp;rw[j];obtain⟨rfl,rfl,rfl⟩:=bp A;refine⟨m,w,.value (.func fn (a.map ρ') (b.map ρ')),rfl,bY.refl x,.val (.func fn ?_ ?_)⟩
  ·rw[ot,ot];exact aT.maps _ fun y J=>B y (by simp only[dc,agK];exact .inl (by simpa using J))
  ·rw[ot,ot];exact aT.maps _ fun y J=>B y (by simp only[dc,agK];exact .inr (by simpa using J))
 |makeSlice t l c=>rw[j]at A B;unfold execOp;rw[j];obtain⟨v,Q,rfl,E⟩:=hF A;exact Goal.of (WB (B l (by simp[dc])) (B c (by simp[dc])) x hb hf E)
 |slice t y lo hi mx=>
  rw[j]at A;simp only at A;have C:=B;rw[j]at C;have J:=C y (by simp[dc]);by_cases u6:isStr (ρ y)=true
  ·rw[if_pos u6]at A;exact plain (fun cs b N=>by rw[j]at N;cases N) A
  ·rw[if_neg u6]at A;obtain⟨v,Q,rfl,E⟩:=hF A;unfold execOp;rw[j];have w5:qo m (lo.map ρ) (lo.map ρ'):=DH fun q W=>C q (by rw[Vy]at W;subst W;simp[dc]);have w6:qo m (hi.map ρ) (hi.map ρ'):=DH fun q W=>C q (by rw[Vy]at W;subst W;simp[dc]);have w4:qo m (mx.map ρ) (mx.map ρ'):=DH fun q W=>C q (by rw[Vy]at W;subst W;simp[dc]);generalize ρ y=vy at E J;unfold mu at E;split at E
   ·rename_i b y8 l c;obtain⟨e',h2,n2,L1,L2,e2,e3,_⟩:=bind_some E;obtain⟨rfl,rfl,d2,y1,y0,_⟩:=Ja x e2;cases T:P.underlying t with
    |none=>rw[T]at e3;cases e3
    |some du=>
     rw[T]at e3;cases du<;>try(cases e3;done)
     rename_i e;simp only at e3;split at e3
     ·rename_i x5;obtain⟨I,rfl,rfl⟩:=kJ e3
      obtain⟨u,v1,G⟩:=Jo (fun b' u5 l' c' y5 u9 v2=>by
       cases u9;rw[T]at v2;cases v2
       exact⟨d2,y1,by rw[<-x5];exact y0⟩) J w5 w6 w4 I w
      exact lQ x v1 G
     ·cases e3
   ·rename_i x9;obtain⟨I,rfl,rfl⟩:=kJ E;obtain⟨u,v1,G⟩:=Jo (fun b' u5 l' c' y5 u9 v2=>absurd u9 (x9 b' u5 l' c')) J w5 w6 w4 I w;exact lQ x v1 G
 |fieldAddr t y f=>rw[j]at A B;unfold execOp;rw[j];obtain⟨v,Q,rfl,E⟩:=hF A;obtain⟨I,rfl,rfl⟩:=kJ E;obtain⟨u,T,G⟩:=WC (B y (by simp[dc])) I w;exact lQ x T G
 |field t y f=>rw[j]at A B;unfold execOp;rw[j];obtain⟨v,Q,rfl,E⟩:=hF A;obtain⟨I,rfl,rfl⟩:=kJ E;obtain⟨u,T,G⟩:=DC (B y (by simp[dc])) I w;exact lQ x T G
 |indexAddr t y i=>rw[j]at A B;unfold execOp;rw[j];obtain⟨v,Q,rfl,E⟩:=hF A;obtain⟨I,rfl,rfl⟩:=kJ E;obtain⟨u,T,G⟩:=WD (B y (by simp[dc])) (B i (by simp[dc])) I w;exact lQ x T G
 |index t y i=>
  rw[j]at A;simp only at A;have C:=B;rw[j]at C;split at A
  ·exact plain (fun cs b N=>by rw[j]at N;cases N) A
  ·unfold execOp;rw[j];obtain⟨v,Q,rfl,E⟩:=hF A;obtain⟨I,rfl,rfl⟩:=kJ E;obtain⟨u,T,G⟩:=WE (C y (by simp[dc])) (C i (by simp[dc])) I w;exact lQ x T G
 |extract y i=>rw[j]at A B;unfold execOp;rw[j];obtain⟨v,Q,rfl,E⟩:=hF A;obtain⟨I,rfl,rfl⟩:=kJ E;obtain⟨u,T,G⟩:=WG (B y (by simp[dc])) I w;exact lQ x T G
 |call c=>
  rw[j]at A;simp only at A;have C:=B;rw[j]at C;simp only[dc]at C
  have D:aT m (c.args.map ρ).toList (c.args.map ρ').toList:=by rw[ot,ot];exact aT.maps _ fun y J=>C y (by unfold tV;exact agK.2 (.inr (by simpa using J)))
  have w9:execOp ρ' o=(do let d<-resolve ρ' c o.type;invoke d.target d.args):=by unfold execOp;rw[j]
  unfold iZ at A;cases O:c.callee with
  |invoke a b=>rw[O]at A;cases A
  |value f=>
   rw[O]at A;simp only at A;have v8:=C f (by unfold tV;rw[O];simp);cases U:yA (ρ f)with
   |none=>rw[U]at A;cases A
   |some y4=>
    obtain⟨g,first,cap⟩:=y4;rw[U]at A;simp only at A
    obtain⟨K,X,w7,u4,x0⟩:∃K X,ρ' f= .func (.func g) K X∧aT m first.toList K.toList∧aT m cap.toList X.toList:=by
     generalize ρ f=p at U v8;generalize ρ' f=q at v8;unfold yA at U;split at U
     ·cases U;cases v8 with
      |func fn h1 h2=>exact⟨_,_,rfl,h1,h2⟩
     ·cases U
    split at A
    ·rename_i F;obtain⟨rfl,rfl,rfl⟩:=bp A;rw[w9];unfold kG at F;cases u3:P.funcs[g]? with
     |none=>rw[u3]at F;cases F
     |some fn=>
      rw[u3]at F;have F:fn.body.isSome=true:=F;refine⟨m,w,.enter g (K++c.args.map ρ'++X), ?_,bY.refl x,.call ?_⟩
      ·have v6:(fn.name== "runtime.NumGoroutine")=false:=by unfold qi at w3;have:=(Array.all_eq_true_iff_forall_mem.1 w3) fn (Array.mem_of_getElem? u3);simpa using this
       have y2:fn.body.isNone=false:=by
        cases W:fn.body with
        |none=>rw[W]at F;cases F
        |some _=>rfl
       unfold resolve;rw[O];simp only[w7,ait,pure_bind,invoke];unfold callFunc;simp only[dD];show dK (.ok P w) _=_;simp only[dK,u3,v6,lF,if_false,y2];rfl
      ·simp only[Array.toList_append];exact(u4.append D).append x0
    ·cases A
  |builtin b=>
   rw[O]at A
   have u1:execOp ρ' o=builtin b c.argTypes o.type (c.args.map fun| .const _=>true|_=>false) (c.args.map ρ'):=by rw[w9];unfold resolve;rw[O];rfl
   cases b<;>simp only at A<;>try(cases A;done)
   case append=>
    cases u2:uk P c.argTypes (c.args.map ρ).toList with
    |none=>rw[u2]at A;cases A
    |some x1=>
     obtain⟨t,s,y⟩:=x1;rw[u2]at A;simp only at A;obtain⟨u,ht,T,hl,hk⟩:=WV u2;rw[hl]at D;rw[u1]
     obtain⟨s',y',v7,hs,J⟩:∃s' y',c.args.map ρ'=#[s',y']∧VR m s s'∧VR m y y':=by
      generalize c.args.map ρ'=q at D;obtain⟨q⟩:=q;simp only at D;cases D with
      |cons h1 t1=>cases t1 with
       |cons h2 t2=>cases t2 with
        |nil=>exact⟨_,_,rfl,h1,h2⟩
     rw[v7];obtain⟨v,Q,rfl,E⟩:=hF A;exact Goal.of (WJ ht T hk hs J x hb hf E)
   case copy=>
    cases v9:um c.argTypes (c.args.map ρ).toList with
    |none=>rw[v9]at A;cases A
    |some x2=>
     obtain⟨t,d,y⟩:=x2;rw[v9]at A;simp only at A;obtain⟨ht,hl⟩:=WU v9;rw[hl]at D;rw[u1]
     obtain⟨d',y',v7,hd,J⟩:∃d' y',c.args.map ρ'=#[d',y']∧VR m d d'∧VR m y y':=by
      generalize c.args.map ρ'=q at D;obtain⟨q⟩:=q;simp only at D;cases D with
      |cons h1 t1=>cases t1 with
       |cons h2 t2=>cases t2 with
        |nil=>exact⟨_,_,rfl,h1,h2⟩
     rw[v7];obtain⟨v,Q,rfl,E⟩:=hF A;exact Goal.of (WK ht hd J x E)
   case len=>
    cases Z:rB P c.argTypes (c.args.map ρ).toList with
    |none=>rw[Z]at A;exact plain (fun cs b N=>by rw[j]at N;cases N) A
    |some k=>
     rw[Z]at A;obtain⟨t,e,a,cp,y6,ht,v0,hl⟩:=WW Z;rw[hl]at D;obtain⟨rfl,rfl,rfl⟩:=bp A;rw[u1];generalize c.args.map ρ'=q at D;obtain⟨q⟩:=q;simp only at D;cases D with
     |cons h1 t1=>
      cases h1 with
      |kK _ _ hc=>refine lQ x ?_ (.int _ _);unfold Ix;simp[ht,run_underlying v0,goInt]
      |nz _ _ _ _=>refine lQ x ?_ (.int _ _);unfold Ix;simp[ht,run_underlying v0,goInt]
      |eH=>refine lQ x ?_ (.int _ _);unfold Ix;simp[ht,run_underlying v0,goInt]
   case min=>exact plain (fun cs b N=>by rw[j]at N;cases N) A
   case max=>exact plain (fun cs b N=>by rw[j]at N;cases N) A
 |_=>rw[j]at A;cases A
end
theorem WY{P:Program}{base:Nat}{m:Mp}{t:TypeId}{a s r:Value}{h v:H}{n u:Nat}{L:List En}{w:World}(B:VR m a s)(x:WR P m base h w.heap)(c:gK P t a h n=some ⟨r,v,u,L⟩):
 ∃b off,s= .pointer (some ⟨b,off,none⟩)∧v=h∧u=n∧∃l,VR m r l∧((do loadVar t (<-asAddr s)):Sem Value).run P w= .ok l w:=by
 unfold gK at c;split at c
 ·rename_i b off;obtain⟨d,hd,rfl⟩:=DB B;cases o:gI P t with
  |none=>rw[o]at c;cases c
  |some g=>
   rw[o]at c;cases g with
   |false=>simp only at c;obtain⟨rfl,rfl,I,l,j,A,y⟩:=yD x c;rw[hd]at j;cases j;refine⟨_,_,rfl,rfl,rfl,l,y, ?_⟩;simp only[asAddr,pure_bind,loadVar,dD,rH o w,dK,lF,if_false];show(Sem.load _ _ _).run P w=_;simp[Sem.run,A]
   |true=>
    cases p:size? P t with
    |none=>rw[p]at c;cases c
    |some k=>
     rw[p]at c;simp only at c;obtain⟨E,G,F,K,J,D,C,_⟩:=bind_some c;obtain⟨rfl,rfl,rfl⟩:=bp C;obtain⟨rfl,rfl,z,e,f,q⟩:=qn x hd D;refine⟨_,_,rfl,rfl,rfl,.agg e.toArray,.agg (by simpa using f), ?_⟩;have i:e.length=k:=by rw[<-f.length,z]
     have:=ur (P:=P) q;rw[i]at this;simp only[asAddr,pure_bind,loadVar,dD,rH o w,dK,if_true,run_sizeOf p,this];rfl
 ·cases c
theorem results_at{P:Program}{base:Nat}{m:Mp}{nt:Nat}{s:S}{a:Act}(B:SR m nt s a):∀(l:List ResultVar) (h i:H) (n k:Nat) (L:List En) (vs:List Value) (w:World),WR P m base h w.heap->gL P s l h n=some ⟨vs,i,k,L⟩->∃d,aT m vs d∧
 ((l.mapM fun| .tmp t=>pure (a.tmps.getD t undef)| .cell b t=>do loadVar t (<-asAddr (a.tmps.getD b undef)):Sem (List Value))).run P w= .ok d w:=by
 intro l
 induction l with
 |nil=>intro h i n k L vs w x g;obtain⟨rfl,rfl,rfl⟩:=bp g;exact⟨[],.nil,rfl⟩
 |cons r l A=>
  intro h i n k L vs w x g;cases r with
  |cell b t=>
   unfold gL at g;obtain⟨v,q,E,J,I,y,u,_⟩:=bind_some g;obtain⟨D,N,K,Q,O,G,F,_⟩:=bind_some u;obtain⟨rfl,rfl,rfl⟩:=bp F;obtain⟨C,j,p,rfl,rfl,z,o,c⟩:=WY (B.at_ b) x y;obtain⟨d,e,f⟩:=A _ _ _ _ _ _ w x G;refine⟨z::d,.cons o e, ?_⟩;rw[agt];have i:(asAddr (a.tmps.getD b undef)).run P w= .ok ⟨C,j,none⟩ w:=by rw[p];rfl
   have q:(loadVar t ⟨C,j,none⟩).run P w= .ok z w:=by rw[dD,i]at c;exact c
   simp only[bind_assoc,pure_bind,dD,i,dK,q,f,mn]
  |tmp t=>unfold gL at g;obtain⟨D,q,E,J,I,y,u,_⟩:=bind_some g;obtain⟨rfl,rfl,rfl⟩:=bp u;obtain⟨d,e,c⟩:=A _ _ _ _ _ _ w x y;refine⟨a.tmps.getD t undef::d,.cons (B.at_ t) e, ?_⟩;rw[agt];simp only[pure_bind,dD,c,dK,mn]
theorem WZ{P:Program}{t:TypeId}{v r:Value}{h e:H}{n d:Nat}{L:List En}(a:gK P t v h n=some ⟨r,e,d,L⟩):e=h∧d=n:=by
 have f:∀{b k:Nat} {h e:H} {n d:Nat} {v:Value} {L:List En},rd b k h n=some ⟨v,e,d,L⟩->e=h∧d=n:=by
  intro b k h e n d v L a;unfold rd at a;split at a
  ·split at a
   ·split at a
    ·simp only[dm,Out.mk.injEq]at a;exact⟨a.2.1.symm,a.2.2.1.symm⟩
    ·cases a
   ·cases a
  ·cases a
 have i:∀{c b k:Nat} {h e:H} {n d:Nat} {v:List Value} {L:List En},cc b k c h n=some ⟨v,e,d,L⟩->e=h∧d=n:=by
  intro c
  induction c with
  |zero=>intro b k h e n d v L a;obtain⟨_,rfl,rfl⟩:=bp a;exact⟨rfl,rfl⟩
  |succ c q=>intro b k h e n d v L a;obtain⟨C,s,p,A,z,j,x,_⟩:=bind_some (m:=rd b k) a;obtain⟨rfl,rfl⟩:=f j;obtain⟨ws,E,D,G,F,w,u,_⟩:=bind_some (m:=cc b (k+1) c) x;obtain⟨rfl,rfl⟩:=q w;obtain⟨_,rfl,rfl⟩:=bp u;exact⟨rfl,rfl⟩
 unfold gK at a;split at a
 ·cases o:gI P t with
  |none=>rw[o]at a;cases a
  |some g=>
   rw[o]at a;cases g with
   |false=>exact f a
   |true=>
    cases l:size? P t with
    |none=>rw[l]at a;cases a
    |some k=>rw[l]at a;obtain⟨B,s,p,A,z,y,j,_⟩:=bind_some a;obtain⟨_,rfl,rfl⟩:=bp j;exact i y
 ·cases a
theorem W0{P:Program}{s:S}:∀(l:List ResultVar) (h d:H) (n c:Nat) (L:List En) (vs:List Value),gL P s l h n=some ⟨vs,d,c,L⟩->d=h∧c=n:=by
 intro l
 induction l with
 |nil=>intro h d n c L vs a;obtain⟨_,rfl,rfl⟩:=bp a;exact⟨rfl,rfl⟩
 |cons r l g=>
  intro h d n c L vs a;cases r with
  |cell b t=>unfold gL at a;obtain⟨v,k,j,q,p,f,e,_⟩:=bind_some a;obtain⟨i,w,u,y,x,o,m,_⟩:=bind_some e;obtain⟨_,rfl,rfl⟩:=bp m;obtain⟨rfl,rfl⟩:=WZ f;exact g _ _ _ _ _ _ o
  |tmp t=>unfold gL at a;obtain⟨i,k,j,q,p,f,e,_⟩:=bind_some a;obtain⟨_,rfl,rfl⟩:=bp e;exact g _ _ _ _ _ _ f
theorem W1{P:Program}{b:List FuncId}(a:oK P b=true){f:FuncId}{d:Func}{c:Code}(h:b.contains f=false)(e:P.funcs[f]? =some d)(g:d.body=some c):jv P c=true:=by
 unfold oK at a;rw[kz]at a
 have:=a (d,f) (by
  rw[List.mem_iff_getElem?]
  exact⟨f,by simp[List.getElem?_zipIdx,e]⟩)
 simp only[h,g,yn]at this;exact this
def oO(w:World):Prop:=∀g∈KG,w.cell? ⟨g.1,g.2.1,none⟩=some g.2.2
theorem Jt{P:Program}{m:Mp}{base:Nat}{h:H}{w:World}(x:WR P m base h w.heap)(g:Gl P m):∀{l:List (Nat×Nat×Value)} {n f:Nat} {j:H} {u:Unit} {L:List En},kH P l h n=some ⟨u,j,f,L⟩->j=h∧f=n∧∀q∈l,w.cell? ⟨q.1,q.2.1,none⟩=some q.2.2
 |[],n,f,j,u,L,i=>by obtain⟨_,rfl,rfl⟩:=bp i;exact⟨rfl,rfl,fun q o=>by simp at o⟩
 |q::l,n,f,j,u,L,i=>by
  unfold kH at i;obtain⟨v,G,F,K,J,B,k,_⟩:=bind_some i;obtain⟨rfl,rfl,d,E,hd,p,A⟩:=yD x B;by_cases b:(decide (q.1<P.globals.size)&&uq v q.2.2)=true
  ·rw[if_pos b]at k;simp only[bE,decide_eq_true_eq]at b;obtain⟨I,c,D,C⟩:=g q.1 b.1;rw[hd]at c;cases c;obtain⟨t,s,r⟩:=Jt x g k;refine⟨t,s,fun y z=> ?_⟩;rcases List.mem_cons.1 z with e|e
   ·subst e;rw[D,C,fD]at p;rw[p];have a:=b.2;cases A<;>first|(simp[uq]at a;done)|skip
    cases o:y.2.2<;>rw[o]at a<;>first|(simp[uq]at a;done)|skip
    simp[uq]at a;rw[a.1,a.2]
   ·exact r y e
  ·rw[if_neg b]at k;cases k
def DI(P:Program)(h:List FuncId):Prop:=∀f k,h.contains f=true->ny f=some k->(k=1->∀(b o n c:Nat) (g:List Int) (cv:Int) (w:World),g.length=n->(∀i,i<n->w.cell? ⟨b,o+i,none⟩=some (.int .u8 (g.getD i 0)))->
 Calls P f #[.slice (some ⟨b,o,none⟩) n c,.int .u8 cv] w fun e a=>e= .returned (.int .i64 (Lib.indexByte (Lib.bytesOf g) cv.toNat.toUInt8))∧Below w.heap.size w a)∧
 (k=2->∀(s:ByteArray) (c:Nat) (w:World),c<=1000000->s.size<=1000000->Calls P f #[.string s,.int .i64 c] w fun e a=>e= .returned (.string ⟨(Lib.repeatL s.data.toList c).toArray⟩)∧Below w.heap.size w a)∧
 (k=3->∀(args:Array Value) (v:Value) (w:World),args.toList.all scalar=true->I0 f args.toList=some v->(∀m,VR m v v)∧Calls P f args w fun e a=>e= .returned v∧Below w.heap.size w a)∧
 (k=4->(∀(v:Value) (w:World),yy f 0 []=some v->(∀m,VR m v v)∧Calls P f #[.slice none 0 0] w fun e a=>e= .returned v∧Below w.heap.size w a)∧
   ∀(b o n c:Nat) (d:List Value) (v:Value) (w:World),d.length=n*I1 f->d.all scalar=true->(∀i v,d[i]? =some v->w.cell? ⟨b,o+i,none⟩=some v)->n<=c->yy f n d=some v->(∀m,VR m v v)∧Calls P f #[.slice (some ⟨b,o,none⟩) n c] w fun e a=>e= .returned v∧Below w.heap.size w a)
structure rI (P:Program) (bad:List FuncId):Prop where
 yes:∀f,bad.contains f=true->ny f=none->qk P f=true->∀w,oO w->Calls P f #[] w fun e w'=>e= .returned (.bool true)∧Below w.heap.size w w'
 nat:DI P bad
theorem Ju:∀{vs:List Value} {l:List Int},ql vs=some l->vs=l.map (iz .u8)
 |[],l,h=>by cases h;rfl
 |v::r,l,h=>by
  unfold ql at h;split at h
  ·rename_i a;cases a
  ·rename_i x c a;cases a;split at h
   ·rename_i d b;cases h;rw[Ju b];rfl
   ·cases h
  ·cases h
theorem Jv{m:Mp}{k:IntKind}:∀{l:List Int} {vs:List Value},aT m (l.map (iz k)) vs->vs=l.map (iz k)
 |[],_,.nil=>rfl
 |_::l,_,.cons (.int _ _) t=>by rw[Jv t];rfl
theorem yI{a:Array Value}{l:List Value}(h:a.toList=l):a=l.toArray:=by rw[<-h]
theorem aT.plain{m:Mp}:∀{l b:List Value},aT m l b->l.all scalar=true->b=l
 |_,_,.nil,_=>rfl
 |_,_,.cons h t,a=>by simp only[List.all_cons,bE]at a;rw[h.scalar a.1,aT.plain t a.2]
theorem W2{P:Program}{O:List FuncId}{base:Nat}(K:DI P O){f:FuncId}{k:Nat}(p:O.contains f=true)(N:ny f=some k){args:List Value}{g:Array Value}{h R:H}{n n1:Nat}{v:Value}{L:List En}{m:Mp}{w:World}(o:qm f k args h n=some ⟨v,R,n1,L⟩)(x:WR P m base h w.heap)(hb:base<=w.heap.size)(a:aT m args g.toList):
 Calls P f g w fun e w'=>∃m' v',e= .returned v'∧bY P m base n n1 w R m' w'∧VR m' v v':=by
 have r:∀w',Below w.heap.size w w'->bY P m base n n w h m w':=fun w' j=>by refine⟨Le.refl _,fun _ _=>rfl,⟨fun b B hB=> ?_,x.inj⟩,j.mono hb⟩;obtain⟨d,cs,lo,Z,R,Q,h3⟩:=x.live b B hB;exact⟨d,cs,lo,Z,R,(j.block d.cM (Array.getElem?_eq_some_iff.1 Q).1).trans Q,h3⟩
 unfold qm at o;split at o
 ·unfold Dm at o;split at o
  ·rename_i b T len cap c;generalize C:g.toList=as at a;cases a with
   |cons D a=>
   cases a with
   |cons hc a=>
   cases a;cases hc;unfold vU at o;obtain⟨vs,Q,n2,L1,L2,e1,A,_⟩:=bind_some o;cases D with
   |@eH _ _ _ _ t U d hd Y _ _ _ _=>
    obtain⟨rfl,rfl,I,J,y,z⟩:=qn x hd e1;cases F:ql vs with
    |none=>rw[F]at A;cases A
    |some l=>
     rw[F]at A;obtain⟨rfl,rfl,rfl⟩:=bp A;have W:=Ju F;rw[W]at y I;have X:=Jv y;rw[X]at z;simp only[List.length_map]at I;rw[yI C];refine((K f 1 p N).1 rfl d.cM U len t l c w I fun i Z=> ?_).mono ?_
     ·rw[Y (.inl jO)];exact z i _ (by rw[List.getElem?_map,aC jO,List.getD_eq_getElem?_getD,aC jO];rfl)
     ·rintro e w' ⟨rfl,j⟩;exact⟨m,_,rfl,r w' j,.int _ _⟩
  ·cases o
 ·unfold Dp at o;split at o
  ·rename_i s c;generalize C:g.toList=as at a;cases a with
   |cons D a=>
   cases a with
   |cons hc a=>
   cases a;cases hc;cases D;unfold Dl at o;split at o
   ·rename_i hz;simp only[bE,decide_eq_true_eq]at hz;obtain⟨rfl,rfl,rfl⟩:=bp o;rw[yI C];obtain⟨c,rfl⟩:∃k:Nat,c=k:=⟨c.toNat,jO⟩;refine((K f 2 p N).2.1 rfl s c w jO hz.2).mono ?_;rintro e w' ⟨rfl,j⟩;exact⟨m,_,rfl,r w' j,by rw[Int.toNat_natCast];exact .string _⟩
   ·cases o
  ·cases o
 ·unfold Dq at o;split at o
  ·rename_i G;obtain⟨E,rfl,rfl⟩:=kJ o;have e:=a.plain G;rw[<-e]at G E;obtain⟨q1,q2⟩:=(K f 3 p N).2.2.1 rfl g v w G E;refine q2.mono ?_;rintro e w' ⟨rfl,j⟩;exact⟨m,_,rfl,r w' j,q1 m⟩
  ·cases o
 ·unfold Dr at o;split at o
  ·generalize C:g.toList=as at a;cases a with
   |cons D a=>
   cases a;cases D;obtain⟨E,rfl,rfl⟩:=kJ o;rw[yI C];obtain⟨q1,q2⟩:=((K f 4 p N).2.2.2 rfl).1 v w E;refine q2.mono ?_;rintro e w' ⟨rfl,j⟩;exact⟨m,_,rfl,r w' j,q1 m⟩
  ·rename_i b T len cap;generalize C:g.toList=as at a;cases a with
   |cons D a=>
   cases a;obtain⟨vs,Q,n2,L1,L2,e1,A,_⟩:=bind_some o;cases D with
   |@eH _ _ _ _ t U d hd Y u1 u0 hn _=>
    obtain⟨rfl,rfl,I,J,y,z⟩:=qn x hd e1;split at A
    ·rename_i G;obtain⟨E,rfl,rfl⟩:=kJ A;have e:=y.plain G;subst e;rw[yI C]
     obtain⟨q1,q2⟩:=((K f 4 p N).2.2.2 rfl).2 d.cM U len t J v w I G (fun i u F=>by
      have Z:=(List.getElem?_eq_some_iff.1 F).1
      have h0:0<len:=by
       rcases tX len with q|q
       ·rw[q,Nat.zero_mul]at I;omega
       ·exact q
      rw[Y (.inl h0)]
      exact z i u F) hn E
     refine q2.mono ?_;rintro e w' ⟨rfl,j⟩;exact⟨m,_,rfl,r w' j,q1 m⟩
    ·cases A
  ·cases o
 ·cases o
theorem Jw{P:Program}{base:Nat}{t:List FuncId}(u6:qi P=true)(u5:oK P t=true)(R:P.follows .mixedOrders=true)(T:rI P t):∀fuel,uv P base (cq P t fuel):=by
 have u4:rG P base:=WX u6;intro fuel
 induction fuel with
 |zero=>intro f args h n v G Z L m w l i;cases i
 |succ fuel ih=>
  intro f args h n v G Z L m w l i x hb p hf g;unfold cq at i;by_cases o:t.contains f=true
  ·rw[if_pos o]at i;cases q:ny f with
   |some k=>rw[q]at i;exact W2 T.nat o q i x hb p
   |none=>
   rw[q]at i;simp only at i;by_cases hz:(decide (args.size=0)&&qk P f)=true
   ·rw[if_pos hz]at i;simp only[bE,decide_eq_true_eq]at hz;obtain⟨u,W,n2,L1,L2,c1,c2,_⟩:=bind_some i;obtain⟨rfl,rfl,F⟩:=Jt x g c1;obtain⟨rfl,rfl,rfl⟩:=bp c2;have hl:=p.length
    have e1:l=#[]:=by apply Array.eq_empty_of_size_eq_zero;simp at hl;omega
    subst e1;refine(T.yes f o q hz.2 w F).mono ?_;rintro e z ⟨rfl,Y⟩;refine⟨m,_,rfl,⟨Le.refl _,fun _ _=>rfl,⟨fun b B hB=> ?_,x.inj⟩,Y.mono hb⟩,.bool true⟩;obtain⟨d,cs,lo,hi,G,W,h3⟩:=x.live b B hB;exact⟨d,cs,lo,hi,G,(Y.block d.cM (Array.getElem?_eq_some_iff.1 W).1).trans W,h3⟩
   ·rw[if_neg hz]at i;cases i
  rw[if_neg o]at i;cases A:P.funcs[f]? with
  |none=>rw[A]at i;cases i
  |some D=>
   rw[A]at i;simp only at i;cases hc:D.body with
   |none=>rw[hc]at i;cases i
   |some c=>
    rw[hc]at i;simp only at i;by_cases j:(args.size<=D.ntmps&&D.ntmps<1000)=true
    ·rw[if_pos j]at i;simp only[bE,decide_eq_true_eq]at j;obtain⟨L',i⟩:=Dx i;obtain⟨y,W,n2,L1,L2,e1,e2,_⟩:=bind_some i;obtain⟨e,s1⟩:=y;have Q:jv P c=true:=W1 u5 (Bool.eq_false_iff.2 o) A hc;have u3:=fun f a=>Loc.cq P t fuel f a;refine calls_of_wp A hc ?_
     have X:∀(e':Ex) (hn:cv e'= .normal∨cv e'= .ret) (U:e=e'),((gL P s1 D.results.toList).bind fun E=>M.ret (match E with|[v]=>v|_=> .tuple E.toArray)) W n2=some ⟨v,G,Z,L2⟩->
      c.wp P (bodyPost P D fun e z=>∃C I,e= .returned I∧bY P m base n Z w G C z∧VR C v I) {tmps:=l++Array.replicate (D.ntmps-l.size) undef,defers:=[]} w:=by
      intro e' hn U e3;subst U;obtain⟨E,h3,n3,L3,L4,e4,e5,_⟩:=bind_some e3;obtain⟨rfl,rfl,rfl⟩:=bp e5;obtain⟨rfl,rfl⟩:=W0 _ _ _ _ _ _ _ e4;refine Wk u4 ih u3 R fuel c Q _ m _ s1 _ w h _ n _ L1 e x hb g (Wl p j.1 j.2) e1 hf fun C a' z hp K=> ?_;obtain⟨s,u0,N⟩:=results_at K _ _ _ _ _ _ _ z hp.wr e4
      have O:(results D a'.tmps).run P z= .ok (if h:s.toArray.size=1 then s.toArray[0]else .tuple s.toArray) z:=by unfold results;rw[Array.mapM_eq_mapM_toList];simp only[map_eq_pure_bind,bind_assoc,pure_bind,dD];refine Eq.trans (congrArg (fun r=>dK r _) N) ?_;simp only[dK,mn]
      have J:VR C (match E with|[v]=>v|_=> .tuple E.toArray) (if h:s.toArray.size=1 then s.toArray[0]else .tuple s.toArray):=by
       cases u0 with
       |nil=>exact .tuple .nil
       |cons hv ht=>
        cases ht with
        |nil=>exact hv
        |cons u1 u2=>exact .tuple (.cons hv (.cons u1 u2))
      have:bodyPost P D (fun e z=>∃C I,e= .returned I∧bY P m base n Z w G C z∧VR C (match E with|[v]=>v|_=> .tuple E.toArray) I) (cv e) a' z:=by rcases hn with hn|hn<;>rw[hn]<;>exact⟨K.df,_,O,C,_,rfl,hp,J⟩
      exact this
     cases e with
     |normal=>exact X .normal (.inl rfl) rfl e2
     |ret=>exact X .ret (.inr rfl) rfl e2
     |exit id=>cases e2
    ·rw[if_neg j]at i;cases i
def yJ(r:Option (Out Value)):Bool:=match r with
 |some o=>(match o.val with| .bool b=>b|_=>false)
 |none=>false
end Go.Proofs.YtcehhgppfahbkaaGreatDoor.Ev
namespace Go.Proofs.YtcehhgppfahbkaaGreatDoor.Ev
open Go
abbrev Fr:=List (Nat×Value)
def Fr.at_:Fr->Nat->Option Value
 |[],_=>none
 |(u,v)::r,t=>match bq u t with
  |true=>some v
  |false=>Fr.at_ r t
def Fr.ar(s:Fr):List Nat->Fr
 |[]=>[]
 |t::r=>match s.at_ t with
  |some v=>(t,v)::Fr.ar s r
  |none=>Fr.ar s r
def Fr.keys:Fr->List Nat
 |[]=>[]
 |(u,_)::r=>u::Fr.keys r
def fk(s:Fr)(a:Option Tmp)(v:Value):Fr:=match a with
 |none=>s
 |some d=>(d,v)::s
def aN{b a:Type}(o:Option b)(k:b->M a):M a:=match o with
 |some v=>k v
 |none=> .fail
def ba(s:Fr):Operand->Option Value
 | .tmp t=>s.at_ t
 | .const v=>some v
 | .global g=>some (.pointer (some ⟨g,0,none⟩))
 | .func f=>some (.func (.func f) #[] #[])
def jx{a:Type}(s:Fr):List Operand->(List Value->M a)->M a
 |[],k=>k []
 |x::r,k=>aN (ba s x) fun v=>jx s r fun b=>k (v::b)
def oQ{a:Type}(s:Fr)(x:Option Operand)(k:Option Value->M a):M a:=match x with
 |some x=>aN (ba s x) fun v=>k (some v)
 |none=>k none
def aH{a:Type}(v:Value)(x y:M a):M a:=match v with
 | .bool true=>x
 | .bool false=>y
 |_=> .fail
section
variable (P:Program)
def kL(ok:Bool)(s:Sem Value):Option Value:=
 match ok with
 |true=>match gJ P (do pure (.value (<-s)))with
  |some v=>match scalar v with
   |true=>some v
   |false=>none
  |none=>none
 |false=>none
def Jx(c a b:Value):Option Value:=match c with
 | .bool t=>some (if t then a else b)
 |_=>none
def Jy:Value->Option Value
 | .pointer (some a)=>some (.pointer (some a))
 | .func (.func f) a b=>some (.func (.func f) a b)
 |_=>none
def jY(t:TypeId):Bool:=match P.underlying t with
 |some (.pointer _)|some (.slice _)|some (.func _ _ _)|some (.struct _)=>true
 |_=>false
def DJ(a:BinOp)(t:TypeId)(x y:Value):Option Value:=match nm P t x y,a with
 |some v,.eql=>some (.bool v)
 |some v,.neq=>some (.bool (!v))
 |_,_=>none
def DK(a:BinOp)(t:TypeId)(x y:Value):Option Value:=kL P (scalar x&&scalar y) (Go.binOp a t x y)
def dg(a:BinOp)(t:TypeId)(x y:Value):Option Value:=match jY P t with
 |true=>DJ P a t x y
 |false=>DK P a t x y
def yK(a:UnOp)(x:Value):Option Value:=kL P (scalar x) (Op.unary a x)
def rJ:Option TypeDesc->Option TypeDesc->Option TypeId
 |some .string,some (.slice e)=>some e
 |_,_=>none
def yL(e:TypeId)(x:Value):M Value:=match x with
 | .string s=>oH e s
 |_=> .fail
def yM{b:Type}(src a:TypeId)(x:Value)(k:Value->M b):M b:=
 match qe (P.underlying src) (P.underlying a)with
 |some e=>match lM P e with
  |true=>(inside (lL x)).bind k
  |false=> .fail
 |none=>match rJ (P.underlying src) (P.underlying a)with
  |some e=>match lM P e&&size? P e==some 1 with
   |true=>(inside (yL e x)).bind k
   |false=> .fail
  |none=>aN (kL P (scalar x) (Go.convert src a x)) k
def rK:Option Value->Bool
 |some v=>scalar v
 |none=>true
def yN(t:TypeId)(x:Value)(lo b a:Option Value):Option Value:=match isStr x with
 |true=>kL P (rK lo&&rK b&&rK a) (Instr.sliceAt t x lo b a)
 |false=>none
def rL(t:TypeId)(x:Value)(lo b a:Option Value):M Value:=match isStr x with
 |true=> .fail
 |false=>mu P t x lo b a
def mw(t:TypeId):Bool:=match P.underlying t with
 |some .string=>true
 |_=>false
def ux{a:Type}(t:TypeId)(x:Value)(lo c b:Option Value)(k:Value->M a):M a:=match mw P t with
 |true=>aN (yN P t x lo c b) k
 |false=>(inside (rL P t x lo c b)).bind k
def yO(t:TypeId)(x a:Value):Option Value:=match isStr x with
 |true=>kL P (scalar a) (yo t x a)
 |false=>none
def yP(t:TypeId)(x a:Value):Option Value:=match isStr x with
 |true=>none
 |false=>uj P t x a
def rM(t:TypeId)(x a:Value):Option Value:=match mw P t with
 |true=>yO P t x a
 |false=>yP P t x a
def Jz:Value->Option Value
 | .slice _ n _=>some (.int .i64 n)
 |_=>none
def JA:Value->Option Value
 | .string s=>some (.int .i64 s.size)
 |_=>none
def vZ(a:Array TypeId)(vs:List Value):Option Value:=match a[0]?,vs with
 |some t,[x]=>match P.underlying t with
  |some (.slice _)=>Jz x
  |some .string=>JA x
  |_=>none
 |_,_=>none
def rN(a b:Int):Int:=if b<a then b else a
def min2:List Value->Option Value
 |[.int k a,.int _ b]=>some (.int k (if b<a then b else a))
 |[.int k a,.int _ b,.int _ c,.int _ d,.int _ e,.int _ f]=>some (.int k (rN (rN (rN (rN (rN a b) c) d) e) f))
 |_=>none
def max2:List Value->Option Value
 |[.int k a,.int _ b]=>some (.int k (if a<b then b else a))
 |_=>none
variable (rec:FuncId->Array Value->M Value)
def fm{a:Type}(b:Value)(vs:List Value)(k:Value->M a):M a:=
 aN (yA b) fun q=>match kG P q.1 with
  |true=>(inside (rec q.1 (q.2.1.toList++vs++q.2.2.toList).toArray)).bind k
  |false=> .fail
def JB{b:Type}(a:Array TypeId)(vs:List Value)(k:Value->M b):M b:=
 aN (uk P a vs) fun q=>(inside (nj P q.1 q.2.1 q.2.2)).bind k
def JC{b:Type}(a:Array TypeId)(vs:List Value)(k:Value->M b):M b:=
 aN (um a vs) fun q=>(inside (nn P q.1 q.2.1 q.2.2)).bind k
def call2{a:Type}(s:Fr)(c:Call)(vs:List Value)(k:Value->M a):M a:=
 match c.callee with
 | .value f=>aN (ba s f) fun b=>fm P rec b vs k
 | .builtin .append=>JB P c.argTypes vs k
 | .builtin .copy=>JC P c.argTypes vs k
 | .builtin .len=>aN (vZ P c.argTypes vs) k
 | .builtin .min=>aN (min2 vs) k
 | .builtin .max=>aN (max2 vs) k
 |_=> .fail
def yQ{r:Type}(s:Fr)(o:Oper)(k:Value->M r):M r:=
 match o.op with
 | .move x| .assign x=>aN (ba s x) k
 | .pick c a b=>aN (ba s c) fun c=>aN (ba s a) fun a=>aN (ba s b) fun b=>aN (Jx c a b) k
 | .alloc e=>(inside (lJ P e)).bind k
 | .box e x=>aN (ba s x) fun x=>(inside (lK P e x)).bind k
 | .build t d=>jx s (d.toList.map (·.2)) fun h=>(inside (kE P t ((d.toList.map (·.1)).zip h))).bind k
 | .buildSlice t len d=>jx s (d.toList.map (·.2)) fun h=>(inside (kF P t len ((d.toList.map (·.1)).zip h))).bind k
 | .load t a=>aN (ba s a) fun a=>(inside (gK P t a)).bind k
 | .store t a x=>aN (ba s a) fun a=>aN (ba s x) fun x=>(inside (mv P t a x)).bind k
 | .nilCheck x=>aN (ba s x) fun x=>aN (Jy x) k
 | .binOp j t x y _=>aN (ba s x) fun x=>aN (ba s y) fun y=>aN (dg P j t x y) k
 | .unOp j _ x=>aN (ba s x) fun x=>aN (yK P j x) k
 | .convert src q x=>aN (ba s x) fun x=>yM P src q x k
 | .makeFunc u a b=>jx s a.toList fun a=>jx s b.toList fun b=>k (.func u a.toArray b.toArray)
 | .makeSlice t l c=>aN (ba s l) fun l=>aN (ba s c) fun c=>(inside (lO P t l c)).bind k
 | .slice t x n p m=>aN (ba s x) fun x=>oQ s n fun n=>oQ s p fun p=>oQ s m fun m=>ux P t x n p m k
 | .fieldAddr t x f=>aN (ba s x) fun x=>aN (ui P t x f) k
 | .field t x f=>aN (ba s x) fun x=>aN (qf P t x f) k
 | .indexAddr t x g=>aN (ba s x) fun x=>aN (ba s g) fun g=>aN (oI P t x g) k
 | .index t x g=>aN (ba s x) fun x=>aN (ba s g) fun g=>aN (rM P t x g) k
 | .extract t i=>aN (ba s t) fun t=>aN (qg t i) k
 | .call c=>jx s c.args.toList fun h=>call2 P rec s c h k
 |_=> .fail
def kind(o:Op):Nat:=match o with
 | .move _| .assign _| .pick _ _ _| .nilCheck _| .binOp _ _ _ _ _| .unOp _ _ _| .makeFunc _ _ _| .fieldAddr _ _ _| .field _ _ _| .indexAddr _ _ _| .index _ _ _| .extract _ _| .build _ _=>0
 | .load _ _| .slice _ _ _ _ _=>1
 | .alloc _| .box _ _| .buildSlice _ _ _| .makeSlice _ _ _=>2
 | .call c=>match c.callee with
   | .builtin .len| .builtin .min| .builtin .max=>0
   |_=>3
 |_=>3
def fits(i j:Nat):Bool:=i==0||j==0||(i==1&&j==1)||(i==2&&j==2)||(i==1&&j==2)
def yR(ops:Array Oper)(a:List Nat)(j:Nat)(b:Oper):Nat->List Oper->Bool
 |_,[]=>true
 |k,ok::r=>((a.getD k 0).testBit j||(fits (kind b.op) (kind ok.op)&& !(nq ops b ok)))&&yR ops a j b (k+1) r
def yS(ops:Array Oper)(a:List Nat):Nat->List Oper->Bool
 |_,[]=>true
 |j,b::r=>yR ops a j b (j+1) r&&yS ops a (j+1) r
def yT(ops:Array Oper):Bool:=qh ops&&yS ops (jX ops.toList []) 0 ops.toList
end
def dn{c:Type}(m:Nat->M c)(h:H)(n:Nat)(a:c)(e:H)(d:Nat)(L:List En):Prop:=∃f,∀b,f<=b->m b h n=some ⟨a,e,d,L⟩
theorem dn.of{b:Type}{m:M b}{h d:H}{n c:Nat}{a:b}{L:List En}(e:m h n=some ⟨a,d,c,L⟩):dn (fun _=>m) h n a d c L:=⟨0,fun _ _=>e⟩
theorem bz{c d:Type}{m:M c}{f:c->M d}{h g h2:H}{n e n2:Nat}{a:c}{b:d}{L1 L2:List En}(j:m h n=some ⟨a,g,e,L1⟩)(i:f a g e=some ⟨b,h2,n2,L2⟩):(m.bind f) h n=some ⟨b,h2,n2,L1++L2⟩:=by unfold M.bind;rw[j];simp only;rw[i]
theorem dn.bind{c d:Type}{m:Nat->M c}{f:Nat->c->M d}{h g h2:H}{n e n2:Nat}{a:c}{b:d}{L1 L2:List En}(x:dn m h n a g e L1)(y:dn (fun fuel=>f fuel a) g e b h2 n2 L2):
 dn (fun fuel=>(m fuel).bind (f fuel)) h n b h2 n2 (L1++L2):=by
 obtain⟨j,x⟩:=x;obtain⟨i,y⟩:=y;exact⟨max j i,fun fuel k=>bz (x fuel jO) (y fuel jO)⟩
theorem dn.map{b:Type}{m m':Nat->M b}{h d:H}{n c:Nat}{a:b}{L:List En}(x:dn m h n a d c L)(e:∀fuel,m' fuel=m fuel):dn m' h n a d c L:=by obtain⟨g,x⟩:=x;exact⟨g,fun fuel f=>by rw[e];exact x fuel f⟩
theorem hH{c:Type}{m:M c}{h d:H}{n b:Nat}{a:c}{L:List En}(e:m h n=some ⟨a,d,b,L⟩):inside m h n=some ⟨a,d,b,L.filter fun e=> !(n<=e.b&&e.b<b)⟩:=by unfold inside;rw[e]
theorem dn.inside{c:Type}{m:Nat->M c}{h d:H}{n b:Nat}{a:c}{L:List En}(x:dn m h n a d b L):dn (fun fuel=>Ev.inside (m fuel)) h n a d b (L.filter fun e=> !(n<=e.b&&e.b<b)):=by obtain⟨g,x⟩:=x;exact⟨g,fun fuel f=>hH (x fuel f)⟩
theorem rO{d:Type}{m:M d}{h f:H}{n c:Nat}{a:d}{L:List En}(b:Ev.inside m h n=some ⟨a,f,c,L⟩):∃L',m h n=some ⟨a,f,c,L'⟩∧L=L'.filter fun e=> !(n<=e.b&&e.b<c):=by
 unfold Ev.inside at b;split at b
 ·rename_i j i g L' e;simp only[dm,Out.mk.injEq]at b;obtain⟨rfl,rfl,rfl,rfl⟩:=b;exact⟨L',e,rfl⟩
 ·cases b
def Sub(s:Fr)(a:S):Prop:=∀t v,s.at_ t=some v->a.get t=v
theorem Sub.ba{s:Fr}{a:S}(b:Sub s a){x:Operand}{v:Value}(h:Ev.ba s x=some v):ev a x=v:=by
 cases x with
 |tmp t=>exact b t v h
 |const u=>cases h;rfl
 |global g=>cases h;rfl
 |func f=>cases h;rfl
theorem bZ{b a:Type}{o:Option b}{k:b->M a}{h:H}{n:Nat}{r:Out a}(c:aN o k h n=some r):∃v,o=some v∧k v h n=some r:=by
 cases o with
 |none=>cases c
 |some v=>exact⟨v,rfl,c⟩
theorem uy{b:Type}{s:Fr}{c:S}(d:Sub s c):∀{l:List Operand} {k:List Value->M b} {h:H} {n:Nat} {r:Out b},jx s l k h n=some r->∃vs,vs=l.map (ev c)∧k vs h n=some r
 |[],k,h,n,r,a=>⟨[],rfl,a⟩
 |x::l,k,h,n,r,a=>by unfold jx at a;obtain⟨v,f,a⟩:=bZ a;obtain⟨vs,e,a⟩:=uy d a;exact⟨v::vs,by rw[List.map_cons,d.ba f,e],a⟩
theorem DL{b:Type}{s:Fr}{c:S}(e:Sub s c){x:Option Operand}{k:Option Value->M b}{h:H}{n:Nat}{r:Out b}(a:oQ s x k h n=some r):k (x.map (ev c)) h n=some r:=by
 cases x with
 |none=>exact a
 |some x=>obtain⟨v,d,a⟩:=bZ a;simp only[yh,e.ba d];exact a
def cont(P:Program)(kn:List FuncId)(fuel:Nat):Nx->M Value
 | .val v=> .ret v
 | .call f args=>cq P kn fuel f args
theorem lR{m:M Value}{P:Program}{kn:List FuncId}{fuel:Nat}:(m.bind fun v=> .ret (.val v)).bind (cont P kn fuel)=m:=by
 funext h n;unfold M.bind;cases m h n with
 |none=>rfl
 |some o=>simp[M.ret,cont]
theorem ja{v:Value}{P:Program}{kn:List FuncId}{fuel:Nat}:(M.ret (Nx.val v)).bind (cont P kn fuel)=M.ret v:=by funext h n;simp[M.bind,M.ret,cont]
theorem W3{f:FuncId}{args:Array Value}{P:Program}{kn:List FuncId}{fuel:Nat}:(M.ret (Nx.call f args)).bind (cont P kn fuel)=cq P kn fuel f args:=by
 funext h n;simp only[M.bind,M.ret,cont];cases cq P kn fuel f args h n with
 |none=>rfl
 |some o=>simp
theorem rP{b:Type}(a:b):M.lift (some a)=M.ret a:=rfl
theorem my{b c:Type}(a:b)(f:b->M c):(M.ret a).bind f=f a:=by
 funext h n;simp only[M.bind,M.ret];cases f a h n with
 |none=>rfl
 |some o=>simp
def yU(E:Nat->M Value){b:Type}(k:Value->M b)(h:H)(n:Nat)(r:Out b):Prop:=
 ∃v d c f e,dn (fun a=>inside (E a)) h n v d c f∧k v d c=some ⟨r.val,r.h,r.n,e⟩∧r.log=f++e
section
variable {β:Type} {E:Nat->M Value} {k:Value->M β} {h:H} {n:Nat} {r:Out β}
theorem lT{m:M Value}(b:((inside m).bind k) h n=some r)(d:∀fuel,E fuel=m):yU E k h n r:=by obtain⟨c,p,o,L⟩:=r;obtain⟨v,e,a,l,j,i,g,f⟩:=bind_some b;exact⟨v,e,a,l,j,⟨0,fun fuel _=>by show Ev.inside (E fuel) h n=_;rw[d];exact i⟩,g,f⟩
theorem iG{v:Value}(a:k v h n=some r)(b:∀fuel,E fuel=M.ret v):yU E k h n r:=by obtain⟨c,e,d,L⟩:=r;exact⟨v,h,n,[],L,⟨0,fun fuel _=>by show Ev.inside (E fuel) h n=_;rw[b];rfl⟩,a,rfl⟩
theorem W4 {P:Program} {kn:List FuncId} {rec:FuncId->Array Value->M Value} (a:∀f args h n v d b L,rec f args h n=some ⟨v,d,b,L⟩->dn (fun fuel=>cq P kn fuel f args) h n v d b L) {g:FuncId} {args:Array Value}
 (e:((inside (rec g args)).bind k) h n=some r) (i:∀fuel,E fuel=cq P kn fuel g args):yU E k h n r:=by
 obtain⟨c,s,q,L⟩:=r;obtain⟨v,d,b,t,p,o,m,l⟩:=bind_some e;obtain⟨u,j,rfl⟩:=rO o;exact⟨v,d,b,_,p,((a _ _ _ _ _ _ _ _ j).map i).inside,m,l⟩
end
theorem wc{P:Program}{ok:Bool}{s:Sem Value}{v:Value}(h:kL P ok s=some v):ok=true∧gJ P (do pure (.value (<-s)))=some v∧scalar v=true:=by
 unfold kL at h;cases ok with
 |false=>cases h
 |true=>
  simp only at h;split at h
  ·rename_i u a;split at h
   ·rename_i b;cases h;exact⟨rfl,a,b⟩
   ·cases h
  ·cases h
theorem oR{P:Program}{ρ:Operand->Value}{o:Oper}{v:Value}(b:(o.op.operands.all fun x=>scalar (ρ x))=true)(h2:gJ P (execOp ρ o)=some v)(a:scalar v=true):eV P ρ o=M.ret (.val v):=by unfold eV;rw[if_pos b,h2,rP,my,if_pos a]
theorem W5{P:Program}{t:TypeId}(h:jY P t=false)(x y:Value):nm P t x y=none:=by
 unfold jY at h;unfold nm rz;generalize P.underlying t=d at h;cases d with
 |none=>rfl
 |some d=>cases d<;>first|(cases h;done)|rfl|(unfold nk;rfl)
theorem W6{c:BinOp}{t:TypeId}{x y:Operand}{a b:Value}(e:scalar a=true)(d:scalar b=true):eqGuard c t x y a b=pure ():=by
 cases a<;>first|(simp[scalar]at e;done)|skip
 all_goals cases b<;>first|(simp[scalar]at d;done)|skip
 all_goals cases c<;>rfl
theorem W7 {P:Program} {b:S} {d:BinOp} {t e:TypeId} {x y:Operand} {v:Value} {c:Option Tmp} {ty:TypeId} {pos:String} {after:Array Edge} {guard:Option (Nat×Bool)}
 (h:dg P d t (ev b x) (ev b y)=some v):bG P (ev b) ⟨c,.binOp d t x y e,ty,pos,after,guard⟩=M.ret (.val v):=by
 unfold dg at h;split at h
 ·unfold DJ at h;unfold bG;simp only;split at h
  ·rename_i q;cases h;rw[q]
  ·rename_i q;cases h;rw[q]
  ·cases h
 ·rename_i f;unfold DK at h;obtain⟨a,i,g⟩:=wc h;unfold bG;simp only[W5 f];simp only[bE]at a;refine oR (by simp[dc,a.1,a.2]) ?_ g;rw[<-i];simp only[execOp,W6 a.1 a.2];rfl
theorem W8{a b:Option TypeDesc}{v:Value}(h:rJ a b=none):rA a b v=none:=by
 unfold rJ at h;unfold rA;split at h
 ·cases h
 ·rename_i c;split
  ·rename_i e s;exact(c _ rfl rfl).elim
  ·rfl
theorem JD{d c:Type}{f:d->c}{l:List d}{a b:c}(h:l.map f=[a,b]):∃x y,l=[x,y]∧f x=a∧f y=b:=by
 match l,h with
 |[x,y],h=>simp at h;exact⟨x,y,rfl,h.1,h.2⟩
theorem W9{j i:Type}{f:j->i}{l:List j}{a b c d e g:i}(h:l.map f=[a,b,c,d,e,g]):∃x y z u t s,l=[x,y,z,u,t,s]∧f x=a∧f y=b∧f z=c∧f u=d∧f t=e∧f s=g:=by
 match l,h with
 |[x,y,z,u,t,s],h=>simp at h;exact⟨x,y,z,u,t,s,rfl,h⟩
theorem Xa{c b:Type}{f:c->b}{l:List c}{a:b}(h:l.map f=[a]):∃x,l=[x]∧f x=a:=by
 match l,h with
 |[x],h=>simp at h;exact⟨x,rfl,h⟩
theorem we{b:Type}{a:Array b}{l:List b}(h:a.toList=l):a=l.toArray:=by cases a;simp at h;rw[h]
theorem zip_map{b d c:Type}(f:b->d)(g:b->c)(l:List b):(l.map f).zip (l.map g)=l.map fun x=>(f x,g x):=by
 induction l with
 |nil=>rfl
 |cons a l e=>simp[e]
theorem Xb{P:Program}{t:TypeId}{x a v:Value}(h:yO P t x a=some v):isStr x=true∧scalar a=true∧gJ P (do pure (.value (<-yo t x a)))=some v∧scalar v=true:=by
 unfold yO at h;split at h
 ·rename_i b;obtain⟨e,d,c⟩:=wc h;exact⟨b,e,d,c⟩
 ·cases h
theorem Xc{P:Program}{t:TypeId}{x a v:Value}(h:yP P t x a=some v):isStr x=false∧uj P t x a=some v:=by
 unfold yP at h;split at h
 ·cases h
 ·rename_i b;exact⟨b,h⟩
theorem JE{x:Value}(h:isStr x=true):scalar x=true:=by cases x<;>first|rfl|(simp[isStr]at h)
theorem nB{P:Program}{t:TypeId}{d:TypeDesc}(h:P.underlying t=some d)(f:TypeDesc->Sem Next):gJ P (underlying t>>=f)=gJ P (f d):=by
 unfold underlying
 show gJ P ((match P.underlying t with
  |some d=>pure d
  |none=>stuck "no such type")>>=f)=_
 rw[h];rfl
set_option maxHeartbeats 1000000 in
theorem Xd {P:Program} {kn:List FuncId} {rec:FuncId->Array Value->M Value} (u1:∀f args h n v F n1 L,rec f args h n=some ⟨v,F,n1,L⟩->dn (fun fuel=>cq P kn fuel f args) h n v F n1 L)
 {β:Type} {s:Fr} {s1:S} {o:Oper} {k:Value->M β} {h:H} {n:Nat} {r:Out β} (p:Sub s s1) (j:yQ P rec s o k h n=some r):yU (fun fuel=>(bG P (ev s1) o).bind (cont P kn fuel)) k h n r:=by
 obtain⟨u3,op,ty,pos,after,guard⟩:=o;unfold yQ at j;cases op with
 |move x=>obtain⟨v,m,j⟩:=bZ j;exact iG j fun fuel=>by rw[<-p.ba m];exact ja
 |assign x=>obtain⟨v,m,j⟩:=bZ j;exact iG j fun fuel=>by rw[<-p.ba m];exact ja
 |pick c a b=>
  obtain⟨vc,D,j⟩:=bZ j;obtain⟨J,w,j⟩:=bZ j;obtain⟨vb,G,j⟩:=bZ j;obtain⟨v,m,j⟩:=bZ j;refine iG j fun fuel=> ?_;unfold bG;simp only[p.ba D,p.ba w,p.ba G];unfold Jx at m;split at m
  ·cases m;exact ja
  ·cases m
 |alloc e=>exact lT j fun fuel=>lR
 |box e x=>obtain⟨v,m,j⟩:=bZ j;exact lT j fun fuel=>by rw[<-p.ba m];exact lR
 |build t T=>obtain⟨vs,m,j⟩:=uy p j;refine lT j fun fuel=> ?_;rw[m,mq,zip_map];exact lR
 |buildSlice t len T=>obtain⟨vs,m,j⟩:=uy p j;refine lT j fun fuel=> ?_;rw[m,mq,zip_map];exact lR
 |load t a=>obtain⟨v,m,j⟩:=bZ j;exact lT j fun fuel=>by rw[<-p.ba m];exact lR
 |store t a x=>obtain⟨J,w,j⟩:=bZ j;obtain⟨v,m,j⟩:=bZ j;exact lT j fun fuel=>by rw[<-p.ba m,<-p.ba w];exact lR
 |nilCheck x=>
  obtain⟨v,m,j⟩:=bZ j;obtain⟨u,N,j⟩:=bZ j;refine iG j fun fuel=> ?_;unfold bG;simp only[p.ba m];unfold Jy at N;split at N
  ·cases N;exact(congrArg (fun z=>M.bind z (cont P kn fuel)) (my _ _)).trans ja
  ·cases N;exact(congrArg (fun z=>M.bind z (cont P kn fuel)) (my _ _)).trans ja
  ·cases N
 |binOp op t x y yt=>obtain⟨J,w,j⟩:=bZ j;obtain⟨vb,G,j⟩:=bZ j;obtain⟨v,m,j⟩:=bZ j;rw[<-p.ba w,<-p.ba G]at m;exact iG j fun fuel=>by simp only[W7 m];exact ja
 |unOp op t x=>obtain⟨J,w,j⟩:=bZ j;obtain⟨v,m,j⟩:=bZ j;rw[<-p.ba w]at m;obtain⟨F,Q,W⟩:=wc m;refine iG j fun fuel=> ?_;rw[<-ja (P:=P) (fuel:=fuel),<-oR (ρ:=ev s1) (o:=⟨u3,.unOp op t x,ty,pos,after,guard⟩) (by simpa[dc]using F) Q W];rfl
 |convert src d x=>
  obtain⟨J,w,j⟩:=bZ j;have R:=p.ba w;unfold yM at j;cases he:qe (P.underlying src) (P.underlying d)with
  |some e=>
   simp only[he]at j;cases N:lM P e with
   |true=>simp only[N]at j;refine lT j fun fuel=> ?_;unfold bG;simp only[he,N,if_true,R];exact lR
   |false=>simp only[N]at j;cases j
  |none=>
   simp only[he]at j;cases C:rJ (P.underlying src) (P.underlying d)with
   |some e=>
    simp only[C]at j;cases N:(lM P e&&size? P e==some 1)with
    |true=>
     simp only[N]at j;cases J with
     |string Y=>
      refine lT j fun fuel=> ?_;unfold bG;simp only[he,R];unfold yL
      have:rA (P.underlying src) (P.underlying d) (.string Y)=some (e,Y):=by
       revert C;generalize P.underlying src=a;generalize P.underlying d=b;intro C;unfold rJ at C;split at C
       ·cases C;rfl
       ·cases C
      simp only[this,N,if_true];exact lR
     |_=>exfalso;obtain⟨c,Q,n2,L⟩:=r;obtain⟨v,F,n1,L1,L2,e1,e2,e3⟩:=bind_some j;obtain⟨L',e4,_⟩:=rO e1;cases e4
    |false=>simp only[N]at j;cases j
   |none=>simp only[C]at j;obtain⟨v,m,j⟩:=bZ j;obtain⟨F,Q,W⟩:=wc m;refine iG j fun fuel=> ?_;unfold bG;simp only[he,W8 C];rw[oR (by simpa[dc,R]using F) (by rw[<-Q];simp only[execOp,R]) W];exact ja
 |makeFunc fn a b=>obtain⟨J,w,j⟩:=uy p j;obtain⟨vb,G,j⟩:=uy p j;refine iG j fun fuel=> ?_;subst w G;unfold bG;simp only[<-ot,Array.toArray_toList];exact ja
 |makeSlice t l c=>obtain⟨J,w,j⟩:=bZ j;obtain⟨v,m,j⟩:=bZ j;exact lT j fun fuel=>by rw[<-p.ba m,<-p.ba w];exact lR
 |slice t x lo hi mx=>
  obtain⟨J,w,j⟩:=bZ j;have j:=DL p j;have j:=DL p j;have j:=DL p j;have R:=p.ba w;unfold ux at j;cases u0:mw P t with
  |true=>
   simp only[u0]at j;obtain⟨v,m,j⟩:=bZ j;unfold yN at m;split at m
   ·rename_i K;obtain⟨F,Q,W⟩:=wc m;refine iG j fun fuel=> ?_;unfold bG;simp only[R,K,if_true];simp only[bE]at F;rw[oR ?_ (by rw[<-Q];simp only[execOp,R]) W]
    ·exact ja
    ·have q1:=F.1.1;have q2:=F.1.2;have q3:=F.2;simp only[dc];have q0:=JE K;cases lo<;>cases hi<;>cases mx<;>simp_all [rK]
   ·cases m
  |false=>
   simp only[u0]at j;refine lT j fun fuel=> ?_;unfold rL;unfold bG;simp only[R];cases K:isStr J with
   |true=>exfalso;obtain⟨c,Q,n2,L⟩:=r;obtain⟨v,F,n1,L1,L2,e1,e2,e3⟩:=bind_some j;obtain⟨L',e4,_⟩:=rO e1;unfold rL at e4;rw[K]at e4;cases e4
   |false=>simp only[lF,if_false];exact lR
 |fieldAddr t x f=>obtain⟨J,w,j⟩:=bZ j;obtain⟨v,m,j⟩:=bZ j;refine iG j fun fuel=> ?_;unfold bG;simp only[p.ba w,m,rP,my];rfl
 |field t x f=>obtain⟨J,w,j⟩:=bZ j;obtain⟨v,m,j⟩:=bZ j;refine iG j fun fuel=> ?_;unfold bG;simp only[p.ba w,m,rP,my];rfl
 |indexAddr t x f=>obtain⟨J,w,j⟩:=bZ j;obtain⟨vb,G,j⟩:=bZ j;obtain⟨v,m,j⟩:=bZ j;refine iG j fun fuel=> ?_;unfold bG;simp only[p.ba w,p.ba G,m,rP,my];rfl
 |index t x f=>
  obtain⟨J,w,j⟩:=bZ j;obtain⟨vb,G,j⟩:=bZ j;obtain⟨v,m,j⟩:=bZ j;refine iG j fun fuel=> ?_;unfold bG;unfold rM at m;split at m
  ·obtain⟨h0,F,Q,W⟩:=Xb m;simp only[p.ba w,p.ba G,h0,if_true];rw[oR (by simp[dc,p.ba w,p.ba G,F,JE h0]) (by rw[<-Q];simp only[execOp,p.ba w,p.ba G]) W];exact ja
  ·obtain⟨h0,F⟩:=Xc m;simp only[p.ba w,p.ba G,h0,F,rP,my,lF,if_false];rfl
 |extract t i=>obtain⟨J,w,j⟩:=bZ j;obtain⟨v,m,j⟩:=bZ j;refine iG j fun fuel=> ?_;unfold bG;simp only[p.ba w,m,rP,my];rfl
 |call c=>
  obtain⟨vs,m,j⟩:=uy p j;unfold call2 at j;cases D:c.callee with
  |value f=>
   simp only[D]at j;obtain⟨fv,u2,j⟩:=bZ j;unfold fm at j;obtain⟨q,hq,j⟩:=bZ j;obtain⟨g,first,X⟩:=q;simp only at j;cases G:kG P g with
   |true=>simp only[G]at j;refine W4 u1 j fun fuel=> ?_;unfold bG iZ;simp only[D,p.ba u2,hq,G,if_true];rw[W3];congr 1;subst m;apply we;simp
   |false=>simp only[G]at j;cases j
  |builtin b=>
   simp only[D]at j;cases b with
   |append=>simp only at j;unfold JB at j;obtain⟨q,hq,j⟩:=bZ j;obtain⟨t,x,y⟩:=q;refine lT j fun fuel=> ?_;unfold bG iZ;simp only[D,ot,<-m,hq];exact lR
   |copy=>simp only at j;unfold JC at j;obtain⟨q,hq,j⟩:=bZ j;obtain⟨t,x,y⟩:=q;refine lT j fun fuel=> ?_;unfold bG iZ;simp only[D,ot,<-m,hq];exact lR
   |len=>
    simp only at j;obtain⟨v,A,j⟩:=bZ j;refine iG j fun fuel=> ?_;unfold bG iZ;simp only[D,ot,<-m];unfold vZ at A;split at A
    ·rename_i t u ht;split at A
     ·rename_i e U;unfold Jz at A;split at A
      ·cases A;simp only[rB,ht,U];exact ja
      ·cases A
     ·rename_i U;unfold JA at A;split at A
      ·rename_i Y;cases A;have:rB P c.argTypes [Value.string Y]=none:=by simp[rB,ht]
       simp only[this];obtain⟨x,I,E⟩:=Xa m.symm;have B:=we I;rw[oR (v:= .int .i64 Y.size) ?_ ?_ rfl]
       ·exact ja
       ·simp[dc,tV,D,B,E,scalar]
       ·simp only[execOp,resolve,D,B];simp[E,invoke,builtin,Ix,ht];rw[nB U];rfl
      ·cases A
     ·cases A
    ·cases A
   |min=>
    simp only at j;obtain⟨v,A,j⟩:=bZ j;refine iG j fun fuel=> ?_;unfold bG iZ;simp only[D];unfold min2 at A;split at A
    ·rename_i kd a0 Z b0;obtain⟨x,y,I,E,O⟩:=JD m.symm;have B:=we I;rw[oR (v:=v) ?_ ?_ (by cases A;rfl)]
     ·exact ja
     ·simp[dc,tV,D,B,E,O,scalar]
     ·cases A;simp only[execOp,resolve,D,B];simp[E,O];rfl
    ·rename_i kd a0 Z b0 u7 c0 u6 d0 u5 e0 u4 f0;obtain⟨x,y,z,u,t,s,I,q1,q2,q3,q4,q5,q6⟩:=W9 m.symm;have B:=we I;rw[oR (v:=v) ?_ ?_ (by cases A;rfl)]
     ·exact ja
     ·simp[dc,tV,D,B,q1,q2,q3,q4,q5,q6,scalar]
     ·cases A;simp only[execOp,resolve,D,B];simp[q1,q2,q3,q4,q5,q6];rfl
    ·cases A
   |max=>
    simp only at j;obtain⟨v,A,j⟩:=bZ j;refine iG j fun fuel=> ?_;unfold bG iZ;simp only[D];unfold max2 at A;split at A
    ·rename_i kd a0 Z b0;obtain⟨x,y,I,E,O⟩:=JD m.symm;have B:=we I;rw[oR (v:=v) ?_ ?_ (by cases A;rfl)]
     ·exact ja
     ·simp[dc,tV,D,B,E,O,scalar]
     ·cases A;simp only[execOp,resolve,D,B];simp[E,O];rfl
    ·cases A
   |_=>cases j
  |invoke _ _=>simp only[D]at j;cases j
 |_=>cases j
def Q0{c:Type}(m:M c):Prop:=∀h n a d b L,m h n=some ⟨a,d,b,L⟩->L=[]∧b=n
def Q1{c:Type}(m:M c):Prop:=∀h n a d b L,m h n=some ⟨a,d,b,L⟩->b=n∧∀e∈L,e.wr=false
def Q2{b:Type}(m:M b):Prop:=∀h n a d c L,m h n=some ⟨a,d,c,L⟩->L=[]
theorem Q0.ret{c:Type}(a:c):Q0 (M.ret a):=fun h n b f d L e=>by simp only[M.ret,dm,Out.mk.injEq]at e;exact⟨e.2.2.2.symm,e.2.2.1.symm⟩
theorem Q0.fail{a:Type}:Q0 (M.fail:M a):=fun h n b d c L e=>by cases e
theorem Q0.lift{b:Type}(o:Option b):Q0 (M.lift o):=by cases o with|none=>exact Q0.fail|some a=>exact Q0.ret a
theorem Q0.bind{c d:Type}{m:M c}{f:c->M d}(x:Q0 m)(y:∀a,Q0 (f a)):Q0 (m.bind f):=fun h n b l j L e=>by obtain⟨a,o,k,q,p,i,g,rfl⟩:=bind_some e;obtain⟨rfl,rfl⟩:=x _ _ _ _ _ _ i;obtain⟨rfl,rfl⟩:=y _ _ _ _ _ _ _ g;exact⟨rfl,rfl⟩
theorem Q0.q1{b:Type}{m:M b}(x:Q0 m):Q1 m:=fun h n a f d L e=>by obtain⟨rfl,rfl⟩:=x _ _ _ _ _ _ e;exact⟨rfl,fun e c=>nomatch c⟩
theorem Q0.q2{b:Type}{m:M b}(x:Q0 m):Q2 m:=fun h n a d c L e=>(x _ _ _ _ _ _ e).1
theorem Q1.bind{c d:Type}{m:M c}{f:c->M d}(x:Q1 m)(y:∀a,Q1 (f a)):Q1 (m.bind f):=fun h n b r o L e=>by
 obtain⟨a,s,p,u,t,l,k,rfl⟩:=bind_some e;obtain⟨rfl,j⟩:=x _ _ _ _ _ _ l;obtain⟨rfl,i⟩:=y _ _ _ _ _ _ _ k;refine⟨rfl,fun e g=> ?_⟩;rcases List.mem_append.1 g with q|q
 ·exact j e q
 ·exact i e q
theorem Q2.bind{c d:Type}{m:M c}{f:c->M d}(x:Q2 m)(y:∀a,Q2 (f a)):Q2 (m.bind f):=fun h n b l j L e=>by obtain⟨a,o,k,q,p,i,g,rfl⟩:=bind_some e;rw[x _ _ _ _ _ _ i,y _ _ _ _ _ _ _ g];rfl
theorem Q1.rd(b k:Nat):Q1 (Ev.rd b k):=fun h n a f d L e=>by
 unfold Ev.rd at e;split at e
 ·split at e
  ·split at e
   ·simp only[dm,Out.mk.injEq]at e;obtain⟨_,_,rfl,rfl⟩:=e;exact⟨rfl,fun e c=>by simp at c;subst c;rfl⟩
   ·cases e
  ·cases e
 ·cases e
theorem Q1.gd(b:Nat):Q1 (Ev.gd b):=fun h n a f d L e=>by
 unfold Ev.gd at e;split at e
 ·split at e
  ·simp only[dm,Out.mk.injEq]at e;obtain⟨_,_,rfl,rfl⟩:=e;exact⟨rfl,fun e c=>by simp at c;subst c;rfl⟩
  ·cases e
 ·cases e
theorem Q1.cc(b:Nat):∀n k,Q1 (Ev.cc b k n)
 |0,_=>(Q0.ret _).q1
 |n+1,k=>Q1.bind (Q1.rd _ _) fun _=>Q1.bind (Q1.cc b n _) fun _=>(Q0.ret _).q1
theorem Q2.cJ(e:TypeId)(cs:List Value):Q2 (Ev.cJ e cs):=fun h n a d c L b=>by
 unfold Ev.cJ at b;split at b
 ·simp only[dm,Out.mk.injEq]at b;exact b.2.2.2.symm
 ·cases b
theorem Q0.eV(P:Program)(ρ:Operand->Value)(o:Oper):Q0 (Ev.eV P ρ o):=by
 unfold Ev.eV;split
 ·refine Q0.bind (Q0.lift _) fun v=> ?_;split
  ·exact Q0.ret _
  ·exact Q0.fail
 ·exact Q0.fail
theorem Q0.nilCheck(v:Value):Q0 (oF v):=by unfold oF;split<;>first|exact Q0.ret _|exact Q0.fail
theorem Q0.build(P:Program)(t:TypeId)(ps:List (Nat×Value)):Q0 (kE P t ps):=by
 unfold kE;split
 ·split
  ·split
   ·exact Q0.ret _
   ·exact Q0.fail
  ·exact Q0.fail
 ·exact Q0.fail
theorem Q1.load(P:Program)(t:TypeId)(v:Value):Q1 (gK P t v):=by
 unfold gK;split
 ·split
  ·exact Q1.bind (Q1.cc _ _ _) fun _=>(Q0.ret _).q1
  ·exact Q1.rd _ _
  ·exact Q0.fail.q1
 ·exact Q0.fail.q1
theorem Q1.Xe(P:Program)(t:TypeId)(v:Value)(lo b a:Option Value):Q1 (mu P t v lo b a):=by
 unfold mu;split
 ·refine Q1.bind (Q1.gd _) fun _=> ?_;split
  ·split
   ·exact(Q0.lift _).q1
   ·exact Q0.fail.q1
  ·exact Q0.fail.q1
 ·exact(Q0.lift _).q1
theorem Q2.alloc(P:Program)(e:TypeId):Q2 (lJ P e):=by
 unfold lJ;split
 ·exact Q2.bind (Q2.cJ _ _) fun _=>(Q0.ret _).q2
 ·exact Q0.fail.q2
theorem Q2.box(P:Program)(e:TypeId)(v:Value):Q2 (lK P e v):=by
 unfold lK;split
 ·exact Q2.bind (Q2.cJ _ _) fun _=>(Q0.ret _).q2
 ·exact Q0.fail.q2
theorem Q2.buildSlice(P:Program)(t:TypeId)(len:Nat)(ps:List (Nat×Value)):Q2 (kF P t len ps):=by
 unfold kF
 repeat' (first|exact Q0.fail.q2|exact Q2.bind (Q2.cJ _ _) fun _=>(Q0.ret _).q2|split)
theorem Q2.makeSlice(P:Program)(t:TypeId)(l c:Value):Q2 (lO P t l c):=by
 unfold lO
 repeat' (first|exact Q0.fail.q2|exact Q2.bind (Q2.cJ _ _) fun _=>(Q0.ret _).q2|split)
def QK(k:Nat){a:Type}(m:M a):Prop:=(k=0->Q0 m)∧(k=1->Q1 m)∧(k=2->Q2 m)
theorem QK.iH{a:Type}{m:M a}(x:Q0 m)(k:Nat):QK k m:=⟨fun _=>x,fun _=>x.q1,fun _=>x.q2⟩
theorem QK.JF{a:Type}{m:M a}(x:Q1 m):QK 1 m:=⟨fun h=>by omega,fun _=>x,fun h=>by omega⟩
theorem QK.yV{a:Type}{m:M a}(x:Q2 m):QK 2 m:=⟨fun h=>by omega,fun h=>by omega,fun _=>x⟩
theorem QK.JG{a:Type}{m:M a}:QK 3 m:=⟨fun h=>by omega,fun h=>by omega,fun h=>by omega⟩
def uz(rec:FuncId->Array Value->M Value):Nx->M Value
 | .val v=> .ret v
 | .call f args=>rec f args
theorem Xf{a b:Type}(f:a->M b):(M.fail:M a).bind f=M.fail:=rfl
theorem Xg(P:Program)(ρ:Operand->Value)(rec:FuncId->Array Value->M Value)(o:Oper):QK (kind o.op) ((bG P ρ o).bind (uz rec)):=by
 have d:∀{m:M Value},(m.bind fun v=>M.ret (Nx.val v)).bind (uz rec)=m:=fun{m}=>by
  funext h n;unfold M.bind;cases m h n with
  |none=>rfl
  |some o=>simp[M.ret,uz]
 have j:∀(v:Value),(M.ret (Nx.val v)).bind (uz rec)=M.ret v:=fun v=>by rw[my];rfl
 have g:Q0 ((eV P ρ o).bind (uz rec)):=by
  unfold eV;split
  ·intro h n r u s L e;obtain⟨x,Q,G,X,W,B,A,rfl⟩:=bind_some e;obtain⟨y,O,F,U,T,z,p,rfl⟩:=bind_some B;obtain⟨rfl,rfl⟩:=Q0.lift _ _ _ _ _ _ _ z;split at p
   ·obtain⟨rfl,_,_⟩:=bp p;obtain⟨rfl,rfl⟩:=Q0.ret _ _ _ _ _ _ _ p;obtain⟨rfl,rfl⟩:=Q0.ret _ _ _ _ _ _ _ A;exact⟨rfl,rfl⟩
   ·cases p
  ·intro h n r u s L e;cases e
 obtain⟨C,q,E,pos,after,guard⟩:=o;cases q with
 |move x=>exact QK.iH (by unfold bG;rw[j];exact Q0.ret _) _
 |assign x=>exact QK.iH (by unfold bG;rw[j];exact Q0.ret _) _
 |pick c a b=>
  refine QK.iH ?_ _;unfold bG;simp only;split
  ·rw[j];exact Q0.ret _
  ·rw[Xf];exact Q0.fail
 |alloc e=>exact QK.yV (by unfold bG;rw[d];exact Q2.alloc _ _)
 |box e x=>exact QK.yV (by unfold bG;rw[d];exact Q2.box _ _ _)
 |build t w=>exact QK.iH (by unfold bG;rw[d];exact Q0.build _ _ _) _
 |buildSlice t len w=>exact QK.yV (by unfold bG;rw[d];exact Q2.buildSlice _ _ _ _)
 |load t a=>exact QK.JF (by unfold bG;rw[d];exact Q1.load _ _ _)
 |nilCheck x=>exact QK.iH (by unfold bG;rw[d];exact Q0.nilCheck _) _
 |binOp q t x y D=>
  refine QK.iH ?_ _;unfold bG;simp only;split
  ·rw[j];exact Q0.ret _
  ·rw[j];exact Q0.ret _
  ·exact g
  ·intro h n a u s L e;cases e
 |unOp q t x=>exact QK.iH (g) _
 |makeFunc R a b=>exact QK.iH (by unfold bG;rw[j];exact Q0.ret _) _
 |makeSlice t l c=>exact QK.yV (by unfold bG;rw[d];exact Q2.makeSlice _ _ _ _)
 |slice t x J N I=>
  refine QK.JF ?_;unfold bG;simp only;split
  ·exact(g).q1
  ·rw[d];exact Q1.Xe _ _ _ _ _ _
 |fieldAddr t x f=>exact QK.iH (by unfold bG;rw[d];exact Q0.lift _) _
 |field t x f=>exact QK.iH (by unfold bG;rw[d];exact Q0.lift _) _
 |indexAddr t x f=>exact QK.iH (by unfold bG;rw[d];exact Q0.lift _) _
 |index t x K=>
  refine QK.iH ?_ _;unfold bG;simp only;split
  ·exact g
  ·rw[d];exact Q0.lift _
 |extract t i=>exact QK.iH (by unfold bG;rw[d];exact Q0.lift _) _
 |call c=>
  unfold kind;simp only;split
  ·rename_i k;refine QK.iH ?_ _;unfold bG iZ;simp only[k];split
   ·rw[j];exact Q0.ret _
   ·exact g
  ·rename_i k;refine QK.iH ?_ _;unfold bG iZ;simp only[k];exact g
  ·rename_i k;refine QK.iH ?_ _;unfold bG iZ;simp only[k];exact g
  ·exact QK.JG
 |_=>exact QK.JG
structure yW (o:Oper) (t:Tk):Prop where
 le:t.n<=t.n1
 lt:∀e∈t.log,e.b<t.n1
 k0:kind o.op=0->t.log=[]∧t.n1=t.n
 k1:kind o.op=1->t.n1=t.n∧∀e∈t.log,e.wr=false
 k2:kind o.op=2->t.log=[]
inductive mz:Nat->List Oper->List Tk->Nat->Prop
 |nil (n:Nat):mz n [] [] n
 |cons {n m:Nat} {o:Oper} {t:Tk} {r:List Oper} {ts:List Tk} (h:yW o t) (e:t.n=n) (x:mz t.n1 r ts m):mz n (o::r) (t::ts) m
theorem mz.le{n m:Nat}{l:List Oper}{ts:List Tk}(x:mz n l ts m):n<=m:=by
 induction x with
 |nil n=>exact ag _
 |cons h e x a=>have:=h.le;omega
theorem any_false{a:Type}{l:List a}{p:a->Bool}(h:∀x∈l,p x=false):l.any p=false:=by rw[List.any_eq_false];intro x b;rw[h x b];exact Bool.false_ne_true
theorem Xh{a b:Oper}{i h:Tk}(d:yW a i)(e:yW b h)(k:i.n1<=h.n)(hf:fits (kind a.op) (kind b.op)=true):i.gf h=false:=by
 have n:=d.le;have m:=e.le;unfold fits at hf;simp only[ml,beq_iff_eq,bE]at hf;unfold Tk.gf;rcases hf with (((hf|hf)|hf)|hf)|hf
 ·obtain⟨f,g⟩:=d.k0 hf;rw[f];simp only[Vz,CZ,yn,VA,yl];refine⟨any_false fun x _=>rfl,any_false fun x c=> ?_⟩;simp;omega
 ·obtain⟨f,g⟩:=e.k0 hf;rw[f];simp only[Vz,CZ,yl,yn,VA];refine⟨any_false fun x _=>rfl,any_false fun x c=> ?_⟩;simp;omega
 ·obtain⟨f,g⟩:=d.k1 hf.1;obtain⟨j,l⟩:=e.k1 hf.2;simp only[yl];refine⟨⟨⟨any_false fun x c=>by rw[g x c];rfl,any_false fun x c=>by rw[l x c];rfl⟩,any_false fun x c=> ?_⟩,any_false fun x c=> ?_⟩
  ·simp;omega
  ·simp;omega
 ·rw[d.k2 hf.1,e.k2 hf.2];rfl
 ·obtain⟨f,g⟩:=d.k1 hf.1;have j:=e.k2 hf.2;rw[j];simp only[Vz,CZ,yl,VA];refine⟨any_false fun x _=>rfl,any_false fun x c=> ?_⟩;have:=d.lt x c;simp;omega
theorem JH{P:Program}{rec:FuncId->Array Value->M Value}{ops:Array Oper}{o:Oper}{s:S}(h:eE o (fj ops s)=true):ey P rec ops o s=(bG P (ev s) o).bind (uz rec):=by unfold ey;rw[if_pos h];rfl
theorem Xi{P:Program}{rec:FuncId->Array Value->M Value}{ops:Array Oper}{o:Oper}{s:S}:QK (kind o.op) (ey P rec ops o s):=by
 by_cases h:eE o (fj ops s)=true
 ·rw[JH h];exact Xg _ _ _ _
 ·unfold ey;rw[if_neg h];exact QK.iH (Q0.ret _) _
theorem filter_nil{a:Type}{L:List a}{p:a->Bool}(h:L=[]):L.filter p=[]:=by rw[h];rfl
theorem DM{d:Type}{m:M d}{h f:H}{n c:Nat}{x:d×Tk}{L:List En}(b:bk m h n=some ⟨x,f,c,L⟩):m h n=some ⟨x.1,f,c,L⟩∧x.2=⟨n,c,L⟩:=by
 unfold bk at b;split at b
 ·rename_i a i g j e;simp only[dm,Out.mk.injEq]at b;obtain⟨rfl,rfl,rfl,rfl⟩:=b;exact⟨e,rfl⟩
 ·cases b
theorem yX{c:Type}{m:M c}{h d:H}{n b:Nat}{a:c}{L:List En}(e:m h n=some ⟨a,d,b,L⟩):bk m h n=some ⟨(a,⟨n,b,L⟩),d,b,L⟩:=by unfold bk;rw[e]
theorem Xj{P:Program}{rec:FuncId->Array Value->M Value}(i:∀f a,Loc (rec f a)){nt:Nat}{ops:Array Oper}:∀(l:List Oper) (s:S) (h j:H) (n d:Nat) (y:S×List Tk) (L:List En),gh P rec nt ops l s h n=some ⟨y,j,d,L⟩->mz n l y.2 d:=by
 intro l
 induction l with
 |nil=>intro s h j n d y L g;obtain⟨rfl,rfl,rfl⟩:=bp g;exact .nil _
 |cons o l p=>
  intro s h j n d y L g;unfold gh at g;obtain⟨x,J,F,U,T,B,w,_⟩:=bind_some g;obtain⟨C,I,E,R,Q,v,u,_⟩:=bind_some w;obtain⟨z,G,D,O,N,t,r,_⟩:=bind_some u;obtain⟨rfl,rfl,rfl⟩:=bp r;obtain⟨_,rfl,rfl⟩:=kJ v;obtain⟨m,b⟩:=DM B;obtain⟨W,k,rfl⟩:=rO m;have A:=Loc.inside (Loc.ey i ops o s) h n _ _ _ _ m;have K:=Xi (P:=P) (rec:=rec) (ops:=ops) (o:=o) (s:=s);refine .cons ⟨?_, ?_,fun c=> ?_,fun c=> ?_,fun c=> ?_⟩ ?_ ?_
  ·rw[b];exact A.le
  ·rw[b];exact A.lt
  ·obtain⟨q1,q2⟩:=K.1 c _ _ _ _ _ _ k;rw[b];exact⟨filter_nil q1,q2⟩
  ·obtain⟨q1,q2⟩:=K.2.1 c _ _ _ _ _ _ k;rw[b];exact⟨q1,fun e q=>q2 e (List.mem_filter.1 q).1⟩
  ·rw[b];exact filter_nil (K.2.2 c _ _ _ _ _ _ k)
  ·rw[b]
  ·rw[b];exact p _ _ _ _ _ _ _ t
theorem Xk{n m:Nat}{l:List Oper}{ts:List Tk}(x:mz n l ts m):∀(i:Nat) (a:Tk),ts[i]? =some a->∃c:Oper,l[i]? =some c∧yW c a∧n<=a.n:=by
 induction x with
 |nil n=>intro i a b;simp at b
 |cons h e x d=>
  intro i a b;cases i with
  |zero=>simp at b;subst b;exact⟨_,rfl,h,jO⟩
  |succ i=>obtain⟨c,g,f,j⟩:=d i a (by simpa using b);exact⟨c,by simpa using g,f,by have:=h.le;omega⟩
theorem JI{ops:Array Oper}{f:List Nat}:∀(l:List Oper) (ts:List Tk) (n m j:Nat),mz n l ts m->(∀i o,l[i]? =some o->ops.getD (j+i) default=o)->
 (∀p q d c k g,p<q->l[p]? =some d->l[q]? =some c->ts[p]? =some k->ts[q]? =some g->(f.getD (j+q) 0).testBit (j+p)=true∨((fits (kind d.op) (kind c.op)=true∨k.gf g=false)∧nq ops d c=false))->nu ops f (tagged j ts)=true:=by
 intro l
 induction l with
 |nil=>intro ts n m j x _ _;cases x;rfl
 |cons o l B=>
  intro ts n m j x r v;cases x with
  |@cons _ _ _ t _ ts h e x=>
   unfold tagged nu;simp only[bE,kz]
   refine⟨?_,B ts _ m (j+1) x (fun i A b=>by have:=r (i+1) A (by simpa using b);rw[show j+1+i=j+(i+1) by omega];exact this) (fun p q d c k g E J I G F=>by
    have:=v (p+1) (q+1) d c k g jO (by simpa using J) (by simpa using I) (by simpa using G) (by simpa using F);rw[show j+1+q=j+(q+1) by omega,show j+1+p=j+(p+1) by omega]
    exact this)⟩
   intro z C;obtain⟨i,b⟩:=List.mem_iff_getElem?.1 C;rw[Dz]at b;cases a:ts[i]? with
   |none=>rw[a]at b;cases b
   |some s=>
    rw[a]at b;simp only[yh,dm]at b;subst b;obtain⟨u,w,L,K⟩:=Xk x i s a;have y:=r 0 o rfl;have N:=r (i+1) u (by simpa using w);have hq:=v 0 (i+1) o u t s jO rfl (by simpa using w) rfl (by simpa using a);rw[iA]at y hq;simp only[show j+1+i=j+(i+1) by omega,y,N,ml,bE,IA];rcases hq with hq|⟨hq,D⟩
    ·exact .inl hq
    ·refine .inr ⟨?_,D⟩;rcases hq with hq|hq
     ·exact Xh h L K hq
     ·exact hq
theorem Xl{ops:Array Oper}{a:List Nat}{j:Nat}{b:Oper}:∀(l:List Oper) (k:Nat),yR ops a j b k l=true->∀i o,l[i]? =some o->(a.getD (k+i) 0).testBit j=true∨(fits (kind b.op) (kind o.op)=true∧nq ops b o=false):=by
 intro l
 induction l with
 |nil=>intro k _ i o h;simp at h
 |cons o l e=>
  intro k h i d c;unfold yR at h;simp only[bE,ml,IA]at h;cases i with
  |zero=>simp at c;subst c;exact h.1
  |succ i=>rw[show k+(i+1)=k+1+i by omega];exact e (k+1) h.2 i d (by simpa using c)
theorem Xm{ops:Array Oper}{c:List Nat}:∀(l:List Oper) (j:Nat),yS ops c j l=true->∀p q b a,p<q->l[p]? =some b->l[q]? =some a->(c.getD (j+q) 0).testBit (j+p)=true∨(fits (kind b.op) (kind a.op)=true∧nq ops b a=false):=by
 intro l
 induction l with
 |nil=>intro k _ p q b a _ h;simp at h
 |cons o l f=>
  intro j h p q b a g d e;unfold yS at h;simp only[bE]at h;cases q with
  |zero=>omega
  |succ q=>
   cases p with
   |zero=>simp at d;subst d;have:=Xl l (j+1) h.1 q a (by simpa using e);rw[show j+(q+1)=j+1+q by omega,iA];exact this
   |succ p=>have:=f (j+1) h.2 p q b a jO (by simpa using d) (by simpa using e);rw[show j+(q+1)=j+1+q by omega,show j+(p+1)=j+1+p by omega];exact this
theorem JJ(ops:Array Oper)(i:Nat)(o:Oper)(h:ops.toList[i]? =some o):ops.getD (0+i) default=o:=by rw[fD];rw[CY]at h;simp[Array.getD_eq_getD_getElem?,h]
theorem Xn{ops:Array Oper}{ts:List Tk}{n m:Nat}(x:mz n ops.toList ts m)(h:yT ops=true):qh ops=true∧nu ops (jX ops.toList []) (tagged 0 ts)=true:=by
 unfold yT at h;simp only[bE]at h;refine⟨h.1,JI ops.toList ts n m 0 x (JJ ops) fun p q c b i f a e d k j=> ?_⟩;rcases Xm ops.toList 0 h.2 p q c b a e d with g|g
 ·exact .inl g
 ·exact .inr ⟨.inl g.1,g.2⟩
end Go.Proofs.YtcehhgppfahbkaaGreatDoor.Ev
namespace Go.Proofs.YtcehhgppfahbkaaGreatDoor.Ev
open Go Go.RowKit
theorem aO{x:Int}(b:-9223372036854775808<=x)(a:x<=9223372036854775807):IntKind.i64.wrap x=x:=IntWalk.i64_in x jO
def mC(k:IntKind)(z:Int):Int:=match k,z with
 | .i64,.ofNat m=>match bh m 9223372036854775807 with
   |true=>z
   |false=>k.wrap z
 | .i64,.negSucc m=>match bh m 9223372036854775807 with
   |true=>z
   |false=>k.wrap z
 | .u8,.ofNat m=> .ofNat (m %256)
 | .u32,.ofNat m=> .ofNat (m %4294967296)
 | .u64,.ofNat m=> .ofNat (m %18446744073709551616)
 |_,_=>k.wrap z
theorem jb(k:IntKind)(z:Int):mC k z=k.wrap z:=by
 unfold mC;split
 ·rename_i m;cases h:bh m 9223372036854775807 with
  |true=>have:m<=9223372036854775807:=eS h;exact(aO (x:=((m:Nat):Int)) jO jO).symm
  |false=>rfl
 ·rename_i m;cases h:bh m 9223372036854775807 with
  |true=>have:m<=9223372036854775807:=eS h;exact(aO (x:=agL m) jO jO).symm
  |false=>rfl
 ·rename_i m;show((m %256:Nat):Int)=IntKind.u8.wrap m;simp[VB,C0,VC]
 ·rename_i m;show((m %4294967296:Nat):Int)=IntKind.u32.wrap m;simp[VB,C0,VC]
 ·rename_i m;show((m %18446744073709551616:Nat):Int)=IntKind.u64.wrap m;simp[VB,C0,VC]
 ·rfl
def yY(a b:Int):Int:=match a,b with
 | .ofNat x,.ofNat y=> .ofNat (eT x y)
 |_,_=>a+b
theorem JK(a b:Int):yY a b=a+b:=by unfold yY;split<;>rfl
def yZ(a b:Int):Int:=match a,b with
 | .ofNat x,.ofNat y=>match bh y x with
   |true=> .ofNat (C1 x y)
   |false=> .negSucc (C1 (C1 y x) 1)
 |_,_=>a-b
theorem zb(a b:Int):yZ a b=a-b:=by
 unfold yZ;split
 ·rename_i x y;cases h:bh y x with
  |true=>have:=eS h;show((x-y:Nat):Int)=(x:Int)-y;omega
  |false=>
   have:¬y<=x:=fun q=>by rw[jT q]at h;cases h
   show agL (y-x-1)=(x:Int)-y;omega
 ·rfl
def DN(a b:Int):Int:=match a,b with
 | .ofNat x,.ofNat y=> .ofNat (IB x y)
 |_,_=>a*b
theorem JL(a b:Int):DN a b=a*b:=by unfold DN;split<;>rfl
def nC(a b:Int):Bool:=match a,b with
 | .ofNat x,.ofNat y=>bq x y
 |_,_=>a==b
theorem qp(a b:Int):nC a b=(a==b):=by
 unfold nC;split
 ·rename_i x y;cases h:bq x y with
  |true=>rw[iX h];simp
  |false=>have:x≠y:=IC h;symm;rw[beq_eq_false_iff_ne];intro q;exact this (aiu q)
 ·rfl
def zc(a b:Int):Bool:=match a,b with
 | .ofNat x,.ofNat y=>bh x y
 |_,_=>decide (a<=b)
theorem zd(a b:Int):zc a b=decide (a<=b):=by
 unfold zc;split
 ·rename_i x y;cases h:bh x y with
  |true=>have:=eS h;symm;rw[decide_eq_true_eq];show(x:Int)<=y;omega
  |false=>
   have:¬x<=y:=fun q=>by rw[jT q]at h;cases h
   symm;rw[decide_eq_false_iff_not];show¬((x:Int)<=y);omega
 ·rfl
def rQ(a b:Int):Bool:=match a,b with
 | .ofNat x,.ofNat y=>bh (dT x) y
 |_,_=>decide (a<b)
theorem oS(a b:Int):rQ a b=decide (a<b):=by
 unfold rQ;split
 ·rename_i x y;cases h:bh (dT x) y with
  |true=>have:=eS h;symm;rw[decide_eq_true_eq];show(x:Int)<y;omega
  |false=>
   have:¬dT x<=y:=fun q=>by rw[jT q]at h;cases h
   symm;rw[decide_eq_false_iff_not];show¬((x:Int)<y);omega
 ·rfl
def oT:List UInt8->List UInt8->Bool
 |[],[]=>true
 |a::l,b::m=>match bq a.toNat b.toNat with
  |true=>oT l m
  |false=>false
 |_,_=>false
theorem ze:∀a b:List UInt8,oT a b=decide (a=b)
 |[],[]=>rfl
 |a::l,b::m=>by
  unfold oT;cases h:bq a.toNat b.toNat with
  |true=>have e:a=b:=UInt8.toNat_inj.1 (iX h);subst e;simp only;rw[ze l m];simp
  |false=>have e:a≠b:=fun q=>IC h (by rw[q]);symm;rw[decide_eq_false_iff_not];intro q;exact e (ID q).1
 |[],_::_=>by unfold oT;simp
 |_::_,[]=>by unfold oT;simp
def zf:List UInt8->List UInt8->Bool
 |_,[]=>false
 |[],_::_=>true
 |a::l,b::m=>match C4 a.toNat b.toNat with
  |true=>true
  |false=>match bq a.toNat b.toNat with
   |true=>zf l m
   |false=>false
theorem DO:∀a b:List UInt8,zf a b=IE a b
 |a,[]=>by cases a<;>rfl
 |[],_::_=>rfl
 |a::l,b::m=>by
  show(match C4 a.toNat b.toNat with
   |true=>true
   |false=>match bq a.toNat b.toNat with
    |true=>zf l m
    |false=>false)=(decide (a<b)||(a==b&&IE l m))
  have c:decide (a<b)=C4 a.toNat b.toNat:=by
   cases h:C4 a.toNat b.toNat with
   |true=>rw[agM]at h;exact decide_eq_true (UInt8.lt_iff_toNat_lt.2 h)
   |false=>refine decide_eq_false fun q=> ?_;have q2:=UInt8.lt_iff_toNat_lt.1 q;rw[<-agM,h]at q2;cases q2
  rw[c];cases h:C4 a.toNat b.toNat with
  |true=>rfl
  |false=>
   cases d:bq a.toNat b.toNat with
   |true=>have e:a=b:=UInt8.toNat_inj.1 (iX d);subst e;simp only[beq_self_eq_true,oq,yn];exact DO l m
   |false=>have e:(a==b)=false:=beq_eq_false_iff_ne.2 fun q=>IC d (by rw[q]);rw[e];rfl
def zg:List UInt8->List UInt8->List UInt8
 |[],m=>m
 |a::l,m=>a::zg l m
theorem DP:∀l m:List UInt8,zg l m=l++m
 |[],_=>rfl
 |a::l,m=>by unfold zg;rw[DP l m];rfl
def gN:List UInt8->Nat
 |[]=>0
 |_::l=>dT (gN l)
theorem nD:∀l:List UInt8,gN l=l.length
 |[]=>rfl
 |_::l=>by unfold gN;rw[nD l];rfl
def oU:List UInt8->Nat->Option UInt8
 |[],_=>none
 |a::l,i=>match i with
  |0=>some a
  |i+1=>oU l i
theorem DQ:∀(l:List UInt8) (i:Nat) (b:UInt8),oU l i=some b->i<l.length∧l.getD i 0=b
 |[],_,_,h=>by cases h
 |a::l,0,b,h=>by unfold oU at h;cases h;exact⟨Nat.zero_lt_succ _,rfl⟩
 |a::l,i+1,b,h=>by unfold oU at h;obtain⟨d,c⟩:=DQ l i b h;exact⟨Nat.succ_lt_succ d,c⟩
def nE:IntKind->IntKind->Bool
 | .i64,.i64| .u8,.u8| .u32,.u32| .u64,.u64| .i8,.i8| .i16,.i16| .i32,.i32| .u16,.u16=>true
 |_,_=>false
theorem zh(k:IntKind):nE k k=true:=by cases k<;>rfl
theorem zi{a b:IntKind}(h:nE a b=true):a=b:=by cases a<;>cases b<;>first|rfl|cases h
def pw:IntKind->Nat
 | .i64| .u64=>18446744073709551616
 | .i32| .u32=>4294967296
 | .i16| .u16=>65536
 | .i8| .u8=>256
theorem Xo(k:IntKind):pw k=2^k.bits:=by cases k<;>rfl
theorem JM(w x:Nat):(BitVec.ofInt w (x:Int)).toNat=x %2^w:=by rw[BitVec.ofInt_natCast,BitVec.toNat_ofNat]
noncomputable def uA {a:Type}:Nat->Tr a->Nat->Option a
 |0,_,_=>none
 |_+1,.nil,_=>none
 |f+1,.node l v r,i=>match bq i 0 with
  |true=>v
  |false=>match bq (iB i 2) 1 with
   |true=>uA f l (iY i 2)
   |false=>uA f r (p5 (iY i 2))
theorem qq(a b:Nat):bq a b=decide (a=b):=by
 cases h:bq a b with
 |true=>rw[iX h];simp
 |false=>have:=IC h;simp[this]
theorem DR{d:Type}:∀(f:Nat) (t:Tr d) (i:Nat),uA f t i=Tr.get f t i
 |0,_,_=>rfl
 |_+1,.nil,_=>rfl
 |f+1,.node l v r,i=>by
  unfold uA Tr.get;rw[qq,qq];by_cases c:i=0
  ·simp[c]
  ·by_cases b:i %2=1
   ·have a:iB i 2=1:=b;simp only[c,b,a,decide_true,decide_false,if_true,if_false];exact DR f l (i/2)
   ·have a:¬iB i 2=1:=b;simp only[c,b,a,decide_false,if_false];exact DR f r (i/2-1)
noncomputable def kM {b:Type}:Nat->Tr b->Nat->Option b->Tr b
 |0,t,_,_=>t
 |f+1,.nil,i,a=>match bq i 0 with
  |true=> .node .nil a .nil
  |false=>match bq (iB i 2) 1 with
   |true=> .node (kM f .nil (iY i 2) a) none .nil
   |false=> .node .nil none (kM f .nil (p5 (iY i 2)) a)
 |f+1,.node l v r,i,a=>match bq i 0 with
  |true=> .node l a r
  |false=>match bq (iB i 2) 1 with
   |true=> .node (kM f l (iY i 2) a) v r
   |false=> .node l v (kM f r (p5 (iY i 2)) a)
theorem wg{e:Type}:∀(f:Nat) (t:Tr e) (i:Nat) (a:Option e),kM f t i a=Tr.set f t i a
 |0,_,_,_=>rfl
 |f+1,.nil,i,a=>by
  unfold kM Tr.set;rw[qq,qq];by_cases d:i=0
  ·simp[d]
  ·by_cases c:i %2=1
   ·have b:iB i 2=1:=c;simp only[d,c,b,decide_true,decide_false,if_true,if_false];rw[wg f .nil];rfl
   ·have b:¬iB i 2=1:=c;simp only[d,c,b,decide_false,if_false];rw[wg f .nil];rfl
 |f+1,.node l v r,i,a=>by
  unfold kM Tr.set;rw[qq,qq];by_cases d:i=0
  ·simp[d]
  ·by_cases c:i %2=1
   ·have b:iB i 2=1:=c;simp only[d,c,b,decide_true,decide_false,if_true,if_false];rw[wg f l];rfl
   ·have b:¬iB i 2=1:=c;simp only[d,c,b,decide_false,if_false];rw[wg f r];rfl
noncomputable def zj {a:Type} (t:Tr a):Nat->Option a:=Tr.rec (motive:=fun _=>Nat->Option a) (fun _=>none) (fun _ v _ c b i=>match bq i 0 with
 |true=>v
 |false=>match bq (iB i 2) 1 with
  |true=>c (iY i 2)
  |false=>b (p5 (iY i 2))) t
theorem DS{a:Type}:∀(t:Tr a) (f i:Nat),i<f->zj t i=uA f t i
 | .nil,0,i,h=>by omega
 | .nil,f+1,i,h=>rfl
 | .node l v r,0,i,h=>by omega
 | .node l v r,f+1,i,h=>by
   show(match bq i 0 with
    |true=>v
    |false=>match bq (iB i 2) 1 with
     |true=>zj l (iY i 2)
     |false=>zj r (p5 (iY i 2)))=_
   unfold uA;cases e:bq i 0 with
   |true=>rfl
   |false=>
    have g:i≠0:=fun q=>by subst q;simp at e
    have d:i/2<f:=jO;have c:iY i 2=i/2:=rfl;have b:p5 (i/2)=i/2-1:=rfl;simp only[c,b];rw[DS l f (i/2) d,DS r f (i/2-1) jO]
noncomputable def zm {b:Type} (t:Tr b):Nat->Option b->Tr b:=Tr.rec (motive:=fun _=>Nat->Option b->Tr b) (fun i a=>kM (dT i) .nil i a) (fun l v r d c i a=>match bq i 0 with
 |true=> .node l a r
 |false=>match bq (iB i 2) 1 with
  |true=> .node (d (iY i 2) a) v r
  |false=> .node l v (c (p5 (iY i 2)) a)) t
theorem DT{b:Type}(a:Option b):∀(f i g:Nat),i<f->i<g->kM f .nil i a=kM g .nil i a
 |0,_,_,h,_=>by omega
 |f+1,_,0,_,h=>by omega
 |f+1,i,g+1,h,k=>by
  unfold kM;cases e:bq i 0 with
  |true=>rfl
  |false=>
   have j:i≠0:=fun q=>by subst q;simp at e
   have d:iY i 2=i/2:=rfl;have c:p5 (i/2)=i/2-1:=rfl;simp only[d,c];rw[DT a f (i/2) g jO jO,DT a f (i/2-1) g jO jO]
theorem DU{b:Type}(a:Option b):∀(t:Tr b) (f i:Nat),i<f->zm t i a=kM f t i a
 | .nil,f,i,h=>DT a _ _ _ (dL i) h
 | .node l v r,0,i,h=>by omega
 | .node l v r,f+1,i,h=>by
   show(match bq i 0 with
    |true=>Tr.node l a r
    |false=>match bq (iB i 2) 1 with
     |true=>Tr.node (zm l (iY i 2) a) v r
     |false=>Tr.node l v (zm r (p5 (iY i 2)) a))=_
   unfold kM;cases e:bq i 0 with
   |true=>rfl
   |false=>
    have g:i≠0:=fun q=>by subst q;simp at e
    have d:iY i 2=i/2:=rfl;have c:p5 (i/2)=i/2-1:=rfl;simp only[d,c];rw[DU a l f (i/2) jO,DU a r f (i/2-1) jO]
noncomputable def jZ (h:H) (b:Nat):Option AB:=zj h b
theorem qs(h:H)(b:Nat):jZ h b=h.get b:=(DS h (b+1) b (dL b)).trans (DR _ _ _)
noncomputable def hC (h:H) (b:Nat) (x:Option AB):H:=zm h b x
theorem DV(h:H)(b:Nat)(x:Option AB):hC h b x=h.set b x:=(DU x h (b+1) b (dL b)).trans (wg _ _ _ _)
theorem oV(a b:Nat):bh a b=decide (a<=b):=by
 cases h:bh a b with
 |true=>have:=eS h;simp[this]
 |false=>
  have:¬a<=b:=fun q=>by rw[jT q]at h;cases h
  simp[this]
noncomputable def qt (l:List Value):Nat->Option Value:=yp (motive:=fun _=>Nat->Option Value) (fun _=>none) (fun a _ b i=>VD (motive:=fun _=>Option Value) (some a) (fun j _=>b j) i) l
theorem zn:∀(l:List Value) (i:Nat),qt l i=l[i]?
 |[],_=>rfl
 |_::_,0=>rfl
 |a::l,i+1=>by show qt l i=_;rw[zn l i];rfl
noncomputable def DW (l:List Value):Nat->Value->Option (List Value):=yp (motive:=fun _=>Nat->Value->Option (List Value)) (fun _ _=>none) (fun a l c i v=>VD (motive:=fun _=>Option (List Value)) (some (v::l)) (fun j _=>match c j v with
 |some b=>some (a::b)
 |none=>none) i) l
theorem JN:∀(l:List Value) (i:Nat) (v:Value),DW l i v=if i<l.length then some (l.set i v)else none
 |[],i,v=>by show none=_;simp
 |a::l,0,v=>by show some (v::l)=_;simp
 |a::l,i+1,v=>by
  show(match DW l i v with
   |some b=>some (a::b)
   |none=>none)=_
  rw[JN l i v];by_cases h:i<l.length
  ·simp[h]
  ·simp[h]
noncomputable def uB (b k:Nat):M Value:=fun h n=>match bh (dT b) n with
 |true=>match jZ h b with
  |some B=>match qt B.cells k with
   |some v=>some ⟨v,h,n,[⟨false,b,some k⟩]⟩
   |none=>none
  |none=>none
 |false=>none
theorem zo:uB=rd:=by
 funext b k h n;unfold uB rd;rw[oV,qs];by_cases a:b<n
 ·have:b.succ<=n:=a;simp only[a,this,decide_true,if_true];cases h.get b with
  |none=>rfl
  |some B=>simp only[zn];rfl
 ·have:¬b.succ<=n:=a;simp only[a,this,decide_false,if_false]
noncomputable def rR (b k:Nat) (v:Value):M Unit:=fun h n=>match bh (dT b) n with
 |true=>match jZ h b with
  |some B=>match B.own with
   |true=>match one v with
    |true=>match DW B.cells k v with
     |some a=>some ⟨(),hC h b (some ⟨B.elem,true,a⟩),n,[⟨false,b,some k⟩,⟨true,b,some k⟩]⟩
     |none=>none
    |false=>none
   |false=>none
  |none=>none
 |false=>none
theorem zq:rR=wr:=by
 funext b k v h n;unfold rR wr;rw[oV,qs];by_cases a:b<n
 ·have:b.succ<=n:=a;simp only[a,this,decide_true,if_true];cases h.get b with
  |none=>rfl
  |some B=>
   obtain⟨e,o,d⟩:=B;simp only[JN,DV];cases o with
   |false=>simp
   |true=>
    cases f:one v with
    |false=>simp
    |true=>
     by_cases c:k<d.length
     ·simp[c]
     ·simp[c]
 ·have:¬b.succ<=n:=a;simp only[a,this,decide_false,if_false]
noncomputable def hZ (e:TypeId) (cs:List Value):M Nat:=fun h n=>some ⟨n,hC h n (some ⟨e,true,cs⟩),dT n,[]⟩
theorem j0:hZ=cJ:=by funext e a h n;unfold hZ cJ;rw[if_pos (dL n),DV]
noncomputable def uC (b:Nat):M TypeId:=fun h n=>match bh (dT b) n with
 |true=>match jZ h b with
  |some B=>some ⟨B.elem,h,n,[⟨false,b,some 1099511627776⟩]⟩
  |none=>none
 |false=>none
theorem qu:uC=gd:=by
 funext b h n;unfold uC gd;rw[oV,qs];by_cases a:b<n
 ·have:b.succ<=n:=a;simp only[a,this,decide_true,if_true];rfl
 ·have:¬b.succ<=n:=a;simp only[a,this,decide_false,if_false]
noncomputable def DX (b:Nat):M Unit:=fun h n=>match bh (dT b) n with
 |true=>match jZ h b with
  |some B=>match B.own with
   |true=>some ⟨(),hC h b none,n,[⟨false,b,none⟩,⟨true,b,none⟩]⟩
   |false=>none
  |none=>none
 |false=>none
theorem zs:DX=kill:=by
 funext b h n;unfold DX kill;rw[oV,qs];by_cases a:b<n
 ·have:b.succ<=n:=a;simp only[a,this,decide_true,if_true];cases h.get b with
  |none=>rfl
  |some B=>simp only[DV];cases B.own<;>simp
 ·have:¬b.succ<=n:=a;simp only[a,this,decide_false,if_false]
noncomputable def mD (b k:Nat):List Value->M Unit
 |[]=> .ret ()
 |v::a=>(rR b k v).bind fun _=>mD b (dT k) a
theorem JO(b:Nat):∀(vs:List Value) (k:Nat),mD b k vs=dH b k vs
 |[],_=>rfl
 |v::vs,k=>by unfold mD dH;rw[zq,JO b vs (dT k)]
theorem wi:mD=dH:=by funext b k a;exact JO b a k
noncomputable def dU (l:List Value):Nat:=yp (motive:=fun _=>Nat) 0 (fun _ _ a=>dT a) l
theorem j1:∀l:List Value,dU l=l.length
 |[]=>rfl
 |a::l=>by show dT (dU l)=_;rw[j1 l];rfl
noncomputable def zt (b k:Nat):Nat->List En
 |0=>[]
 |c+1=>⟨false,b,some k⟩::zt b (k+1) c
noncomputable def gn (b k c:Nat):M (List Value):=fun h n=>match c with
 |0=>some ⟨[],h,n,[]⟩
 |c+1=>match bh (dT b) n with
  |true=>match jZ h b with
   |some B=>match bh (eT k (c+1)) (dU B.cells)with
    |true=>some ⟨(B.cells.drop k).take (c+1),h,n,zt b k (c+1)⟩
    |false=>none
   |none=>none
  |false=>none
theorem JP(b:Nat)(h:H)(n:Nat):∀c k:Nat,gn b k c h n=cc b k c h n
 |0,_=>rfl
 |c+1,k=>by
  have p:=JP b h n c (k+1);have s:cc b k (c+1) h n=((rd b k).bind fun v=>(cc b (k+1) c).bind fun o=>M.ret (v::o)) h n:=rfl;rw[s];unfold M.bind;cases f:bh (dT b) n with
  |false=>
   have d:¬b<n:=fun q=>by rw[jT q]at f;cases f
   have a:rd b k h n=none:=by unfold rd;rw[if_neg d]
   have l:gn b k (c+1) h n=none:=by unfold gn;simp only[f]
   rw[l];simp only[a]
  |true=>
   have d:b<n:=eS f;cases g:h.get b with
   |none=>
    have a:rd b k h n=none:=by unfold rd;rw[if_pos d,g]
    have l:gn b k (c+1) h n=none:=by unfold gn;simp only[f,qs,g]
    rw[l];simp only[a]
   |some B=>
    cases i:B.cells[k]? with
    |none=>
     have r:B.cells.length<=k:=List.getElem?_eq_none_iff.1 i
     have j:bh (eT k (c+1)) (dU B.cells)=false:=by
      rw[j1];cases j:bh (eT k (c+1)) B.cells.length with
      |false=>rfl
      |true=>have:=eS j;have e:eT k (c+1)=k+(c+1):=rfl;omega
     have a:rd b k h n=none:=by unfold rd;rw[if_pos d,g];simp only[i]
     have l:gn b k (c+1) h n=none:=by unfold gn;simp only[f,qs,g,j]
     rw[l];simp only[a]
    |some v=>
     have m:k<B.cells.length:=(List.getElem?_eq_some_iff.1 i).1
     have hd:B.cells.drop k=v::B.cells.drop (k+1):=by rw[List.drop_eq_getElem_cons m];rw[aC m]at i;cases i;rfl
     have a:rd b k h n=some ⟨v,h,n,[⟨false,b,some k⟩]⟩:=by unfold rd;rw[if_pos d,g];simp only[i]
     simp only[a,<-p]
     match c with
     |0=>
      have j:bh (eT k (0+1)) (dU B.cells)=true:=by rw[j1];exact jT (by show k+1<=_;omega)
      unfold gn;simp only[f,qs,g,j,hd];simp[zt,M.ret]
     |c+1=>
      have e:eT k (c+1+1)=eT (k+1) (c+1):=by show k+(c+1+1)=k+1+(c+1);omega
      unfold gn;simp only[f,qs,g,e];cases bh (eT (k+1) (c+1)) (dU B.cells)with
      |false=>rfl
      |true=>simp only[M.ret,hd,List.take_succ_cons];simp[zt]
theorem mE:gn=cc:=by funext b k c h n;exact JP b h n c k
noncomputable def j2:List Value->Option (List UInt8)
 |[]=>some []
 | .int .u8 n::r=>match j2 r with
   |some l=>some (dZ n.toNat::l)
   |none=>none
 |_=>none
theorem Xp:∀(vs:List Value) (a:List UInt8),bytesOf vs ⟨⟨a⟩⟩=(j2 vs).map fun l=>⟨⟨a++l⟩⟩:=by
 intro vs
 induction vs with
 |nil=>intro a;simp[bytesOf,j2]
 |cons v r b=>
  intro a;cases v<;>try rfl
  rename_i k n;cases k<;>try rfl
  show bytesOf r (VE ⟨⟨a⟩⟩ (dZ n.toNat))=Option.map _ (match j2 r with
   |some l=>some (dZ n.toNat::l)
   |none=>none)
  have e:(VE ⟨⟨a⟩⟩ (dZ n.toNat))=⟨⟨a++[dZ n.toNat]⟩⟩:=by apply ByteArray.ext;simp[VE]
  rw[e,b];cases j2 r with
  |none=>rfl
  |some l=>simp
noncomputable def JQ:Value->M Value
 | .slice (some ⟨b,a,none⟩) len _=>(gn b a len).bind fun c=>match j2 c with
   |some l=> .ret (.string ⟨⟨l⟩⟩)
   |none=> .fail
 |x=>lL x
theorem Xq:JQ=lL:=by
 funext x;unfold JQ;split
 ·rename_i b d len c;unfold lL;rw[mE];congr 1;funext a;have:=Xp a [];have e:(aiv)=⟨⟨[]⟩⟩:=rfl;rw[e,this];cases j2 a with
  |none=>rfl
  |some l=>simp
 ·rfl
noncomputable def qv (sz:Nat) (n:Nat):Value->M (List Value)
 | .slice (some ⟨b,a,none⟩) _ _=>gn b a (n*sz)
 | .string ⟨⟨l⟩⟩=> .ret ((l.take n).map fun b=>iz .u8 (.ofNat b.toNat))
 |_=> .fail
theorem qw:qv=iE:=by
 funext d n x;cases x<;>try rfl
 ·rename_i s;obtain⟨⟨l⟩⟩:=s;unfold qv iE;simp only;congr 1;simp[Vx]
 ·rename_i a len cap;cases a with
  |none=>rfl
  |some a=>
   obtain⟨b,c,p⟩:=a;cases p with
   |none=>unfold qv iE;rw[mE]
   |some p=>rfl
noncomputable def over:List Value->List Value->List Value
 |[],a=>a
 |x::l,a=>match a with
  |[]=>[]
  |_::a=>x::over l a
noncomputable def nF:List Value->Nat->List Value->List Value
 |cs,0,l=>over l cs
 |[],_+1,_=>[]
 |a::cs,b+1,l=>a::nF cs b l
noncomputable def mF:List Value->Nat->List Value->List Value
 |cs,_,[]=>cs
 |cs,a,x::l=>mF (cs.set a x) (a+1) l
theorem DY(a:Value):∀(l cs:List Value) (off:Nat),mF (a::cs) (off+1) l=a::mF cs off l
 |[],_,_=>rfl
 |x::l,cs,off=>by show mF ((a::cs).set (off+1) x) (off+1+1) l=a::mF (cs.set off x) (off+1) l;rw[List.set_cons_succ];exact DY a l _ _
theorem DZ:∀(l:List Value) (off:Nat),mF [] off l=[]
 |[],_=>rfl
 |x::l,off=>by show mF (([]:List Value).set off x) (off+1) l=[];rw[List.set_nil];exact DZ l _
theorem D0:∀(l cs:List Value),over l cs=mF cs 0 l
 |[],_=>rfl
 |x::l,[]=>by rw[DZ];rfl
 |x::l,c::cs=>by show x::over l cs=mF ((c::cs).set 0 x) (0+1) l;rw[List.set_cons_zero,DY,D0 l cs]
theorem D1:∀(off:Nat) (cs l:List Value),nF cs off l=mF cs off l
 |0,cs,l=>by
  have:nF cs 0 l=over l cs:=by cases cs<;>rfl
  rw[this];exact D0 l cs
 |off+1,[],l=>by rw[DZ];rfl
 |off+1,a::cs,l=>by rw[DY];show a::nF cs off l=_;rw[D1 off cs l]
theorem JR(off:Nat):∀(l:List Value) (j:Nat) (cells:Array Value),((l.zipIdx j).foldl (fun cs (x:Value×Nat)=>cs.setIfInBounds (off+x.2) x.1) cells).toList=mF cells.toList (off+j) l
 |[],_,_=>rfl
 |x::l,j,cells=>by rw[List.zipIdx_cons,List.foldl_cons,JR off l (j+1)];rw[Array.toList_setIfInBounds];rfl
noncomputable def cS:Value->List Value
 | .agg ⟨l⟩=>l
 |v=>[v]
theorem mG(v:Value):cS v=v.cells.toList:=by cases v<;>rfl
noncomputable def qx (a:Nat->Option (Nat×Nat)) (cells:List Value):List (Nat×Value)->Option (List Value)
 |[]=>some cells
 |(i,v)::c=>match a i with
  |none=>none
  |some (d,b)=>match bq (dU (cS v)) b&&bh (eT d (dU (cS v))) (dU cells)with
   |true=>qx a (nF cells d (cS v)) c
   |false=>none
theorem zu(a:Nat->Option (Nat×Nat)):∀(b:List (Nat×Value)) (cells:Array Value),qx a cells.toList b=(jR a cells b).map (·.toList)
 |[],_=>rfl
 |(i,v)::g,cells=>by
  unfold qx jR;cases a i with
  |none=>rfl
  |some q=>
   obtain⟨c,f⟩:=q;simp only;rw[j1,j1,mG,qq,oV];have k:v.cells.toList.length=v.cells.size:=jS;have j:cells.toList.length=cells.size:=jS;rw[k,j];by_cases e:v.cells.size=f
   ·by_cases h:c+v.cells.size<=cells.size
    ·have d:eT c v.cells.size<=cells.size:=h;have l:¬c+v.cells.size>cells.size:=jO;rw[if_neg (by simp[e];omega)];simp only[e,d,decide_true,Bool.and_true];rw[<-e];simp only[d,decide_true,oq];rw[<-zu a g];congr 1;rw[D1];have:=JR c v.cells.toList 0 cells;rw[iA]at this;rw[<-this];congr 1;rw[<-Array.foldl_toList,Array.toList_zipIdx]
    ·have d:¬eT c v.cells.size<=cells.size:=h;rw[if_pos (by simp[e];omega)];simp[h,d]
   ·rw[if_pos (by simp[e])];simp[e]
noncomputable def qy (v:Value) (n:Nat):List Value:=VD (motive:=fun _=>List Value) [] (fun _ a=>v::a) n
theorem JS(v:Value):∀n:Nat,qy v n=List.replicate n v
 |0=>rfl
 |n+1=>by show v::qy v n=_;rw[JS v n];rfl
noncomputable def oW (a b:List Value):List Value:=yp (motive:=fun _=>List Value) b (fun v _ c=>v::c) a
noncomputable def wj (n b:Nat) (L L2:List En):List En:=yp (motive:=fun _=>List En) L2 (fun e _ a=>match bh n e.b with
 |true=>(match bh (dT e.b) b with
  |true=>a
  |false=>e::a)
 |false=>e::a) L
theorem JT(n a:Nat)(L2:List En):∀L:List En,wj n a L L2=(L.filter fun e=> !(decide (n<=e.b)&&decide (e.b<a)))++L2
 |[]=>rfl
 |e::L=>by
  show(match bh n e.b with
   |true=>(match bh (dT e.b) a with
    |true=>wj n a L L2
    |false=>e::wj n a L L2)
   |false=>e::wj n a L L2)=_
  rw[JT n a L2 L,List.filter_cons,oV,oV];by_cases d:n<=e.b
  ·by_cases b:e.b<a
   ·have c:e.b.succ<=a:=b;simp[d,b,c]
   ·have c:¬e.b.succ<=a:=b;simp[d,b,c]
  ·simp[d]
noncomputable def dy {d c:Type} (m:M d) (k:d->M c):M c:=fun h n=>match m h n with
 |some ⟨a,i,e,L⟩=>(match k a i e with
  |some ⟨b,g,f,j⟩=>some ⟨b,g,f,wj n e L j⟩
  |none=>none)
 |none=>none
theorem j3{b d:Type}(m:M b)(k:b->M d):dy m k=(inside m).bind k:=by
 funext h n;unfold dy M.bind inside;cases c:m h n with
 |none=>simp only[c]
 |some o=>obtain⟨a,f,e,L⟩:=o;simp only[c,JT];rfl
noncomputable def oX (p:En->Bool) (L:List En):Bool:=yp (motive:=fun _=>Bool) false (fun e _ a=>match p e with
 |true=>true
 |false=>a) L
theorem D2(p:En->Bool):∀L:List En,oX p L=L.any p
 |[]=>rfl
 |e::L=>by
  show(match p e with
   |true=>true
   |false=>oX p L)=_
  rw[D2 p L,List.any_cons];cases p e<;>rfl
noncomputable def uD (a b:Bool):Bool:=match a with
 |true=>b
 |false=>false
theorem JU(a b:Bool):uD a b=(a&&b):=by cases a<;>rfl
noncomputable def zv (x y:En):Bool:=match bq x.b y.b with
 |true=>(x.k==y.k||x.k.isNone||y.k.isNone)
 |false=>false
theorem Xr(x y:En):zv x y=x.meets y:=by
 unfold zv En.meets;rw[qq];by_cases h:x.b=y.b
 ·simp[h]
 ·have:(x.b==y.b)=false:=by simpa using h
  simp[h]
noncomputable def fo (a b:Tk):Bool:=
 match oX (fun x=>uD x.wr (oX (fun y=>zv x y) b.log)) a.log with
 |true=>true
 |false=>match oX (fun x=>uD x.wr (oX (fun y=>zv x y) a.log)) b.log with
  |true=>true
  |false=>match oX (fun x=>uD (bh b.n x.b) (bh (dT x.b) b.n1)) a.log with
   |true=>true
   |false=>oX (fun x=>uD (bh a.n x.b) (bh (dT x.b) a.n1)) b.log
theorem D3(a b:Tk):fo a b=a.gf b:=by
 have c:∀(n d:Nat) (L:List En),(oX (fun x=>uD (bh n x.b) (bh (dT x.b) d)) L)=L.any fun x=>decide (n<=x.b)&&decide (x.b<d):=fun n d L=>by rw[D2];congr 1;funext x;rw[JU,oV,oV];rfl
 unfold fo Tk.gf;rw[c,c];simp only[D2,JU,Xr];cases (a.log.any fun x=>x.wr&&b.log.any fun y=>x.meets y)<;>cases (b.log.any fun x=>x.wr&&a.log.any fun y=>x.meets y)<;>cases (a.log.any fun x=>decide (b.n<=x.b)&&decide (x.b<b.n1))<;>simp
noncomputable section
variable {β:Type}
def iI(f:IntKind->Int->Int->Value)(x y:Value)(k:Value->M β):M β:=match x with
 | .int a p=>match y with
   | .int b q=>match nE a b with
     |true=>k (f a p q)
     |false=> .fail
   |_=> .fail
 |_=> .fail
def rS(f:Nat->Nat->Nat)(x y:Value)(k:Value->M β):M β:=match x with
 | .int a (.ofNat p)=>match y with
   | .int b (.ofNat q)=>match nE a b with
     |true=>k (.int a (mC a (.ofNat (f (iB p (pw a)) (iB q (pw a))))))
     |false=> .fail
   |_=> .fail
 |_=> .fail
def ax(x y:Value)(k:Value->M β):M β:=match x with
 | .string ⟨⟨a⟩⟩=>match y with
   | .string ⟨⟨b⟩⟩=>match bh (eT (gN a) (gN b)) 9223372036854775807 with
     |true=>k (.string ⟨⟨zg a b⟩⟩)
     |false=> .fail
   |_=> .fail
 |x=>iI (fun k a b=> .int k (mC k (yY a b))) x y k
def bx(x y:Value)(k:Value->M β):M β:=iI (fun k a b=> .int k (mC k (yZ a b))) x y k
def gq(x y:Value)(k:Value->M β):M β:=iI (fun k a b=> .int k (mC k (DN a b))) x y k
def gu(x y:Value)(k:Value->M β):M β:=match x with
 | .string ⟨⟨a⟩⟩=>match y with
   | .string ⟨⟨b⟩⟩=>k (.bool (oT a b))
   |_=> .fail
 |x=>iI (fun _ a b=> .bool (nC a b)) x y k
def iJ(x y:Value)(k:Value->M β):M β:=match x with
 | .string ⟨⟨a⟩⟩=>match y with
   | .string ⟨⟨b⟩⟩=>k (.bool (!oT a b))
   |_=> .fail
 |x=>iI (fun _ a b=> .bool (!nC a b)) x y k
def da(x y:Value)(k:Value->M β):M β:=match x with
 | .string ⟨⟨a⟩⟩=>match y with
   | .string ⟨⟨b⟩⟩=>k (.bool (zf a b))
   |_=> .fail
 |x=>iI (fun _ a b=> .bool (rQ a b)) x y k
def lU(x y:Value)(k:Value->M β):M β:=iI (fun _ a b=> .bool (zc a b)) x y k
def j4(x y:Value)(k:Value->M β):M β:=iI (fun _ a b=> .bool (rQ b a)) x y k
def rT(x y:Value)(k:Value->M β):M β:=iI (fun _ a b=> .bool (zc b a)) x y k
def zw(x y:Value)(k:Value->M β):M β:=rS Nat.land x y k
def wk(x y:Value)(k:Value->M β):M β:=rS Nat.lor x y k
def oY(x y:Value)(k:Value->M β):M β:=rS Nat.xor x y k
def kO(x y:Value)(k:Value->M β):M β:=match x with
 | .int a (.ofNat p)=>match y with
   | .int _ (.ofNat q)=>k (.int a (mC a (.ofNat (IB p (agT 2 (Nat.min q a.bits))))))
   |_=> .fail
 |_=> .fail
def jy(x y:Value)(k:Value->M β):M β:=match x with
 | .int a (.ofNat p)=>match y with
   | .int _ (.ofNat q)=>k (.int a (.ofNat (iY p (agT 2 (Nat.min q a.bits)))))
   |_=> .fail
 |_=> .fail
def mH(x y:Value)(k:Value->M β):M β:=match x with
 | .int a p=>match y with
   | .int b q=>match nE a b with
     |true=>match nC q 0 with
      |true=> .fail
      |false=>k (.int a (mC a (Int.tdiv p q)))
     |false=> .fail
   |_=> .fail
 |_=> .fail
def oZ(x y:Value)(k:Value->M β):M β:=match x with
 | .int a p=>match y with
   | .int b q=>match nE a b with
     |true=>match nC q 0 with
      |true=> .fail
      |false=>k (.int a (Int.tmod p q))
     |false=> .fail
   |_=> .fail
 |_=> .fail
def zx(x y:Value)(k:Value->M β):M β:=match x with
 | .bool a=>match y with
   | .bool b=>k (.bool (match a with
     |true=>b
     |false=> !b))
   |_=> .fail
 |_=> .fail
def zy(x y:Value)(k:Value->M β):M β:=match x with
 | .bool a=>match y with
   | .bool b=>k (.bool (match a with
     |true=> !b
     |false=>b))
   |_=> .fail
 |_=> .fail
def zA(f:Bool->Bool)(x y:Value)(k:Value->M β):M β:=match x with
 | .pointer none=>match y with
   | .pointer b=>k (.bool (f b.isNone))
   |_=> .fail
 | .pointer (some _)=>match y with
   | .pointer none=>k (.bool (f false))
   |_=> .fail
 |_=> .fail
def zB(f:Bool->Bool)(x y:Value)(k:Value->M β):M β:=match x with
 | .slice none _ _=>match y with
   | .slice b _ _=>k (.bool (f b.isNone))
   |_=> .fail
 | .slice (some _) _ _=>match y with
   | .slice none _ _=>k (.bool (f false))
   |_=> .fail
 |_=> .fail
def zC(f:Bool->Bool)(x y:Value)(k:Value->M β):M β:=match x with
 | .nilFunc=>match y with
   | .nilFunc=>k (.bool (f true))
   | .func _ _ _=>k (.bool (f false))
   |_=> .fail
 | .func _ _ _=>match y with
   | .nilFunc=>k (.bool (f false))
   |_=> .fail
 |_=> .fail
def JV(a:List Nat)(x y:Value)(k:Value->M β):M β:=match x with
 | .agg ⟨l⟩=>match y with
   | .agg ⟨m⟩=>match ju a l m with
     |some b=>k (.bool b)
     |none=> .fail
   |_=> .fail
 |_=> .fail
def JW(a:List Nat)(x y:Value)(k:Value->M β):M β:=match x with
 | .agg ⟨l⟩=>match y with
   | .agg ⟨m⟩=>match ju a l m with
     |some b=>k (.bool !b)
     |none=> .fail
   |_=> .fail
 |_=> .fail
def nG(x y:Value)(k:Value->M β):M β:=zA (fun b=>b) x y k
def wm(x y:Value)(k:Value->M β):M β:=zA (fun b=> !b) x y k
def wo(x y:Value)(k:Value->M β):M β:=zB (fun b=>b) x y k
def wq(x y:Value)(k:Value->M β):M β:=zB (fun b=> !b) x y k
def D4(x y:Value)(k:Value->M β):M β:=zC (fun b=>b) x y k
def D5(x y:Value)(k:Value->M β):M β:=zC (fun b=> !b) x y k
def dI(x:Value)(k:Value->M β):M β:=match x with
 | .bool b=>k (.bool (!b))
 |_=> .fail
def zD(x:Value)(k:Value->M β):M β:=match x with
 | .int a p=>k (.int a (mC a (yZ 0 p)))
 |_=> .fail
def D6(x:Value)(k:Value->M β):M β:=match x with
 | .int .u32 (.ofNat p)=>match bh p 4294967295 with
   |true=>k (.int .u32 (.ofNat (C1 4294967295 p)))
   |false=> .fail
 |_=> .fail
def ep(a:IntKind)(x:Value)(k:Value->M β):M β:=match x with
 | .int _ p=>k (.int a (mC a p))
 |_=> .fail
def JX(x:Value)(k:Value->M β):M β:=match x with
 | .string s=>k (.string s)
 |_=> .fail
def aY(x:Value)(k:Value->M β):M β:=match x with
 | .slice _ n _=>k (.int .i64 (.ofNat n))
 |_=> .fail
def eI(x:Value)(k:Value->M β):M β:=match x with
 | .string ⟨⟨l⟩⟩=>k (.int .i64 (.ofNat (gN l)))
 |_=> .fail
def jz(x y:Value)(k:Value->M β):M β:=match x with
 | .int a p=>match y with
   | .int _ q=>k (.int a (match rQ q p with
     |true=>q
     |false=>p))
   |_=> .fail
 |_=> .fail
def JY(x y z u v w:Value)(k:Value->M β):M β:=jz x y fun a=>jz a z fun a=>jz a u fun a=>jz a v fun a=>jz a w k
def qz(x y:Value)(k:Value->M β):M β:=match x with
 | .int a p=>match y with
   | .int _ q=>k (.int a (match rQ p q with
     |true=>q
     |false=>p))
   |_=> .fail
 |_=> .fail
def D7(c a b:Value)(k:Value->M β):M β:=match c with
 | .bool true=>k a
 | .bool false=>k b
 |_=> .fail
def ai(x:Value)(k:Value->M β):M β:=match x with
 | .pointer (some a)=>k (.pointer (some a))
 | .func (.func f) a b=>k (.func (.func f) a b)
 |_=> .fail
def aQ(K:Nat)(x:Value)(k:Value->M β):M β:=match x with
 | .pointer (some ⟨b,a,none⟩)=>k (.pointer (some ⟨b,eT a K,none⟩))
 |_=> .fail
def D8(K:Nat)(x:Value)(k:Value->M β):M β:=match x with
 | .agg ⟨l⟩=>match qt l K with
   |some v=>k v
   |none=> .fail
 |_=> .fail
def D9(K m:Nat)(x:Value)(k:Value->M β):M β:=match x with
 | .agg ⟨l⟩=>k (.agg ⟨(l.drop K).take m⟩)
 |_=> .fail
def aM(x c:Value)(k:Value->M β):M β:=match x with
 | .slice (some ⟨b,a,none⟩) n _=>match c with
   | .int _ (.ofNat i)=>match bh (dT i) n with
     |true=>k (.pointer (some ⟨b,eT a i,none⟩))
     |false=> .fail
   |_=> .fail
 |_=> .fail
def qA(sz:Nat)(x c:Value)(k:Value->M β):M β:=match x with
 | .slice (some ⟨b,a,none⟩) n _=>match c with
   | .int _ (.ofNat i)=>match bh (dT i) n with
     |true=>k (.pointer (some ⟨b,eT a (IB i sz),none⟩))
     |false=> .fail
   |_=> .fail
 |_=> .fail
def eW(n:Nat)(x c:Value)(k:Value->M β):M β:=match x with
 | .pointer (some ⟨b,a,none⟩)=>match c with
   | .int _ (.ofNat i)=>match bh (dT i) n with
     |true=>k (.pointer (some ⟨b,eT a i,none⟩))
     |false=> .fail
   |_=> .fail
 |_=> .fail
def zE(n sz:Nat)(x c:Value)(k:Value->M β):M β:=match x with
 | .pointer (some ⟨b,a,none⟩)=>match c with
   | .int _ (.ofNat i)=>match bh (dT i) n with
     |true=>k (.pointer (some ⟨b,eT a (IB i sz),none⟩))
     |false=> .fail
   |_=> .fail
 |_=> .fail
def jc(x a:Value)(k:Value->M β):M β:=match x with
 | .string ⟨⟨l⟩⟩=>match a with
   | .int _ (.ofNat i)=>match oU l i with
     |some c=>k (.int .u8 (.ofNat c.toNat))
     |none=> .fail
   |_=> .fail
 |_=> .fail
def qB(n:Nat)(x a:Value)(k:Value->M β):M β:=match x with
 | .agg ⟨l⟩=>match a with
   | .int _ (.ofNat i)=>match bh (dT i) n with
     |true=>match qt l i with
      |some v=>k v
      |none=> .fail
     |false=> .fail
   |_=> .fail
 |_=> .fail
def aW(x:Value)(i:Nat)(k:Value->M β):M β:=match x with
 | .tuple ⟨l⟩=>match qt l i with
   |some v=>k v
   |none=> .fail
 |_=> .fail
def o0(o:Option Value)(d:Nat):Option Nat:=match o with
 |none=>some d
 |some (.int _ (.ofNat i))=>some i
 |_=>none
def rU(x:Value)(lo c:Option Value)(k:Value->M β):M β:=match x with
 | .string ⟨⟨l⟩⟩=>match o0 lo 0 with
   |some a=>match o0 c (gN l)with
    |some b=>match bh a b with
     |true=>match bh b (gN l)with
      |true=>k (.string ⟨⟨(l.drop a).take (C1 b a)⟩⟩)
      |false=> .fail
     |false=> .fail
    |none=> .fail
   |none=> .fail
 |_=> .fail
def aG(x:Value)(k:Value->M β):M β:=match x with
 | .pointer (some ⟨b,a,none⟩)=>dy (uB b a) k
 |_=> .fail
def bO(sz:Nat)(x:Value)(k:Value->M β):M β:=match x with
 | .pointer (some ⟨b,a,none⟩)=>dy ((gn b a sz).bind fun c=> .ret (.agg ⟨c⟩)) k
 |_=> .fail
def aK(a x:Value)(k:Value->M β):M β:=match a with
 | .pointer (some ⟨b,c,none⟩)=>match one x with
   |true=>dy ((rR b c x).bind fun _=> .ret undef) k
   |false=> .fail
 |_=> .fail
def bW(sz:Nat)(a x:Value)(k:Value->M β):M β:=match a with
 | .pointer (some ⟨b,c,none⟩)=>match x with
   | .agg ⟨l⟩=>match bq (dU l) sz with
     |true=>dy ((mD b c l).bind fun _=> .ret undef) k
     |false=> .fail
   |_=> .fail
 |_=> .fail
def dF(e:TypeId)(z:List Value)(k:Value->M β):M β:=dy ((hZ e z).bind fun id=> .ret (.pointer (some ⟨id,0,none⟩))) k
def fp(e:TypeId)(v:Value)(k:Value->M β):M β:=dy ((hZ e (cS v)).bind fun id=> .ret (.pointer (some ⟨id,0,none⟩))) k
def ee:List Value->List (Nat×Nat×Value)->Option (List Value)
 |cs,[]=>some cs
 |cs,q::r=>match bq (dU (cS q.2.2)) q.2.1 with
  |true=>match bh (eT q.1 (dU (cS q.2.2))) (dU cs)with
   |true=>ee (nF cs q.1 (cS q.2.2)) r
   |false=>none
  |false=>none
def dh(z:List Value)(ps:List (Nat×Nat×Value))(k:Value->M β):M β:=match ee z ps with
 |some a=>k (.agg ⟨a⟩)
 |none=> .fail
def db(e:TypeId)(sz:Nat)(v:Value)(k:Value->M β):M β:=match bq (dU (cS v)) sz with
 |true=>dy ((hZ e (cS v)).bind fun id=> .ret (.slice (some ⟨id,0,none⟩) 1 1)) k
 |false=> .fail
def o6(e:TypeId)(z:List Value)(len:Nat)(ps:List (Nat×Nat×Value))(k:Value->M β):M β:=match ee z ps with
 |some a=>dy ((hZ e a).bind fun id=> .ret (.slice (some ⟨id,0,none⟩) len len)) k
 |none=> .fail
def iL(z:List Value):Nat->List Value
 |0=>[]
 |n+1=>oW z (iL z n)
def fQ(e:TypeId)(z:List Value)(l c:Value)(k:Value->M β):M β:=match l with
 | .int _ (.ofNat l)=>match c with
   | .int _ (.ofNat c)=>match bh l c with
     |true=>match bh c 1099511627776 with
      |true=>dy ((hZ e (iL z c)).bind fun id=> .ret (.slice (some ⟨id,0,none⟩) l c)) k
      |false=> .fail
     |false=> .fail
   |_=> .fail
 |_=> .fail
def o7(sz:Nat)(a:Option Addr)(len cap:Nat)(lo d:Option Value):Option Value:=match dE d len,dE lo 0 with
 |some h,some l=>
  if l<=h&&h<=cap&&cap<=cap&&(cap<aL||((none:Option Value).isNone&&h<=len))then
   match a with
   |none=>some (.slice none (h-l) (cap-l))
   |some ⟨b,c,none⟩=>some (.slice (some ⟨b,if cap=l then c else c+l*sz,none⟩) (h-l) (cap-l))
   |_=>none
  else none
 |_,_=>none
def j5(e:TypeId)(sz:Nat)(x:Value)(lo c:Option Value)(k:Value->M β):M β:=match x with
 | .slice none len cap=>match o7 sz none len cap lo c with
   |some v=>k v
   |none=> .fail
 | .slice (some ⟨b,a,none⟩) len cap=>dy ((uC b).bind fun d=>match bq d e with
   |true=>M.lift (o7 sz (some ⟨b,a,none⟩) len cap lo c)
   |false=> .fail) k
 |_=> .fail
def uE(e:TypeId)(n sz b off l cap:Nat)(c:List Value):M Value:=
 if cap<aL then
  if l+n<=cap then(mD b (off+l*sz) c).bind fun _=> .ret (.slice (some ⟨b,off,none⟩) (l+n) cap)
  else(gn b off (l*sz)).bind fun a=>(hZ e (a++c)).bind fun id=> .ret (.slice (some ⟨id,0,none⟩) (l+n) (aL+(l+n)))
 else(gn b off (l*sz)).bind fun a=>(DX b).bind fun _=>(hZ e (a++c)).bind fun id=> .ret (.slice (some ⟨id,0,none⟩) (l+n) (aL+(l+n)))
def kP(e:TypeId)(sz:Nat)(s x:Value):M Value:=match fx x with
 |some n=>
  if n=0 then(match s with| .slice _ _ _=> .ret s|_=> .fail)else
  match s with
  | .slice none 0 0=>if n<=1099511627776 then(qv sz n x).bind fun a=>if a.length=n*sz&&a.all one then(hZ e ([]++a)).bind fun id=> .ret (.slice (some ⟨id,0,none⟩) (0+n) (aL+(0+n)))else .fail else .fail
  | .slice (some ⟨b,c,none⟩) l cap=>
    if l+n<=1099511627776 then
    (uC b).bind fun d=>if d=e then
      (qv sz n x).bind fun a=>if a.length=n*sz&&a.all one then uE e n sz b c l cap a else .fail
    else .fail
    else .fail
  |_=> .fail
 |none=> .fail
def cN(e:TypeId)(sz:Nat)(s x:Value)(k:Value->M β):M β:=dy (kP e sz s x) k
def rV(sz:Nat)(d s:Value):M Value:=match d,fx s with
 | .slice a f _,some c=>
   if 0<Nat.min c f then(match a with
    |some ⟨b,e,none⟩=>(qv sz (Nat.min c f) s).bind fun g=>(mD b e g).bind fun _=> .ret (.int .i64 (Nat.min c f))
    |_=> .fail)
   else .ret (.int .i64 0)
 |_,_=> .fail
def zF(sz:Nat)(d s:Value)(k:Value->M β):M β:=dy (rV sz d s) k
def kQ(x:Value)(k:Value->M β):M β:=match x with
 | .slice (some ⟨b,a,none⟩) len _=>dy ((gn b a len).bind fun c=>match j2 c with
   |some l=> .ret (.string ⟨⟨l⟩⟩)
   |none=> .fail) k
 | .slice none _ _=>k (.string ⟨⟨[]⟩⟩)
 |_=> .fail
def uF(e:TypeId)(x:Value)(k:Value->M β):M β:=match x with
 | .string ⟨⟨l⟩⟩=>match bh (gN l) 1099511627776 with
   |true=>dy ((hZ e (l.map fun b=>iz .u8 (.ofNat b.toNat))).bind fun id=> .ret (.slice (some ⟨id,0,none⟩) (gN l) (aL+gN l))) k
   |false=> .fail
 |_=> .fail
def aj(R:FuncId->Array Value->M Value)(f:FuncId)(vs:List Value)(k:Value->M β):M β:=dy (R f ⟨vs⟩) k
end
end Go.Proofs.YtcehhgppfahbkaaGreatDoor.Ev
