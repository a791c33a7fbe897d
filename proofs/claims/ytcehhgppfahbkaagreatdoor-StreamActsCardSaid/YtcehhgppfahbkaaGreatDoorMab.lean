import Derived.Test.YtcehhgppfahbkaaGreatDoorMaa
import Derived.Laws.StructEq
open Nat renaming le_refl→ai, ble→bK, beq→bZ, lt_succ_self→dK, lt_of_lt_of_le→eD, succ→ff, zero_add→fy, add_mul→fW, le_of_ble_eq_true→fX, add→fY, add_zero→gX, mod→j5, eq_of_beq_eq_true→kC, div→kD, ble_eq_true_of_le→lI, pred→r5, eq_zero_or_pos→zu, sub→Hv, blt→Hw, mul→Ot, ne_of_beq_eq_false→Ou, rec→adn, blt_eq→aqc, pow→aqg
open List renaming length_append→aG, getElem?_eq_getElem→aJ, all_eq_true→mu, map_map→qA, rec→Cr, any_nil→adj, mapM_cons→apX, tail→ap', tail_drop→ap_
open Bool renaming and_eq_true→cD, or_eq_true→mr, false_eq_true→nD, true_and→oA, or_eq_false_iff→xq, false_or→Co, and_false→Hs, or_false→adk, not_eq_true'→Oq
open UInt8 renaming ofNat→dT
open Go.Op renaming operands→dX, equal→r4, equalIn→xr, bytesLess→Cq, eqFields→ap9
open Option.some renaming injEq→ep
open Go.Sem renaming run_bind→eF, run_pure→oB, bind→zs
open Go.Result renaming andThen→eP
open Go.Region renaming wanted→fP
open Go.Value renaming int→gW
open Go.Builtin renaming firstCells→kB, append_→zw, zeroCells→Hp, copy_→Hq, len_→Om, lenOf→adg
open Go.Instr renaming fill→lG, index→Cp
open Array renaming toList_map→qz, getElem?_toList→Hr, ext'→Of, mem_append→aqa
open Go.RowKit.Below renaming refl→rX
open Go.Call renaming operands→xp
open Option renaming map_some→Cg, mem_def→adi
open Go.IntKind renaming bits→Ht, wrap→adl, signed→adm
open Function renaming comp_def→Ol
open List.cons renaming inj→Ov
open Go.Question renaming cut→adb, forced→ap1
open ByteArray renaming data_extract→adh, push→ado, empty→arV
open Go.World renaming cell?→apM
open Int renaming negSucc→aqb
open Go.Deferred renaming ofValue→arT
open Int.ofNat renaming inj→arU
set_option linter.unusedVariables false
set_option linter.unusedSimpArgs false
namespace Go.Proofs.YtcehhgppfahbkaaGreatDoor.Ev
open Go Go.RowKit
section
variable {P:Program} {base:Nat} {m:Mp} {w:World} {h h1:H} {n n1:Nat} {r:Value} {L:List En}
theorem qN{x x':Value}{k:Nat}(b:VR m x x')(a:gd x=some k)(w:World):(adg x').run P w= .ok k w:=by cases b<;>simp[gd]at a<;>subst a<;>rfl
theorem H6{sz k u:Nat}{x x':Value}{vs:List Value}(B:VR m x x')(q:gd x=some k)(E:0<k)(wr:WR P m base h w.heap)(g:ji sz u x h n=some ⟨vs,h1,n1,L⟩):
 h1=h∧n1=n∧∃a,bo m vs a∧∀e:World,e.heap=w.heap->(kB sz u x').run P e= .ok a.toArray e:=by
 unfold ji at g;split at g
 ·rename_i b t l c;simp[gd]at q;subst q;cases B with
  |@fR _ _ _ _ C F d hd D K J I G=>
   obtain⟨rfl,rfl,p,a,f,A⟩:=sI wr hd g;refine⟨rfl,rfl,a,f,fun e y=> ?_⟩;have z:a.length=u*sz:=by rw[<-f.length,p]
   have:=xG (P:=P) (w:=e) (c:=d.dD) (o:=d.sh+t) (vs:=a) (fun j v r=>by
    have:=A j v r;unfold apM at this⊢
    rw[y];exact this)
   rw[z]at this;simp only[kB,D (.inl E)];exact this
 ·rename_i s;simp[gd]at q;subst q;cases B;obtain⟨rfl,rfl,rfl⟩:=bX g
  refine⟨rfl,rfl,_,bo.mG rfl (fun j v r=>⟨v,r, ?_⟩),fun e _=>by
   simp[kB];apply Of
   simp⟩
  have i:=List.mem_of_getElem? r;simp only[adh,Array.map_extract,Array.toList_extract,List.extract_eq_take_drop,List.drop_zero,qz]at i;have i:=List.mem_of_mem_take i;simp at i;obtain⟨b,_,rfl⟩:=i;exact .int _ _
 ·cases g
theorem aeb{c o:Nat}{e:TypeId}{lo k:Nat}:∀(vs:List Value) (i:Nat) (w:World) (cs:Array Value),w.heap[c]? =some (.cells cs e (lo,k))->(∀j,j<vs.length->o+i+j<cs.size∧¬(lo<=o+i+j∧o+i+j<k))->(∀v∈vs,Ev.one v=true)->base<=c->
 ∃w' cs',(storeCells ⟨c,o,none⟩ vs i).run P w= .ok () w'∧w'.heap[c]? =some (.cells cs' e (lo,k))∧cs'.size=cs.size∧(∀j,cs'[j]? =if o+i<=j∧j<o+i+vs.length then vs[j-(o+i)]? else cs[j]?)∧(∀b,b≠c->w'.heap[b]? =w.heap[b]?)∧Below base w w':=by
 intro vs
 induction vs with
 |nil=>intro i w cs f _ _ _;exact⟨w,cs,rfl,f,rfl,fun j=>by rw[if_neg jS],fun _ _=>rfl,rX _ _⟩
 |cons v vs m=>
  intro i w cs f d h1 l;obtain⟨a,q⟩:=d 0 jS
  have iD:(w.setCell ⟨c,o+i,none⟩ v).heap[c]? =some (.cells (cs.setIfInBounds (o+i) v) e (lo,k)):=by simp only[World.setCell,Array.getElem?_modify,if_true,f];simp
  obtain⟨w',cs',A,z,y,x,t,s⟩:=m (i+1) (w.setCell ⟨c,o+i,none⟩ v) _ iD (fun j h=>by
   have:=d (j+1) (by simpa using h);rw[show o+(i+1)+j=o+i+(j+1) by omega]
   simpa using this) (fun u n=>h1 u (by simp[n])) l
  refine⟨w',cs', ?_,z,by rw[y];simp,fun j=> ?_,fun b g=> ?_,((rX base w).setCell (p:=⟨c,o+i,none⟩) l _).trans s⟩
  ·unfold storeCells;rw[nN];show(zs (store _ _) _).run P w=_;unfold store;simp only[zs]
   rw[O2 (by rw[uH w _ _ f];simpa using a) (by
    unfold World.frozen?;simp only[f,Bool.and_eq_false_iff,decide_eq_false_iff_not]
    omega) (h1 v jS)]
   exact A
  ·rw[x j];simp only[List.length_cons];by_cases h:o+(i+1)<=j∧j<o+(i+1)+vs.length
   ·rw[if_pos h,if_pos jO];rw[show j-(o+i)=(j-(o+(i+1)))+1 by omega];simp
   ·rw[if_neg h];by_cases r:j=o+i
    ·subst r;rw[if_pos jO];simp at a;simp[a]
    ·rw[if_neg jO,Array.getElem?_setIfInBounds_ne jO]
  ·rw[t b g,Below.heap_setCell w _ _ _ g]
theorem H7 {c:Array TypeId} {t u ty e:TypeId} {i:TypeInfo} {x:Value} {k:Nat} {news:List Value} {b off l cap:Nat} {w':World} (f:c[0]? =some t) (d:c[1]? =some u) (n:P.underlying t=some (.slice e)) (m:(∃h,P.underlying u=some (.slice h))∨P.underlying u=some .string) (p:P.info? e=some i)
 (o:(adg x).run P w= .ok k w) (a:l+k<=cap) (j:(kB i.size k x).run P w= .ok news.toArray w) (g:(storeCells ⟨b,off+l*i.size,none⟩ news).run P w= .ok () w'):
 (zw c ty #[.slice (some ⟨b,off,none⟩) l cap,x]).run P w= .ok (.slice (some ⟨b,off,none⟩) (l+k) cap) w':=by
 rcases m with ⟨h,hk⟩|hk<;>simp[zw,f,d,run_underlying n,run_underlying hk,sizeOf,typeInfo,p,o,a,j,nN,g]
theorem H8 {b:Array TypeId} {t u ty e:TypeId} {i:TypeInfo} {z:Value} {x:Value} {k:Nat} {olds news:List Value} {o:Option Addr} {l cap:Nat} (g:b[0]? =some t) (f:b[1]? =some u) (s:P.underlying t=some (.slice e)) (r:(∃n,P.underlying u=some (.slice n))∨P.underlying u=some .string) (B:P.info? e=some i) (p:i.zero=some z)
 (A:(adg x).run P w= .ok k w) (a:cap<l+k) (h:l+k<=1099511627776) (j:i.bytes<=64) (q:(kB i.size k x).run P w.drew= .ok news.toArray w.drew) (v:(kB i.size l (.slice o l cap)).run P w.drew= .ok olds.toArray w.drew):
 (zw b ty #[.slice o l cap,x]).run P w= .ok (.slice (some ⟨w.heap.size,0,none⟩) (l+k) (grownCap w (l+k) cap e))
   (w.drew.alloc (.cells ((olds++news).toArray++Hp z.cells (grownCap w (l+k) cap e-(l+k))) e)):=by
 have y:¬(l+k<=cap):=jO;have c:¬(9223372036854775807<((l:Int)+(k:Int))):=jO
 have m:=growslice_fits (need:=l+k) (old:=cap) (bytes:=i.bytes) a (by
  have:=Nat.mul_le_mul h j
  omega)
 have d:¬(281474976710656<Builtin.nextslicecap (l+k) cap*i.bytes):=jO
 rcases r with ⟨n,hk⟩|hk<;>
  (simp[zw,g,f,run_underlying s,run_underlying hk,sizeOf,typeInfo,zeroValue,B,p,A,y,c,d,ap1,q,v,newRow,grownCap]
   congr 2;apply Of
   simp[List.append_assoc])
theorem size_zeroCells(z:Array Value)(k:Nat):(Hp z k).size=k*z.size:=by simp[Hp]
theorem aec(w:World)(need old:Nat)(e:TypeId):need<=grownCap w need old e:=by unfold grownCap adb;exact Nat.le_add_right _ _
theorem H9 {e:TypeId} {i:TypeInfo} {z:Value} {l k cap:Nat} {old c old' a:List Value} (x:WR P m base h w.heap) (I:base<=w.heap.size) (F:iC m n n1) (E:P.info? e=some i) (o:z.cells.size=i.size) (B:bo m old old') (C:bo m c a) (s:old.length=l*i.size) (t:c.length=k*i.size)
 (y:nH e l k old c h n=some ⟨r,h1,n1,L⟩):∃m',cP P m base n n1 w h1 m' (w.drew.alloc (.cells ((old'++a).toArray++Hp z.cells (grownCap w (l+k) cap e-(l+k))) e))∧
   VR m' r (.slice (some ⟨w.heap.size,0,none⟩) (l+k) (grownCap w (l+k) cap e)):=by
 unfold nH at y;obtain⟨id,O,N,R,Q,K,J,_⟩:=bind_some y;obtain⟨rfl,rfl,rfl⟩:=bX J;have G:=aec w (l+k) cap e;have f:=B.append C;have b:=f.length
 obtain⟨rfl,rfl,m',u,g⟩:=uI (w:=w.drew) (P:=P) (m:=m) (base:=base) x K F I (cs':=(old'++a).toArray++Hp z.cells (grownCap w (l+k) cap e-(l+k))) (by simp at b⊢;omega) (fun j v D=>by
  obtain⟨A,d,p⟩:=f.get j v D;refine⟨A, ?_,p⟩
  have:j<(old'++a).length:=by
   rcases Nat.lt_or_ge j (old'++a).length with q|q
   ·exact q
   ·rw[List.getElem?_eq_none q]at d;cases d
  rw[Array.getElem?_append_left (by simpa using this)]
  simpa using d) (esz:=i.size) (by simp[size?,E])
 refine⟨m',⟨g.le,g.out,g.wr,(Below.drew (rX base w)).trans g.below⟩,VR.fR u (fun _=>rfl) (fun q=>by unfold aU at q;omega) (fun _=>⟨ai _,jO⟩) G ?_⟩;simp only[Array.size_append,size_zeroCells,o,List.size_toArray,<-b,aG,s,t];rw[<-fW,<-fW,fy];exact Nat.le_of_eq (by congr 1;omega)
theorem aed {w6:Array TypeId} {t u ty:TypeId} {s s' x x':Value} (F:w6[0]? =some t) (E:w6[1]? =some u) (hu:(∃e',P.underlying u=some (.slice e'))∨P.underlying u=some .string) (hs:VR m s s') (U:VR m x x') (wr:WR P m base h w.heap) (hb:base<=w.heap.size) (hf:iC m n n1)
 (f:pH P t s x h n=some ⟨r,h1,n1,L⟩):Sound P base m w h n (zw w6 ty #[s',x']) r h1 n1:=by
 unfold pH at f;cases ht:P.underlying t with
 |none=>rw[ht]at f;cases f
 |some dt=>
  rw[ht]at f;cases dt<;>try(cases f;done)
  rename_i e;simp only at f;cases K:P.info? e with
  |none=>rw[K]at f;cases f
  |some ie=>
   cases hz:fQ P e with
   |none=>rw[K,hz]at f;cases f
   |some z=>
    cases O:gd x with
    |none=>rw[K,hz,O]at f;cases f
    |some k=>
     rw[K,hz,O]at f;simp only at f;obtain⟨i2,v5,v8⟩:=CJ hz;rw[K]at v5;cases v5;split at f
     ·rename_i u5;simp only[cD,decide_eq_true_eq]at u5;obtain⟨⟨v7,g'⟩,w5⟩:=u5;by_cases hk:k=0
      ·rw[if_pos hk]at f;subst hk;cases hs<;>try(cases f;done)
       case mI l cap A=>
        obtain⟨rfl,rfl,rfl⟩:=bX f;refine⟨m,w,.slice none l cap, ?_,cP.refl wr,.mI _ _ A⟩
        have X:(kB ie.size 0 x').run P w= .ok #[] w:=by cases U<;>simp[gd]at O<;>simp[kB,loadCells,loadCellsFrom]
        have:=qN (P:=P) U O w;rcases hu with ⟨e',hk⟩|hk<;>simp[zw,F,E,run_underlying ht,run_underlying hk,sizeOf,typeInfo,K,this,A.1,X]
       case pP b off s a'=>
        obtain⟨rfl,rfl,rfl⟩:=bX f;refine⟨m,w,.slice (some a') 0 0, ?_,cP.refl wr,.pP _ _ _ _⟩
        have X:(kB ie.size 0 x').run P w= .ok #[] w:=by cases U<;>simp[gd]at O<;>simp[kB,loadCells,loadCellsFrom]
        have:=qN (P:=P) U O w;rcases hu with ⟨e',hk⟩|hk<;>simp[zw,F,E,run_underlying ht,run_underlying hk,sizeOf,typeInfo,K,this,X,storeCells]
       case fR b off l cap y o' d hd ho c1 c2 c3 c4=>
        obtain⟨rfl,rfl,rfl⟩:=bX f;refine⟨m,w,_, ?_,cP.refl wr,.fR hd ho c1 c2 c3 c4⟩
        have X:(kB ie.size 0 x').run P w= .ok ([]:List Value).toArray w:=by cases U<;>simp[gd]at O<;>simp[kB,loadCells,loadCellsFrom]
        have:=H7 (P:=P) (ty:=ty) F E ht hu K (qN (P:=P) U O w) (b:=d.dD) (off:=o') (l:=l) (cap:=y) jO X (w':=w) rfl;simpa using this
      ·rw[if_neg hk]at f;have x5:0<k:=jO;cases hs<;>try(cases f;done)
       case mI l cap A=>
        cases l<;>try(cases f;done)
        cases cap<;>try(cases f;done)
        simp only at f;split at f
        ·rename_i u3;obtain⟨u9,h2,n2,L1,L2,e1,Q,_⟩:=bind_some f;obtain⟨rfl,rfl,D,hn,W⟩:=H6 U O x5 wr e1;split at Q
         ·rename_i hc;simp only[cD,decide_eq_true_eq]at hc;obtain⟨T,hp,hv⟩:=H9 (cap:=0) (old:=[]) (old':=[]) (l:=0) wr hb hf K v7 .nil hn jS hc.1 Q;refine⟨T,_,_, ?_,hp,hv⟩;exact H8 (P:=P) F E ht hu K v8 (qN (P:=P) U O w) jO jO w5 (W _ rfl) (by simp[kB])
         ·cases Q
        ·cases f
       case fR b off l cap y o' d hd ho c1 c2 c3 c4=>
        simp only at f;split at f
        ·rename_i u3;obtain⟨e',h2,n2,L1,L2,e1,Q,_⟩:=bind_some f;obtain⟨rfl,rfl,d2,x9,x8,B0,y0,z6⟩:=O1 wr e1;rw[hd]at x9;cases x9;split at Q
         ·rename_i he;subst he;have u4:ie.size=d.esz:=by simpa[size?,K]using x8
          obtain⟨u9,h3,n3,L3,L4,e3,e4,_⟩:=bind_some Q;obtain⟨rfl,rfl,D,hn,W⟩:=H6 U O x5 wr e3;split at e4
          ·rename_i hc;simp only[cD,decide_eq_true_eq]at hc;obtain⟨v1,w3⟩:=hc;have x3:D.length=k*ie.size:=by rw[<-hn.length];exact v1
           have w1:∀v∈D,Ev.one v=true:=by
            intro v hv;obtain⟨j,hj⟩:=List.mem_iff_getElem?.1 hv
            have C:j<u9.length:=by rw[hn.length];exact(List.getElem?_eq_some_iff.1 hj).1
            obtain⟨v2,w9,y7⟩:=hn.get j u9[j] (by simp[C]);rw[hj]at w9;cases w9;rw[y7.one];exact mu.1 w3 _ (List.getElem_mem C)
           unfold uB at e4;by_cases A:cap<aU
           ·rw[if_pos A]at e4;have z4:=c1 A;subst z4;have w0:=ho (.inr A);subst w0;by_cases g:l+k<=y
            ·rw[if_pos g]at e4;obtain⟨uu,h5,R,L5,L6,e5,e6,_⟩:=bind_some e4;obtain⟨rfl,rfl,rfl⟩:=bX e6;cases uu;obtain⟨rfl,w',y6,x2,z5⟩:=HW hd hn (i:=0) (d.sh+off+l*ie.size) jO wr e5;refine⟨m,w',_, ?_,⟨Le.refl _,fun _ _=>rfl,x2,z5⟩,.fR hd (fun _=>rfl) (fun _=>rfl) (fun q=>by omega) jO c4⟩;exact H7 (P:=P) F E ht hu K (qN (P:=P) U O w) g (W w rfl) y6
            ·rw[if_neg g]at e4;obtain⟨old,h5,R,L5,L6,e5,e6,_⟩:=bind_some e4;obtain⟨rfl,rfl,I,old',G,v0⟩:=sI wr hd e5;obtain⟨T,hp,hv⟩:=H9 (cap:=y) wr hb hf K v7 G hn I v1 e6;refine⟨T,_,_, ?_,hp,hv⟩;refine H8 (P:=P) F E ht hu K v8 (qN (P:=P) U O w) jO u3 w5 (W _ rfl) ?_;have:=xG (P:=P) (w:=w.drew) (c:=d.dD) (o:=d.sh+off) (vs:=old') v0;rw[<-G.length,I]at this;simpa[kB]using this
           ·rw[if_neg A]at e4;obtain⟨old,h5,R,L5,L6,e5,e6,_⟩:=bind_some e4;obtain⟨rfl,rfl,I,old',G,v0⟩:=sI wr hd e5;obtain⟨uu,h7,n7,L7,L8,e7,e8,_⟩:=bind_some e6;unfold kill at e7;split at e7
            ·split at e7
             ·rename_i l' _ B hB;split at e7
              ·rename_i Z;simp only[ep,Out.mk.injEq]at e7;obtain⟨_,rfl,rfl,_⟩:=e7;have xk:=wr.kill hB
               have x1:∀(w2:World),w2.heap=w.heap->(kB ie.size l (.slice (some ⟨d.dD,o',none⟩) l y)).run P w2= .ok old'.toArray w2:=by
                intro w2 y5
                have p:∀j v,old'[j]? =some v->w2.cell? ⟨d.dD,o'+j,none⟩=some v:=by
                 intro j v hj;have C:j<old'.length:=(List.getElem?_eq_some_iff.1 hj).1
                 have w4:0<l:=by
                  rcases zu l with q|q
                  ·rw[<-G.length,I,q]at C;simp at C
                  ·exact q
                 rw[ho (.inl w4)];have:=v0 j v hj;unfold apM at this⊢;rw[y5];exact this
                have:=xG (P:=P) p;rw[<-G.length,I]at this;simpa[kB]using this
               by_cases g:l+k<=y
               ·
                obtain⟨dB,cs,lo,v5,b1,b2,b3,b4,b5,b6,b7⟩:=wr.live b B hB;rw[hd]at b1;cases b1;obtain⟨z2,u7,x7⟩:=b6 Z;have j':l*d.esz+k*d.esz<=y*d.esz:=by rw[<-fW];exact Nat.mul_le_mul_right _ g
                obtain⟨w',y1,s1,s2,s3,s4,s5,s6⟩:=aeb (P:=P) (base:=base) (o:=o'+l*ie.size) D 0 w cs b2 (fun j hj=>by
                 rw[x3,u4]at hj;rw[u4]
                 exact⟨jO,x7 _ jO⟩) w1 u7
                unfold nH at e8;obtain⟨id,h9,n9,L9,m',e9,z8,_⟩:=bind_some e8;obtain⟨rfl,rfl,rfl⟩:=bX z8;unfold dy at e9;split at e9
                ·rename_i i';simp only[ep,Out.mk.injEq]at e9;obtain⟨rfl,rfl,rfl,_⟩:=e9;have z7:B.elem=e':=by rw[hB]at y0;cases y0;exact z6
                 rw[z2,z7]at s2;have z0:m R=none:=hf R (ai _) jO;obtain⟨T,x4⟩:∃T:Mp,T=fun q=>if q=R then some ⟨d.dD,o',d.uG,d.esz,e'⟩else m q:=⟨_,rfl⟩
                 have v3:T R=some ⟨d.dD,o',d.uG,d.esz,e'⟩:=by rw[x4];simp
                 have u1:∀q,q≠R->T q=m q:=fun q p=>by rw[x4];simp[p]
                 have v4:Le m T:=fun q dd p=>by
                  by_cases e:q=R
                  ·subst e;rw[z0]at p;cases p
                  ·rw[u1 q e];exact p
                 refine⟨T,w',.slice (some ⟨d.dD,o',none⟩) (l+k) y, ?_,⟨v4,fun q p=>u1 q jO,⟨?_, ?_⟩,s6⟩,VR.fR (d:=⟨d.dD,o',d.uG,d.esz,e'⟩) v3 (fun _=>rfl) (fun q=>by unfold aU at*;omega) (fun _=>⟨ai _,jO⟩) g c4⟩
                 ·exact H7 (P:=P) F E ht hu K (qN (P:=P) U O w) g (W w rfl) s1
                 ·intro q B2 p;rw[H.jm _ _]at p;by_cases e:q=R
                  ·subst e;rw[if_pos rfl]at p;cases p;refine⟨_,y1,lo,v5,v3,s2,by rw[s3,b3], ?_,x8,fun _=>⟨rfl,u7,x7⟩,fun j v hj=> ?_⟩
                   ·simp only[aG,I,v1,u4];omega
                   ·obtain⟨v',N,v9⟩:=(G.append hn).get j v hj;refine⟨v', ?_,v9.mono v4⟩;show y1[o'+j]? =_;rw[s4];have u0:old'.length=l*ie.size:=by rw[<-G.length,I]
                    by_cases C:j<old'.length
                    ·rw[if_neg (by rw[u0]at C;omega)];rw[List.getElem?_append_left C]at N
                     have w4:0<l:=by
                      rcases zu l with q|q
                      ·rw[u0,q]at C;simp at C
                      ·exact q
                     have:=v0 j v' N;rw[uH w _ _ b2]at this;rw[ho (.inl w4)];exact this
                    ·have x6:j<(old'++D).length:=(List.getElem?_eq_some_iff.1 N).1;rw[List.getElem?_append_right jO]at N;simp only[aG]at x6;rw[if_pos jO];rw[<-N,u0];congr 1;omega
                  ·rw[if_neg e]at p;obtain⟨d3,z9,y4,z1,g1,g2,g3,g4,g5,g6,g7⟩:=xk.live q B2 p
                   have x0:q≠b∧h5.get q=some B2:=by
                    rw[H.jm _ _]at p;by_cases e3:q=b
                    ·rw[if_pos e3]at p;cases p
                    ·rw[if_neg e3]at p;exact⟨e3,p⟩
                   have y9:d3.dD≠d.dD:=fun e3=>x0.1 (wr.inj q b B2 B d3 d x0.2 hB (.inr Z) g1 hd e3);refine⟨d3,z9,y4,z1,v4 _ _ g1,by rw[s5 _ y9];exact g2,g3,g4,g5,g6,fun j v hj=> ?_⟩;obtain⟨v',N,v9⟩:=g7 j v hj;exact⟨v',N,v9.mono v4⟩
                 ·intro q q' B2 B3 d2 d3 p Y w0 J u2 u6;rw[H.jm _ _]at p Y
                  have w7:∀q B2 d2,q≠R->(h5.set b none).get q=some B2->T q=some d2->d2.dD≠d.dD:=by
                   intro q B2 d2 y8 p J u6;rw[H.jm _ _]at p;by_cases e3:q=b
                   ·rw[if_pos e3]at p;cases p
                   ·rw[if_neg e3]at p;rw[u1 q y8]at J;exact e3 (wr.inj q b B2 B d2 d p hB (.inr Z) J hd u6)
                  by_cases e1:q=R
                  ·by_cases Q:q'=R
                   ·rw[e1,Q]
                   ·rw[if_neg Q]at Y;subst e1;rw[v3]at J;cases J;exact absurd u6.symm (w7 q' B3 d3 Q Y u2)
                  ·rw[if_neg e1]at p;by_cases Q:q'=R
                   ·subst Q;rw[v3]at u2;cases u2;exact absurd u6 (w7 q B2 d2 e1 p J)
                   ·rw[if_neg Q]at Y;rw[u1 q e1]at J;rw[u1 q' Q]at u2;exact xk.inj q q' B2 B3 d2 d3 p Y w0 J u2 u6
                ·cases e9
               ·
                obtain⟨T,hp,hv⟩:=H9 (cap:=y) xk hb hf K v7 G hn I v1 e8;refine⟨T,_,_, ?_,hp,hv⟩;exact H8 (P:=P) F E ht hu K v8 (qN (P:=P) U O w) jO u3 w5 (W _ rfl) (x1 _ rfl)
              ·cases e7
             ·cases e7
            ·cases e7
          ·cases e4
         ·cases Q
        ·cases f
     ·cases f
theorem aee{C:Array TypeId}{t ty:TypeId}{d K s D:Value}(o:C[0]? =some t)(hd:VR m d K)(F:VR m s D)(wr:WR P m base h w.heap)(a:pK P t d s h n=some ⟨r,h1,n1,L⟩):
 Sound P base m w h n (Hq C ty #[K,D]) r h1 n1:=by
 unfold pK at a;cases j:P.underlying t with
 |none=>rw[j]at a;cases a
 |some du=>
  rw[j]at a;cases du<;>try(cases a;done)
  rename_i e;simp only at a;cases c:size? P e with
  |none=>rw[c]at a;cases a
  |some T=>
   cases l:gd s with
   |none=>rw[c,l]at a;cases hd<;>cases a
   |some v=>
    rw[c,l]at a;have f:=qN (P:=P) F l w
    have zero:∀k,¬0<Nat.min v k->Nat.min v k=0∧(kB T (Nat.min v k) D).run P w= .ok #[] w:=by intro k g;have B:Nat.min v k=0:=jO;refine⟨B, ?_⟩;rw[B];cases F<;>simp[gd]at l<;>simp[kB,loadCells,loadCellsFrom]
    cases hd with
    |mI k cap hc=>
     simp only at a;by_cases g:0<Nat.min v k
     ·rw[if_pos g]at a;cases a
     ·rw[if_neg g]at a;obtain⟨rfl,rfl,rfl⟩:=bX a;obtain⟨q,p⟩:=zero k g;refine⟨m,w,_, ?_,cP.refl wr,.int _ _⟩;rw[q]at p;simp[Hq,o,run_underlying j,run_sizeOf c,f,q,p,goInt]
    |pP b x sp a'=>
     simp only at a;by_cases g:0<Nat.min v 0
     ·rw[if_pos g]at a;cases a
     ·rw[if_neg g]at a;obtain⟨rfl,rfl,rfl⟩:=bX a;obtain⟨q,p⟩:=zero 0 g;refine⟨m,w,_, ?_,cP.refl wr,.int _ _⟩;rw[q]at p;simp[Hq,o,run_underlying j,run_sizeOf c,f,q,p,goInt,storeCells]
    |@fR b x k cap N o' dd I U c1 c2 c3 c4=>
     simp only at a;by_cases g:0<Nat.min v k
     ·rw[if_pos g]at a;obtain⟨vs,h2,n2,L1,L2,e1,Z,_⟩:=bind_some a;have z:0<v:=eD g (Nat.min_le_left _ _);have A:0<k:=eD g (Nat.min_le_right _ _);obtain⟨rfl,rfl,R,E,G⟩:=H6 F l z wr e1;obtain⟨u,h3,n3,L3,L4,Y,X,_⟩:=bind_some Z;obtain⟨rfl,rfl,rfl⟩:=bX X;cases u;obtain⟨rfl,Q,y,O,J⟩:=HW I E (i:=0) (dd.sh+x) jO wr Y;refine⟨m,Q,_, ?_,⟨Le.refl _,fun _ _=>rfl,O,J⟩,.int _ _⟩;have W:=G w rfl;rw[<-U (.inl A)]at y;simp[Hq,o,run_underlying j,run_sizeOf c,f,W,y,goInt]
     ·rw[if_neg g]at a;obtain⟨rfl,rfl,rfl⟩:=bX a;obtain⟨q,p⟩:=zero k g;refine⟨m,w,_, ?_,cP.refl wr,.int _ _⟩;rw[q]at p;simp[Hq,o,run_underlying j,run_sizeOf c,f,q,p,goInt,storeCells]
    |_=>cases a
end
theorem bo.maps{m:Mp}{ρ ρ':Operand->Value}:∀(l:List Operand),(∀y∈l,VR m (ρ y) (ρ' y))->bo m (l.map ρ) (l.map ρ')
 |[],_=> .nil
 |x::l,h=> .cons (h x jS) (bo.maps l fun y a=>h y (by simp[a]))
theorem CL{P:Program}{w:World}{s:Sem Value}{v:Value}{w':World}(h:s.run P w= .ok v w'):((do pure (.value (<-s)):Sem Next)).run P w= .ok (.value v) w':=by simp only[eF,h,eP,oB]
section
variable {P:Program} {base:Nat}
def Goal(P:Program)(base:Nat)(m:Mp)(w:World)(n c:Nat)(d:H)(r:Nx)(s:Sem Next):Prop:=∃b a R,s.run P w= .ok R a∧cP P m base n c w d b a∧NR b r R
theorem Goal.of{m:Mp}{w:World}{h b:H}{n a:Nat}{v:Value}{s:Sem Value}(x:Sound P base m w h n s v b a):Goal P base m w n a b (.val v) (do pure (.value (<-s))):=by obtain⟨e,c,d,g,i,f⟩:=x;exact⟨e,c,.value d,CL g,i,.val f⟩
theorem jR{m:M Value}{h h2:H}{n n2:Nat}{r:Nx}{L:List En}(a:(m.bind fun v=>M.ret (Nx.val v)) h n=some ⟨r,h2,n2,L⟩):∃v L',r= .val v∧m h n=some ⟨v,h2,n2,L'⟩:=by obtain⟨v,f,e,d,g,c,b,_⟩:=bind_some a;obtain⟨rfl,rfl,rfl⟩:=bX b;exact⟨v,d,rfl,c⟩
theorem aef{ρ ρ':Operand->Value}{o:Oper}{m:Mp}{w:World}{h j:H}{n g:Nat}{r:Nx}{L:List En}(k:∀cs b,o.op≠ .select cs b)(d:∀y∈o.op.operands,VR m (ρ y) (ρ' y))(x:WR P m base h w.heap)(c:gh P ρ o h n=some ⟨r,j,g,L⟩):
 Goal P base m w n g j r (execOp ρ' o):=by
 unfold gh at c;split at c
 ·rename_i a;obtain⟨v,s,q,u,t,p,f,_⟩:=bind_some c;obtain⟨l,rfl,rfl⟩:=mH p;split at f
  ·rename_i e;obtain⟨rfl,rfl,rfl⟩:=bX f;have:execOp ρ' o=execOp ρ o:=execOp_congr o k fun y i=>(d y i).scalar ((Array.all_eq_true_iff_forall_mem.1 a) y i);rw[this];exact⟨m,w,.value v,adV _ _ l w,cP.refl x,.val (VR.self e)⟩
  ·cases f
 ·cases c
theorem nO{m:Mp}{w:World}{h:H}{n:Nat}{v a:Value}{s:Sem Value}(x:WR P m base h w.heap)(c:s.run P w= .ok a w)(b:VR m v a):Goal P base m w n n h (.val v) (do pure (.value (<-s))):=
 ⟨m,w,.value a,CL c,cP.refl x,.val b⟩
theorem H'{m:Mp}{ρ ρ':Operand->Value}{o:Option Operand}(h:∀y∈o,VR m (ρ y) (ρ' y)):sJ m (o.map ρ) (o.map ρ'):=by
 cases o with
 |none=>trivial
 |some y=>exact h y rfl
theorem aeg{m:Mp}{t:TypeId}{v c u e:Value}{b:Bool}(i:VR m v c)(j:VR m u e)(h:pI (P.underlying t) v u=some b)(w:World):
 (r4 t c e).run P w= .ok b w∧(∀a x y,(eqGuard a t x y c e).run P w= .ok () w)∧(∀a:BinOp,a= .eql∨a= .neq->binOp a t c e=(if a= .eql then do pure (.bool (<-r4 t c e))else do pure (.bool (!(<-r4 t c e))))):=by
 cases hd:P.underlying t with
 |none=>rw[hd]at h;simp[pI]at h
 |some d=>
  rw[hd]at h;have f:Op.maxDepth=9999+1:=rfl;unfold r4;rw[f];cases d<;>try(simp[pI]at h;done)
  all_goals (cases i<;>try(simp[pI]at h;done))
  all_goals (cases j<;>try(simp[pI]at h;done))
  all_goals (
   simp[pI]at h;subst h;refine⟨?_,fun a x y=> ?_,fun a g=> ?_⟩
   ·rw[xr];simp only[eF,run_underlying hd,eP];rfl
   ·unfold eqGuard;split<;>rfl
   ·rcases g with rfl|rfl<;>rfl)
theorem aeh{m:Mp}{d:Nat}{x y x' e:Value}{b:Bool}(h:CD d x y=some b)(c:VR m x x')(a:VR m y e):x'=x∧e=y:=by
 unfold CD at h;split at h
 ·cases c;cases a;exact⟨rfl,rfl⟩
 ·cases c;cases a;exact⟨rfl,rfl⟩
 ·cases c;cases a;exact⟨rfl,rfl⟩
 ·cases h
theorem Pf{m:Mp}:∀{c:List Nat} {l k e f:List Value} {b:Bool},kT c l k=some b->bo m l e->bo m k f->e=l∧f=k∧l.length=c.length∧k.length=c.length
 |[],[],[],_,_,_,_,.nil,.nil=>⟨rfl,rfl,rfl,rfl⟩
 |d::c,x::l,y::k,_,_,b,h,.cons i j,.cons g n=>by
  unfold kT at h;split at h
  ·rename_i a b p o;obtain⟨rfl,rfl⟩:=aeh p i g;obtain⟨rfl,rfl,r,q⟩:=Pf o j n;exact⟨rfl,rfl,by simp[r],by simp[q]⟩
  ·cases h
 |[],[],_::_,_,_,_,h,_,_=>by simp[kT]at h
 |[],_::_,_,_,_,_,h,_,_=>by simp[kT]at h
 |_::_,[],_,_,_,_,h,_,_=>by simp[kT]at h
 |_::_,_::_,[],_,_,_,h,_,_=>by simp[kT]at h
theorem Pg{t:TypeId}{cs:Array Value}{i:Nat}{v:Value}(b:jf P t=some false)(a:cs[i]? =some v)(w:World):(part t cs i).run P w= .ok v w:=by unfold part;simp only[eF,uK b,eP,nD,if_false,a];rfl
theorem Ph{xs ys:Array Value}(D:Nat):∀(m:List Field) (i:Nat) (n:List Nat) (b:Bool),zG P i m=some n->kT n (xs.toList.drop i) (ys.toList.drop i)=some b->∀w,(ap9 (D+1) xs ys m).run P w= .ok b w
 |[],i,n,b,h,e,w=>by
  simp only[zG,ep]at h;subst h;unfold kT at e;split at e<;>first|(cases e;done)|skip
  ·cases e;rfl
  ·rename_i q _ _;cases q
 |f::m,i,n,b,h,e,w=>by
  unfold zG at h;split at h
  ·rename_i d l g O E;split at h
   ·rename_i s;cases h;simp only[cD,bne_iff_ne,ne_eq,beq_iff_eq]at s;obtain⟨o,k⟩:=s;unfold kT at e;split at e<;>first|(cases e;done)|skip
    ·rename_i q _ _;cases q
    ·rename_i Q J x A y z F v t;cases F;split at e
     ·rename_i a N c B;cases e
      have L:xs[i]? =some x:=by rw[<-Hr];have:=congrArg (·[0]?) v;simpa using this
      have K:ys[i]? =some y:=by rw[<-Hr];have:=congrArg (·[0]?) t;simpa using this
      have I:xs.toList.drop (i+1)=A:=by have:=congrArg ap' v;simpa[ap_]using this
      have G:ys.toList.drop (i+1)=z:=by have:=congrArg ap' t;simpa[ap_]using this
      have r:jf P f.type=some false∧∀w,(xr (D+1) f.type x y).run P w= .ok a w:=by
       unfold OS at g;unfold jf;cases j:P.underlying f.type with
       |none=>rw[j]at g;cases g
       |some u=>
        rw[j]at g;unfold CD at c;cases u<;>first|(cases g;done)|skip
        ·cases g;refine⟨rfl,fun w=> ?_⟩;split at c<;>first|(cases c;done)|skip
         ·rename_i q;cases q
         ·rename_i q;cases q
         ·cases c;simp[xr,run_underlying j]
        ·cases g;refine⟨rfl,fun w=> ?_⟩;split at c<;>first|(cases c;done)|skip
         ·split at c
          ·rename_i p;cases c;simp[xr,run_underlying j,p]
          ·cases c
         ·rename_i q;cases q
         ·rename_i q;cases q
        ·cases g;refine⟨rfl,fun w=> ?_⟩;split at c<;>first|(cases c;done)|skip
         ·rename_i q;cases q
         ·cases c;simp[xr,run_underlying j]
         ·rename_i q;cases q
      have C:=Ph (xs:=xs) (ys:=ys) D m (i+1) l N E (by rw[I,G];exact B);unfold ap9;rw[if_pos o];simp only[eF,k,Pg r.1 L,Pg r.1 K,eP,r.2];cases a
      ·simp
      ·simpa using C w
     ·cases e
   ·cases h
  ·cases h
theorem aei{m:Mp}{t:TypeId}{v c u d:Value}{b:Bool}(s:VR m v c)(z:VR m u d)(h:pJ P t v u=some b)(w:World):
 (r4 t c d).run P w= .ok b w∧(∀a x y,(eqGuard a t x y c d).run P w= .ok () w)∧(∀a:BinOp,a= .eql∨a= .neq->binOp a t c d=(if a= .eql then do pure (.bool (<-r4 t c d))else do pure (.bool (!(<-r4 t c d))))):=by
 unfold pJ at h;split at h
 ·rename_i E C;cases h;exact aeg s z C w
 ·unfold HM at h;split at h
  ·rename_i D r q hd A;cases s with
   |agg n=>
   cases z with
   |agg l=>
   rename_i f e;obtain⟨k,j,_,_⟩:=Pf h n l;have k:f=r:=by cases f;cases r;simp at k;rw[k]
   have j:e=q:=by cases e;cases q;simp at j;rw[j]
   subst k;subst j;unfold uC at hd;split at hd
   ·rename_i B g;split at hd
    ·cases hd
    ·rename_i p;simp only[mr,not_or,Bool.not_eq_true]at p;have i:P.fieldsOf t=B:=by unfold Program.fieldsOf;rw[g]
     refine⟨?_,fun a x y=>run_eqGuard_agg w a t x y _ _ p.2,fun a o=> ?_⟩
     ·show(xr (9998+1+1) t _ _).run P w=_;rw[run_equalIn_struct w (9998+1) t _ _ (by rw[i];exact g) p.1,i];exact Ph 9998 B.toList 0 D b hd h w
     ·rcases o with rfl|rfl<;>rfl
   ·cases hd
  ·cases h
theorem aej{a b:Option TypeDesc}{e:TypeId}(h:si a b=some e):a=some (.slice e)∧b=some .string:=by
 unfold si at h;split at h
 ·cases h;exact⟨rfl,rfl⟩
 ·cases h
theorem aek{a b:Option TypeDesc}{v:Value}{e:TypeId}{s:ByteArray}(h:uD a b v=some (e,s)):a=some .string∧b=some (.slice e)∧v= .string s:=by
 unfold uD at h;split at h
 ·cases h;exact⟨rfl,rfl,rfl⟩
 ·cases h
theorem Pj{e:TypeId}(h:nL P e=true):P.underlying e=some (.int .u8):=by
 unfold nL at h;split at h
 ·assumption
 ·cases h
theorem ael{a:Array TypeId}{args:List Value}{t:TypeId}{d y:Value}(h:xD a args=some (t,d,y)):a[0]? =some t∧args=[d,y]:=by
 unfold xD at h;split at h
 ·rename_i e f c b;cases h;exact⟨b,rfl⟩
 ·cases h
theorem aem{a:Array TypeId}{args:List Value}{t:TypeId}{s y:Value}(h:xC P a args=some (t,s,y)):∃u,a[0]? =some t∧a[1]? =some u∧args=[s,y]∧((∃g,P.underlying u=some (.slice g))∨P.underlying u=some .string):=by
 unfold xC at h;split at h
 ·rename_i j u k i f d;split at h
  ·rename_i b;cases h;refine⟨u,f,d,rfl, ?_⟩;unfold OT at b;split at b
   ·rename_i e c;exact .inl ⟨e,c⟩
   ·rename_i c;exact .inr c
   ·cases b
  ·cases h
 ·cases h
theorem aen{c:Array TypeId}{args:List Value}{k:Nat}(h:uE P c args=some k):∃t e a cp b,c[0]? =some t∧P.underlying t=some (.slice e)∧args= .slice a k cp::b:=by
 unfold uE at h;split at h
 ·rename_i t a n cp b f;split at h
  ·rename_i e d;cases h;exact⟨t,e,a,cp,b,f,d,rfl⟩
  ·cases h
 ·cases h
theorem aeo(w3:sC P=true):uJ P base:=by
 intro ρ ρ' o h n r h1 n1 L m w A B x hb hf;show Goal P base m w n n1 h1 r (execOp ρ' o);have plain:(∀cs b,o.op≠ .select cs b)->gh P ρ o h n=some ⟨r,h1,n1,L⟩->Goal P base m w n n1 h1 r (execOp ρ' o):=fun hs A=>aef hs B x A;unfold cC at A;cases j:o.op with
 |move y=>rw[j]at A B;unfold execOp;rw[j];obtain⟨rfl,rfl,rfl⟩:=bX A;exact⟨m,w,.value (ρ' y),rfl,cP.refl x,.val (B y (by simp[dX]))⟩
 |assign y=>rw[j]at A B;unfold execOp;rw[j];obtain⟨rfl,rfl,rfl⟩:=bX A;exact⟨m,w,.value (ρ' y),rfl,cP.refl x,.val (B y (by simp[dX]))⟩
 |pick c a b=>
  rw[j]at A B;unfold execOp;rw[j];simp only at A;dsimp only;have hc:=B c (by simp[dX]);have ha:=B a (by simp[dX]);have y3:=B b (by simp[dX]);generalize ρ c=vc at A hc;generalize ρ' c=y7 at hc⊢;cases hc<;>try(cases A;done)
  rename_i t;obtain⟨rfl,rfl,rfl⟩:=bX A;refine⟨m,w,.value (if t then ρ' a else ρ' b),by cases t<;>rfl,cP.refl x,.val ?_⟩;cases t
  ·exact y3
  ·exact ha
 |alloc e=>rw[j]at A B;unfold execOp;rw[j];obtain⟨v,Q,rfl,E⟩:=jR A;exact Goal.of (adX x hb hf E)
 |box e y=>rw[j]at A B;unfold execOp;rw[j];obtain⟨v,Q,rfl,E⟩:=jR A;exact Goal.of (adY (B y (by simp[dX])) x hb hf E)
 |build t R=>
  rw[j]at A B;unfold execOp;rw[j];obtain⟨v,Q,rfl,E⟩:=jR A;have w1:(R.toList.map fun(i,x)=>(i,ρ x)).map (·.1)=(R.toList.map fun(i,x)=>(i,ρ' x)).map (·.1):=by simp[Ol]
  have w0:bo m ((R.toList.map fun(i,x)=>(i,ρ x)).map (·.2)) ((R.toList.map fun(i,x)=>(i,ρ' x)).map (·.2)):=by have:=bo.maps (m:=m) (ρ:=ρ) (ρ':=ρ') (R.toList.map (·.2)) fun y J=>B y (by simp only[dX];simpa using J);simpa[qA,Ol]using this
  have v5:(R.map fun(i,x)=>(i,ρ' x))=(R.toList.map fun(i,x)=>(i,ρ' x)).toArray:=by apply Of;simp
  dsimp only;rw[v5];exact Goal.of (ad0 w1 w0 x E)
 |buildSlice t len R=>
  rw[j]at A B;unfold execOp;rw[j];obtain⟨v,Q,rfl,E⟩:=jR A;have w1:(R.toList.map fun(i,x)=>(i,ρ x)).map (·.1)=(R.toList.map fun(i,x)=>(i,ρ' x)).map (·.1):=by simp[Ol]
  have w0:bo m ((R.toList.map fun(i,x)=>(i,ρ x)).map (·.2)) ((R.toList.map fun(i,x)=>(i,ρ' x)).map (·.2)):=by have:=bo.maps (m:=m) (ρ:=ρ) (ρ':=ρ') (R.toList.map (·.2)) fun y J=>B y (by simp only[dX];simpa using J);simpa[qA,Ol]using this
  have v5:(R.map fun(i,x)=>(i,ρ' x))=(R.toList.map fun(i,x)=>(i,ρ' x)).toArray:=by apply Of;simp
  dsimp only;rw[v5];exact Goal.of (ad1 w1 w0 x hb hf E)
 |load t a=>rw[j]at A B;unfold execOp;rw[j];obtain⟨v,Q,rfl,E⟩:=jR A;exact Goal.of (ad2 (B a (by simp[dX])) x E)
 |store t a y=>rw[j]at A B;unfold execOp;rw[j];obtain⟨v,Q,rfl,E⟩:=jR A;obtain⟨rfl,w',x6,hp⟩:=ad3 (B a (by simp[dX])) (B y (by simp[dX])) x E;refine⟨m,w',.skip, ?_,hp,.skip⟩;simp only[eF,x6,eP,oB]
 |nilCheck y=>rw[j]at A B;unfold execOp;rw[j];obtain⟨v,Q,rfl,E⟩:=jR A;obtain⟨rfl,rfl,hv,x7⟩:=ad4 (B y (by simp[dX])) x E;dsimp only;rcases x7 with ⟨a,ha⟩|⟨f,a,b,ha⟩<;>rw[ha]at hv⊢<;>exact⟨m,w,_,rfl,cP.refl x,.val hv⟩
 |binOp op t y z yt=>
  rw[j]at A;simp only at A;have C:=B;rw[j]at C;have J:=C y (by simp[dX]);have hz:=C z (by simp[dX]);cases W:pJ P t (ρ y) (ρ z)with
  |none=>rw[W]at A;exact plain (fun cs b N=>by rw[j]at N;cases N) A
  |some b=>
   rw[W]at A;unfold execOp;rw[j];obtain⟨q1,q2,q3⟩:=aei J hz W w;cases op<;>try(cases A;done)
   case eql=>obtain⟨rfl,rfl,rfl⟩:=bX A;refine nO x ?_ (.bool b);rw[eF,q2];simp only[eP];rw[q3 .eql (.inl rfl),if_pos rfl,eF,q1];rfl
   case neq=>obtain⟨rfl,rfl,rfl⟩:=bX A;refine nO x ?_ (.bool !b);rw[eF,q2];simp only[eP];rw[q3 .neq (.inr rfl),if_neg jD,eF,q1];rfl
 |unOp op t y=>rw[j]at A;exact plain (fun cs b N=>by rw[j]at N;cases N) A
 |convert src w2 y=>
  rw[j]at A;simp only at A;have C:=B;rw[j]at C;have J:=C y (by simp[dX]);have x8:∀cs b,o.op≠ .select cs b:=fun cs b N=>by rw[j]at N;cases N
  cases v3:si (P.underlying src) (P.underlying w2)with
  |some e=>
   rw[v3]at A;obtain⟨hs,hd⟩:=aej v3;simp only at A;split at A
   ·rename_i Y;obtain⟨v,Q,rfl,E⟩:=jR A;obtain⟨a,l,c,Z,u7⟩:=ad6 J x E;unfold execOp;rw[j];simp only[Z]at u7⊢;obtain⟨m',w',v',u0,hp,hv⟩:=u7;exact⟨m',w',.value v',CL (by rw[run_convert_bytes_string w src w2 e a l c hs (Pj Y) hd];exact u0),hp,.val hv⟩
   ·cases A
  |none=>
   rw[v3]at A;simp only at A;cases v4:uD (P.underlying src) (P.underlying w2) (ρ y)with
   |none=>rw[v4]at A;exact plain x8 A
   |some es=>
    obtain⟨e,s⟩:=es;rw[v4]at A;simp only at A;obtain⟨hs,hd,x3⟩:=aek v4;split at A
    ·rename_i Y;simp only[cD,beq_iff_eq]at Y;obtain⟨v,Q,rfl,E⟩:=jR A;rw[x3]at J;have x4:ρ' y= .string s:=by generalize ρ' y=q at J;cases J;rfl
     obtain⟨m',w',v',u0,hp,hv⟩:=ad7 Y.2 x hb hf E;unfold execOp;rw[j];simp only[x4];refine⟨m',w',.value v',CL ?_,hp,.val hv⟩;rw[<-u0];simp[convert,run_underlying hs,run_underlying hd,run_underlying (Pj Y.1)]
    ·cases A
 |makeFunc fn a b=>
  rw[j]at A B;unfold execOp;rw[j];obtain⟨rfl,rfl,rfl⟩:=bX A;refine⟨m,w,.value (.func fn (a.map ρ') (b.map ρ')),rfl,cP.refl x,.val (.func fn ?_ ?_)⟩
  ·rw[qz,qz];exact bo.maps _ fun y J=>B y (by simp only[dX,aqa];exact .inl (by simpa using J))
  ·rw[qz,qz];exact bo.maps _ fun y J=>B y (by simp only[dX,aqa];exact .inr (by simpa using J))
 |makeSlice t l c=>rw[j]at A B;unfold execOp;rw[j];obtain⟨v,Q,rfl,E⟩:=jR A;exact Goal.of (ad8 (B l (by simp[dX])) (B c (by simp[dX])) x hb hf E)
 |slice t y lo hi mx=>
  rw[j]at A;simp only at A;have C:=B;rw[j]at C;have J:=C y (by simp[dX]);by_cases u6:isStr (ρ y)=true
  ·rw[if_pos u6]at A;exact plain (fun cs b N=>by rw[j]at N;cases N) A
  ·rw[if_neg u6]at A;obtain⟨v,Q,rfl,E⟩:=jR A;unfold execOp;rw[j];have w5:sJ m (lo.map ρ) (lo.map ρ'):=H' fun q W=>C q (by rw[adi]at W;subst W;simp[dX]);have w6:sJ m (hi.map ρ) (hi.map ρ'):=H' fun q W=>C q (by rw[adi]at W;subst W;simp[dX]);have w4:sJ m (mx.map ρ) (mx.map ρ'):=H' fun q W=>C q (by rw[adi]at W;subst W;simp[dX]);generalize ρ y=vy at E J;unfold oE at E;split at E
   ·rename_i b y8 l c;obtain⟨e',h2,n2,L1,L2,e2,e3,_⟩:=bind_some E;obtain⟨rfl,rfl,d2,y1,y0,_⟩:=O1 x e2;cases T:P.underlying t with
    |none=>rw[T]at e3;cases e3
    |some du=>
     rw[T]at e3;cases du<;>try(cases e3;done)
     rename_i e;simp only at e3;split at e3
     ·rename_i x5;obtain⟨I,rfl,rfl⟩:=mH e3
      obtain⟨u,v1,G⟩:=Pe (fun b' u5 l' c' y5 u9 v2=>by
       cases u9;rw[T]at v2;cases v2
       exact⟨d2,y1,by rw[<-x5];exact y0⟩) J w5 w6 w4 I w
      exact nO x v1 G
     ·cases e3
   ·rename_i x9;obtain⟨I,rfl,rfl⟩:=mH E;obtain⟨u,v1,G⟩:=Pe (fun b' u5 l' c' y5 u9 v2=>absurd u9 (x9 b' u5 l' c')) J w5 w6 w4 I w;exact nO x v1 G
 |fieldAddr t y f=>rw[j]at A B;unfold execOp;rw[j];obtain⟨v,Q,rfl,E⟩:=jR A;obtain⟨I,rfl,rfl⟩:=mH E;obtain⟨u,T,G⟩:=ad9 (B y (by simp[dX])) I w;exact nO x T G
 |field t y f=>rw[j]at A B;unfold execOp;rw[j];obtain⟨v,Q,rfl,E⟩:=jR A;obtain⟨I,rfl,rfl⟩:=mH E;obtain⟨u,T,G⟩:=H5 (B y (by simp[dX])) I w;exact nO x T G
 |indexAddr t y i=>rw[j]at A B;unfold execOp;rw[j];obtain⟨v,Q,rfl,E⟩:=jR A;obtain⟨I,rfl,rfl⟩:=mH E;obtain⟨u,T,G⟩:=ad' (B y (by simp[dX])) (B i (by simp[dX])) I w;exact nO x T G
 |index t y i=>
  rw[j]at A;simp only at A;have C:=B;rw[j]at C;split at A
  ·exact plain (fun cs b N=>by rw[j]at N;cases N) A
  ·unfold execOp;rw[j];obtain⟨v,Q,rfl,E⟩:=jR A;obtain⟨I,rfl,rfl⟩:=mH E;obtain⟨u,T,G⟩:=ad_ (C y (by simp[dX])) (C i (by simp[dX])) I w;exact nO x T G
 |extract y i=>rw[j]at A B;unfold execOp;rw[j];obtain⟨v,Q,rfl,E⟩:=jR A;obtain⟨I,rfl,rfl⟩:=mH E;obtain⟨u,T,G⟩:=aea (B y (by simp[dX])) I w;exact nO x T G
 |call c=>
  rw[j]at A;simp only at A;have C:=B;rw[j]at C;simp only[dX]at C
  have D:bo m (c.args.map ρ).toList (c.args.map ρ').toList:=by rw[qz,qz];exact bo.maps _ fun y J=>C y (by unfold xp;exact aqa.2 (.inr (by simpa using J)))
  have w9:execOp ρ' o=(do let d<-resolve ρ' c o.type;invoke d.target d.args):=by unfold execOp;rw[j]
  unfold kE at A;cases O:c.callee with
  |invoke a b=>rw[O]at A;cases A
  |value f=>
   rw[O]at A;simp only at A;have v8:=C f (by unfold xp;rw[O];simp);cases U:CE (ρ f)with
   |none=>rw[U]at A;cases A
   |some y4=>
    obtain⟨g,first,cap⟩:=y4;rw[U]at A;simp only at A
    obtain⟨K,X,w7,u4,x0⟩:∃K X,ρ' f= .func (.func g) K X∧bo m first.toList K.toList∧bo m cap.toList X.toList:=by
     generalize ρ f=p at U v8;generalize ρ' f=q at v8;unfold CE at U;split at U
     ·cases U;cases v8 with
      |func fn h1 h2=>exact⟨_,_,rfl,h1,h2⟩
     ·cases U
    split at A
    ·rename_i F;obtain⟨rfl,rfl,rfl⟩:=bX A;rw[w9];unfold mE at F;cases u3:P.funcs[g]? with
     |none=>rw[u3]at F;cases F
     |some fn=>
      rw[u3]at F;have F:fn.body.isSome=true:=F;refine⟨m,w,.enter g (K++c.args.map ρ'++X), ?_,cP.refl x,.call ?_⟩
      ·have v6:(fn.name== "runtime.NumGoroutine")=false:=by unfold sC at w3;have:=(Array.all_eq_true_iff_forall_mem.1 w3) fn (Array.mem_of_getElem? u3);simpa using this
       have y2:fn.body.isNone=false:=by
        cases W:fn.body with
        |none=>rw[W]at F;cases F
        |some _=>rfl
       unfold resolve;rw[O];simp only[w7,arT,pure_bind,invoke];unfold callFunc;simp only[eF];show eP (.ok P w) _=_;simp only[eP,u3,v6,nD,if_false,y2];rfl
      ·simp only[Array.toList_append];exact(u4.append D).append x0
    ·cases A
  |builtin b=>
   rw[O]at A
   have u1:execOp ρ' o=builtin b c.argTypes o.type (c.args.map fun| .const _=>true|_=>false) (c.args.map ρ'):=by rw[w9];unfold resolve;rw[O];rfl
   cases b<;>simp only at A<;>try(cases A;done)
   case append=>
    cases u2:xC P c.argTypes (c.args.map ρ).toList with
    |none=>rw[u2]at A;cases A
    |some x1=>
     obtain⟨t,s,y⟩:=x1;rw[u2]at A;simp only at A;obtain⟨u,ht,T,hl,hk⟩:=aem u2;rw[hl]at D;rw[u1]
     obtain⟨s',y',v7,hs,J⟩:∃s' y',c.args.map ρ'=#[s',y']∧VR m s s'∧VR m y y':=by
      generalize c.args.map ρ'=q at D;obtain⟨q⟩:=q;simp only at D;cases D with
      |cons h1 t1=>cases t1 with
       |cons h2 t2=>cases t2 with
        |nil=>exact⟨_,_,rfl,h1,h2⟩
     rw[v7];obtain⟨v,Q,rfl,E⟩:=jR A;exact Goal.of (aed ht T hk hs J x hb hf E)
   case copy=>
    cases v9:xD c.argTypes (c.args.map ρ).toList with
    |none=>rw[v9]at A;cases A
    |some x2=>
     obtain⟨t,d,y⟩:=x2;rw[v9]at A;simp only at A;obtain⟨ht,hl⟩:=ael v9;rw[hl]at D;rw[u1]
     obtain⟨d',y',v7,hd,J⟩:∃d' y',c.args.map ρ'=#[d',y']∧VR m d d'∧VR m y y':=by
      generalize c.args.map ρ'=q at D;obtain⟨q⟩:=q;simp only at D;cases D with
      |cons h1 t1=>cases t1 with
       |cons h2 t2=>cases t2 with
        |nil=>exact⟨_,_,rfl,h1,h2⟩
     rw[v7];obtain⟨v,Q,rfl,E⟩:=jR A;exact Goal.of (aee ht hd J x E)
   case len=>
    cases Z:uE P c.argTypes (c.args.map ρ).toList with
    |none=>rw[Z]at A;exact plain (fun cs b N=>by rw[j]at N;cases N) A
    |some k=>
     rw[Z]at A;obtain⟨t,e,a,cp,y6,ht,v0,hl⟩:=aen Z;rw[hl]at D;obtain⟨rfl,rfl,rfl⟩:=bX A;rw[u1];generalize c.args.map ρ'=q at D;obtain⟨q⟩:=q;simp only at D;cases D with
     |cons h1 t1=>
      cases h1 with
      |mI _ _ hc=>refine nO x ?_ (.int _ _);unfold Om;simp[ht,run_underlying v0,goInt]
      |pP _ _ _ _=>refine nO x ?_ (.int _ _);unfold Om;simp[ht,run_underlying v0,goInt]
      |fR=>refine nO x ?_ (.int _ _);unfold Om;simp[ht,run_underlying v0,goInt]
   case min=>exact plain (fun cs b N=>by rw[j]at N;cases N) A
   case max=>exact plain (fun cs b N=>by rw[j]at N;cases N) A
 |_=>rw[j]at A;cases A
end
theorem aep{P:Program}{base:Nat}{m:Mp}{t:TypeId}{a s r:Value}{h v:H}{n u:Nat}{L:List En}{w:World}(B:VR m a s)(x:WR P m base h w.heap)(c:jj P t a h n=some ⟨r,v,u,L⟩):
 ∃b off,s= .pointer (some ⟨b,off,none⟩)∧v=h∧u=n∧∃l,VR m r l∧((do loadVar t (<-asAddr s)):Sem Value).run P w= .ok l w:=by
 unfold jj at c;split at c
 ·rename_i b off;obtain⟨d,hd,rfl⟩:=H4 B;cases o:jf P t with
  |none=>rw[o]at c;cases c
  |some g=>
   rw[o]at c;cases g with
   |false=>simp only at c;obtain⟨rfl,rfl,I,l,j,A,y⟩:=CH x c;rw[hd]at j;cases j;refine⟨_,_,rfl,rfl,rfl,l,y, ?_⟩;simp only[asAddr,pure_bind,loadVar,eF,uK o w,eP,nD,if_false];show(Sem.load _ _ _).run P w=_;simp[Sem.run,A]
   |true=>
    cases p:size? P t with
    |none=>rw[p]at c;cases c
    |some k=>
     rw[p]at c;simp only at c;obtain⟨E,G,F,K,J,D,C,_⟩:=bind_some c;obtain⟨rfl,rfl,rfl⟩:=bX C;obtain⟨rfl,rfl,z,e,f,q⟩:=sI x hd D;refine⟨_,_,rfl,rfl,rfl,.agg e.toArray,.agg (by simpa using f), ?_⟩;have i:e.length=k:=by rw[<-f.length,z]
     have:=xG (P:=P) q;rw[i]at this;simp only[asAddr,pure_bind,loadVar,eF,uK o w,eP,if_true,run_sizeOf p,this];rfl
 ·cases c
theorem results_at{P:Program}{base:Nat}{m:Mp}{nt:Nat}{s:S}{a:Act}(B:SR m nt s a):∀(l:List ResultVar) (h i:H) (n k:Nat) (L:List En) (vs:List Value) (w:World),WR P m base h w.heap->jk P s l h n=some ⟨vs,i,k,L⟩->∃d,bo m vs d∧
 ((l.mapM fun| .tmp t=>pure (a.tmps.getD t undef)| .cell b t=>do loadVar t (<-asAddr (a.tmps.getD b undef)):Sem (List Value))).run P w= .ok d w:=by
 intro l
 induction l with
 |nil=>intro h i n k L vs w x g;obtain⟨rfl,rfl,rfl⟩:=bX g;exact⟨[],.nil,rfl⟩
 |cons r l A=>
  intro h i n k L vs w x g;cases r with
  |cell b t=>
   unfold jk at g;obtain⟨v,q,E,J,I,y,u,_⟩:=bind_some g;obtain⟨D,N,K,Q,O,G,F,_⟩:=bind_some u;obtain⟨rfl,rfl,rfl⟩:=bX F;obtain⟨C,j,p,rfl,rfl,z,o,c⟩:=aep (B.at_ b) x y;obtain⟨d,e,f⟩:=A _ _ _ _ _ _ w x G;refine⟨z::d,.cons o e, ?_⟩;rw[apX];have i:(asAddr (a.tmps.getD b undef)).run P w= .ok ⟨C,j,none⟩ w:=by rw[p];rfl
   have q:(loadVar t ⟨C,j,none⟩).run P w= .ok z w:=by rw[eF,i]at c;exact c
   simp only[bind_assoc,pure_bind,eF,i,eP,q,f,oB]
  |tmp t=>unfold jk at g;obtain⟨D,q,E,J,I,y,u,_⟩:=bind_some g;obtain⟨rfl,rfl,rfl⟩:=bX u;obtain⟨d,e,c⟩:=A _ _ _ _ _ _ w x y;refine⟨a.tmps.getD t undef::d,.cons (B.at_ t) e, ?_⟩;rw[apX];simp only[pure_bind,eF,c,eP,oB]
theorem aeq{P:Program}{t:TypeId}{v r:Value}{h e:H}{n d:Nat}{L:List En}(a:jj P t v h n=some ⟨r,e,d,L⟩):e=h∧d=n:=by
 have f:∀{b k:Nat} {h e:H} {n d:Nat} {v:Value} {L:List En},rd b k h n=some ⟨v,e,d,L⟩->e=h∧d=n:=by
  intro b k h e n d v L a;unfold rd at a;split at a
  ·split at a
   ·split at a
    ·simp only[ep,Out.mk.injEq]at a;exact⟨a.2.1.symm,a.2.2.1.symm⟩
    ·cases a
   ·cases a
  ·cases a
 have i:∀{c b k:Nat} {h e:H} {n d:Nat} {v:List Value} {L:List En},cW b k c h n=some ⟨v,e,d,L⟩->e=h∧d=n:=by
  intro c
  induction c with
  |zero=>intro b k h e n d v L a;obtain⟨_,rfl,rfl⟩:=bX a;exact⟨rfl,rfl⟩
  |succ c q=>intro b k h e n d v L a;obtain⟨C,s,p,A,z,j,x,_⟩:=bind_some (m:=rd b k) a;obtain⟨rfl,rfl⟩:=f j;obtain⟨ws,E,D,G,F,w,u,_⟩:=bind_some (m:=cW b (k+1) c) x;obtain⟨rfl,rfl⟩:=q w;obtain⟨_,rfl,rfl⟩:=bX u;exact⟨rfl,rfl⟩
 unfold jj at a;split at a
 ·cases o:jf P t with
  |none=>rw[o]at a;cases a
  |some g=>
   rw[o]at a;cases g with
   |false=>exact f a
   |true=>
    cases l:size? P t with
    |none=>rw[l]at a;cases a
    |some k=>rw[l]at a;obtain⟨B,s,p,A,z,y,j,_⟩:=bind_some a;obtain⟨_,rfl,rfl⟩:=bX j;exact i y
 ·cases a
theorem aer{P:Program}{s:S}:∀(l:List ResultVar) (h d:H) (n c:Nat) (L:List En) (vs:List Value),jk P s l h n=some ⟨vs,d,c,L⟩->d=h∧c=n:=by
 intro l
 induction l with
 |nil=>intro h d n c L vs a;obtain⟨_,rfl,rfl⟩:=bX a;exact⟨rfl,rfl⟩
 |cons r l g=>
  intro h d n c L vs a;cases r with
  |cell b t=>unfold jk at a;obtain⟨v,k,j,q,p,f,e,_⟩:=bind_some a;obtain⟨i,w,u,y,x,o,m,_⟩:=bind_some e;obtain⟨_,rfl,rfl⟩:=bX m;obtain⟨rfl,rfl⟩:=aeq f;exact g _ _ _ _ _ _ o
  |tmp t=>unfold jk at a;obtain⟨i,k,j,q,p,f,e,_⟩:=bind_some a;obtain⟨_,rfl,rfl⟩:=bX e;exact g _ _ _ _ _ _ f
theorem aes{P:Program}{b:List FuncId}(a:qK P b=true){f:FuncId}{d:Func}{c:Code}(h:b.contains f=false)(e:P.funcs[f]? =some d)(g:d.body=some c):kU P c=true:=by
 unfold qK at a;rw[mu]at a
 have:=a (d,f) (by
  rw[List.mem_iff_getElem?]
  exact⟨f,by simp[List.getElem?_zipIdx,e]⟩)
 simp only[h,g,Co]at this;exact this
def qO(w:World):Prop:=∀g∈KG,w.cell? ⟨g.1,g.2.1,none⟩=some g.2.2
theorem Pn{P:Program}{m:Mp}{base:Nat}{h:H}{w:World}(x:WR P m base h w.heap)(g:Gl P m):∀{l:List (Nat×Nat×Value)} {n f:Nat} {j:H} {u:Unit} {L:List En},mF P l h n=some ⟨u,j,f,L⟩->j=h∧f=n∧∀q∈l,w.cell? ⟨q.1,q.2.1,none⟩=some q.2.2
 |[],n,f,j,u,L,i=>by obtain⟨_,rfl,rfl⟩:=bX i;exact⟨rfl,rfl,fun q o=>by simp at o⟩
 |q::l,n,f,j,u,L,i=>by
  unfold mF at i;obtain⟨v,G,F,K,J,B,k,_⟩:=bind_some i;obtain⟨rfl,rfl,d,E,hd,p,A⟩:=CH x B;by_cases b:(decide (q.1<P.globals.size)&&xF v q.2.2)=true
  ·rw[if_pos b]at k;simp only[cD,decide_eq_true_eq]at b;obtain⟨I,c,D,C⟩:=g q.1 b.1;rw[hd]at c;cases c;obtain⟨t,s,r⟩:=Pn x g k;refine⟨t,s,fun y z=> ?_⟩;rcases List.mem_cons.1 z with e|e
   ·subst e;rw[D,C,fy]at p;rw[p];have a:=b.2;cases A<;>first|(simp[xF]at a;done)|skip
    cases o:y.2.2<;>rw[o]at a<;>first|(simp[xF]at a;done)|skip
    simp[xF]at a;rw[a.1,a.2]
   ·exact r y e
  ·rw[if_neg b]at k;cases k
def Ia(P:Program)(h:List FuncId):Prop:=∀f k,h.contains f=true->pO f=some k->(k=1->∀(b o n c:Nat) (g:List Int) (cv:Int) (w:World),g.length=n->(∀i,i<n->w.cell? ⟨b,o+i,none⟩=some (.int .u8 (g.getD i 0)))->
 Calls P f #[.slice (some ⟨b,o,none⟩) n c,.int .u8 cv] w fun e a=>e= .returned (.int .i64 (Lib.indexByte (Lib.bytesOf g) cv.toNat.toUInt8))∧Below w.heap.size w a)∧
 (k=2->∀(s:ByteArray) (c:Nat) (w:World),c<=1000000->s.size<=1000000->Calls P f #[.string s,.int .i64 c] w fun e a=>e= .returned (.string ⟨(Lib.repeatL s.data.toList c).toArray⟩)∧Below w.heap.size w a)∧
 (k=3->∀(args:Array Value) (v:Value) (w:World),args.toList.all scalar=true->OQ f args.toList=some v->(∀m,VR m v v)∧Calls P f args w fun e a=>e= .returned v∧Below w.heap.size w a)∧
 (k=4->(∀(v:Value) (w:World),CC f 0 []=some v->(∀m,VR m v v)∧Calls P f #[.slice none 0 0] w fun e a=>e= .returned v∧Below w.heap.size w a)∧
   ∀(b o n c:Nat) (d:List Value) (v:Value) (w:World),d.length=n*OR f->d.all scalar=true->(∀i v,d[i]? =some v->w.cell? ⟨b,o+i,none⟩=some v)->n<=c->CC f n d=some v->(∀m,VR m v v)∧Calls P f #[.slice (some ⟨b,o,none⟩) n c] w fun e a=>e= .returned v∧Below w.heap.size w a)
structure uL (P:Program) (bad:List FuncId):Prop where
 yes:∀f,bad.contains f=true->pO f=none->sF P f=true->∀w,qO w->Calls P f #[] w fun e w'=>e= .returned (.bool true)∧Below w.heap.size w w'
 nat:Ia P bad
theorem Po:∀{vs:List Value} {l:List Int},sG vs=some l->vs=l.map (gW .u8)
 |[],l,h=>by cases h;rfl
 |v::r,l,h=>by
  unfold sG at h;split at h
  ·rename_i a;cases a
  ·rename_i x c a;cases a;split at h
   ·rename_i d b;cases h;rw[Po b];rfl
   ·cases h
  ·cases h
theorem Pp{m:Mp}{k:IntKind}:∀{l:List Int} {vs:List Value},bo m (l.map (gW k)) vs->vs=l.map (gW k)
 |[],_,.nil=>rfl
 |_::l,_,.cons (.int _ _) t=>by rw[Pp t];rfl
theorem CM{a:Array Value}{l:List Value}(h:a.toList=l):a=l.toArray:=by rw[<-h]
theorem bo.plain{m:Mp}:∀{l b:List Value},bo m l b->l.all scalar=true->b=l
 |_,_,.nil,_=>rfl
 |_,_,.cons h t,a=>by simp only[List.all_cons,cD]at a;rw[h.scalar a.1,bo.plain t a.2]
theorem aet{P:Program}{O:List FuncId}{base:Nat}(K:Ia P O){f:FuncId}{k:Nat}(p:O.contains f=true)(N:pO f=some k){args:List Value}{g:Array Value}{h R:H}{n n1:Nat}{v:Value}{L:List En}{m:Mp}{w:World}(o:sH f k args h n=some ⟨v,R,n1,L⟩)(x:WR P m base h w.heap)(hb:base<=w.heap.size)(a:bo m args g.toList):
 Calls P f g w fun e w'=>∃m' v',e= .returned v'∧cP P m base n n1 w R m' w'∧VR m' v v':=by
 have r:∀w',Below w.heap.size w w'->cP P m base n n w h m w':=fun w' j=>by refine⟨Le.refl _,fun _ _=>rfl,⟨fun b B hB=> ?_,x.inj⟩,j.mono hb⟩;obtain⟨d,cs,lo,Z,R,Q,h3⟩:=x.live b B hB;exact⟨d,cs,lo,Z,R,(j.block d.dD (Array.getElem?_eq_some_iff.1 Q).1).trans Q,h3⟩
 unfold sH at o;split at o
 ·unfold HP at o;split at o
  ·rename_i b T len cap c;generalize C:g.toList=as at a;cases a with
   |cons D a=>
   cases a with
   |cons hc a=>
   cases a;cases hc;unfold zH at o;obtain⟨vs,Q,n2,L1,L2,e1,A,_⟩:=bind_some o;cases D with
   |@fR _ _ _ _ t U d hd Y _ _ _ _=>
    obtain⟨rfl,rfl,I,J,y,z⟩:=sI x hd e1;cases F:sG vs with
    |none=>rw[F]at A;cases A
    |some l=>
     rw[F]at A;obtain⟨rfl,rfl,rfl⟩:=bX A;have W:=Po F;rw[W]at y I;have X:=Pp y;rw[X]at z;simp only[List.length_map]at I;rw[CM C];refine((K f 1 p N).1 rfl d.dD U len t l c w I fun i Z=> ?_).mono ?_
     ·rw[Y (.inl jO)];exact z i _ (by rw[List.getElem?_map,aJ jO,List.getD_eq_getElem?_getD,aJ jO];rfl)
     ·rintro e w' ⟨rfl,j⟩;exact⟨m,_,rfl,r w' j,.int _ _⟩
  ·cases o
 ·unfold HQ at o;split at o
  ·rename_i s c;generalize C:g.toList=as at a;cases a with
   |cons D a=>
   cases a with
   |cons hc a=>
   cases a;cases hc;cases D;unfold HO at o;split at o
   ·rename_i hz;simp only[cD,decide_eq_true_eq]at hz;obtain⟨rfl,rfl,rfl⟩:=bX o;rw[CM C];obtain⟨c,rfl⟩:∃k:Nat,c=k:=⟨c.toNat,jO⟩;refine((K f 2 p N).2.1 rfl s c w jO hz.2).mono ?_;rintro e w' ⟨rfl,j⟩;exact⟨m,_,rfl,r w' j,by rw[Int.toNat_natCast];exact .string _⟩
   ·cases o
  ·cases o
 ·unfold HR at o;split at o
  ·rename_i G;obtain⟨E,rfl,rfl⟩:=mH o;have e:=a.plain G;rw[<-e]at G E;obtain⟨q1,q2⟩:=(K f 3 p N).2.2.1 rfl g v w G E;refine q2.mono ?_;rintro e w' ⟨rfl,j⟩;exact⟨m,_,rfl,r w' j,q1 m⟩
  ·cases o
 ·unfold HS at o;split at o
  ·generalize C:g.toList=as at a;cases a with
   |cons D a=>
   cases a;cases D;obtain⟨E,rfl,rfl⟩:=mH o;rw[CM C];obtain⟨q1,q2⟩:=((K f 4 p N).2.2.2 rfl).1 v w E;refine q2.mono ?_;rintro e w' ⟨rfl,j⟩;exact⟨m,_,rfl,r w' j,q1 m⟩
  ·rename_i b T len cap;generalize C:g.toList=as at a;cases a with
   |cons D a=>
   cases a;obtain⟨vs,Q,n2,L1,L2,e1,A,_⟩:=bind_some o;cases D with
   |@fR _ _ _ _ t U d hd Y u1 u0 hn _=>
    obtain⟨rfl,rfl,I,J,y,z⟩:=sI x hd e1;split at A
    ·rename_i G;obtain⟨E,rfl,rfl⟩:=mH A;have e:=y.plain G;subst e;rw[CM C]
     obtain⟨q1,q2⟩:=((K f 4 p N).2.2.2 rfl).2 d.dD U len t J v w I G (fun i u F=>by
      have Z:=(List.getElem?_eq_some_iff.1 F).1
      have h0:0<len:=by
       rcases zu len with q|q
       ·rw[q,Nat.zero_mul]at I;omega
       ·exact q
      rw[Y (.inl h0)]
      exact z i u F) hn E
     refine q2.mono ?_;rintro e w' ⟨rfl,j⟩;exact⟨m,_,rfl,r w' j,q1 m⟩
    ·cases A
  ·cases o
 ·cases o
theorem Pq{P:Program}{base:Nat}{t:List FuncId}(u6:sC P=true)(u5:qK P t=true)(R:P.follows .mixedOrders=true)(T:uL P t):∀fuel,xH P base (dm P t fuel):=by
 have u4:uJ P base:=aeo u6;intro fuel
 induction fuel with
 |zero=>intro f args h n v G Z L m w l i;cases i
 |succ fuel ih=>
  intro f args h n v G Z L m w l i x hb p hf g;unfold dm at i;by_cases o:t.contains f=true
  ·rw[if_pos o]at i;cases q:pO f with
   |some k=>rw[q]at i;exact aet T.nat o q i x hb p
   |none=>
   rw[q]at i;simp only at i;by_cases hz:(decide (args.size=0)&&sF P f)=true
   ·rw[if_pos hz]at i;simp only[cD,decide_eq_true_eq]at hz;obtain⟨u,W,n2,L1,L2,c1,c2,_⟩:=bind_some i;obtain⟨rfl,rfl,F⟩:=Pn x g c1;obtain⟨rfl,rfl,rfl⟩:=bX c2;have hl:=p.length
    have e1:l=#[]:=by apply Array.eq_empty_of_size_eq_zero;simp at hl;omega
    subst e1;refine(T.yes f o q hz.2 w F).mono ?_;rintro e z ⟨rfl,Y⟩;refine⟨m,_,rfl,⟨Le.refl _,fun _ _=>rfl,⟨fun b B hB=> ?_,x.inj⟩,Y.mono hb⟩,.bool true⟩;obtain⟨d,cs,lo,hi,G,W,h3⟩:=x.live b B hB;exact⟨d,cs,lo,hi,G,(Y.block d.dD (Array.getElem?_eq_some_iff.1 W).1).trans W,h3⟩
   ·rw[if_neg hz]at i;cases i
  rw[if_neg o]at i;cases A:P.funcs[f]? with
  |none=>rw[A]at i;cases i
  |some D=>
   rw[A]at i;simp only at i;cases hc:D.body with
   |none=>rw[hc]at i;cases i
   |some c=>
    rw[hc]at i;simp only at i;by_cases j:(args.size<=D.ntmps&&D.ntmps<1000)=true
    ·rw[if_pos j]at i;simp only[cD,decide_eq_true_eq]at j;obtain⟨L',i⟩:=HY i;obtain⟨y,W,n2,L1,L2,e1,e2,_⟩:=bind_some i;obtain⟨e,s1⟩:=y;have Q:kU P c=true:=aes u5 (Bool.eq_false_iff.2 o) A hc;have u3:=fun f a=>Loc.dm P t fuel f a;refine calls_of_wp A hc ?_
     have X:∀(e':Ex) (hn:cv e'= .normal∨cv e'= .ret) (U:e=e'),((jk P s1 D.results.toList).bind fun E=>M.ret (match E with|[v]=>v|_=> .tuple E.toArray)) W n2=some ⟨v,G,Z,L2⟩->
      c.wp P (bodyPost P D fun e z=>∃C I,e= .returned I∧cP P m base n Z w G C z∧VR C v I) {tmps:=l++Array.replicate (D.ntmps-l.size) undef,defers:=[]} w:=by
      intro e' hn U e3;subst U;obtain⟨E,h3,n3,L3,L4,e4,e5,_⟩:=bind_some e3;obtain⟨rfl,rfl,rfl⟩:=bX e5;obtain⟨rfl,rfl⟩:=aer _ _ _ _ _ _ _ e4;refine adT u4 ih u3 R fuel c Q _ m _ s1 _ w h _ n _ L1 e x hb g (adU p j.1 j.2) e1 hf fun C a' z hp K=> ?_;obtain⟨s,u0,N⟩:=results_at K _ _ _ _ _ _ _ z hp.wr e4
      have O:(results D a'.tmps).run P z= .ok (if h:s.toArray.size=1 then s.toArray[0]else .tuple s.toArray) z:=by unfold results;rw[Array.mapM_eq_mapM_toList];simp only[map_eq_pure_bind,bind_assoc,pure_bind,eF];refine Eq.trans (congrArg (fun r=>eP r _) N) ?_;simp only[eP,oB]
      have J:VR C (match E with|[v]=>v|_=> .tuple E.toArray) (if h:s.toArray.size=1 then s.toArray[0]else .tuple s.toArray):=by
       cases u0 with
       |nil=>exact .tuple .nil
       |cons hv ht=>
        cases ht with
        |nil=>exact hv
        |cons u1 u2=>exact .tuple (.cons hv (.cons u1 u2))
      have:bodyPost P D (fun e z=>∃C I,e= .returned I∧cP P m base n Z w G C z∧VR C (match E with|[v]=>v|_=> .tuple E.toArray) I) (cv e) a' z:=by rcases hn with hn|hn<;>rw[hn]<;>exact⟨K.df,_,O,C,_,rfl,hp,J⟩
      exact this
     cases e with
     |normal=>exact X .normal (.inl rfl) rfl e2
     |ret=>exact X .ret (.inr rfl) rfl e2
     |exit id=>cases e2
    ·rw[if_neg j]at i;cases i
def CN(r:Option (Out Value)):Bool:=match r with
 |some o=>(match o.val with| .bool b=>b|_=>false)
 |none=>false
end Go.Proofs.YtcehhgppfahbkaaGreatDoor.Ev
namespace Go.Proofs.YtcehhgppfahbkaaGreatDoor.Ev
open Go
abbrev Fr:=List (Nat×Value)
def Fr.at_:Fr->Nat->Option Value
 |[],_=>none
 |(u,v)::r,t=>match bZ u t with
  |true=>some v
  |false=>Fr.at_ r t
def Fr.ay(s:Fr):List Nat->Fr
 |[]=>[]
 |t::r=>match s.at_ t with
  |some v=>(t,v)::Fr.ay s r
  |none=>Fr.ay s r
def Fr.keys:Fr->List Nat
 |[]=>[]
 |(u,_)::r=>u::Fr.keys r
def gH(s:Fr)(a:Option Tmp)(v:Value):Fr:=match a with
 |none=>s
 |some d=>(d,v)::s
def bf{b a:Type}(o:Option b)(k:b->M a):M a:=match o with
 |some v=>k v
 |none=> .fail
def bC(s:Fr):Operand->Option Value
 | .tmp t=>s.at_ t
 | .const v=>some v
 | .global g=>some (.pointer (some ⟨g,0,none⟩))
 | .func f=>some (.func (.func f) #[] #[])
def kV{a:Type}(s:Fr):List Operand->(List Value->M a)->M a
 |[],k=>k []
 |x::r,k=>bf (bC s x) fun v=>kV s r fun b=>k (v::b)
def qQ{a:Type}(s:Fr)(x:Option Operand)(k:Option Value->M a):M a:=match x with
 |some x=>bf (bC s x) fun v=>k (some v)
 |none=>k none
def aK{a:Type}(v:Value)(x y:M a):M a:=match v with
 | .bool true=>x
 | .bool false=>y
 |_=> .fail
section
variable (P:Program)
def mJ(a:Bool)(s:Sem Value):Option Value:=
 match a with
 |true=>match jg P (do pure (.value (<-s)))with
  |some v=>match scalar v with
   |true=>some v
   |false=>none
  |none=>none
 |false=>none
def Ps(c a b:Value):Option Value:=match c with
 | .bool t=>some (if t then a else b)
 |_=>none
def Pu:Value->Option Value
 | .pointer (some a)=>some (.pointer (some a))
 | .func (.func f) a b=>some (.func (.func f) a b)
 |_=>none
def lO(t:TypeId):Bool:=match P.underlying t with
 |some (.pointer _)|some (.slice _)|some (.func _ _ _)|some (.struct _)=>true
 |_=>false
def Ib(a:BinOp)(t:TypeId)(x y:Value):Option Value:=match pJ P t x y,a with
 |some v,.eql=>some (.bool v)
 |some v,.neq=>some (.bool (!v))
 |_,_=>none
def Ic(a:BinOp)(t:TypeId)(x y:Value):Option Value:=mJ P (scalar x&&scalar y) (Go.binOp a t x y)
def dW(a:BinOp)(t:TypeId)(x y:Value):Option Value:=match lO P t with
 |true=>Ib P a t x y
 |false=>Ic P a t x y
def CO(a:UnOp)(x:Value):Option Value:=mJ P (scalar x) (Op.unary a x)
def uM:Option TypeDesc->Option TypeDesc->Option TypeId
 |some .string,some (.slice e)=>some e
 |_,_=>none
def CP(e:TypeId)(x:Value):M Value:=match x with
 | .string s=>qI e s
 |_=> .fail
def CQ{b:Type}(src a:TypeId)(x:Value)(k:Value->M b):M b:=
 match si (P.underlying src) (P.underlying a)with
 |some e=>match nL P e with
  |true=>(inside (nK x)).bind k
  |false=> .fail
 |none=>match uM (P.underlying src) (P.underlying a)with
  |some e=>match nL P e&&size? P e==some 1 with
   |true=>(inside (CP e x)).bind k
   |false=> .fail
  |none=>bf (mJ P (scalar x) (Go.convert src a x)) k
def uN:Option Value->Bool
 |some v=>scalar v
 |none=>true
def CR(t:TypeId)(x:Value)(lo b a:Option Value):Option Value:=match isStr x with
 |true=>mJ P (uN lo&&uN b&&uN a) (Instr.sliceAt t x lo b a)
 |false=>none
def uO(t:TypeId)(x:Value)(lo b a:Option Value):M Value:=match isStr x with
 |true=> .fail
 |false=>oE P t x lo b a
def oH(t:TypeId):Bool:=match P.underlying t with
 |some .string=>true
 |_=>false
def xJ{a:Type}(t:TypeId)(x:Value)(lo c b:Option Value)(k:Value->M a):M a:=match oH P t with
 |true=>bf (CR P t x lo c b) k
 |false=>(inside (uO P t x lo c b)).bind k
def CS(t:TypeId)(x a:Value):Option Value:=match isStr x with
 |true=>mJ P (scalar a) (Cp t x a)
 |false=>none
def CT(t:TypeId)(x a:Value):Option Value:=match isStr x with
 |true=>none
 |false=>xB P t x a
def uP(t:TypeId)(x a:Value):Option Value:=match oH P t with
 |true=>CS P t x a
 |false=>CT P t x a
def Pv:Value->Option Value
 | .slice _ n _=>some (.int .i64 n)
 |_=>none
def Pw:Value->Option Value
 | .string s=>some (.int .i64 s.size)
 |_=>none
def zM(a:Array TypeId)(vs:List Value):Option Value:=match a[0]?,vs with
 |some t,[x]=>match P.underlying t with
  |some (.slice _)=>Pv x
  |some .string=>Pw x
  |_=>none
 |_,_=>none
def uQ(a b:Int):Int:=if b<a then b else a
def min2:List Value->Option Value
 |[.int k a,.int _ b]=>some (.int k (if b<a then b else a))
 |[.int k a,.int _ b,.int _ c,.int _ d,.int _ e,.int _ f]=>some (.int k (uQ (uQ (uQ (uQ (uQ a b) c) d) e) f))
 |_=>none
def max2:List Value->Option Value
 |[.int k a,.int _ b]=>some (.int k (if a<b then b else a))
 |_=>none
variable (rec:FuncId->Array Value->M Value)
def gI{a:Type}(b:Value)(vs:List Value)(k:Value->M a):M a:=
 bf (CE b) fun q=>match mE P q.1 with
  |true=>(inside (rec q.1 (q.2.1.toList++vs++q.2.2.toList).toArray)).bind k
  |false=> .fail
def Px{b:Type}(a:Array TypeId)(vs:List Value)(k:Value->M b):M b:=
 bf (xC P a vs) fun q=>(inside (pH P q.1 q.2.1 q.2.2)).bind k
def Py{b:Type}(a:Array TypeId)(vs:List Value)(k:Value->M b):M b:=
 bf (xD a vs) fun q=>(inside (pK P q.1 q.2.1 q.2.2)).bind k
def call2{a:Type}(s:Fr)(c:Call)(vs:List Value)(k:Value->M a):M a:=
 match c.callee with
 | .value f=>bf (bC s f) fun b=>gI P rec b vs k
 | .builtin .append=>Px P c.argTypes vs k
 | .builtin .copy=>Py P c.argTypes vs k
 | .builtin .len=>bf (zM P c.argTypes vs) k
 | .builtin .min=>bf (min2 vs) k
 | .builtin .max=>bf (max2 vs) k
 |_=> .fail
def CU{r:Type}(s:Fr)(o:Oper)(k:Value->M r):M r:=
 match o.op with
 | .move x| .assign x=>bf (bC s x) k
 | .pick c a b=>bf (bC s c) fun c=>bf (bC s a) fun a=>bf (bC s b) fun b=>bf (Ps c a b) k
 | .alloc e=>(inside (nI P e)).bind k
 | .box e x=>bf (bC s x) fun x=>(inside (nJ P e x)).bind k
 | .build t d=>kV s (d.toList.map (·.2)) fun h=>(inside (mC P t ((d.toList.map (·.1)).zip h))).bind k
 | .buildSlice t len d=>kV s (d.toList.map (·.2)) fun h=>(inside (mD P t len ((d.toList.map (·.1)).zip h))).bind k
 | .load t a=>bf (bC s a) fun a=>(inside (jj P t a)).bind k
 | .store t a x=>bf (bC s a) fun a=>bf (bC s x) fun x=>(inside (oF P t a x)).bind k
 | .nilCheck x=>bf (bC s x) fun x=>bf (Pu x) k
 | .binOp j t x y _=>bf (bC s x) fun x=>bf (bC s y) fun y=>bf (dW P j t x y) k
 | .unOp j _ x=>bf (bC s x) fun x=>bf (CO P j x) k
 | .convert src q x=>bf (bC s x) fun x=>CQ P src q x k
 | .makeFunc u a b=>kV s a.toList fun a=>kV s b.toList fun b=>k (.func u a.toArray b.toArray)
 | .makeSlice t l c=>bf (bC s l) fun l=>bf (bC s c) fun c=>(inside (nM P t l c)).bind k
 | .slice t x n p m=>bf (bC s x) fun x=>qQ s n fun n=>qQ s p fun p=>qQ s m fun m=>xJ P t x n p m k
 | .fieldAddr t x f=>bf (bC s x) fun x=>bf (xA P t x f) k
 | .field t x f=>bf (bC s x) fun x=>bf (sq P t x f) k
 | .indexAddr t x g=>bf (bC s x) fun x=>bf (bC s g) fun g=>bf (qJ P t x g) k
 | .index t x g=>bf (bC s x) fun x=>bf (bC s g) fun g=>bf (uP P t x g) k
 | .extract t i=>bf (bC s t) fun t=>bf (su t i) k
 | .call c=>kV s c.args.toList fun h=>call2 P rec s c h k
 |_=> .fail
def kind(o:Op):Nat:=match o with
 | .move _| .assign _| .pick _ _ _| .nilCheck _| .binOp _ _ _ _ _| .unOp _ _ _| .makeFunc _ _ _| .fieldAddr _ _ _| .field _ _ _| .indexAddr _ _ _| .index _ _ _| .extract _ _| .build _ _=>0
 | .load _ _| .slice _ _ _ _ _=>1
 | .alloc _| .box _ _| .buildSlice _ _ _| .makeSlice _ _ _=>2
 | .call c=>match c.callee with
   | .builtin .len| .builtin .min| .builtin .max=>0
   |_=>3
 |_=>3
def fits(i j:Nat):Bool:=i==0||j==0||(i==1&&j==1)||(i==2&&j==2)||(i==1&&j==2)
def CV(ops:Array Oper)(a:List Nat)(j:Nat)(b:Oper):Nat->List Oper->Bool
 |_,[]=>true
 |k,c::r=>((a.getD k 0).testBit j||(fits (kind b.op) (kind c.op)&& !(pL ops b c)))&&CV ops a j b (k+1) r
def CW(ops:Array Oper)(a:List Nat):Nat->List Oper->Bool
 |_,[]=>true
 |j,b::r=>CV ops a j b (j+1) r&&CW ops a (j+1) r
def CX(ops:Array Oper):Bool:=sx ops&&CW ops (lM ops.toList []) 0 ops.toList
end
def eu{c:Type}(m:Nat->M c)(h:H)(n:Nat)(a:c)(e:H)(d:Nat)(L:List En):Prop:=∃f,∀b,f<=b->m b h n=some ⟨a,e,d,L⟩
theorem eu.of{b:Type}{m:M b}{h d:H}{n c:Nat}{a:b}{L:List En}(e:m h n=some ⟨a,d,c,L⟩):eu (fun _=>m) h n a d c L:=⟨0,fun _ _=>e⟩
theorem bY{c d:Type}{m:M c}{f:c->M d}{h g h2:H}{n e n2:Nat}{a:c}{b:d}{L1 L2:List En}(j:m h n=some ⟨a,g,e,L1⟩)(i:f a g e=some ⟨b,h2,n2,L2⟩):(m.bind f) h n=some ⟨b,h2,n2,L1++L2⟩:=by unfold M.bind;rw[j];simp only;rw[i]
theorem eu.map{b:Type}{m m':Nat->M b}{h d:H}{n c:Nat}{a:b}{L:List En}(x:eu m h n a d c L)(e:∀fuel,m' fuel=m fuel):eu m' h n a d c L:=by obtain⟨g,x⟩:=x;exact⟨g,fun fuel f=>by rw[e];exact x fuel f⟩
theorem iS{c:Type}{m:M c}{h d:H}{n b:Nat}{a:c}{L:List En}(e:m h n=some ⟨a,d,b,L⟩):inside m h n=some ⟨a,d,b,L.filter fun e=> !(n<=e.b&&e.b<b)⟩:=by unfold inside;rw[e]
theorem eu.inside{c:Type}{m:Nat->M c}{h d:H}{n b:Nat}{a:c}{L:List En}(x:eu m h n a d b L):eu (fun fuel=>Ev.inside (m fuel)) h n a d b (L.filter fun e=> !(n<=e.b&&e.b<b)):=by obtain⟨g,x⟩:=x;exact⟨g,fun fuel f=>iS (x fuel f)⟩
theorem uR{d:Type}{m:M d}{h f:H}{n c:Nat}{a:d}{L:List En}(b:Ev.inside m h n=some ⟨a,f,c,L⟩):∃L',m h n=some ⟨a,f,c,L'⟩∧L=L'.filter fun e=> !(n<=e.b&&e.b<c):=by
 unfold Ev.inside at b;split at b
 ·rename_i j i g L' e;simp only[ep,Out.mk.injEq]at b;obtain⟨rfl,rfl,rfl,rfl⟩:=b;exact⟨L',e,rfl⟩
 ·cases b
def Sub(s:Fr)(a:S):Prop:=∀t v,s.at_ t=some v->a.get t=v
theorem Sub.bC{s:Fr}{a:S}(b:Sub s a){x:Operand}{v:Value}(h:Ev.bC s x=some v):ev a x=v:=by
 cases x with
 |tmp t=>exact b t v h
 |const u=>cases h;rfl
 |global g=>cases h;rfl
 |func f=>cases h;rfl
theorem cR{b a:Type}{o:Option b}{k:b->M a}{h:H}{n:Nat}{r:Out a}(c:bf o k h n=some r):∃v,o=some v∧k v h n=some r:=by
 cases o with
 |none=>cases c
 |some v=>exact⟨v,rfl,c⟩
theorem xK{b:Type}{s:Fr}{c:S}(d:Sub s c):∀{l:List Operand} {k:List Value->M b} {h:H} {n:Nat} {r:Out b},kV s l k h n=some r->∃vs,vs=l.map (ev c)∧k vs h n=some r
 |[],k,h,n,r,a=>⟨[],rfl,a⟩
 |x::l,k,h,n,r,a=>by unfold kV at a;obtain⟨v,f,a⟩:=cR a;obtain⟨vs,e,a⟩:=xK d a;exact⟨v::vs,by rw[List.map_cons,d.bC f,e],a⟩
theorem Ie{b:Type}{s:Fr}{c:S}(e:Sub s c){x:Option Operand}{k:Option Value->M b}{h:H}{n:Nat}{r:Out b}(a:qQ s x k h n=some r):k (x.map (ev c)) h n=some r:=by
 cases x with
 |none=>exact a
 |some x=>obtain⟨v,d,a⟩:=cR a;simp only[Cg,e.bC d];exact a
def cont(P:Program)(kn:List FuncId)(fuel:Nat):Nx->M Value
 | .val v=> .ret v
 | .call f args=>dm P kn fuel f args
theorem nQ{m:M Value}{P:Program}{kn:List FuncId}{fuel:Nat}:(m.bind fun v=> .ret (.val v)).bind (cont P kn fuel)=m:=by
 funext h n;unfold M.bind;cases m h n with
 |none=>rfl
 |some o=>simp[M.ret,cont]
theorem kF{v:Value}{P:Program}{kn:List FuncId}{fuel:Nat}:(M.ret (Nx.val v)).bind (cont P kn fuel)=M.ret v:=by funext h n;simp[M.bind,M.ret,cont]
theorem aeu{f:FuncId}{args:Array Value}{P:Program}{kn:List FuncId}{fuel:Nat}:(M.ret (Nx.call f args)).bind (cont P kn fuel)=dm P kn fuel f args:=by
 funext h n;simp only[M.bind,M.ret,cont];cases dm P kn fuel f args h n with
 |none=>rfl
 |some o=>simp
theorem uS{b:Type}(a:b):M.lift (some a)=M.ret a:=rfl
theorem oI{b c:Type}(a:b)(f:b->M c):(M.ret a).bind f=f a:=by
 funext h n;simp only[M.bind,M.ret];cases f a h n with
 |none=>rfl
 |some o=>simp
def CY(E:Nat->M Value){b:Type}(k:Value->M b)(h:H)(n:Nat)(r:Out b):Prop:=
 ∃v d c f e,eu (fun a=>inside (E a)) h n v d c f∧k v d c=some ⟨r.val,r.h,r.n,e⟩∧r.log=f++e
section
variable {β:Type} {E:Nat->M Value} {k:Value->M β} {h:H} {n:Nat} {r:Out β}
theorem nR{m:M Value}(b:((inside m).bind k) h n=some r)(d:∀fuel,E fuel=m):CY E k h n r:=by obtain⟨c,p,o,L⟩:=r;obtain⟨v,e,a,l,j,i,g,f⟩:=bind_some b;exact⟨v,e,a,l,j,⟨0,fun fuel _=>by show Ev.inside (E fuel) h n=_;rw[d];exact i⟩,g,f⟩
theorem ke{v:Value}(a:k v h n=some r)(b:∀fuel,E fuel=M.ret v):CY E k h n r:=by obtain⟨c,e,d,L⟩:=r;exact⟨v,h,n,[],L,⟨0,fun fuel _=>by show Ev.inside (E fuel) h n=_;rw[b];rfl⟩,a,rfl⟩
theorem aev {P:Program} {kn:List FuncId} {rec:FuncId->Array Value->M Value} (a:∀f args h n v d b L,rec f args h n=some ⟨v,d,b,L⟩->eu (fun fuel=>dm P kn fuel f args) h n v d b L) {g:FuncId} {args:Array Value}
 (e:((inside (rec g args)).bind k) h n=some r) (i:∀fuel,E fuel=dm P kn fuel g args):CY E k h n r:=by
 obtain⟨c,s,q,L⟩:=r;obtain⟨v,d,b,t,p,o,m,l⟩:=bind_some e;obtain⟨u,j,rfl⟩:=uR o;exact⟨v,d,b,_,p,((a _ _ _ _ _ _ _ _ j).map i).inside,m,l⟩
end
theorem zN{P:Program}{a:Bool}{s:Sem Value}{v:Value}(h:mJ P a s=some v):a=true∧jg P (do pure (.value (<-s)))=some v∧scalar v=true:=by
 unfold mJ at h;cases a with
 |false=>cases h
 |true=>
  simp only at h;split at h
  ·rename_i u b;split at h
   ·rename_i c;cases h;exact⟨rfl,b,c⟩
   ·cases h
  ·cases h
theorem qR{P:Program}{ρ:Operand->Value}{o:Oper}{v:Value}(b:(o.op.operands.all fun x=>scalar (ρ x))=true)(h2:jg P (execOp ρ o)=some v)(a:scalar v=true):gh P ρ o=M.ret (.val v):=by unfold gh;rw[if_pos b,h2,uS,oI,if_pos a]
theorem aew{P:Program}{t:TypeId}(h:lO P t=false)(x y:Value):pJ P t x y=none:=by
 unfold lO at h;unfold pJ uC;generalize P.underlying t=d at h;cases d with
 |none=>rfl
 |some d=>cases d<;>first|(cases h;done)|rfl|(unfold pI;rfl)
theorem aex{c:BinOp}{t:TypeId}{x y:Operand}{a b:Value}(e:scalar a=true)(d:scalar b=true):eqGuard c t x y a b=pure ():=by
 cases a<;>first|(simp[scalar]at e;done)|skip
 all_goals cases b<;>first|(simp[scalar]at d;done)|skip
 all_goals cases c<;>rfl
theorem aey {P:Program} {b:S} {d:BinOp} {t e:TypeId} {x y:Operand} {v:Value} {c:Option Tmp} {ty:TypeId} {pos:String} {after:Array Edge} {guard:Option (Nat×Bool)}
 (h:dW P d t (ev b x) (ev b y)=some v):cC P (ev b) ⟨c,.binOp d t x y e,ty,pos,after,guard⟩=M.ret (.val v):=by
 unfold dW at h;split at h
 ·unfold Ib at h;unfold cC;simp only;split at h
  ·rename_i q;cases h;rw[q]
  ·rename_i q;cases h;rw[q]
  ·cases h
 ·rename_i f;unfold Ic at h;obtain⟨a,i,g⟩:=zN h;unfold cC;simp only[aew f];simp only[cD]at a;refine qR (by simp[dX,a.1,a.2]) ?_ g;rw[<-i];simp only[execOp,aex a.1 a.2];rfl
theorem aez{a b:Option TypeDesc}{v:Value}(h:uM a b=none):uD a b v=none:=by
 unfold uM at h;unfold uD;split at h
 ·cases h
 ·rename_i c;split
  ·rename_i e s;exact(c _ rfl rfl).elim
  ·rfl
theorem Pz{d c:Type}{f:d->c}{l:List d}{a b:c}(h:l.map f=[a,b]):∃x y,l=[x,y]∧f x=a∧f y=b:=by
 match l,h with
 |[x,y],h=>simp at h;exact⟨x,y,rfl,h.1,h.2⟩
theorem aeA{j i:Type}{f:j->i}{l:List j}{a b c d e g:i}(h:l.map f=[a,b,c,d,e,g]):∃x y z u t s,l=[x,y,z,u,t,s]∧f x=a∧f y=b∧f z=c∧f u=d∧f t=e∧f s=g:=by
 match l,h with
 |[x,y,z,u,t,s],h=>simp at h;exact⟨x,y,z,u,t,s,rfl,h⟩
theorem aeB{c b:Type}{f:c->b}{l:List c}{a:b}(h:l.map f=[a]):∃x,l=[x]∧f x=a:=by
 match l,h with
 |[x],h=>simp at h;exact⟨x,rfl,h⟩
theorem zO{b:Type}{a:Array b}{l:List b}(h:a.toList=l):a=l.toArray:=by cases a;simp at h;rw[h]
theorem zip_map{b d c:Type}(f:b->d)(g:b->c)(l:List b):(l.map f).zip (l.map g)=l.map fun x=>(f x,g x):=by
 induction l with
 |nil=>rfl
 |cons a l e=>simp[e]
theorem aeC{P:Program}{t:TypeId}{x a v:Value}(h:CS P t x a=some v):isStr x=true∧scalar a=true∧jg P (do pure (.value (<-Cp t x a)))=some v∧scalar v=true:=by
 unfold CS at h;split at h
 ·rename_i b;obtain⟨e,d,c⟩:=zN h;exact⟨b,e,d,c⟩
 ·cases h
theorem aeD{P:Program}{t:TypeId}{x a v:Value}(h:CT P t x a=some v):isStr x=false∧xB P t x a=some v:=by
 unfold CT at h;split at h
 ·cases h
 ·rename_i b;exact⟨b,h⟩
theorem PA{x:Value}(h:isStr x=true):scalar x=true:=by cases x<;>first|rfl|(simp[isStr]at h)
theorem pR{P:Program}{t:TypeId}{d:TypeDesc}(h:P.underlying t=some d)(f:TypeDesc->Sem Next):jg P (underlying t>>=f)=jg P (f d):=by
 unfold underlying
 show jg P ((match P.underlying t with
  |some d=>pure d
  |none=>stuck "no such type")>>=f)=_
 rw[h];rfl
set_option maxHeartbeats 1000000 in
theorem aeE {P:Program} {kn:List FuncId} {rec:FuncId->Array Value->M Value} (u1:∀f args h n v F n1 L,rec f args h n=some ⟨v,F,n1,L⟩->eu (fun fuel=>dm P kn fuel f args) h n v F n1 L)
 {β:Type} {s:Fr} {s1:S} {o:Oper} {k:Value->M β} {h:H} {n:Nat} {r:Out β} (p:Sub s s1) (j:CU P rec s o k h n=some r):CY (fun fuel=>(cC P (ev s1) o).bind (cont P kn fuel)) k h n r:=by
 obtain⟨u3,op,ty,pos,after,guard⟩:=o;unfold CU at j;cases op with
 |move x=>obtain⟨v,m,j⟩:=cR j;exact ke j fun fuel=>by rw[<-p.bC m];exact kF
 |assign x=>obtain⟨v,m,j⟩:=cR j;exact ke j fun fuel=>by rw[<-p.bC m];exact kF
 |pick c a b=>
  obtain⟨vc,D,j⟩:=cR j;obtain⟨J,w,j⟩:=cR j;obtain⟨vb,G,j⟩:=cR j;obtain⟨v,m,j⟩:=cR j;refine ke j fun fuel=> ?_;unfold cC;simp only[p.bC D,p.bC w,p.bC G];unfold Ps at m;split at m
  ·cases m;exact kF
  ·cases m
 |alloc e=>exact nR j fun fuel=>nQ
 |box e x=>obtain⟨v,m,j⟩:=cR j;exact nR j fun fuel=>by rw[<-p.bC m];exact nQ
 |build t T=>obtain⟨vs,m,j⟩:=xK p j;refine nR j fun fuel=> ?_;rw[m,qA,zip_map];exact nQ
 |buildSlice t len T=>obtain⟨vs,m,j⟩:=xK p j;refine nR j fun fuel=> ?_;rw[m,qA,zip_map];exact nQ
 |load t a=>obtain⟨v,m,j⟩:=cR j;exact nR j fun fuel=>by rw[<-p.bC m];exact nQ
 |store t a x=>obtain⟨J,w,j⟩:=cR j;obtain⟨v,m,j⟩:=cR j;exact nR j fun fuel=>by rw[<-p.bC m,<-p.bC w];exact nQ
 |nilCheck x=>
  obtain⟨v,m,j⟩:=cR j;obtain⟨u,N,j⟩:=cR j;refine ke j fun fuel=> ?_;unfold cC;simp only[p.bC m];unfold Pu at N;split at N
  ·cases N;exact(congrArg (fun z=>M.bind z (cont P kn fuel)) (oI _ _)).trans kF
  ·cases N;exact(congrArg (fun z=>M.bind z (cont P kn fuel)) (oI _ _)).trans kF
  ·cases N
 |binOp op t x y yt=>obtain⟨J,w,j⟩:=cR j;obtain⟨vb,G,j⟩:=cR j;obtain⟨v,m,j⟩:=cR j;rw[<-p.bC w,<-p.bC G]at m;exact ke j fun fuel=>by simp only[aey m];exact kF
 |unOp op t x=>obtain⟨J,w,j⟩:=cR j;obtain⟨v,m,j⟩:=cR j;rw[<-p.bC w]at m;obtain⟨F,Q,W⟩:=zN m;refine ke j fun fuel=> ?_;rw[<-kF (P:=P) (fuel:=fuel),<-qR (ρ:=ev s1) (o:=⟨u3,.unOp op t x,ty,pos,after,guard⟩) (by simpa[dX]using F) Q W];rfl
 |convert src d x=>
  obtain⟨J,w,j⟩:=cR j;have R:=p.bC w;unfold CQ at j;cases he:si (P.underlying src) (P.underlying d)with
  |some e=>
   simp only[he]at j;cases N:nL P e with
   |true=>simp only[N]at j;refine nR j fun fuel=> ?_;unfold cC;simp only[he,N,if_true,R];exact nQ
   |false=>simp only[N]at j;cases j
  |none=>
   simp only[he]at j;cases C:uM (P.underlying src) (P.underlying d)with
   |some e=>
    simp only[C]at j;cases N:(nL P e&&size? P e==some 1)with
    |true=>
     simp only[N]at j;cases J with
     |string Y=>
      refine nR j fun fuel=> ?_;unfold cC;simp only[he,R];unfold CP
      have:uD (P.underlying src) (P.underlying d) (.string Y)=some (e,Y):=by
       revert C;generalize P.underlying src=a;generalize P.underlying d=b;intro C;unfold uM at C;split at C
       ·cases C;rfl
       ·cases C
      simp only[this,N,if_true];exact nQ
     |_=>exfalso;obtain⟨c,Q,n2,L⟩:=r;obtain⟨v,F,n1,L1,L2,e1,e2,e3⟩:=bind_some j;obtain⟨L',e4,_⟩:=uR e1;cases e4
    |false=>simp only[N]at j;cases j
   |none=>simp only[C]at j;obtain⟨v,m,j⟩:=cR j;obtain⟨F,Q,W⟩:=zN m;refine ke j fun fuel=> ?_;unfold cC;simp only[he,aez C];rw[qR (by simpa[dX,R]using F) (by rw[<-Q];simp only[execOp,R]) W];exact kF
 |makeFunc fn a b=>obtain⟨J,w,j⟩:=xK p j;obtain⟨vb,G,j⟩:=xK p j;refine ke j fun fuel=> ?_;subst w G;unfold cC;simp only[<-qz,Array.toArray_toList];exact kF
 |makeSlice t l c=>obtain⟨J,w,j⟩:=cR j;obtain⟨v,m,j⟩:=cR j;exact nR j fun fuel=>by rw[<-p.bC m,<-p.bC w];exact nQ
 |slice t x lo hi mx=>
  obtain⟨J,w,j⟩:=cR j;have j:=Ie p j;have j:=Ie p j;have j:=Ie p j;have R:=p.bC w;unfold xJ at j;cases u0:oH P t with
  |true=>
   simp only[u0]at j;obtain⟨v,m,j⟩:=cR j;unfold CR at m;split at m
   ·rename_i K;obtain⟨F,Q,W⟩:=zN m;refine ke j fun fuel=> ?_;unfold cC;simp only[R,K,if_true];simp only[cD]at F;rw[qR ?_ (by rw[<-Q];simp only[execOp,R]) W]
    ·exact kF
    ·have q1:=F.1.1;have q2:=F.1.2;have q3:=F.2;simp only[dX];have q0:=PA K;cases lo<;>cases hi<;>cases mx<;>simp_all [uN]
   ·cases m
  |false=>
   simp only[u0]at j;refine nR j fun fuel=> ?_;unfold uO;unfold cC;simp only[R];cases K:isStr J with
   |true=>exfalso;obtain⟨c,Q,n2,L⟩:=r;obtain⟨v,F,n1,L1,L2,e1,e2,e3⟩:=bind_some j;obtain⟨L',e4,_⟩:=uR e1;unfold uO at e4;rw[K]at e4;cases e4
   |false=>simp only[nD,if_false];exact nQ
 |fieldAddr t x f=>obtain⟨J,w,j⟩:=cR j;obtain⟨v,m,j⟩:=cR j;refine ke j fun fuel=> ?_;unfold cC;simp only[p.bC w,m,uS,oI];rfl
 |field t x f=>obtain⟨J,w,j⟩:=cR j;obtain⟨v,m,j⟩:=cR j;refine ke j fun fuel=> ?_;unfold cC;simp only[p.bC w,m,uS,oI];rfl
 |indexAddr t x f=>obtain⟨J,w,j⟩:=cR j;obtain⟨vb,G,j⟩:=cR j;obtain⟨v,m,j⟩:=cR j;refine ke j fun fuel=> ?_;unfold cC;simp only[p.bC w,p.bC G,m,uS,oI];rfl
 |index t x f=>
  obtain⟨J,w,j⟩:=cR j;obtain⟨vb,G,j⟩:=cR j;obtain⟨v,m,j⟩:=cR j;refine ke j fun fuel=> ?_;unfold cC;unfold uP at m;split at m
  ·obtain⟨h0,F,Q,W⟩:=aeC m;simp only[p.bC w,p.bC G,h0,if_true];rw[qR (by simp[dX,p.bC w,p.bC G,F,PA h0]) (by rw[<-Q];simp only[execOp,p.bC w,p.bC G]) W];exact kF
  ·obtain⟨h0,F⟩:=aeD m;simp only[p.bC w,p.bC G,h0,F,uS,oI,nD,if_false];rfl
 |extract t i=>obtain⟨J,w,j⟩:=cR j;obtain⟨v,m,j⟩:=cR j;refine ke j fun fuel=> ?_;unfold cC;simp only[p.bC w,m,uS,oI];rfl
 |call c=>
  obtain⟨vs,m,j⟩:=xK p j;unfold call2 at j;cases D:c.callee with
  |value f=>
   simp only[D]at j;obtain⟨fv,u2,j⟩:=cR j;unfold gI at j;obtain⟨q,hq,j⟩:=cR j;obtain⟨g,first,X⟩:=q;simp only at j;cases G:mE P g with
   |true=>simp only[G]at j;refine aev u1 j fun fuel=> ?_;unfold cC kE;simp only[D,p.bC u2,hq,G,if_true];rw[aeu];congr 1;subst m;apply zO;simp
   |false=>simp only[G]at j;cases j
  |builtin b=>
   simp only[D]at j;cases b with
   |append=>simp only at j;unfold Px at j;obtain⟨q,hq,j⟩:=cR j;obtain⟨t,x,y⟩:=q;refine nR j fun fuel=> ?_;unfold cC kE;simp only[D,qz,<-m,hq];exact nQ
   |copy=>simp only at j;unfold Py at j;obtain⟨q,hq,j⟩:=cR j;obtain⟨t,x,y⟩:=q;refine nR j fun fuel=> ?_;unfold cC kE;simp only[D,qz,<-m,hq];exact nQ
   |len=>
    simp only at j;obtain⟨v,A,j⟩:=cR j;refine ke j fun fuel=> ?_;unfold cC kE;simp only[D,qz,<-m];unfold zM at A;split at A
    ·rename_i t u ht;split at A
     ·rename_i e U;unfold Pv at A;split at A
      ·cases A;simp only[uE,ht,U];exact kF
      ·cases A
     ·rename_i U;unfold Pw at A;split at A
      ·rename_i Y;cases A;have:uE P c.argTypes [Value.string Y]=none:=by simp[uE,ht]
       simp only[this];obtain⟨x,I,E⟩:=aeB m.symm;have B:=zO I;rw[qR (v:= .int .i64 Y.size) ?_ ?_ rfl]
       ·exact kF
       ·simp[dX,xp,D,B,E,scalar]
       ·simp only[execOp,resolve,D,B];simp[E,invoke,builtin,Om,ht];rw[pR U];rfl
      ·cases A
     ·cases A
    ·cases A
   |min=>
    simp only at j;obtain⟨v,A,j⟩:=cR j;refine ke j fun fuel=> ?_;unfold cC kE;simp only[D];unfold min2 at A;split at A
    ·rename_i kd a0 Z b0;obtain⟨x,y,I,E,O⟩:=Pz m.symm;have B:=zO I;rw[qR (v:=v) ?_ ?_ (by cases A;rfl)]
     ·exact kF
     ·simp[dX,xp,D,B,E,O,scalar]
     ·cases A;simp only[execOp,resolve,D,B];simp[E,O];rfl
    ·rename_i kd a0 Z b0 u7 c0 u6 d0 u5 e0 u4 f0;obtain⟨x,y,z,u,t,s,I,q1,q2,q3,q4,q5,q6⟩:=aeA m.symm;have B:=zO I;rw[qR (v:=v) ?_ ?_ (by cases A;rfl)]
     ·exact kF
     ·simp[dX,xp,D,B,q1,q2,q3,q4,q5,q6,scalar]
     ·cases A;simp only[execOp,resolve,D,B];simp[q1,q2,q3,q4,q5,q6];rfl
    ·cases A
   |max=>
    simp only at j;obtain⟨v,A,j⟩:=cR j;refine ke j fun fuel=> ?_;unfold cC kE;simp only[D];unfold max2 at A;split at A
    ·rename_i kd a0 Z b0;obtain⟨x,y,I,E,O⟩:=Pz m.symm;have B:=zO I;rw[qR (v:=v) ?_ ?_ (by cases A;rfl)]
     ·exact kF
     ·simp[dX,xp,D,B,E,O,scalar]
     ·cases A;simp only[execOp,resolve,D,B];simp[E,O];rfl
    ·cases A
   |_=>cases j
  |invoke _ _=>simp only[D]at j;cases j
 |_=>cases j
def Q0{c:Type}(m:M c):Prop:=∀h n a d b L,m h n=some ⟨a,d,b,L⟩->L=[]∧b=n
def Q1{c:Type}(m:M c):Prop:=∀h n a d b L,m h n=some ⟨a,d,b,L⟩->b=n∧∀e∈L,e.wr=false
def Q2{b:Type}(m:M b):Prop:=∀h n a d c L,m h n=some ⟨a,d,c,L⟩->L=[]
theorem Q0.ret{c:Type}(a:c):Q0 (M.ret a):=fun h n b f d L e=>by simp only[M.ret,ep,Out.mk.injEq]at e;exact⟨e.2.2.2.symm,e.2.2.1.symm⟩
theorem Q0.fail{a:Type}:Q0 (M.fail:M a):=fun h n b d c L e=>by cases e
theorem Q0.lift{b:Type}(o:Option b):Q0 (M.lift o):=by cases o with|none=>exact Q0.fail|some a=>exact Q0.ret a
theorem Q0.q1{b:Type}{m:M b}(x:Q0 m):Q1 m:=fun h n a f d L e=>by obtain⟨rfl,rfl⟩:=x _ _ _ _ _ _ e;exact⟨rfl,fun e c=>nomatch c⟩
theorem Q0.q2{b:Type}{m:M b}(x:Q0 m):Q2 m:=fun h n a d c L e=>(x _ _ _ _ _ _ e).1
theorem Q1.bind{c d:Type}{m:M c}{f:c->M d}(x:Q1 m)(y:∀a,Q1 (f a)):Q1 (m.bind f):=fun h n b r o L e=>by
 obtain⟨a,s,p,u,t,l,k,rfl⟩:=bind_some e;obtain⟨rfl,j⟩:=x _ _ _ _ _ _ l;obtain⟨rfl,i⟩:=y _ _ _ _ _ _ _ k;refine⟨rfl,fun e g=> ?_⟩;rcases List.mem_append.1 g with q|q
 ·exact j e q
 ·exact i e q
theorem Q2.bind{c d:Type}{m:M c}{f:c->M d}(x:Q2 m)(y:∀a,Q2 (f a)):Q2 (m.bind f):=fun h n b l j L e=>by obtain⟨a,o,k,q,p,i,g,rfl⟩:=bind_some e;rw[x _ _ _ _ _ _ i,y _ _ _ _ _ _ _ g];rfl
theorem Q1.rd(b k:Nat):Q1 (Ev.rd b k):=fun h n a f d L e=>by
 unfold Ev.rd at e;split at e
 ·split at e
  ·split at e
   ·simp only[ep,Out.mk.injEq]at e;obtain⟨_,_,rfl,rfl⟩:=e;exact⟨rfl,fun e c=>by simp at c;subst c;rfl⟩
   ·cases e
  ·cases e
 ·cases e
theorem Q1.gZ(b:Nat):Q1 (Ev.gZ b):=fun h n a f d L e=>by
 unfold Ev.gZ at e;split at e
 ·split at e
  ·simp only[ep,Out.mk.injEq]at e;obtain⟨_,_,rfl,rfl⟩:=e;exact⟨rfl,fun e c=>by simp at c;subst c;rfl⟩
  ·cases e
 ·cases e
theorem Q1.cW(b:Nat):∀n k,Q1 (Ev.cW b k n)
 |0,_=>(Q0.ret _).q1
 |n+1,k=>Q1.bind (Q1.rd _ _) fun _=>Q1.bind (Q1.cW b n _) fun _=>(Q0.ret _).q1
theorem Q2.dy(e:TypeId)(cs:List Value):Q2 (Ev.dy e cs):=fun h n a d c L b=>by
 unfold Ev.dy at b;split at b
 ·simp only[ep,Out.mk.injEq]at b;exact b.2.2.2.symm
 ·cases b
theorem Q0.nilCheck(v:Value):Q0 (qH v):=by unfold qH;split<;>first|exact Q0.ret _|exact Q0.fail
theorem Q0.build(P:Program)(t:TypeId)(ps:List (Nat×Value)):Q0 (mC P t ps):=by
 unfold mC;split
 ·split
  ·split
   ·exact Q0.ret _
   ·exact Q0.fail
  ·exact Q0.fail
 ·exact Q0.fail
theorem Q1.load(P:Program)(t:TypeId)(v:Value):Q1 (jj P t v):=by
 unfold jj;split
 ·split
  ·exact Q1.bind (Q1.cW _ _ _) fun _=>(Q0.ret _).q1
  ·exact Q1.rd _ _
  ·exact Q0.fail.q1
 ·exact Q0.fail.q1
theorem Q1.aeF(P:Program)(t:TypeId)(v:Value)(lo b a:Option Value):Q1 (oE P t v lo b a):=by
 unfold oE;split
 ·refine Q1.bind (Q1.gZ _) fun _=> ?_;split
  ·split
   ·exact(Q0.lift _).q1
   ·exact Q0.fail.q1
  ·exact Q0.fail.q1
 ·exact(Q0.lift _).q1
theorem Q2.alloc(P:Program)(e:TypeId):Q2 (nI P e):=by
 unfold nI;split
 ·exact Q2.bind (Q2.dy _ _) fun _=>(Q0.ret _).q2
 ·exact Q0.fail.q2
theorem Q2.box(P:Program)(e:TypeId)(v:Value):Q2 (nJ P e v):=by
 unfold nJ;split
 ·exact Q2.bind (Q2.dy _ _) fun _=>(Q0.ret _).q2
 ·exact Q0.fail.q2
theorem Q2.buildSlice(P:Program)(t:TypeId)(len:Nat)(ps:List (Nat×Value)):Q2 (mD P t len ps):=by
 unfold mD
 repeat' (first|exact Q0.fail.q2|exact Q2.bind (Q2.dy _ _) fun _=>(Q0.ret _).q2|split)
theorem Q2.makeSlice(P:Program)(t:TypeId)(l c:Value):Q2 (nM P t l c):=by
 unfold nM
 repeat' (first|exact Q0.fail.q2|exact Q2.bind (Q2.dy _ _) fun _=>(Q0.ret _).q2|split)
def QK(k:Nat){a:Type}(m:M a):Prop:=(k=0->Q0 m)∧(k=1->Q1 m)∧(k=2->Q2 m)
theorem QK.kf{a:Type}{m:M a}(x:Q0 m)(k:Nat):QK k m:=⟨fun _=>x,fun _=>x.q1,fun _=>x.q2⟩
theorem QK.PB{a:Type}{m:M a}(x:Q1 m):QK 1 m:=⟨fun h=>by omega,fun _=>x,fun h=>by omega⟩
theorem QK.CZ{a:Type}{m:M a}(x:Q2 m):QK 2 m:=⟨fun h=>by omega,fun h=>by omega,fun _=>x⟩
theorem QK.PC{a:Type}{m:M a}:QK 3 m:=⟨fun h=>by omega,fun h=>by omega,fun h=>by omega⟩
def xL(rec:FuncId->Array Value->M Value):Nx->M Value
 | .val v=> .ret v
 | .call f args=>rec f args
theorem aeG{a b:Type}(f:a->M b):(M.fail:M a).bind f=M.fail:=rfl
theorem aeH(P:Program)(ρ:Operand->Value)(rec:FuncId->Array Value->M Value)(o:Oper):QK (kind o.op) ((cC P ρ o).bind (xL rec)):=by
 have d:∀{m:M Value},(m.bind fun v=>M.ret (Nx.val v)).bind (xL rec)=m:=fun{m}=>by
  funext h n;unfold M.bind;cases m h n with
  |none=>rfl
  |some o=>simp[M.ret,xL]
 have j:∀(v:Value),(M.ret (Nx.val v)).bind (xL rec)=M.ret v:=fun v=>by rw[oI];rfl
 have g:Q0 ((gh P ρ o).bind (xL rec)):=by
  unfold gh;split
  ·intro h n r u s L e;obtain⟨x,Q,G,X,W,B,A,rfl⟩:=bind_some e;obtain⟨y,O,F,U,T,z,p,rfl⟩:=bind_some B;obtain⟨rfl,rfl⟩:=Q0.lift _ _ _ _ _ _ _ z;split at p
   ·obtain⟨rfl,_,_⟩:=bX p;obtain⟨rfl,rfl⟩:=Q0.ret _ _ _ _ _ _ _ p;obtain⟨rfl,rfl⟩:=Q0.ret _ _ _ _ _ _ _ A;exact⟨rfl,rfl⟩
   ·cases p
  ·intro h n r u s L e;cases e
 obtain⟨C,q,E,pos,after,guard⟩:=o;cases q with
 |move x=>exact QK.kf (by unfold cC;rw[j];exact Q0.ret _) _
 |assign x=>exact QK.kf (by unfold cC;rw[j];exact Q0.ret _) _
 |pick c a b=>
  refine QK.kf ?_ _;unfold cC;simp only;split
  ·rw[j];exact Q0.ret _
  ·rw[aeG];exact Q0.fail
 |alloc e=>exact QK.CZ (by unfold cC;rw[d];exact Q2.alloc _ _)
 |box e x=>exact QK.CZ (by unfold cC;rw[d];exact Q2.box _ _ _)
 |build t w=>exact QK.kf (by unfold cC;rw[d];exact Q0.build _ _ _) _
 |buildSlice t len w=>exact QK.CZ (by unfold cC;rw[d];exact Q2.buildSlice _ _ _ _)
 |load t a=>exact QK.PB (by unfold cC;rw[d];exact Q1.load _ _ _)
 |nilCheck x=>exact QK.kf (by unfold cC;rw[d];exact Q0.nilCheck _) _
 |binOp q t x y D=>
  refine QK.kf ?_ _;unfold cC;simp only;split
  ·rw[j];exact Q0.ret _
  ·rw[j];exact Q0.ret _
  ·exact g
  ·intro h n a u s L e;cases e
 |unOp q t x=>exact QK.kf (g) _
 |makeFunc R a b=>exact QK.kf (by unfold cC;rw[j];exact Q0.ret _) _
 |makeSlice t l c=>exact QK.CZ (by unfold cC;rw[d];exact Q2.makeSlice _ _ _ _)
 |slice t x J N I=>
  refine QK.PB ?_;unfold cC;simp only;split
  ·exact(g).q1
  ·rw[d];exact Q1.aeF _ _ _ _ _ _
 |fieldAddr t x f=>exact QK.kf (by unfold cC;rw[d];exact Q0.lift _) _
 |field t x f=>exact QK.kf (by unfold cC;rw[d];exact Q0.lift _) _
 |indexAddr t x f=>exact QK.kf (by unfold cC;rw[d];exact Q0.lift _) _
 |index t x K=>
  refine QK.kf ?_ _;unfold cC;simp only;split
  ·exact g
  ·rw[d];exact Q0.lift _
 |extract t i=>exact QK.kf (by unfold cC;rw[d];exact Q0.lift _) _
 |call c=>
  unfold kind;simp only;split
  ·rename_i k;refine QK.kf ?_ _;unfold cC kE;simp only[k];split
   ·rw[j];exact Q0.ret _
   ·exact g
  ·rename_i k;refine QK.kf ?_ _;unfold cC kE;simp only[k];exact g
  ·rename_i k;refine QK.kf ?_ _;unfold cC kE;simp only[k];exact g
  ·exact QK.PC
 |_=>exact QK.PC
structure C0 (o:Oper) (t:Tk):Prop where
 le:t.n<=t.n1
 lt:∀e∈t.log,e.b<t.n1
 k0:kind o.op=0->t.log=[]∧t.n1=t.n
 k1:kind o.op=1->t.n1=t.n∧∀e∈t.log,e.wr=false
 k2:kind o.op=2->t.log=[]
inductive oK:Nat->List Oper->List Tk->Nat->Prop
 |nil (n:Nat):oK n [] [] n
 |cons {n m:Nat} {o:Oper} {t:Tk} {r:List Oper} {ts:List Tk} (h:C0 o t) (e:t.n=n) (x:oK t.n1 r ts m):oK n (o::r) (t::ts) m
theorem any_false{a:Type}{l:List a}{p:a->Bool}(h:∀x∈l,p x=false):l.any p=false:=by rw[List.any_eq_false];intro x b;rw[h x b];exact Bool.false_ne_true
theorem aeI{a b:Oper}{i h:Tk}(d:C0 a i)(e:C0 b h)(k:i.n1<=h.n)(hf:fits (kind a.op) (kind b.op)=true):i.gq h=false:=by
 have n:=d.le;have m:=e.le;unfold fits at hf;simp only[mr,beq_iff_eq,cD]at hf;unfold Tk.gq;rcases hf with (((hf|hf)|hf)|hf)|hf
 ·obtain⟨f,g⟩:=d.k0 hf;rw[f];simp only[adj,Hs,Co,adk,xq];refine⟨any_false fun x _=>rfl,any_false fun x c=> ?_⟩;simp;omega
 ·obtain⟨f,g⟩:=e.k0 hf;rw[f];simp only[adj,Hs,xq,Co,adk];refine⟨any_false fun x _=>rfl,any_false fun x c=> ?_⟩;simp;omega
 ·obtain⟨f,g⟩:=d.k1 hf.1;obtain⟨j,l⟩:=e.k1 hf.2;simp only[xq];refine⟨⟨⟨any_false fun x c=>by rw[g x c];rfl,any_false fun x c=>by rw[l x c];rfl⟩,any_false fun x c=> ?_⟩,any_false fun x c=> ?_⟩
  ·simp;omega
  ·simp;omega
 ·rw[d.k2 hf.1,e.k2 hf.2];rfl
 ·obtain⟨f,g⟩:=d.k1 hf.1;have j:=e.k2 hf.2;rw[j];simp only[adj,Hs,xq,adk];refine⟨any_false fun x _=>rfl,any_false fun x c=> ?_⟩;have:=d.lt x c;simp;omega
theorem PD{P:Program}{rec:FuncId->Array Value->M Value}{ops:Array Oper}{o:Oper}{s:S}(h:fP o (gG ops s)=true):fI P rec ops o s=(cC P (ev s) o).bind (xL rec):=by unfold fI;rw[if_pos h];rfl
theorem aeJ{P:Program}{rec:FuncId->Array Value->M Value}{ops:Array Oper}{o:Oper}{s:S}:QK (kind o.op) (fI P rec ops o s):=by
 by_cases h:fP o (gG ops s)=true
 ·rw[PD h];exact aeH _ _ _ _
 ·unfold fI;rw[if_neg h];exact QK.kf (Q0.ret _) _
theorem filter_nil{a:Type}{L:List a}{p:a->Bool}(h:L=[]):L.filter p=[]:=by rw[h];rfl
theorem Ig{d:Type}{m:M d}{h f:H}{n c:Nat}{x:d×Tk}{L:List En}(b:bx m h n=some ⟨x,f,c,L⟩):m h n=some ⟨x.1,f,c,L⟩∧x.2=⟨n,c,L⟩:=by
 unfold bx at b;split at b
 ·rename_i a i g j e;simp only[ep,Out.mk.injEq]at b;obtain⟨rfl,rfl,rfl,rfl⟩:=b;exact⟨e,rfl⟩
 ·cases b
theorem C1{c:Type}{m:M c}{h d:H}{n b:Nat}{a:c}{L:List En}(e:m h n=some ⟨a,d,b,L⟩):bx m h n=some ⟨(a,⟨n,b,L⟩),d,b,L⟩:=by unfold bx;rw[e]
theorem aeK{P:Program}{rec:FuncId->Array Value->M Value}(i:∀f a,Loc (rec f a)){nt:Nat}{ops:Array Oper}:∀(l:List Oper) (s:S) (h j:H) (n d:Nat) (y:S×List Tk) (L:List En),iR P rec nt ops l s h n=some ⟨y,j,d,L⟩->oK n l y.2 d:=by
 intro l
 induction l with
 |nil=>intro s h j n d y L g;obtain⟨rfl,rfl,rfl⟩:=bX g;exact .nil _
 |cons o l p=>
  intro s h j n d y L g;unfold iR at g;obtain⟨x,J,F,U,T,B,w,_⟩:=bind_some g;obtain⟨C,I,E,R,Q,v,u,_⟩:=bind_some w;obtain⟨z,G,D,O,N,t,r,_⟩:=bind_some u;obtain⟨rfl,rfl,rfl⟩:=bX r;obtain⟨_,rfl,rfl⟩:=mH v;obtain⟨m,b⟩:=Ig B;obtain⟨W,k,rfl⟩:=uR m;have A:=Loc.inside (Loc.fI i ops o s) h n _ _ _ _ m;have K:=aeJ (P:=P) (rec:=rec) (ops:=ops) (o:=o) (s:=s);refine .cons ⟨?_, ?_,fun c=> ?_,fun c=> ?_,fun c=> ?_⟩ ?_ ?_
  ·rw[b];exact A.le
  ·rw[b];exact A.lt
  ·obtain⟨q1,q2⟩:=K.1 c _ _ _ _ _ _ k;rw[b];exact⟨filter_nil q1,q2⟩
  ·obtain⟨q1,q2⟩:=K.2.1 c _ _ _ _ _ _ k;rw[b];exact⟨q1,fun e q=>q2 e (List.mem_filter.1 q).1⟩
  ·rw[b];exact filter_nil (K.2.2 c _ _ _ _ _ _ k)
  ·rw[b]
  ·rw[b];exact p _ _ _ _ _ _ _ t
theorem aeL{n m:Nat}{l:List Oper}{ts:List Tk}(x:oK n l ts m):∀(i:Nat) (a:Tk),ts[i]? =some a->∃c:Oper,l[i]? =some c∧C0 c a∧n<=a.n:=by
 induction x with
 |nil n=>intro i a b;simp at b
 |cons h e x d=>
  intro i a b;cases i with
  |zero=>simp at b;subst b;exact⟨_,rfl,h,jO⟩
  |succ i=>obtain⟨c,g,f,j⟩:=d i a (by simpa using b);exact⟨c,by simpa using g,f,by have:=h.le;omega⟩
theorem PE{ops:Array Oper}{f:List Nat}:∀(l:List Oper) (ts:List Tk) (n m j:Nat),oK n l ts m->(∀i o,l[i]? =some o->ops.getD (j+i) default=o)->
 (∀p q d c k g,p<q->l[p]? =some d->l[q]? =some c->ts[p]? =some k->ts[q]? =some g->(f.getD (j+q) 0).testBit (j+p)=true∨((fits (kind d.op) (kind c.op)=true∨k.gq g=false)∧pL ops d c=false))->pM ops f (tagged j ts)=true:=by
 intro l
 induction l with
 |nil=>intro ts n m j x _ _;cases x;rfl
 |cons o l B=>
  intro ts n m j x r v;cases x with
  |@cons _ _ _ t _ ts h e x=>
   unfold tagged pM;simp only[cD,mu]
   refine⟨?_,B ts _ m (j+1) x (fun i A b=>by have:=r (i+1) A (by simpa using b);rw[show j+1+i=j+(i+1) by omega];exact this) (fun p q d c k g E J I G F=>by
    have:=v (p+1) (q+1) d c k g jO (by simpa using J) (by simpa using I) (by simpa using G) (by simpa using F);rw[show j+1+q=j+(q+1) by omega,show j+1+p=j+(p+1) by omega]
    exact this)⟩
   intro z C;obtain⟨i,b⟩:=List.mem_iff_getElem?.1 C;rw[H2]at b;cases a:ts[i]? with
   |none=>rw[a]at b;cases b
   |some s=>
    rw[a]at b;simp only[Cg,ep]at b;subst b;obtain⟨u,w,L,K⟩:=aeL x i s a;have y:=r 0 o rfl;have N:=r (i+1) u (by simpa using w);have hq:=v 0 (i+1) o u t s jO rfl (by simpa using w) rfl (by simpa using a);rw[gX]at y hq;simp only[show j+1+i=j+(i+1) by omega,y,N,mr,cD,Oq];rcases hq with hq|⟨hq,D⟩
    ·exact .inl hq
    ·refine .inr ⟨?_,D⟩;rcases hq with hq|hq
     ·exact aeI h L K hq
     ·exact hq
theorem aeM{ops:Array Oper}{a:List Nat}{j:Nat}{b:Oper}:∀(l:List Oper) (k:Nat),CV ops a j b k l=true->∀i o,l[i]? =some o->(a.getD (k+i) 0).testBit j=true∨(fits (kind b.op) (kind o.op)=true∧pL ops b o=false):=by
 intro l
 induction l with
 |nil=>intro k _ i o h;simp at h
 |cons o l e=>
  intro k h i d c;unfold CV at h;simp only[cD,mr,Oq]at h;cases i with
  |zero=>simp at c;subst c;exact h.1
  |succ i=>rw[show k+(i+1)=k+1+i by omega];exact e (k+1) h.2 i d (by simpa using c)
theorem aeN{ops:Array Oper}{c:List Nat}:∀(l:List Oper) (j:Nat),CW ops c j l=true->∀p q b a,p<q->l[p]? =some b->l[q]? =some a->(c.getD (j+q) 0).testBit (j+p)=true∨(fits (kind b.op) (kind a.op)=true∧pL ops b a=false):=by
 intro l
 induction l with
 |nil=>intro k _ p q b a _ h;simp at h
 |cons o l f=>
  intro j h p q b a g d e;unfold CW at h;simp only[cD]at h;cases q with
  |zero=>omega
  |succ q=>
   cases p with
   |zero=>simp at d;subst d;have:=aeM l (j+1) h.1 q a (by simpa using e);rw[show j+(q+1)=j+1+q by omega,gX];exact this
   |succ p=>have:=f (j+1) h.2 p q b a jO (by simpa using d) (by simpa using e);rw[show j+(q+1)=j+1+q by omega,show j+(p+1)=j+1+p by omega];exact this
theorem PF(ops:Array Oper)(i:Nat)(o:Oper)(h:ops.toList[i]? =some o):ops.getD (0+i) default=o:=by rw[fy];rw[Hr]at h;simp[Array.getD_eq_getD_getElem?,h]
theorem aeO{ops:Array Oper}{ts:List Tk}{n m:Nat}(x:oK n ops.toList ts m)(h:CX ops=true):sx ops=true∧pM ops (lM ops.toList []) (tagged 0 ts)=true:=by
 unfold CX at h;simp only[cD]at h;refine⟨h.1,PE ops.toList ts n m 0 x (PF ops) fun p q c b i f a e d k j=> ?_⟩;rcases aeN ops.toList 0 h.2 p q c b a e d with g|g
 ·exact .inl g
 ·exact .inr ⟨.inl g.1,g.2⟩
end Go.Proofs.YtcehhgppfahbkaaGreatDoor.Ev
namespace Go.Proofs.YtcehhgppfahbkaaGreatDoor.Ev
open Go Go.RowKit
theorem aV{x:Int}(b:-9223372036854775808<=x)(a:x<=9223372036854775807):IntKind.i64.wrap x=x:=IntWalk.i64_in x jO
def oL(k:IntKind)(z:Int):Int:=match k,z with
 | .i64,.ofNat m=>match bK m 9223372036854775807 with
   |true=>z
   |false=>k.wrap z
 | .i64,.negSucc m=>match bK m 9223372036854775807 with
   |true=>z
   |false=>k.wrap z
 | .u8,.ofNat m=> .ofNat (m %256)
 | .u32,.ofNat m=> .ofNat (m %4294967296)
 | .u64,.ofNat m=> .ofNat (m %18446744073709551616)
 |_,_=>k.wrap z
theorem kG(k:IntKind)(z:Int):oL k z=k.wrap z:=by
 unfold oL;split
 ·rename_i m;cases h:bK m 9223372036854775807 with
  |true=>have:m<=9223372036854775807:=fX h;exact(aV (x:=(m:Int)) jO jO).symm
  |false=>rfl
 ·rename_i m;cases h:bK m 9223372036854775807 with
  |true=>have:m<=9223372036854775807:=fX h;exact(aV (x:=aqb m) jO jO).symm
  |false=>rfl
 ·rename_i m;show((m %256:Nat):Int)=IntKind.u8.wrap m;simp[adl,Ht,adm]
 ·rename_i m;show((m %4294967296:Nat):Int)=IntKind.u32.wrap m;simp[adl,Ht,adm]
 ·rename_i m;show((m %18446744073709551616:Nat):Int)=IntKind.u64.wrap m;simp[adl,Ht,adm]
 ·rfl
def C4(a b:Int):Int:=match a,b with
 | .ofNat x,.ofNat y=> .ofNat (fY x y)
 |_,_=>a+b
theorem PG(a b:Int):C4 a b=a+b:=by unfold C4;split<;>rfl
def C5(a b:Int):Int:=match a,b with
 | .ofNat x,.ofNat y=>match bK y x with
   |true=> .ofNat (Hv x y)
   |false=> .negSucc (Hv (Hv y x) 1)
 |_,_=>a-b
theorem C6(a b:Int):C5 a b=a-b:=by
 unfold C5;split
 ·rename_i x y;cases h:bK y x with
  |true=>have:=fX h;show((x-y:Nat):Int)=(x:Int)-y;omega
  |false=>
   have:¬y<=x:=fun q=>by rw[lI q]at h;cases h
   show aqb (y-x-1)=(x:Int)-y;omega
 ·rfl
def Ih(a b:Int):Int:=match a,b with
 | .ofNat x,.ofNat y=> .ofNat (Ot x y)
 |_,_=>a*b
theorem PH(a b:Int):Ih a b=a*b:=by unfold Ih;split<;>rfl
def pS(a b:Int):Bool:=match a,b with
 | .ofNat x,.ofNat y=>bZ x y
 |_,_=>a==b
theorem sK(a b:Int):pS a b=(a==b):=by
 unfold pS;split
 ·rename_i x y;cases h:bZ x y with
  |true=>rw[kC h];simp
  |false=>have:x≠y:=Ou h;symm;rw[beq_eq_false_iff_ne];intro q;exact this (arU q)
 ·rfl
def C7(a b:Int):Bool:=match a,b with
 | .ofNat x,.ofNat y=>bK x y
 |_,_=>decide (a<=b)
theorem C8(a b:Int):C7 a b=decide (a<=b):=by
 unfold C7;split
 ·rename_i x y;cases h:bK x y with
  |true=>have:=fX h;symm;rw[decide_eq_true_eq];show(x:Int)<=y;omega
  |false=>
   have:¬x<=y:=fun q=>by rw[lI q]at h;cases h
   symm;rw[decide_eq_false_iff_not];show¬((x:Int)<=y);omega
 ·rfl
def uT(a b:Int):Bool:=match a,b with
 | .ofNat x,.ofNat y=>bK (ff x) y
 |_,_=>decide (a<b)
theorem qS(a b:Int):uT a b=decide (a<b):=by
 unfold uT;split
 ·rename_i x y;cases h:bK (ff x) y with
  |true=>have:=fX h;symm;rw[decide_eq_true_eq];show(x:Int)<y;omega
  |false=>
   have:¬ff x<=y:=fun q=>by rw[lI q]at h;cases h
   symm;rw[decide_eq_false_iff_not];show¬((x:Int)<y);omega
 ·rfl
def qT:List UInt8->List UInt8->Bool
 |[],[]=>true
 |a::l,b::m=>match bZ a.toNat b.toNat with
  |true=>qT l m
  |false=>false
 |_,_=>false
theorem C9:∀a b:List UInt8,qT a b=decide (a=b)
 |[],[]=>rfl
 |a::l,b::m=>by
  unfold qT;cases h:bZ a.toNat b.toNat with
  |true=>have e:a=b:=UInt8.toNat_inj.1 (kC h);subst e;simp only;rw[C9 l m];simp
  |false=>have e:a≠b:=fun q=>Ou h (by rw[q]);symm;rw[decide_eq_false_iff_not];intro q;exact e (Ov q).1
 |[],_::_=>by unfold qT;simp
 |_::_,[]=>by unfold qT;simp
def Da:List UInt8->List UInt8->Bool
 |_,[]=>false
 |[],_::_=>true
 |a::l,b::m=>match Hw a.toNat b.toNat with
  |true=>true
  |false=>match bZ a.toNat b.toNat with
   |true=>Da l m
   |false=>false
theorem Ii:∀a b:List UInt8,Da a b=Cq a b
 |a,[]=>by cases a<;>rfl
 |[],_::_=>rfl
 |a::l,b::m=>by
  show(match Hw a.toNat b.toNat with
   |true=>true
   |false=>match bZ a.toNat b.toNat with
    |true=>Da l m
    |false=>false)=(decide (a<b)||(a==b&&Cq l m))
  have c:decide (a<b)=Hw a.toNat b.toNat:=by
   cases h:Hw a.toNat b.toNat with
   |true=>rw[aqc]at h;exact decide_eq_true (UInt8.lt_iff_toNat_lt.2 h)
   |false=>refine decide_eq_false fun q=> ?_;have q2:=UInt8.lt_iff_toNat_lt.1 q;rw[<-aqc,h]at q2;cases q2
  rw[c];cases h:Hw a.toNat b.toNat with
  |true=>rfl
  |false=>
   cases d:bZ a.toNat b.toNat with
   |true=>have e:a=b:=UInt8.toNat_inj.1 (kC d);subst e;simp only[beq_self_eq_true,oA,Co];exact Ii l m
   |false=>have e:(a==b)=false:=beq_eq_false_iff_ne.2 fun q=>Ou d (by rw[q]);rw[e];rfl
def Db:List UInt8->List UInt8->List UInt8
 |[],m=>m
 |a::l,m=>a::Db l m
theorem Ij:∀l m:List UInt8,Db l m=l++m
 |[],_=>rfl
 |a::l,m=>by unfold Db;rw[Ij l m];rfl
def jn:List UInt8->Nat
 |[]=>0
 |_::l=>ff (jn l)
theorem pT:∀l:List UInt8,jn l=l.length
 |[]=>rfl
 |_::l=>by unfold jn;rw[pT l];rfl
def qU:List UInt8->Nat->Option UInt8
 |[],_=>none
 |a::l,i=>match i with
  |0=>some a
  |i+1=>qU l i
theorem Ik:∀(l:List UInt8) (i:Nat) (b:UInt8),qU l i=some b->i<l.length∧l.getD i 0=b
 |[],_,_,h=>by cases h
 |a::l,0,b,h=>by unfold qU at h;cases h;exact⟨Nat.zero_lt_succ _,rfl⟩
 |a::l,i+1,b,h=>by unfold qU at h;obtain⟨d,c⟩:=Ik l i b h;exact⟨Nat.succ_lt_succ d,c⟩
def pU:IntKind->IntKind->Bool
 | .i64,.i64| .u8,.u8| .u32,.u32| .u64,.u64| .i8,.i8| .i16,.i16| .i32,.i32| .u16,.u16=>true
 |_,_=>false
theorem Dc(k:IntKind):pU k k=true:=by cases k<;>rfl
theorem Dd{a b:IntKind}(h:pU a b=true):a=b:=by cases a<;>cases b<;>first|rfl|cases h
def pw:IntKind->Nat
 | .i64| .u64=>18446744073709551616
 | .i32| .u32=>4294967296
 | .i16| .u16=>65536
 | .i8| .u8=>256
theorem aeP(k:IntKind):pw k=2^k.bits:=by cases k<;>rfl
theorem PI(w x:Nat):(BitVec.ofInt w (x:Int)).toNat=x %2^w:=by rw[BitVec.ofInt_natCast,BitVec.toNat_ofNat]
noncomputable def xM {a:Type}:Nat->Tr a->Nat->Option a
 |0,_,_=>none
 |_+1,.nil,_=>none
 |f+1,.node l v r,i=>match bZ i 0 with
  |true=>v
  |false=>match bZ (j5 i 2) 1 with
   |true=>xM f l (kD i 2)
   |false=>xM f r (r5 (kD i 2))
theorem sL(a b:Nat):bZ a b=decide (a=b):=by
 cases h:bZ a b with
 |true=>rw[kC h];simp
 |false=>have:=Ou h;simp[this]
theorem Il{d:Type}:∀(f:Nat) (t:Tr d) (i:Nat),xM f t i=Tr.get f t i
 |0,_,_=>rfl
 |_+1,.nil,_=>rfl
 |f+1,.node l v r,i=>by
  unfold xM Tr.get;rw[sL,sL];by_cases c:i=0
  ·simp[c]
  ·by_cases b:i %2=1
   ·have a:j5 i 2=1:=b;simp only[c,b,a,decide_true,decide_false,if_true,if_false];exact Il f l (i/2)
   ·have a:¬j5 i 2=1:=b;simp only[c,b,a,decide_false,if_false];exact Il f r (i/2-1)
noncomputable def mK {b:Type}:Nat->Tr b->Nat->Option b->Tr b
 |0,t,_,_=>t
 |f+1,.nil,i,a=>match bZ i 0 with
  |true=> .node .nil a .nil
  |false=>match bZ (j5 i 2) 1 with
   |true=> .node (mK f .nil (kD i 2) a) none .nil
   |false=> .node .nil none (mK f .nil (r5 (kD i 2)) a)
 |f+1,.node l v r,i,a=>match bZ i 0 with
  |true=> .node l a r
  |false=>match bZ (j5 i 2) 1 with
   |true=> .node (mK f l (kD i 2) a) v r
   |false=> .node l v (mK f r (r5 (kD i 2)) a)
theorem zP{e:Type}:∀(f:Nat) (t:Tr e) (i:Nat) (a:Option e),mK f t i a=Tr.set f t i a
 |0,_,_,_=>rfl
 |f+1,.nil,i,a=>by
  unfold mK Tr.set;rw[sL,sL];by_cases d:i=0
  ·simp[d]
  ·by_cases c:i %2=1
   ·have b:j5 i 2=1:=c;simp only[d,c,b,decide_true,decide_false,if_true,if_false];rw[zP f .nil];rfl
   ·have b:¬j5 i 2=1:=c;simp only[d,c,b,decide_false,if_false];rw[zP f .nil];rfl
 |f+1,.node l v r,i,a=>by
  unfold mK Tr.set;rw[sL,sL];by_cases d:i=0
  ·simp[d]
  ·by_cases c:i %2=1
   ·have b:j5 i 2=1:=c;simp only[d,c,b,decide_true,decide_false,if_true,if_false];rw[zP f l];rfl
   ·have b:¬j5 i 2=1:=c;simp only[d,c,b,decide_false,if_false];rw[zP f r];rfl
noncomputable def De {a:Type} (t:Tr a):Nat->Option a:=Tr.rec (motive:=fun _=>Nat->Option a) (fun _=>none) (fun _ v _ c b i=>match bZ i 0 with
 |true=>v
 |false=>match bZ (j5 i 2) 1 with
  |true=>c (kD i 2)
  |false=>b (r5 (kD i 2))) t
theorem Im{a:Type}:∀(t:Tr a) (f i:Nat),i<f->De t i=xM f t i
 | .nil,0,i,h=>by omega
 | .nil,f+1,i,h=>rfl
 | .node l v r,0,i,h=>by omega
 | .node l v r,f+1,i,h=>by
   show(match bZ i 0 with
    |true=>v
    |false=>match bZ (j5 i 2) 1 with
     |true=>De l (kD i 2)
     |false=>De r (r5 (kD i 2)))=_
   unfold xM;cases e:bZ i 0 with
   |true=>rfl
   |false=>
    have g:i≠0:=fun q=>by subst q;simp at e
    have d:i/2<f:=jO;have c:kD i 2=i/2:=rfl;have b:r5 (i/2)=i/2-1:=rfl;simp only[c,b];rw[Im l f (i/2) d,Im r f (i/2-1) jO]
noncomputable def Df {b:Type} (t:Tr b):Nat->Option b->Tr b:=Tr.rec (motive:=fun _=>Nat->Option b->Tr b) (fun i a=>mK (ff i) .nil i a) (fun l v r d c i a=>match bZ i 0 with
 |true=> .node l a r
 |false=>match bZ (j5 i 2) 1 with
  |true=> .node (d (kD i 2) a) v r
  |false=> .node l v (c (r5 (kD i 2)) a)) t
theorem Io{b:Type}(a:Option b):∀(f i g:Nat),i<f->i<g->mK f .nil i a=mK g .nil i a
 |0,_,_,h,_=>by omega
 |f+1,_,0,_,h=>by omega
 |f+1,i,g+1,h,k=>by
  unfold mK;cases e:bZ i 0 with
  |true=>rfl
  |false=>
   have j:i≠0:=fun q=>by subst q;simp at e
   have d:kD i 2=i/2:=rfl;have c:r5 (i/2)=i/2-1:=rfl;simp only[d,c];rw[Io a f (i/2) g jO jO,Io a f (i/2-1) g jO jO]
theorem Iq{b:Type}(a:Option b):∀(t:Tr b) (f i:Nat),i<f->Df t i a=mK f t i a
 | .nil,f,i,h=>Io a _ _ _ (dK i) h
 | .node l v r,0,i,h=>by omega
 | .node l v r,f+1,i,h=>by
   show(match bZ i 0 with
    |true=>Tr.node l a r
    |false=>match bZ (j5 i 2) 1 with
     |true=>Tr.node (Df l (kD i 2) a) v r
     |false=>Tr.node l v (Df r (r5 (kD i 2)) a))=_
   unfold mK;cases e:bZ i 0 with
   |true=>rfl
   |false=>
    have g:i≠0:=fun q=>by subst q;simp at e
    have d:kD i 2=i/2:=rfl;have c:r5 (i/2)=i/2-1:=rfl;simp only[d,c];rw[Iq a l f (i/2) jO,Iq a r f (i/2-1) jO]
noncomputable def kH (h:H) (b:Nat):Option AB:=De h b
theorem sM(h:H)(b:Nat):kH h b=h.get b:=(Im h (b+1) b (dK b)).trans (Il _ _ _)
noncomputable def iD (h:H) (b:Nat) (x:Option AB):H:=Df h b x
theorem Ir(h:H)(b:Nat)(x:Option AB):iD h b x=h.set b x:=(Iq x h (b+1) b (dK b)).trans (zP _ _ _ _)
theorem qV(a b:Nat):bK a b=decide (a<=b):=by
 cases h:bK a b with
 |true=>have:=fX h;simp[this]
 |false=>
  have:¬a<=b:=fun q=>by rw[lI q]at h;cases h
  simp[this]
noncomputable def sN (l:List Value):Nat->Option Value:=Cr (motive:=fun _=>Nat->Option Value) (fun _=>none) (fun a _ b i=>adn (motive:=fun _=>Option Value) (some a) (fun j _=>b j) i) l
theorem Dg:∀(l:List Value) (i:Nat),sN l i=l[i]?
 |[],_=>rfl
 |_::_,0=>rfl
 |a::l,i+1=>by show sN l i=_;rw[Dg l i];rfl
noncomputable def It (l:List Value):Nat->Value->Option (List Value):=Cr (motive:=fun _=>Nat->Value->Option (List Value)) (fun _ _=>none) (fun a l c i v=>adn (motive:=fun _=>Option (List Value)) (some (v::l)) (fun j _=>match c j v with
 |some b=>some (a::b)
 |none=>none) i) l
theorem PJ:∀(l:List Value) (i:Nat) (v:Value),It l i v=if i<l.length then some (l.set i v)else none
 |[],i,v=>by show none=_;simp
 |a::l,0,v=>by show some (v::l)=_;simp
 |a::l,i+1,v=>by
  show(match It l i v with
   |some b=>some (a::b)
   |none=>none)=_
  rw[PJ l i v];by_cases h:i<l.length
  ·simp[h]
  ·simp[h]
noncomputable def xN (b k:Nat):M Value:=fun h n=>match bK (ff b) n with
 |true=>match kH h b with
  |some B=>match sN B.cells k with
   |some v=>some ⟨v,h,n,[⟨false,b,some k⟩]⟩
   |none=>none
  |none=>none
 |false=>none
theorem Dh:xN=rd:=by
 funext b k h n;unfold xN rd;rw[qV,sM];by_cases a:b<n
 ·have:b.succ<=n:=a;simp only[a,this,decide_true,if_true];cases h.get b with
  |none=>rfl
  |some B=>simp only[Dg];rfl
 ·have:¬b.succ<=n:=a;simp only[a,this,decide_false,if_false]
noncomputable def uU (b k:Nat) (v:Value):M Unit:=fun h n=>match bK (ff b) n with
 |true=>match kH h b with
  |some B=>match B.own with
   |true=>match one v with
    |true=>match It B.cells k v with
     |some a=>some ⟨(),iD h b (some ⟨B.elem,true,a⟩),n,[⟨false,b,some k⟩,⟨true,b,some k⟩]⟩
     |none=>none
    |false=>none
   |false=>none
  |none=>none
 |false=>none
theorem Di:uU=wr:=by
 funext b k v h n;unfold uU wr;rw[qV,sM];by_cases a:b<n
 ·have:b.succ<=n:=a;simp only[a,this,decide_true,if_true];cases h.get b with
  |none=>rfl
  |some B=>
   obtain⟨e,o,d⟩:=B;simp only[PJ,Ir];cases o with
   |false=>simp
   |true=>
    cases f:one v with
    |false=>simp
    |true=>
     by_cases c:k<d.length
     ·simp[c]
     ·simp[c]
 ·have:¬b.succ<=n:=a;simp only[a,this,decide_false,if_false]
noncomputable def jo (e:TypeId) (cs:List Value):M Nat:=fun h n=>some ⟨n,iD h n (some ⟨e,true,cs⟩),ff n,[]⟩
theorem kI:jo=dy:=by funext e a h n;unfold jo dy;rw[if_pos (dK n),Ir]
noncomputable def xO (b:Nat):M TypeId:=fun h n=>match bK (ff b) n with
 |true=>match kH h b with
  |some B=>some ⟨B.elem,h,n,[⟨false,b,some 1099511627776⟩]⟩
  |none=>none
 |false=>none
theorem qW:xO=gZ:=by
 funext b h n;unfold xO gZ;rw[qV,sM];by_cases a:b<n
 ·have:b.succ<=n:=a;simp only[a,this,decide_true,if_true];rfl
 ·have:¬b.succ<=n:=a;simp only[a,this,decide_false,if_false]
noncomputable def Iu (b:Nat):M Unit:=fun h n=>match bK (ff b) n with
 |true=>match kH h b with
  |some B=>match B.own with
   |true=>some ⟨(),iD h b none,n,[⟨false,b,none⟩,⟨true,b,none⟩]⟩
   |false=>none
  |none=>none
 |false=>none
theorem zQ:Iu=kill:=by
 funext b h n;unfold Iu kill;rw[qV,sM];by_cases a:b<n
 ·have:b.succ<=n:=a;simp only[a,this,decide_true,if_true];cases h.get b with
  |none=>rfl
  |some B=>simp only[Ir];cases B.own<;>simp
 ·have:¬b.succ<=n:=a;simp only[a,this,decide_false,if_false]
noncomputable def oM (b k:Nat):List Value->M Unit
 |[]=> .ret ()
 |v::a=>(uU b k v).bind fun _=>oM b (ff k) a
theorem PK(b:Nat):∀(vs:List Value) (k:Nat),oM b k vs=eK b k vs
 |[],_=>rfl
 |v::vs,k=>by unfold oM eK;rw[Di,PK b vs (ff k)]
theorem zR:oM=eK:=by funext b k a;exact PK b a k
noncomputable def eT (l:List Value):Nat:=Cr (motive:=fun _=>Nat) 0 (fun _ _ a=>ff a) l
theorem kW:∀l:List Value,eT l=l.length
 |[]=>rfl
 |a::l=>by show ff (eT l)=_;rw[kW l];rfl
noncomputable def Dj (b k:Nat):Nat->List En
 |0=>[]
 |c+1=>⟨false,b,some k⟩::Dj b (k+1) c
noncomputable def iT (b k c:Nat):M (List Value):=fun h n=>match c with
 |0=>some ⟨[],h,n,[]⟩
 |c+1=>match bK (ff b) n with
  |true=>match kH h b with
   |some B=>match bK (fY k (c+1)) (eT B.cells)with
    |true=>some ⟨(B.cells.drop k).take (c+1),h,n,Dj b k (c+1)⟩
    |false=>none
   |none=>none
  |false=>none
theorem PL(b:Nat)(h:H)(n:Nat):∀c k:Nat,iT b k c h n=cW b k c h n
 |0,_=>rfl
 |c+1,k=>by
  have p:=PL b h n c (k+1);have s:cW b k (c+1) h n=((rd b k).bind fun v=>(cW b (k+1) c).bind fun o=>M.ret (v::o)) h n:=rfl;rw[s];unfold M.bind;cases f:bK (ff b) n with
  |false=>
   have d:¬b<n:=fun q=>by rw[lI q]at f;cases f
   have a:rd b k h n=none:=by unfold rd;rw[if_neg d]
   have l:iT b k (c+1) h n=none:=by unfold iT;simp only[f]
   rw[l];simp only[a]
  |true=>
   have d:b<n:=fX f;cases g:h.get b with
   |none=>
    have a:rd b k h n=none:=by unfold rd;rw[if_pos d,g]
    have l:iT b k (c+1) h n=none:=by unfold iT;simp only[f,sM,g]
    rw[l];simp only[a]
   |some B=>
    cases i:B.cells[k]? with
    |none=>
     have r:B.cells.length<=k:=List.getElem?_eq_none_iff.1 i
     have j:bK (fY k (c+1)) (eT B.cells)=false:=by
      rw[kW];cases j:bK (fY k (c+1)) B.cells.length with
      |false=>rfl
      |true=>have:=fX j;have e:fY k (c+1)=k+(c+1):=rfl;omega
     have a:rd b k h n=none:=by unfold rd;rw[if_pos d,g];simp only[i]
     have l:iT b k (c+1) h n=none:=by unfold iT;simp only[f,sM,g,j]
     rw[l];simp only[a]
    |some v=>
     have m:k<B.cells.length:=(List.getElem?_eq_some_iff.1 i).1
     have hd:B.cells.drop k=v::B.cells.drop (k+1):=by rw[List.drop_eq_getElem_cons m];rw[aJ m]at i;cases i;rfl
     have a:rd b k h n=some ⟨v,h,n,[⟨false,b,some k⟩]⟩:=by unfold rd;rw[if_pos d,g];simp only[i]
     simp only[a,<-p]
     match c with
     |0=>
      have j:bK (fY k (0+1)) (eT B.cells)=true:=by rw[kW];exact lI (by show k+1<=_;omega)
      unfold iT;simp only[f,sM,g,j,hd];simp[Dj,M.ret]
     |c+1=>
      have e:fY k (c+1+1)=fY (k+1) (c+1):=by show k+(c+1+1)=k+1+(c+1);omega
      unfold iT;simp only[f,sM,g,e];cases bK (fY (k+1) (c+1)) (eT B.cells)with
      |false=>rfl
      |true=>simp only[M.ret,hd,List.take_succ_cons];simp[Dj]
theorem nT:iT=cW:=by funext b k c h n;exact PL b h n c k
noncomputable def lP:List Value->Option (List UInt8)
 |[]=>some []
 | .int .u8 n::r=>match lP r with
   |some l=>some (dT n.toNat::l)
   |none=>none
 |_=>none
theorem aeQ:∀(vs:List Value) (a:List UInt8),bytesOf vs ⟨⟨a⟩⟩=(lP vs).map fun l=>⟨⟨a++l⟩⟩:=by
 intro vs
 induction vs with
 |nil=>intro a;simp[bytesOf,lP]
 |cons v r b=>
  intro a;cases v<;>try rfl
  rename_i k n;cases k<;>try rfl
  show bytesOf r (ado ⟨⟨a⟩⟩ (dT n.toNat))=Option.map _ (match lP r with
   |some l=>some (dT n.toNat::l)
   |none=>none)
  have e:(ado ⟨⟨a⟩⟩ (dT n.toNat))=⟨⟨a++[dT n.toNat]⟩⟩:=by apply ByteArray.ext;simp[ado]
  rw[e,b];cases lP r with
  |none=>rfl
  |some l=>simp
noncomputable def PM:Value->M Value
 | .slice (some ⟨b,a,none⟩) len _=>(iT b a len).bind fun c=>match lP c with
   |some l=> .ret (.string ⟨⟨l⟩⟩)
   |none=> .fail
 |x=>nK x
theorem aeR:PM=nK:=by
 funext x;unfold PM;split
 ·rename_i b d len c;unfold nK;rw[nT];congr 1;funext a;have:=aeQ a [];have e:(arV)=⟨⟨[]⟩⟩:=rfl;rw[e,this];cases lP a with
  |none=>rfl
  |some l=>simp
 ·rfl
noncomputable def sO (sz:Nat) (n:Nat):Value->M (List Value)
 | .slice (some ⟨b,a,none⟩) _ _=>iT b a (n*sz)
 | .string ⟨⟨l⟩⟩=> .ret ((l.take n).map fun b=>gW .u8 (.ofNat b.toNat))
 |_=> .fail
theorem pW:sO=ji:=by
 funext d n x;cases x<;>try rfl
 ·rename_i s;obtain⟨⟨l⟩⟩:=s;unfold sO ji;simp only;congr 1;simp[adh]
 ·rename_i a len cap;cases a with
  |none=>rfl
  |some a=>
   obtain⟨b,c,p⟩:=a;cases p with
   |none=>unfold sO ji;rw[nT]
   |some p=>rfl
noncomputable def over:List Value->List Value->List Value
 |[],a=>a
 |x::l,a=>match a with
  |[]=>[]
  |_::a=>x::over l a
noncomputable def pX:List Value->Nat->List Value->List Value
 |cs,0,l=>over l cs
 |[],_+1,_=>[]
 |a::cs,b+1,l=>a::pX cs b l
noncomputable def oN:List Value->Nat->List Value->List Value
 |cs,_,[]=>cs
 |cs,a,x::l=>oN (cs.set a x) (a+1) l
theorem Iv(a:Value):∀(l cs:List Value) (off:Nat),oN (a::cs) (off+1) l=a::oN cs off l
 |[],_,_=>rfl
 |x::l,cs,off=>by show oN ((a::cs).set (off+1) x) (off+1+1) l=a::oN (cs.set off x) (off+1) l;rw[List.set_cons_succ];exact Iv a l _ _
theorem Iw:∀(l:List Value) (off:Nat),oN [] off l=[]
 |[],_=>rfl
 |x::l,off=>by show oN (([]:List Value).set off x) (off+1) l=[];rw[List.set_nil];exact Iw l _
theorem Ix:∀(l cs:List Value),over l cs=oN cs 0 l
 |[],_=>rfl
 |x::l,[]=>by rw[Iw];rfl
 |x::l,c::cs=>by show x::over l cs=oN ((c::cs).set 0 x) (0+1) l;rw[List.set_cons_zero,Iv,Ix l cs]
theorem Iy:∀(off:Nat) (cs l:List Value),pX cs off l=oN cs off l
 |0,cs,l=>by
  have:pX cs 0 l=over l cs:=by cases cs<;>rfl
  rw[this];exact Ix l cs
 |off+1,[],l=>by rw[Iw];rfl
 |off+1,a::cs,l=>by rw[Iv];show a::pX cs off l=_;rw[Iy off cs l]
theorem PN(off:Nat):∀(l:List Value) (j:Nat) (cells:Array Value),((l.zipIdx j).foldl (fun cs (x:Value×Nat)=>cs.setIfInBounds (off+x.2) x.1) cells).toList=oN cells.toList (off+j) l
 |[],_,_=>rfl
 |x::l,j,cells=>by rw[List.zipIdx_cons,List.foldl_cons,PN off l (j+1)];rw[Array.toList_setIfInBounds];rfl
noncomputable def dE:Value->List Value
 | .agg ⟨l⟩=>l
 |v=>[v]
theorem oO(v:Value):dE v=v.cells.toList:=by cases v<;>rfl
noncomputable def sP (a:Nat->Option (Nat×Nat)) (cells:List Value):List (Nat×Value)->Option (List Value)
 |[]=>some cells
 |(i,v)::c=>match a i with
  |none=>none
  |some (d,b)=>match bZ (eT (dE v)) b&&bK (fY d (eT (dE v))) (eT cells)with
   |true=>sP a (pX cells d (dE v)) c
   |false=>none
theorem Dk(a:Nat->Option (Nat×Nat)):∀(b:List (Nat×Value)) (cells:Array Value),sP a cells.toList b=(lG a cells b).map (·.toList)
 |[],_=>rfl
 |(i,v)::g,cells=>by
  unfold sP lG;cases a i with
  |none=>rfl
  |some q=>
   obtain⟨c,f⟩:=q;simp only;rw[kW,kW,oO,sL,qV];have k:v.cells.toList.length=v.cells.size:=jS;have j:cells.toList.length=cells.size:=jS;rw[k,j];by_cases e:v.cells.size=f
   ·by_cases h:c+v.cells.size<=cells.size
    ·have d:fY c v.cells.size<=cells.size:=h;have l:¬c+v.cells.size>cells.size:=jO;rw[if_neg (by simp[e];omega)];simp only[e,d,decide_true,Bool.and_true];rw[<-e];simp only[d,decide_true,oA];rw[<-Dk a g];congr 1;rw[Iy];have:=PN c v.cells.toList 0 cells;rw[gX]at this;rw[<-this];congr 1;rw[<-Array.foldl_toList,Array.toList_zipIdx]
    ·have d:¬fY c v.cells.size<=cells.size:=h;rw[if_pos (by simp[e];omega)];simp[h,d]
   ·rw[if_pos (by simp[e])];simp[e]
noncomputable def sQ (v:Value) (n:Nat):List Value:=adn (motive:=fun _=>List Value) [] (fun _ a=>v::a) n
theorem PO(v:Value):∀n:Nat,sQ v n=List.replicate n v
 |0=>rfl
 |n+1=>by show v::sQ v n=_;rw[PO v n];rfl
noncomputable def qX (a b:List Value):List Value:=Cr (motive:=fun _=>List Value) b (fun v _ c=>v::c) a
noncomputable def zS (n b:Nat) (L L2:List En):List En:=Cr (motive:=fun _=>List En) L2 (fun e _ a=>match bK n e.b with
 |true=>(match bK (ff e.b) b with
  |true=>a
  |false=>e::a)
 |false=>e::a) L
theorem PQ(n a:Nat)(L2:List En):∀L:List En,zS n a L L2=(L.filter fun e=> !(decide (n<=e.b)&&decide (e.b<a)))++L2
 |[]=>rfl
 |e::L=>by
  show(match bK n e.b with
   |true=>(match bK (ff e.b) a with
    |true=>zS n a L L2
    |false=>e::zS n a L L2)
   |false=>e::zS n a L L2)=_
  rw[PQ n a L2 L,List.filter_cons,qV,qV];by_cases d:n<=e.b
  ·by_cases b:e.b<a
   ·have c:e.b.succ<=a:=b;simp[d,b,c]
   ·have c:¬e.b.succ<=a:=b;simp[d,b,c]
  ·simp[d]
noncomputable def ew {d c:Type} (m:M d) (k:d->M c):M c:=fun h n=>match m h n with
 |some ⟨a,i,e,L⟩=>(match k a i e with
  |some ⟨b,g,f,j⟩=>some ⟨b,g,f,zS n e L j⟩
  |none=>none)
 |none=>none
theorem lQ{b d:Type}(m:M b)(k:b->M d):ew m k=(inside m).bind k:=by
 funext h n;unfold ew M.bind inside;cases c:m h n with
 |none=>simp only[c]
 |some o=>obtain⟨a,f,e,L⟩:=o;simp only[c,PQ];rfl
noncomputable def qY (p:En->Bool) (L:List En):Bool:=Cr (motive:=fun _=>Bool) false (fun e _ a=>match p e with
 |true=>true
 |false=>a) L
theorem Iz(p:En->Bool):∀L:List En,qY p L=L.any p
 |[]=>rfl
 |e::L=>by
  show(match p e with
   |true=>true
   |false=>qY p L)=_
  rw[Iz p L,List.any_cons];cases p e<;>rfl
noncomputable def xP (a b:Bool):Bool:=match a with
 |true=>b
 |false=>false
theorem PR(a b:Bool):xP a b=(a&&b):=by cases a<;>rfl
noncomputable def Dl (x y:En):Bool:=match bZ x.b y.b with
 |true=>(x.k==y.k||x.k.isNone||y.k.isNone)
 |false=>false
theorem aeS(x y:En):Dl x y=x.meets y:=by
 unfold Dl En.meets;rw[sL];by_cases h:x.b=y.b
 ·simp[h]
 ·have:(x.b==y.b)=false:=by simpa using h
  simp[h]
noncomputable def fs (a b:Tk):Bool:=
 match qY (fun x=>xP x.wr (qY (fun y=>Dl x y) b.log)) a.log with
 |true=>true
 |false=>match qY (fun x=>xP x.wr (qY (fun y=>Dl x y) a.log)) b.log with
  |true=>true
  |false=>match qY (fun x=>xP (bK b.n x.b) (bK (ff x.b) b.n1)) a.log with
   |true=>true
   |false=>qY (fun x=>xP (bK a.n x.b) (bK (ff x.b) a.n1)) b.log
theorem Dm(a b:Tk):fs a b=a.gq b:=by
 have c:∀(n d:Nat) (L:List En),(qY (fun x=>xP (bK n x.b) (bK (ff x.b) d)) L)=L.any fun x=>decide (n<=x.b)&&decide (x.b<d):=fun n d L=>by rw[Iz];congr 1;funext x;rw[PR,qV,qV];rfl
 unfold fs Tk.gq;rw[c,c];simp only[Iz,PR,aeS];cases (a.log.any fun x=>x.wr&&b.log.any fun y=>x.meets y)<;>cases (b.log.any fun x=>x.wr&&a.log.any fun y=>x.meets y)<;>cases (a.log.any fun x=>decide (b.n<=x.b)&&decide (x.b<b.n1))<;>simp
noncomputable section
variable {β:Type}
def kg(f:IntKind->Int->Int->Value)(x y:Value)(k:Value->M β):M β:=match x with
 | .int a p=>match y with
   | .int b q=>match pU a b with
     |true=>k (f a p q)
     |false=> .fail
   |_=> .fail
 |_=> .fail
def uV(f:Nat->Nat->Nat)(x y:Value)(k:Value->M β):M β:=match x with
 | .int a (.ofNat p)=>match y with
   | .int b (.ofNat q)=>match pU a b with
     |true=>k (.int a (oL a (.ofNat (f (j5 p (pw a)) (j5 q (pw a))))))
     |false=> .fail
   |_=> .fail
 |_=> .fail
def ar(x y:Value)(k:Value->M β):M β:=match x with
 | .string ⟨⟨a⟩⟩=>match y with
   | .string ⟨⟨b⟩⟩=>match bK (fY (jn a) (jn b)) 9223372036854775807 with
     |true=>k (.string ⟨⟨Db a b⟩⟩)
     |false=> .fail
   |_=> .fail
 |x=>kg (fun k a b=> .int k (oL k (C4 a b))) x y k
def bL(x y:Value)(k:Value->M β):M β:=kg (fun k a b=> .int k (oL k (C5 a b))) x y k
def jq(x y:Value)(k:Value->M β):M β:=kg (fun k a b=> .int k (oL k (Ih a b))) x y k
def ej(x y:Value)(k:Value->M β):M β:=match x with
 | .string ⟨⟨a⟩⟩=>match y with
   | .string ⟨⟨b⟩⟩=>k (.bool (qT a b))
   |_=> .fail
 |x=>kg (fun _ a b=> .bool (pS a b)) x y k
def hC(x y:Value)(k:Value->M β):M β:=match x with
 | .string ⟨⟨a⟩⟩=>match y with
   | .string ⟨⟨b⟩⟩=>k (.bool (!qT a b))
   |_=> .fail
 |x=>kg (fun _ a b=> .bool (!pS a b)) x y k
def cE(x y:Value)(k:Value->M β):M β:=match x with
 | .string ⟨⟨a⟩⟩=>match y with
   | .string ⟨⟨b⟩⟩=>k (.bool (Da a b))
   |_=> .fail
 |x=>kg (fun _ a b=> .bool (uT a b)) x y k
def mL(x y:Value)(k:Value->M β):M β:=kg (fun _ a b=> .bool (C7 a b)) x y k
def jr(x y:Value)(k:Value->M β):M β:=kg (fun _ a b=> .bool (uT b a)) x y k
def pY(x y:Value)(k:Value->M β):M β:=kg (fun _ a b=> .bool (C7 b a)) x y k
def Dp(x y:Value)(k:Value->M β):M β:=uV Nat.land x y k
def zT(x y:Value)(k:Value->M β):M β:=uV Nat.lor x y k
def qZ(x y:Value)(k:Value->M β):M β:=uV Nat.xor x y k
def mM(x y:Value)(k:Value->M β):M β:=match x with
 | .int a (.ofNat p)=>match y with
   | .int _ (.ofNat q)=>k (.int a (oL a (.ofNat (Ot p (aqg 2 (Nat.min q a.bits))))))
   |_=> .fail
 |_=> .fail
def kX(x y:Value)(k:Value->M β):M β:=match x with
 | .int a (.ofNat p)=>match y with
   | .int _ (.ofNat q)=>k (.int a (.ofNat (kD p (aqg 2 (Nat.min q a.bits)))))
   |_=> .fail
 |_=> .fail
def iE(x y:Value)(k:Value->M β):M β:=match x with
 | .int a p=>match y with
   | .int b q=>match pU a b with
     |true=>match pS q 0 with
      |true=> .fail
      |false=>k (.int a (oL a (Int.tdiv p q)))
     |false=> .fail
   |_=> .fail
 |_=> .fail
def mN(x y:Value)(k:Value->M β):M β:=match x with
 | .int a p=>match y with
   | .int b q=>match pU a b with
     |true=>match pS q 0 with
      |true=> .fail
      |false=>k (.int a (Int.tmod p q))
     |false=> .fail
   |_=> .fail
 |_=> .fail
def Dq(x y:Value)(k:Value->M β):M β:=match x with
 | .bool a=>match y with
   | .bool b=>k (.bool (match a with
     |true=>b
     |false=> !b))
   |_=> .fail
 |_=> .fail
def zU(x y:Value)(k:Value->M β):M β:=match x with
 | .bool a=>match y with
   | .bool b=>k (.bool (match a with
     |true=> !b
     |false=>b))
   |_=> .fail
 |_=> .fail
def Dr(f:Bool->Bool)(x y:Value)(k:Value->M β):M β:=match x with
 | .pointer none=>match y with
   | .pointer b=>k (.bool (f b.isNone))
   |_=> .fail
 | .pointer (some _)=>match y with
   | .pointer none=>k (.bool (f false))
   |_=> .fail
 |_=> .fail
def Dt(f:Bool->Bool)(x y:Value)(k:Value->M β):M β:=match x with
 | .slice none _ _=>match y with
   | .slice b _ _=>k (.bool (f b.isNone))
   |_=> .fail
 | .slice (some _) _ _=>match y with
   | .slice none _ _=>k (.bool (f false))
   |_=> .fail
 |_=> .fail
def Du(f:Bool->Bool)(x y:Value)(k:Value->M β):M β:=match x with
 | .nilFunc=>match y with
   | .nilFunc=>k (.bool (f true))
   | .func _ _ _=>k (.bool (f false))
   |_=> .fail
 | .func _ _ _=>match y with
   | .nilFunc=>k (.bool (f false))
   |_=> .fail
 |_=> .fail
def PT(a:List Nat)(x y:Value)(k:Value->M β):M β:=match x with
 | .agg ⟨l⟩=>match y with
   | .agg ⟨m⟩=>match kT a l m with
     |some b=>k (.bool b)
     |none=> .fail
   |_=> .fail
 |_=> .fail
def PU(a:List Nat)(x y:Value)(k:Value->M β):M β:=match x with
 | .agg ⟨l⟩=>match y with
   | .agg ⟨m⟩=>match kT a l m with
     |some b=>k (.bool !b)
     |none=> .fail
   |_=> .fail
 |_=> .fail
def p5(x y:Value)(k:Value->M β):M β:=Dr (fun b=>b) x y k
def zV(x y:Value)(k:Value->M β):M β:=Dr (fun b=> !b) x y k
def zW(x y:Value)(k:Value->M β):M β:=Dt (fun b=>b) x y k
def zX(x y:Value)(k:Value->M β):M β:=Dt (fun b=> !b) x y k
def IA(x y:Value)(k:Value->M β):M β:=Du (fun b=>b) x y k
def IB(x y:Value)(k:Value->M β):M β:=Du (fun b=> !b) x y k
def ek(x:Value)(k:Value->M β):M β:=match x with
 | .bool b=>k (.bool (!b))
 |_=> .fail
def Dv(x:Value)(k:Value->M β):M β:=match x with
 | .int a p=>k (.int a (oL a (C5 0 p)))
 |_=> .fail
def IC(x:Value)(k:Value->M β):M β:=match x with
 | .int .u32 (.ofNat p)=>match bK p 4294967295 with
   |true=>k (.int .u32 (.ofNat (Hv 4294967295 p)))
   |false=> .fail
 |_=> .fail
def ey(a:IntKind)(x:Value)(k:Value->M β):M β:=match x with
 | .int _ p=>k (.int a (oL a p))
 |_=> .fail
def PV(x:Value)(k:Value->M β):M β:=match x with
 | .string s=>k (.string s)
 |_=> .fail
def aT(x:Value)(k:Value->M β):M β:=match x with
 | .slice _ n _=>k (.int .i64 (.ofNat n))
 |_=> .fail
def cS(x:Value)(k:Value->M β):M β:=match x with
 | .string ⟨⟨l⟩⟩=>k (.int .i64 (.ofNat (jn l)))
 |_=> .fail
def kY(x y:Value)(k:Value->M β):M β:=match x with
 | .int a p=>match y with
   | .int _ q=>k (.int a (match uT q p with
     |true=>q
     |false=>p))
   |_=> .fail
 |_=> .fail
def PW(x y z u v w:Value)(k:Value->M β):M β:=kY x y fun a=>kY a z fun a=>kY a u fun a=>kY a v fun a=>kY a w k
def sR(x y:Value)(k:Value->M β):M β:=match x with
 | .int a p=>match y with
   | .int _ q=>k (.int a (match uT p q with
     |true=>q
     |false=>p))
   |_=> .fail
 |_=> .fail
def ID(c a b:Value)(k:Value->M β):M β:=match c with
 | .bool true=>k a
 | .bool false=>k b
 |_=> .fail
def au(x:Value)(k:Value->M β):M β:=match x with
 | .pointer (some a)=>k (.pointer (some a))
 | .func (.func f) a b=>k (.func (.func f) a b)
 |_=> .fail
def ba(K:Nat)(x:Value)(k:Value->M β):M β:=match x with
 | .pointer (some ⟨b,a,none⟩)=>k (.pointer (some ⟨b,fY a K,none⟩))
 |_=> .fail
def IE(K:Nat)(x:Value)(k:Value->M β):M β:=match x with
 | .agg ⟨l⟩=>match sN l K with
   |some v=>k v
   |none=> .fail
 |_=> .fail
def IF(K m:Nat)(x:Value)(k:Value->M β):M β:=match x with
 | .agg ⟨l⟩=>k (.agg ⟨(l.drop K).take m⟩)
 |_=> .fail
def aO(x c:Value)(k:Value->M β):M β:=match x with
 | .slice (some ⟨b,a,none⟩) n _=>match c with
   | .int _ (.ofNat i)=>match bK (ff i) n with
     |true=>k (.pointer (some ⟨b,fY a i,none⟩))
     |false=> .fail
   |_=> .fail
 |_=> .fail
def ki(sz:Nat)(x c:Value)(k:Value->M β):M β:=match x with
 | .slice (some ⟨b,a,none⟩) n _=>match c with
   | .int _ (.ofNat i)=>match bK (ff i) n with
     |true=>k (.pointer (some ⟨b,fY a (Ot i sz),none⟩))
     |false=> .fail
   |_=> .fail
 |_=> .fail
def gu(n:Nat)(x c:Value)(k:Value->M β):M β:=match x with
 | .pointer (some ⟨b,a,none⟩)=>match c with
   | .int _ (.ofNat i)=>match bK (ff i) n with
     |true=>k (.pointer (some ⟨b,fY a i,none⟩))
     |false=> .fail
   |_=> .fail
 |_=> .fail
def Dw(n sz:Nat)(x c:Value)(k:Value->M β):M β:=match x with
 | .pointer (some ⟨b,a,none⟩)=>match c with
   | .int _ (.ofNat i)=>match bK (ff i) n with
     |true=>k (.pointer (some ⟨b,fY a (Ot i sz),none⟩))
     |false=> .fail
   |_=> .fail
 |_=> .fail
def gJ(x a:Value)(k:Value->M β):M β:=match x with
 | .string ⟨⟨l⟩⟩=>match a with
   | .int _ (.ofNat i)=>match qU l i with
     |some c=>k (.int .u8 (.ofNat c.toNat))
     |none=> .fail
   |_=> .fail
 |_=> .fail
def sS(n:Nat)(x a:Value)(k:Value->M β):M β:=match x with
 | .agg ⟨l⟩=>match a with
   | .int _ (.ofNat i)=>match bK (ff i) n with
     |true=>match sN l i with
      |some v=>k v
      |none=> .fail
     |false=> .fail
   |_=> .fail
 |_=> .fail
def bj(x:Value)(i:Nat)(k:Value->M β):M β:=match x with
 | .tuple ⟨l⟩=>match sN l i with
   |some v=>k v
   |none=> .fail
 |_=> .fail
def q7(o:Option Value)(d:Nat):Option Nat:=match o with
 |none=>some d
 |some (.int _ (.ofNat i))=>some i
 |_=>none
def gK(x:Value)(lo c:Option Value)(k:Value->M β):M β:=match x with
 | .string ⟨⟨l⟩⟩=>match q7 lo 0 with
   |some a=>match q7 c (jn l)with
    |some b=>match bK a b with
     |true=>match bK b (jn l)with
      |true=>k (.string ⟨⟨(l.drop a).take (Hv b a)⟩⟩)
      |false=> .fail
     |false=> .fail
    |none=> .fail
   |none=> .fail
 |_=> .fail
def aM(x:Value)(k:Value->M β):M β:=match x with
 | .pointer (some ⟨b,a,none⟩)=>ew (xN b a) k
 |_=> .fail
def bR(sz:Nat)(x:Value)(k:Value->M β):M β:=match x with
 | .pointer (some ⟨b,a,none⟩)=>ew ((iT b a sz).bind fun c=> .ret (.agg ⟨c⟩)) k
 |_=> .fail
def bc(a x:Value)(k:Value->M β):M β:=match a with
 | .pointer (some ⟨b,c,none⟩)=>match one x with
   |true=>ew ((uU b c x).bind fun _=> .ret undef) k
   |false=> .fail
 |_=> .fail
def b9(sz:Nat)(a x:Value)(k:Value->M β):M β:=match a with
 | .pointer (some ⟨b,c,none⟩)=>match x with
   | .agg ⟨l⟩=>match bZ (eT l) sz with
     |true=>ew ((oM b c l).bind fun _=> .ret undef) k
     |false=> .fail
   |_=> .fail
 |_=> .fail
def cU(e:TypeId)(z:List Value)(k:Value->M β):M β:=ew ((jo e z).bind fun id=> .ret (.pointer (some ⟨id,0,none⟩))) k
def fz(e:TypeId)(v:Value)(k:Value->M β):M β:=ew ((jo e (dE v)).bind fun id=> .ret (.pointer (some ⟨id,0,none⟩))) k
def eU:List Value->List (Nat×Nat×Value)->Option (List Value)
 |cs,[]=>some cs
 |cs,q::r=>match bZ (eT (dE q.2.2)) q.2.1 with
  |true=>match bK (fY q.1 (eT (dE q.2.2))) (eT cs)with
   |true=>eU (pX cs q.1 (dE q.2.2)) r
   |false=>none
  |false=>none
def dz(z:List Value)(ps:List (Nat×Nat×Value))(k:Value->M β):M β:=match eU z ps with
 |some a=>k (.agg ⟨a⟩)
 |none=> .fail
def bV(e:TypeId)(sz:Nat)(v:Value)(k:Value->M β):M β:=match bZ (eT (dE v)) sz with
 |true=>ew ((jo e (dE v)).bind fun id=> .ret (.slice (some ⟨id,0,none⟩) 1 1)) k
 |false=> .fail
def q8(e:TypeId)(z:List Value)(len:Nat)(ps:List (Nat×Nat×Value))(k:Value->M β):M β:=match eU z ps with
 |some a=>ew ((jo e a).bind fun id=> .ret (.slice (some ⟨id,0,none⟩) len len)) k
 |none=> .fail
def kq(z:List Value):Nat->List Value
 |0=>[]
 |n+1=>qX z (kq z n)
def gP(e:TypeId)(z:List Value)(l c:Value)(k:Value->M β):M β:=match l with
 | .int _ (.ofNat l)=>match c with
   | .int _ (.ofNat c)=>match bK l c with
     |true=>match bK c 1099511627776 with
      |true=>ew ((jo e (kq z c)).bind fun id=> .ret (.slice (some ⟨id,0,none⟩) l c)) k
      |false=> .fail
     |false=> .fail
   |_=> .fail
 |_=> .fail
def q9(sz:Nat)(a:Option Addr)(len cap:Nat)(lo d:Option Value):Option Value:=match eG d len,eG lo 0 with
 |some h,some l=>
  if l<=h&&h<=cap&&cap<=cap&&(cap<aU||((none:Option Value).isNone&&h<=len))then
   match a with
   |none=>some (.slice none (h-l) (cap-l))
   |some ⟨b,c,none⟩=>some (.slice (some ⟨b,if cap=l then c else c+l*sz,none⟩) (h-l) (cap-l))
   |_=>none
  else none
 |_,_=>none
def lR(e:TypeId)(sz:Nat)(x:Value)(lo c:Option Value)(k:Value->M β):M β:=match x with
 | .slice none len cap=>match q9 sz none len cap lo c with
   |some v=>k v
   |none=> .fail
 | .slice (some ⟨b,a,none⟩) len cap=>ew ((xO b).bind fun d=>match bZ d e with
   |true=>M.lift (q9 sz (some ⟨b,a,none⟩) len cap lo c)
   |false=> .fail) k
 |_=> .fail
def uW(e:TypeId)(n sz b off l cap:Nat)(c:List Value):M Value:=
 if cap<aU then
  if l+n<=cap then(oM b (off+l*sz) c).bind fun _=> .ret (.slice (some ⟨b,off,none⟩) (l+n) cap)
  else(iT b off (l*sz)).bind fun a=>(jo e (a++c)).bind fun id=> .ret (.slice (some ⟨id,0,none⟩) (l+n) (aU+(l+n)))
 else(iT b off (l*sz)).bind fun a=>(Iu b).bind fun _=>(jo e (a++c)).bind fun id=> .ret (.slice (some ⟨id,0,none⟩) (l+n) (aU+(l+n)))
def kt(e:TypeId)(sz:Nat)(s x:Value):M Value:=match gd x with
 |some n=>
  if n=0 then(match s with| .slice _ _ _=> .ret s|_=> .fail)else
  match s with
  | .slice none 0 0=>if n<=1099511627776 then(sO sz n x).bind fun a=>if a.length=n*sz&&a.all one then(jo e ([]++a)).bind fun id=> .ret (.slice (some ⟨id,0,none⟩) (0+n) (aU+(0+n)))else .fail else .fail
  | .slice (some ⟨b,c,none⟩) l cap=>
    if l+n<=1099511627776 then
    (xO b).bind fun d=>if d=e then
      (sO sz n x).bind fun a=>if a.length=n*sz&&a.all one then uW e n sz b c l cap a else .fail
    else .fail
    else .fail
  |_=> .fail
 |none=> .fail
def bH(e:TypeId)(sz:Nat)(s x:Value)(k:Value->M β):M β:=ew (kt e sz s x) k
def uX(sz:Nat)(d s:Value):M Value:=match d,gd s with
 | .slice a f _,some c=>
   if 0<Nat.min c f then(match a with
    |some ⟨b,e,none⟩=>(sO sz (Nat.min c f) s).bind fun g=>(oM b e g).bind fun _=> .ret (.int .i64 (Nat.min c f))
    |_=> .fail)
   else .ret (.int .i64 0)
 |_,_=> .fail
def Dx(sz:Nat)(d s:Value)(k:Value->M β):M β:=ew (uX sz d s) k
def kZ(x:Value)(k:Value->M β):M β:=match x with
 | .slice (some ⟨b,a,none⟩) len _=>ew ((iT b a len).bind fun c=>match lP c with
   |some l=> .ret (.string ⟨⟨l⟩⟩)
   |none=> .fail) k
 | .slice none _ _=>k (.string ⟨⟨[]⟩⟩)
 |_=> .fail
def xQ(e:TypeId)(x:Value)(k:Value->M β):M β:=match x with
 | .string ⟨⟨l⟩⟩=>match bK (jn l) 1099511627776 with
   |true=>ew ((jo e (l.map fun b=>gW .u8 (.ofNat b.toNat))).bind fun id=> .ret (.slice (some ⟨id,0,none⟩) (jn l) (aU+jn l))) k
   |false=> .fail
 |_=> .fail
def ak(R:FuncId->Array Value->M Value)(f:FuncId)(vs:List Value)(k:Value->M β):M β:=ew (R f ⟨vs⟩) k
end
end Go.Proofs.YtcehhgppfahbkaaGreatDoor.Ev
