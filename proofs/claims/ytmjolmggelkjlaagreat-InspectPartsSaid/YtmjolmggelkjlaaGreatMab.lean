import Derived.Test.YtmjolmggelkjlaaGreatMaa
import Derived.Laws.StructEq
open Nat renaming le_refl→an, ble→bK, beq→cz, zero_add→fB, lt_succ_self→gh, succ→gL, le_of_ble_eq_true→iM, add→iO, add_zero→kQ, lt_of_lt_of_le→mb, mod→mc, div→mI, eq_of_beq_eq_true→m7, ble_eq_true_of_le→nZ, add_mul→pZ, pred→vH, sub→Kk, mul→Rz, eq_zero_or_pos→ac5, ne_of_beq_eq_false→adf, rec→adg, pow→arl
open List renaming getElem?_eq_getElem→bD, length_append→bX, all_eq_true→FG, rec→FK, any_nil→Kg, map_map→Rv, mapM_cons→aqY, tail→aq_, tail_drop→ara
open Bool renaming and_eq_true→cj, or_eq_true→pY, false_eq_true→sE, or_eq_false_iff→CN, not_eq_true'→FJ, and_false→Kh, or_false→Ki, false_or→ac2
open Go.Value renaming int→dG
open Option.some renaming injEq→eG
open Go.Op renaming operands→eP, equal→vG, equalIn→AR, eqFields→aq'
open Go.Sem renaming run_bind→fL, run_pure→qQ, bind→CM
open Go.Result renaming andThen→gf
open Go.Region renaming wanted→iA
open UInt8 renaming ofNat→jq
open Go.Builtin renaming firstCells→mH, append_→CP, zeroCells→Kd, copy_→Ke, len_→Rx, lenOf→ac9
open Go.Instr renaming fill→nY, index→FH
open Array renaming toList_map→um, getElem?_toList→Kf, ext'→Ro, mem_append→arc
open Go.RowKit.Below renaming refl→vD
open Go.Call renaming operands→AO
open Option renaming map_some→FF, mem_def→ac_
open Go.IntKind renaming bits→Kj, wrap→adb, signed→ade
open Function renaming comp_def→Ru
open Go.Question renaming cut→ac7, forced→aq2
open ByteArray renaming data_extract→ac', push→adh, empty→as0
open Go.World renaming cell?→aqM
open Int renaming negSucc→arf
open Go.Deferred renaming ofValue→asX
open Int.ofNat renaming inj→asY
open List.cons renaming inj→asZ
set_option linter.unusedVariables false
set_option linter.unusedSimpArgs false
namespace Go.Proofs.YtmjolmggelkjlaaGreat.Ev
open Go Go.RowKit
section
variable {P:Program} {base:Nat} {m:Mp} {w:World} {h h1:H} {n n1:Nat} {r:Value} {L:List En}
theorem uJ{x x':Value}{k:Nat}(hx:VR m x x')(hl:ic x=some k)(w:World):(ac9 x').run P w= .ok k w:=by
 cases hx<;>simp[ic]at hl<;>subst hl<;>rfl
theorem Lb{sz k j0:Nat}{x x':Value}{vs:List Value}(hx:VR m x x')(hl:ic x=some k)(h0:0<k)(wr:WR P m base h w.heap)(hr:kU sz j0 x h n=some ⟨vs,h1,n1,L⟩):
 h1=h∧n1=n∧∃dD,bA m vs dD∧∀w2:World,w2.heap=w.heap->(mH sz j0 x').run P w2= .ok dD.toArray w2:=by
 unfold kU at hr
 split at hr
 ·rename_i b off l c
  simp[ic]at hl
  subst hl
  cases hx with
  |@iC _ _ _ _ dz o' d hd ho c1 c2 c3 c4=>
   obtain⟨rfl,rfl,hlen,dD,gI,fI⟩:=vU wr hd hr
   refine⟨rfl,rfl,dD,gI,fun w2 mN=> ?_⟩
   have mP:dD.length=j0*sz:=by rw[<-gI.length,hlen]
   have:=A9 (P:=P) (w:=w2) (c:=d.bE) (o:=d.sh+off) (vs:=dD) (fun j v hj=>by
    have:=fI j v hj
    unfold aqM at this⊢
    rw[mN];exact this)
   rw[mP]at this
   simp only[mH,ho (.inl h0)]
   exact this
 ·rename_i s
  simp[ic]at hl
  subst hl
  cases hx
  obtain⟨rfl,rfl,rfl⟩:=bY hr
  refine⟨rfl,rfl,_,bA.oY rfl (fun j v hj=>⟨v,hj, ?_⟩),fun w2 _=>by
   simp[mH]
   apply Ro
   simp⟩
  have hm:=List.mem_of_getElem? hj
  simp only[ac',Array.map_extract,Array.toList_extract,List.extract_eq_take_drop,List.drop_zero,um]at hm
  have hm:=List.mem_of_mem_take hm
  simp at hm
  obtain⟨b,_,rfl⟩:=hm
  exact .int _ _
 ·cases hr
theorem aey{c o:Nat}{e:TypeId}{lo hi:Nat}:∀(vs:List Value) (i:Nat) (w:World) (cs:Array Value),w.heap[c]? =some (.cells cs e (lo,hi))->(∀j,j<vs.length->o+i+j<cs.size∧¬(lo<=o+i+j∧o+i+j<hi))->(∀v∈vs,Ev.one v=true)->base<=c->
 ∃w' cs',(storeCells ⟨c,o,none⟩ vs i).run P w= .ok () w'∧w'.heap[c]? =some (.cells cs' e (lo,hi))∧cs'.size=cs.size∧(∀j,cs'[j]? =if o+i<=j∧j<o+i+vs.length then vs[j-(o+i)]? else cs[j]?)∧(∀b,b≠c->w'.heap[b]? =w.heap[b]?)∧Below base w w':=by
 intro vs
 induction vs with
 |nil=>intro i w cs hg _ _ _;exact⟨w,cs,rfl,hg,rfl,fun j=>by rw[if_neg (by simp)],fun _ _=>rfl,vD _ _⟩
 |cons v vs ih=>
  intro i w cs hg yC h1 hb
  obtain⟨bM,ij⟩:=yC 0 (by simp)
  have qZ:(w.setCell ⟨c,o+i,none⟩ v).heap[c]? =some (.cells (cs.setIfInBounds (o+i) v) e (lo,hi)):=by
   simp only[World.setCell,Array.getElem?_modify,if_true,hg]
   simp
  obtain⟨w',cs',a1,a2,a3,a4,a5,a6⟩:=ih (i+1) (w.setCell ⟨c,o+i,none⟩ v) _ qZ (fun j hj=>by
   have:=yC (j+1) (by simpa using hj)
   rw[show o+(i+1)+j=o+i+(j+1) by omega]
   simpa using this) (fun u hu=>h1 u (by simp[hu])) hb
  refine⟨w',cs', ?_,a2,by rw[a3];simp,fun j=> ?_,fun b Ld=> ?_,((vD base w).setCell (p:=⟨c,o+i,none⟩) hb _).trans a6⟩
  ·unfold storeCells
   rw[nm]
   show(CM (store _ _) _).run P w=_
   unfold store
   simp only[CM]
   rw[Sl (by rw[A8 w _ _ hg];simpa using bM) (by
    unfold World.frozen?
    simp only[hg,Bool.and_eq_false_iff,decide_eq_false_iff_not]
    omega) (h1 v (by simp))]
   exact a1
  ·rw[a4 j]
   simp only[List.length_cons]
   by_cases hj:o+(i+1)<=j∧j<o+(i+1)+vs.length
   ·rw[if_pos hj,if_pos (by omega)]
    rw[show j-(o+i)=(j-(o+(i+1)))+1 by omega]
    simp
   ·rw[if_neg hj]
    by_cases e2:j=o+i
    ·subst e2
     rw[if_pos (by omega)]
     simp at bM
     simp[bM]
    ·rw[if_neg (by omega),Array.getElem?_setIfInBounds_ne (by omega)]
  ·rw[a5 b Ld,Below.heap_setCell w _ _ _ Ld]
theorem Lg {dR:Array TypeId} {t u ty e:TypeId} {i:TypeInfo} {x:Value} {k:Nat} {news:List Value} {b off l cap:Nat} {w':World} (mq:dR[0]? =some t) (qu:dR[1]? =some u) (ht:P.underlying t=some (.slice e)) (hu:(∃e',P.underlying u=some (.slice e'))∨P.underlying u=some .string) (hi:P.info? e=some i)
 (hl:(ac9 x).run P w= .ok k w) (ji:l+k<=cap) (hx:(mH i.size k x).run P w= .ok news.toArray w) (dT:(storeCells ⟨b,off+l*i.size,none⟩ news).run P w= .ok () w'):
 (CP dR ty #[.slice (some ⟨b,off,none⟩) l cap,x]).run P w= .ok (.slice (some ⟨b,off,none⟩) (l+k) cap) w':=by
 rcases hu with ⟨e',hk⟩|hk<;>simp[CP,mq,qu,run_underlying ht,run_underlying hk,sizeOf,typeInfo,hi,hl,ji,hx,nm,dT]
theorem Lh {dR:Array TypeId} {t u ty e:TypeId} {i:TypeInfo} {z:Value} {x:Value} {k:Nat} {olds news:List Value} {bo:Option Addr} {l cap:Nat} (mq:dR[0]? =some t) (qu:dR[1]? =some u) (ht:P.underlying t=some (.slice e)) (hu:(∃e',P.underlying u=some (.slice e'))∨P.underlying u=some .string) (hi:P.info? e=some i) (hz:i.zero=some z)
 (hl:(ac9 x).run P w= .ok k w) (ji:cap<l+k) (yD:l+k<=1099511627776) (wa:i.bytes<=64) (hx:(mH i.size k x).run P w.drew= .ok news.toArray w.drew) (ho:(mH i.size l (.slice bo l cap)).run P w.drew= .ok olds.toArray w.drew):
 (CP dR ty #[.slice bo l cap,x]).run P w= .ok (.slice (some ⟨w.heap.size,0,none⟩) (l+k) (grownCap w (l+k) cap e))
   (w.drew.alloc (.cells ((olds++news).toArray++Kd z.cells (grownCap w (l+k) cap e-(l+k))) e)):=by
 have hn:¬(l+k<=cap):=by omega
 have aez:¬(9223372036854775807<((l:Int)+(k:Int))):=by omega
 have SL:=growslice_fits (need:=l+k) (old:=cap) (bytes:=i.bytes) ji (by
  have:=Nat.mul_le_mul yD wa
  omega)
 have aeA:¬(281474976710656<Builtin.nextslicecap (l+k) cap*i.bytes):=by omega
 rcases hu with ⟨e',hk⟩|hk<;>
  (simp[CP,mq,qu,run_underlying ht,run_underlying hk,sizeOf,typeInfo,zeroValue,hi,hz,hl,hn,aez,aeA,aq2,hx,ho,newRow,grownCap]
   congr 2
   apply Ro
   simp[List.append_assoc])
theorem size_zeroCells(z:Array Value)(k:Nat):(Kd z k).size=k*z.size:=by simp[Kd]
theorem aeB(w:World)(need old:Nat)(e:TypeId):need<=grownCap w need old e:=by unfold grownCap ac7;exact Nat.le_add_right _ _
theorem Lj {e:TypeId} {i:TypeInfo} {z:Value} {l k cap:Nat} {old new old' ri:List Value} (x:WR P m base h w.heap) (hb:base<=w.heap.size) (hf:jQ m n n1) (hi:P.info? e=some i) (sT:z.cells.size=i.size) (ho:bA m old old') (hn:bA m new ri) (lu:old.length=l*i.size) (Bd:new.length=k*i.size)
 (hr:qc e l k old new h n=some ⟨r,h1,n1,L⟩):∃m',c8 P m base n n1 w h1 m' (w.drew.alloc (.cells ((old'++ri).toArray++Kd z.cells (grownCap w (l+k) cap e-(l+k))) e))∧
   VR m' r (.slice (some ⟨w.heap.size,0,none⟩) (l+k) (grownCap w (l+k) cap e)):=by
 unfold qc at hr
 obtain⟨id,h2,n2,L1,L2,e1,e2,_⟩:=bind_some hr
 obtain⟨rfl,rfl,rfl⟩:=bY e2
 have hc:=aeB w (l+k) cap e
 have Be:=ho.append hn
 have hlen:=Be.length
 obtain⟨rfl,rfl,m',fO,hp⟩:=yn (w:=w.drew) (P:=P) (m:=m) (base:=base) x e1 hf hb (cs':=(old'++ri).toArray++Kd z.cells (grownCap w (l+k) cap e-(l+k))) (by simp at hlen⊢;omega) (fun j v hj=>by
  obtain⟨v',eI,jF⟩:=Be.get j v hj
  refine⟨v', ?_,jF⟩
  have:j<(old'++ri).length:=by
   rcases Nat.lt_or_ge j (old'++ri).length with q|q
   ·exact q
   ·rw[List.getElem?_eq_none q]at eI;cases eI
  rw[Array.getElem?_append_left (by simpa using this)]
  simpa using eI) (esz:=i.size) (by simp[size?,hi])
 refine⟨m',⟨hp.le,hp.out,hp.wr,(Below.drew (vD base w)).trans hp.below⟩,VR.iC fO (fun _=>rfl) (fun q=>by unfold bq at q;omega) (fun _=>⟨an _,by omega⟩) hc ?_⟩
 simp only[Array.size_append,size_zeroCells,sT,List.size_toArray,<-hlen,bX,lu,Bd]
 rw[<-pZ,<-pZ,fB]
 exact Nat.le_of_eq (by congr 1;omega)
theorem aeC {dR:Array TypeId} {t u ty:TypeId} {s s' x x':Value} (mq:dR[0]? =some t) (qu:dR[1]? =some u) (hu:(∃e',P.underlying u=some (.slice e'))∨P.underlying u=some .string) (hs:VR m s s') (hx:VR m x x') (wr:WR P m base h w.heap) (hb:base<=w.heap.size) (hf:jQ m n n1)
 (hr:sH P t s x h n=some ⟨r,h1,n1,L⟩):Sound P base m w h n (CP dR ty #[s',x']) r h1 n1:=by
 unfold sH at hr
 cases ht:P.underlying t with
 |none=>rw[ht]at hr;cases hr
 |some dt=>
  rw[ht]at hr
  cases dt<;>try(cases hr;done)
  rename_i e
  simp only at hr
  cases hi:P.info? e with
  |none=>rw[hi]at hr;cases hr
  |some ie=>
   cases hz:iB P e with
   |none=>rw[hi,hz]at hr;cases hr
   |some z=>
    cases hl:ic x with
    |none=>rw[hi,hz,hl]at hr;cases hr
    |some k=>
     rw[hi,hz,hl]at hr
     simp only at hr
     obtain⟨i2,gT,ju⟩:=F' hz
     rw[hi]at gT;cases gT
     split at hr
     ·rename_i ld
      simp only[cj,decide_eq_true_eq]at ld
      obtain⟨⟨sT,SI⟩,wa⟩:=ld
      by_cases hk:k=0
      ·rw[if_pos hk]at hr
       subst hk
       cases hs<;>try(cases hr;done)
       case o0 l cap iT=>
        obtain⟨rfl,rfl,rfl⟩:=bY hr
        refine⟨m,w,.slice none l cap, ?_,c8.refl wr,.o0 _ _ iT⟩
        have Df:(mH ie.size 0 x').run P w= .ok #[] w:=by
         cases hx<;>simp[ic]at hl<;>simp[mH,loadCells,loadCellsFrom]
        have:=uJ (P:=P) hx hl w
        rcases hu with ⟨e',hk⟩|hk<;>simp[CP,mq,qu,run_underlying ht,run_underlying hk,sizeOf,typeInfo,hi,this,iT.1,Df]
       case sQ b off s a'=>
        obtain⟨rfl,rfl,rfl⟩:=bY hr
        refine⟨m,w,.slice (some a') 0 0, ?_,c8.refl wr,.sQ _ _ _ _⟩
        have Df:(mH ie.size 0 x').run P w= .ok #[] w:=by
         cases hx<;>simp[ic]at hl<;>simp[mH,loadCells,loadCellsFrom]
        have:=uJ (P:=P) hx hl w
        rcases hu with ⟨e',hk⟩|hk<;>simp[CP,mq,qu,run_underlying ht,run_underlying hk,sizeOf,typeInfo,hi,this,Df,storeCells]
       case iC b off l cap dz o' d hd ho c1 c2 c3 c4=>
        obtain⟨rfl,rfl,rfl⟩:=bY hr
        refine⟨m,w,_, ?_,c8.refl wr,.iC hd ho c1 c2 c3 c4⟩
        have Df:(mH ie.size 0 x').run P w= .ok ([]:List Value).toArray w:=by
         cases hx<;>simp[ic]at hl<;>simp[mH,loadCells,loadCellsFrom]
        have:=Lg (P:=P) (ty:=ty) mq qu ht hu hi (uJ (P:=P) hx hl w) (b:=d.bE) (off:=o') (l:=l) (cap:=dz) (by omega) Df (w':=w) rfl
        simpa using this
      ·rw[if_neg hk]at hr
       have SM:0<k:=by omega
       cases hs<;>try(cases hr;done)
       case o0 l cap iT=>
        cases l<;>try(cases hr;done)
        cases cap<;>try(cases hr;done)
        simp only at hr
        split at hr
        ·rename_i Lk
         obtain⟨new,h2,n2,L1,L2,e1,e2,_⟩:=bind_some hr
         obtain⟨rfl,rfl,ri,hn,wc⟩:=Lb hx hl SM wr e1
         split at e2
         ·rename_i hc
          simp only[cj,decide_eq_true_eq]at hc
          obtain⟨m',hp,hv⟩:=Lj (cap:=0) (old:=[]) (old':=[]) (l:=0) wr hb hf hi sT .nil hn (by simp) hc.1 e2
          refine⟨m',_,_, ?_,hp,hv⟩
          exact Lh (P:=P) mq qu ht hu hi ju (uJ (P:=P) hx hl w) (by omega) (by omega) wa (wc _ rfl) (by simp[mH])
         ·cases e2
        ·cases hr
       case iC b off l cap dz o' d hd ho c1 c2 c3 c4=>
        simp only at hr
        split at hr
        ·rename_i Lk
         obtain⟨e',h2,n2,L1,L2,e1,e2,_⟩:=bind_some hr
         obtain⟨rfl,rfl,d2,qt,rh,B0,Dg,hBe⟩:=Sk wr e1
         rw[hd]at qt;cases qt
         split at e2
         ·rename_i he
          subst he
          have Ll:ie.size=d.esz:=by simpa[size?,hi]using rh
          obtain⟨new,h3,n3,L3,L4,e3,e4,_⟩:=bind_some e2
          obtain⟨rfl,rfl,ri,hn,wc⟩:=Lb hx hl SM wr e3
          split at e4
          ·rename_i hc
           simp only[cj,decide_eq_true_eq]at hc
           obtain⟨Bd,aeD⟩:=hc
           have aeE:ri.length=k*ie.size:=by rw[<-hn.length];exact Bd
           have aeF:∀v∈ri,Ev.one v=true:=by
            intro v hv
            obtain⟨j,hj⟩:=List.mem_iff_getElem?.1 hv
            have rj:j<new.length:=by
             rw[hn.length]
             exact(List.getElem?_eq_some_iff.1 hj).1
            obtain⟨v2,sS,ew⟩:=hn.get j new[j] (by simp[rj])
            rw[hj]at sS;cases sS
            rw[ew.one]
            exact FG.1 aeD _ (List.getElem_mem rj)
           unfold yg at e4
           by_cases iT:cap<bq
           ·rw[if_pos iT]at e4
            have uC:=c1 iT
            subst uC
            have uE:=ho (.inr iT)
            subst uE
            by_cases ji:l+k<=dz
            ·rw[if_pos ji]at e4
             obtain⟨uu,h5,n5,L5,L6,e5,e6,_⟩:=bind_some e4
             obtain⟨rfl,rfl,rfl⟩:=bY e6
             cases uu
             obtain⟨rfl,w',dT,x2,kZ⟩:=KK hd hn (i:=0) (d.sh+off+l*ie.size) (by omega) wr e5
             refine⟨m,w',_, ?_,⟨Le.refl _,fun _ _=>rfl,x2,kZ⟩,.iC hd (fun _=>rfl) (fun _=>rfl) (fun q=>by omega) (by omega) c4⟩
             exact Lg (P:=P) mq qu ht hu hi (uJ (P:=P) hx hl w) ji (wc w rfl) dT
            ·rw[if_neg ji]at e4
             obtain⟨old,h5,n5,L5,L6,e5,e6,_⟩:=bind_some e4
             obtain⟨rfl,rfl,lu,old',kB,Gd⟩:=vU wr hd e5
             obtain⟨m',hp,hv⟩:=Lj (cap:=dz) wr hb hf hi sT kB hn lu Bd e6
             refine⟨m',_,_, ?_,hp,hv⟩
             refine Lh (P:=P) mq qu ht hu hi ju (uJ (P:=P) hx hl w) (by omega) Lk wa (wc _ rfl) ?_
             have:=A9 (P:=P) (w:=w.drew) (c:=d.bE) (o:=d.sh+off) (vs:=old') Gd
             rw[<-kB.length,lu]at this
             simpa[mH]using this
           ·rw[if_neg iT]at e4
            obtain⟨old,h5,n5,L5,L6,e5,e6,_⟩:=bind_some e4
            obtain⟨rfl,rfl,lu,old',kB,Gd⟩:=vU wr hd e5
            obtain⟨uu,h7,n7,L7,L8,e7,e8,_⟩:=bind_some e6
            unfold kill at e7
            split at e7
            ·split at e7
             ·rename_i lR _ B hB
              split at e7
              ·rename_i oh
               simp only[eG,Out.mk.injEq]at e7
               obtain⟨_,rfl,rfl,_⟩:=e7
               have xk:=wr.kill hB
               have aeG:∀(w2:World),w2.heap=w.heap->(mH ie.size l (.slice (some ⟨d.bE,o',none⟩) l dz)).run P w2= .ok old'.toArray w2:=by
                intro w2 mN
                have hq:∀j v,old'[j]? =some v->w2.cell? ⟨d.bE,o'+j,none⟩=some v:=by
                 intro j v hj
                 have rj:j<old'.length:=(List.getElem?_eq_some_iff.1 hj).1
                 have uK:0<l:=by
                  rcases ac5 l with q|q
                  ·rw[<-kB.length,lu,q]at rj;simp at rj
                  ·exact q
                 rw[ho (.inl uK)]
                 have:=Gd j v hj
                 unfold aqM at this⊢
                 rw[mN];exact this
                have:=A9 (P:=P) hq
                rw[<-kB.length,lu]at this
                simpa[mH]using this
               by_cases ji:l+k<=dz
               ·
                obtain⟨dB,cs,lo,gT,b1,b2,b3,b4,b5,b6,b7⟩:=wr.live b B hB
                rw[hd]at b1;cases b1
                obtain⟨qm,vV,ij⟩:=b6 oh
                have hmul:l*d.esz+k*d.esz<=dz*d.esz:=by rw[<-pZ];exact Nat.mul_le_mul_right _ ji
                obtain⟨w',cs',s1,s2,s3,s4,s5,s6⟩:=aey (P:=P) (base:=base) (o:=o'+l*ie.size) ri 0 w cs b2 (fun j hj=>by
                 rw[aeE,Ll]at hj
                 rw[Ll]
                 exact⟨by omega,ij _ (by omega)⟩) aeF vV
                unfold qc at e8
                obtain⟨id,h9,n9,L9,L10,e9,e10,_⟩:=bind_some e8
                obtain⟨rfl,rfl,rfl⟩:=bY e10
                unfold dC at e9
                split at e9
                ·rename_i asJ
                 simp only[eG,Out.mk.injEq]at e9
                 obtain⟨rfl,rfl,rfl,_⟩:=e9
                 have hBB:B.elem=e':=by rw[hB]at Dg;cases Dg;exact hBe
                 rw[qm,hBB]at s2
                 have qn:m n5=none:=hf n5 (an _) (by omega)
                 obtain⟨m',fO⟩:∃m':Mp,m'=fun q=>if q=n5 then some ⟨d.bE,o',d.jE,d.esz,e'⟩else m q:=⟨_,rfl⟩
                 have Ge:m' n5=some ⟨d.bE,o',d.jE,d.esz,e'⟩:=by rw[fO];simp
                 have Bf:∀q,q≠n5->m' q=m q:=fun q hq=>by rw[fO];simp[hq]
                 have hle:Le m m':=fun q dd hq=>by
                  by_cases e:q=n5
                  ·subst e;rw[qn]at hq;cases hq
                  ·rw[Bf q e];exact hq
                 refine⟨m',w',.slice (some ⟨d.bE,o',none⟩) (l+k) dz, ?_,⟨hle,fun q hq=>Bf q (by omega),⟨?_, ?_⟩,s6⟩,VR.iC (d:=⟨d.bE,o',d.jE,d.esz,e'⟩) Ge (fun _=>rfl) (fun q=>by unfold bq at*;omega) (fun _=>⟨an _,by omega⟩) ji c4⟩
                 ·exact Lg (P:=P) mq qu ht hu hi (uJ (P:=P) hx hl w) ji (wc w rfl) s1
                 ·intro q B2 hq
                  rw[H.kX _ _]at hq
                  by_cases e:q=n5
                  ·subst e
                   rw[if_pos rfl]at hq
                   cases hq
                   refine⟨_,cs',lo,gT,Ge,s2,by rw[s3,b3], ?_,rh,fun _=>⟨rfl,vV,ij⟩,fun j v hj=> ?_⟩
                   ·simp only[bX,lu,Bd,Ll];omega
                   ·obtain⟨v',eI,jF⟩:=(kB.append hn).get j v hj
                    refine⟨v', ?_,jF.mono hle⟩
                    show cs'[o'+j]? =_
                    rw[s4]
                    have Lm:old'.length=l*ie.size:=by rw[<-kB.length,lu]
                    by_cases rj:j<old'.length
                    ·rw[if_neg (by rw[Lm]at rj;omega)]
                     rw[List.getElem?_append_left rj]at eI
                     have uK:0<l:=by
                      rcases ac5 l with q|q
                      ·rw[Lm,q]at rj;simp at rj
                      ·exact q
                     have:=Gd j v' eI
                     rw[A8 w _ _ b2]at this
                     rw[ho (.inl uK)]
                     exact this
                    ·have aeH:j<(old'++ri).length:=(List.getElem?_eq_some_iff.1 eI).1
                     rw[List.getElem?_append_right (by omega)]at eI
                     simp only[bX]at aeH
                     rw[if_pos (by omega)]
                     rw[<-eI,Lm]
                     congr 1
                     omega
                  ·rw[if_neg e]at hq
                   obtain⟨d3,cs3,Gf,Ln,g1,g2,g3,g4,g5,g6,g7⟩:=xk.live q B2 hq
                   have SN:q≠b∧h5.get q=some B2:=by
                    rw[H.kX _ _]at hq
                    by_cases e3:q=b
                    ·rw[if_pos e3]at hq;cases hq
                    ·rw[if_neg e3]at hq;exact⟨e3,hq⟩
                   have fC:d3.bE≠d.bE:=fun e3=>SN.1 (wr.inj q b B2 B d3 d SN.2 hB (.inr oh) g1 hd e3)
                   refine⟨d3,cs3,Gf,Ln,hle _ _ g1,by rw[s5 _ fC];exact g2,g3,g4,g5,g6,fun j v hj=> ?_⟩
                   obtain⟨v',eI,jF⟩:=g7 j v hj
                   exact⟨v',eI,jF.mono hle⟩
                 ·intro q q' B2 B3 d2 d3 hq Dh uE fh yE Di
                  rw[H.kX _ _]at hq Dh
                  have key:∀q B2 d2,q≠n5->(h5.set b none).get q=some B2->m' q=some d2->d2.bE≠d.bE:=by
                   intro q B2 d2 Dj hq fh Di
                   rw[H.kX _ _]at hq
                   by_cases e3:q=b
                   ·rw[if_pos e3]at hq;cases hq
                   ·rw[if_neg e3]at hq
                    rw[Bf q Dj]at fh
                    exact e3 (wr.inj q b B2 B d2 d hq hB (.inr oh) fh hd Di)
                  by_cases e1:q=n5
                  ·by_cases e2:q'=n5
                   ·rw[e1,e2]
                   ·rw[if_neg e2]at Dh
                    subst e1
                    rw[Ge]at fh;cases fh
                    exact absurd Di.symm (key q' B3 d3 e2 Dh yE)
                  ·rw[if_neg e1]at hq
                   by_cases e2:q'=n5
                   ·subst e2
                    rw[Ge]at yE;cases yE
                    exact absurd Di (key q B2 d2 e1 hq fh)
                   ·rw[if_neg e2]at Dh
                    rw[Bf q e1]at fh
                    rw[Bf q' e2]at yE
                    exact xk.inj q q' B2 B3 d2 d3 hq Dh uE fh yE Di
                ·cases e9
               ·
                obtain⟨m',hp,hv⟩:=Lj (cap:=dz) xk hb hf hi sT kB hn lu Bd e8
                refine⟨m',_,_, ?_,hp,hv⟩
                exact Lh (P:=P) mq qu ht hu hi ju (uJ (P:=P) hx hl w) (by omega) Lk wa (wc _ rfl) (aeG _ rfl)
              ·cases e7
             ·cases e7
            ·cases e7
          ·cases e4
         ·cases e2
        ·cases hr
     ·cases hr
theorem aeI{dR:Array TypeId}{t ty:TypeId}{d d' s s':Value}(mq:dR[0]? =some t)(hd:VR m d d')(hs:VR m s s')(wr:WR P m base h w.heap)(hr:sK P t d s h n=some ⟨r,h1,n1,L⟩):
 Sound P base m w h n (Ke dR ty #[d',s']) r h1 n1:=by
 unfold sK at hr
 cases oA:P.underlying t with
 |none=>rw[oA]at hr;cases hr
 |some du=>
  rw[oA]at hr
  cases du<;>try(cases hr;done)
  rename_i e
  simp only at hr
  cases dS:size? P e with
  |none=>rw[dS]at hr;cases hr
  |some sz=>
   cases iR:ic s with
   |none=>rw[dS,iR]at hr;cases hd<;>cases hr
   |some sl=>
    rw[dS,iR]at hr
    have hlen:=uJ (P:=P) hs iR w
    have zero:∀dl,¬0<Nat.min sl dl->Nat.min sl dl=0∧(mH sz (Nat.min sl dl) s').run P w= .ok #[] w:=by
     intro dl h0
     have Gg:Nat.min sl dl=0:=by omega
     refine⟨Gg, ?_⟩
     rw[Gg]
     cases hs<;>simp[ic]at iR<;>simp[mH,loadCells,loadCellsFrom]
    cases hd with
    |o0 dl cap hc=>
     simp only at hr
     by_cases h0:0<Nat.min sl dl
     ·rw[if_pos h0]at hr;cases hr
     ·rw[if_neg h0]at hr
      obtain⟨rfl,rfl,rfl⟩:=bY hr
      obtain⟨z1,z2⟩:=zero dl h0
      refine⟨m,w,_, ?_,c8.refl wr,.int _ _⟩
      rw[z1]at z2
      simp[Ke,mq,run_underlying oA,run_sizeOf dS,hlen,z1,z2,goInt]
    |sQ b off sp a'=>
     simp only at hr
     by_cases h0:0<Nat.min sl 0
     ·rw[if_pos h0]at hr;cases hr
     ·rw[if_neg h0]at hr
      obtain⟨rfl,rfl,rfl⟩:=bY hr
      obtain⟨z1,z2⟩:=zero 0 h0
      refine⟨m,w,_, ?_,c8.refl wr,.int _ _⟩
      rw[z1]at z2
      simp[Ke,mq,run_underlying oA,run_sizeOf dS,hlen,z1,z2,goInt,storeCells]
    |@iC b off dl cap dz o' dd Gh ho c1 c2 c3 c4=>
     simp only at hr
     by_cases h0:0<Nat.min sl dl
     ·rw[if_pos h0]at hr
      obtain⟨vs,h2,n2,L1,L2,e1,e2,_⟩:=bind_some hr
      have aeJ:0<sl:=mb h0 (Nat.min_le_left _ _)
      have aeK:0<dl:=mb h0 (Nat.min_le_right _ _)
      obtain⟨rfl,rfl,dD,gI,wc⟩:=Lb hs iR aeJ wr e1
      obtain⟨u,h3,n3,L3,L4,e3,e4,_⟩:=bind_some e2
      obtain⟨rfl,rfl,rfl⟩:=bY e4
      cases u
      obtain⟨rfl,w',dT,x2,kZ⟩:=KK Gh gI (i:=0) (dd.sh+off) (by omega) wr e3
      refine⟨m,w',_, ?_,⟨Le.refl _,fun _ _=>rfl,x2,kZ⟩,.int _ _⟩
      have hf:=wc w rfl
      rw[<-ho (.inl aeK)]at dT
      simp[Ke,mq,run_underlying oA,run_sizeOf dS,hlen,hf,dT,goInt]
     ·rw[if_neg h0]at hr
      obtain⟨rfl,rfl,rfl⟩:=bY hr
      obtain⟨z1,z2⟩:=zero dl h0
      refine⟨m,w,_, ?_,c8.refl wr,.int _ _⟩
      rw[z1]at z2
      simp[Ke,mq,run_underlying oA,run_sizeOf dS,hlen,z1,z2,goInt,storeCells]
    |_=>cases hr
end
theorem bA.maps{m:Mp}{ρ ρ':Operand->Value}:∀(l:List Operand),(∀y∈l,VR m (ρ y) (ρ' y))->bA m (l.map ρ) (l.map ρ')
 |[],_=> .nil
 |x::l,h=> .cons (h x (by simp)) (bA.maps l fun y hy=>h y (by simp[hy]))
theorem Gi{P:Program}{w:World}{s:Sem Value}{v:Value}{w':World}(h:s.run P w= .ok v w'):((do pure (.value (<-s)):Sem Next)).run P w= .ok (.value v) w':=by
 simp only[fL,h,gf,qQ]
section
variable {P:Program} {base:Nat}
def Goal(P:Program)(base:Nat)(m:Mp)(w:World)(n n1:Nat)(h1:H)(r:Nx)(s:Sem Next):Prop:=∃m' w' R,s.run P w= .ok R w'∧c8 P m base n n1 w h1 m' w'∧NR m' r R
theorem Goal.of{m:Mp}{w:World}{h h1:H}{n n1:Nat}{v:Value}{s:Sem Value}(x:Sound P base m w h n s v h1 n1):Goal P base m w n n1 h1 (.val v) (do pure (.value (<-s))):=by
 obtain⟨m',w',v',hr,hp,hv⟩:=x
 exact⟨m',w',.value v',Gi hr,hp,.val hv⟩
theorem lS{m:M Value}{h h2:H}{n n2:Nat}{r:Nx}{L:List En}(hr:(m.bind fun v=>M.ret (Nx.val v)) h n=some ⟨r,h2,n2,L⟩):∃v L',r= .val v∧m h n=some ⟨v,h2,n2,L'⟩:=by
 obtain⟨v,h1,n1,L1,L2,e1,e2,_⟩:=bind_some hr
 obtain⟨rfl,rfl,rfl⟩:=bY e2
 exact⟨v,L1,rfl,e1⟩
theorem aeL{ρ ρ':Operand->Value}{o:Oper}{m:Mp}{w:World}{h h1:H}{n n1:Nat}{r:Nx}{L:List En}(hs:∀cs b,o.op≠ .select cs b)(dI:∀y∈o.op.operands,VR m (ρ y) (ρ' y))(x:WR P m base h w.heap)(hr:iQ P ρ o h n=some ⟨r,h1,n1,L⟩):
 Goal P base m w n n1 h1 r (execOp ρ' o):=by
 unfold iQ at hr
 split at hr
 ·rename_i ku
  obtain⟨v,h2,n2,L1,L2,e1,e2,_⟩:=bind_some hr
  obtain⟨hp,rfl,rfl⟩:=oZ e1
  split at e2
  ·rename_i Lo
   obtain⟨rfl,rfl,rfl⟩:=bY e2
   have:execOp ρ' o=execOp ρ o:=execOp_congr o hs fun y hy=>(dI y hy).scalar ((Array.all_eq_true_iff_forall_mem.1 ku) y hy)
   rw[this]
   exact⟨m,w,.value v,ad_ _ _ hp w,c8.refl x,.val (VR.self Lo)⟩
  ·cases e2
 ·cases hr
theorem qv{m:Mp}{w:World}{h:H}{n:Nat}{v v':Value}{s:Sem Value}(x:WR P m base h w.heap)(hr:s.run P w= .ok v' w)(hv:VR m v v'):Goal P base m w n n h (.val v) (do pure (.value (<-s))):=
 ⟨m,w,.value v',Gi hr,c8.refl x,.val hv⟩
theorem Lp{m:Mp}{ρ ρ':Operand->Value}{o:Option Operand}(h:∀y∈o,VR m (ρ y) (ρ' y)):vY m (o.map ρ) (o.map ρ'):=by
 cases o with
 |none=>trivial
 |some y=>exact h y rfl
theorem aeM{m:Mp}{t:TypeId}{v v' u u':Value}{b:Bool}(hv:VR m v v')(hu:VR m u u')(h:sI (P.underlying t) v u=some b)(w:World):
 (vG t v' u').run P w= .ok b w∧(∀op x y,(eqGuard op t x y v' u').run P w= .ok () w)∧(∀op:BinOp,op= .eql∨op= .neq->binOp op t v' u'=(if op= .eql then do pure (.bool (<-vG t v' u'))else do pure (.bool (!(<-vG t v' u'))))):=by
 cases hd:P.underlying t with
 |none=>rw[hd]at h;simp[sI]at h
 |some d=>
  rw[hd]at h
  have aeN:Op.maxDepth=9999+1:=rfl
  unfold vG
  rw[aeN]
  cases d<;>try(simp[sI]at h;done)
  all_goals (cases hv<;>try(simp[sI]at h;done))
  all_goals (cases hu<;>try(simp[sI]at h;done))
  all_goals (
   simp[sI]at h
   subst h
   refine⟨?_,fun op x y=> ?_,fun op bN=> ?_⟩
   ·rw[AR]
    simp only[fL,run_underlying hd,gf]
    rfl
   ·unfold eqGuard
    split<;>rfl
   ·rcases bN with rfl|rfl<;>rfl)
theorem aeO{m:Mp}{d:Nat}{x y x' y':Value}{b:Bool}(h:C0 d x y=some b)(hx:VR m x x')(hy:VR m y y'):x'=x∧y'=y:=by
 unfold C0 at h
 split at h
 ·cases hx;cases hy;exact⟨rfl,rfl⟩
 ·cases hx;cases hy;exact⟨rfl,rfl⟩
 ·cases hx;cases hy;exact⟨rfl,rfl⟩
 ·cases h
theorem SO{m:Mp}:∀{ds:List Nat} {l k l' k':List Value} {b:Bool},lQ ds l k=some b->bA m l l'->bA m k k'->l'=l∧k'=k∧l.length=ds.length∧k.length=ds.length
 |[],[],[],_,_,_,_,.nil,.nil=>⟨rfl,rfl,rfl,rfl⟩
 |d::ds,x::l,y::k,_,_,b,h,.cons hx hl,.cons hy hk=>by
  unfold lQ at h
  split at h
  ·rename_i a b h1 h2
   obtain⟨rfl,rfl⟩:=aeO h1 hx hy
   obtain⟨rfl,rfl,e1,e2⟩:=SO h2 hl hk
   exact⟨rfl,rfl,by simp[e1],by simp[e2]⟩
  ·cases h
 |[],[],_::_,_,_,_,h,_,_=>by simp[lQ]at h
 |[],_::_,_,_,_,_,h,_,_=>by simp[lQ]at h
 |_::_,[],_,_,_,_,h,_,_=>by simp[lQ]at h
 |_::_,_::_,[],_,_,_,h,_,_=>by simp[lQ]at h
theorem SP{t:TypeId}{cs:Array Value}{i:Nat}{v:Value}(ha:kS P t=some false)(hc:cs[i]? =some v)(w:World):(part t cs i).run P w= .ok v w:=by
 unfold part
 simp only[fL,yA ha,gf,sE,if_false,hc]
 rfl
theorem SQ{xs ys:Array Value}(D:Nat):∀(fs:List Field) (i:Nat) (ds:List Nat) (b:Bool),CZ P i fs=some ds->lQ ds (xs.toList.drop i) (ys.toList.drop i)=some b->∀w,(aq' (D+1) xs ys fs).run P w= .ok b w
 |[],i,ds,b,h,hk,w=>by
  simp only[CZ,eG]at h
  subst h
  unfold lQ at hk
  split at hk<;>first|(cases hk;done)|skip
  ·cases hk;rfl
  ·rename_i q _ _;cases q
 |f::fs,i,ds,b,h,hk,w=>by
  unfold CZ at h
  split at h
  ·rename_i d l h1 h2 h3
   split at h
   ·rename_i hc
    cases h
    simp only[cj,bne_iff_ne,ne_eq,beq_iff_eq]at hc
    obtain⟨oB,aeP⟩:=hc
    unfold lQ at hk
    split at hk<;>first|(cases hk;done)|skip
    ·rename_i q _ _;cases q
    ·rename_i d' ds' x lx y ly e0 e1 e2
     cases e0
     split at hk
     ·rename_i a b' k1 k2
      cases hk
      have cx:xs[i]? =some x:=by
       rw[<-Kf]
       have:=congrArg (·[0]?) e1
       simpa using this
      have cy:ys[i]? =some y:=by
       rw[<-Kf]
       have:=congrArg (·[0]?) e2
       simpa using this
      have dx:xs.toList.drop (i+1)=lx:=by
       have:=congrArg aq_ e1
       simpa[ara]using this
      have dy:ys.toList.drop (i+1)=ly:=by
       have:=congrArg aq_ e2
       simpa[ara]using this
      have ag:kS P f.type=some false∧∀w,(AR (D+1) f.type x y).run P w= .ok a w:=by
       unfold R' at h1
       unfold kS
       cases hu:P.underlying f.type with
       |none=>rw[hu]at h1;cases h1
       |some u=>
        rw[hu]at h1
        unfold C0 at k1
        cases u<;>first|(cases h1;done)|skip
        ·cases h1
         refine⟨rfl,fun w=> ?_⟩
         split at k1<;>first|(cases k1;done)|skip
         ·rename_i q;cases q
         ·rename_i q;cases q
         ·cases k1
          simp[AR,run_underlying hu]
        ·cases h1
         refine⟨rfl,fun w=> ?_⟩
         split at k1<;>first|(cases k1;done)|skip
         ·split at k1
          ·rename_i KF
           cases k1
           simp[AR,run_underlying hu,KF]
          ·cases k1
         ·rename_i q;cases q
         ·rename_i q;cases q
        ·cases h1
         refine⟨rfl,fun w=> ?_⟩
         split at k1<;>first|(cases k1;done)|skip
         ·rename_i q;cases q
         ·cases k1
          simp[AR,run_underlying hu]
         ·rename_i q;cases q
      have ih:=SQ (xs:=xs) (ys:=ys) D fs (i+1) l b' h3 (by rw[dx,dy];exact k2)
      unfold aq'
      rw[if_pos oB]
      simp only[fL,aeP,SP ag.1 cx,SP ag.1 cy,gf,ag.2]
      cases a
      ·simp
      ·simpa using ih w
     ·cases hk
   ·cases h
  ·cases h
theorem aeQ{m:Mp}{t:TypeId}{v v' u u':Value}{b:Bool}(hv:VR m v v')(hu:VR m u u')(h:sJ P t v u=some b)(w:World):
 (vG t v' u').run P w= .ok b w∧(∀op x y,(eqGuard op t x y v' u').run P w= .ok () w)∧(∀op:BinOp,op= .eql∨op= .neq->binOp op t v' u'=(if op= .eql then do pure (.bool (<-vG t v' u'))else do pure (.bool (!(<-vG t v' u'))))):=by
 unfold sJ at h
 split at h
 ·rename_i b' hn
  cases h
  exact aeM hv hu hn w
 ·unfold Ky at h
  split at h
  ·rename_i ds xs ys hd yu
   cases hv with
   |agg hxs=>
   cases hu with
   |agg Lq=>
   rename_i SS SU
   obtain⟨e1,e2,_,_⟩:=SO h hxs Lq
   have e1:SS=xs:=by cases SS;cases xs;simp at e1;rw[e1]
   have e2:SU=ys:=by cases SU;cases ys;simp at e2;rw[e2]
   subst e1;subst e2
   unfold yh at hd
   split at hd
   ·rename_i fs SV
    split at hd
    ·cases hd
    ·rename_i hg
     simp only[pY,not_or,Bool.not_eq_true]at hg
     have SW:P.fieldsOf t=fs:=by unfold Program.fieldsOf;rw[SV]
     refine⟨?_,fun op x y=>run_eqGuard_agg w op t x y _ _ hg.2,fun op bN=> ?_⟩
     ·show(AR (9998+1+1) t _ _).run P w=_
      rw[run_equalIn_struct w (9998+1) t _ _ (by rw[SW];exact SV) hg.1,SW]
      exact SQ 9998 fs.toList 0 ds b hd h w
     ·rcases bN with rfl|rfl<;>rfl
   ·cases hd
  ·cases h
theorem aeR{a b:Option TypeDesc}{e:TypeId}(h:vM a b=some e):a=some (.slice e)∧b=some .string:=by
 unfold vM at h
 split at h
 ·cases h;exact⟨rfl,rfl⟩
 ·cases h
theorem aeS{a b:Option TypeDesc}{v:Value}{e:TypeId}{s:ByteArray}(h:yi a b v=some (e,s)):a=some .string∧b=some (.slice e)∧v= .string s:=by
 unfold yi at h
 split at h
 ·cases h;exact⟨rfl,rfl,rfl⟩
 ·cases h
theorem SX{e:TypeId}(h:qg P e=true):P.underlying e=some (.int .u8):=by
 unfold qg at h
 split at h
 ·assumption
 ·cases h
theorem aeT{dR:Array TypeId}{args:List Value}{t:TypeId}{d y:Value}(h:A3 dR args=some (t,d,y)):dR[0]? =some t∧args=[d,y]:=by
 unfold A3 at h
 split at h
 ·rename_i t' d' y' h0
  cases h
  exact⟨h0,rfl⟩
 ·cases h
theorem aeU{dR:Array TypeId}{args:List Value}{t:TypeId}{s y:Value}(h:A2 P dR args=some (t,s,y)):∃u,dR[0]? =some t∧dR[1]? =some u∧args=[s,y]∧((∃e',P.underlying u=some (.slice e'))∨P.underlying u=some .string):=by
 unfold A2 at h
 split at h
 ·rename_i t' u s' y' h0 h1
  split at h
  ·rename_i hk
   cases h
   refine⟨u,h0,h1,rfl, ?_⟩
   unfold Sa at hk
   split at hk
   ·rename_i e hh;exact .inl ⟨e,hh⟩
   ·rename_i hh;exact .inr hh
   ·cases hk
  ·cases h
 ·cases h
theorem aeV{dR:Array TypeId}{args:List Value}{k:Nat}(h:yj P dR args=some k):∃t e a cp rest,dR[0]? =some t∧P.underlying t=some (.slice e)∧args= .slice a k cp::rest:=by
 unfold yj at h
 split at h
 ·rename_i t a n cp rest h0
  split at h
  ·rename_i e hh
   cases h
   exact⟨t,e,a,cp,rest,h0,hh,rfl⟩
  ·cases h
 ·cases h
theorem aeW(oB:vQ P=true):yo P base:=by
 intro ρ ρ' o h n r h1 n1 L m w hr dI x hb hf
 show Goal P base m w n n1 h1 r (execOp ρ' o)
 have plain:(∀cs b,o.op≠ .select cs b)->iQ P ρ o h n=some ⟨r,h1,n1,L⟩->Goal P base m w n n1 h1 r (execOp ρ' o):=fun hs hr=>aeL hs dI x hr
 unfold cI at hr
 cases bN:o.op with
 |move y=>
  rw[bN]at hr dI
  unfold execOp
  rw[bN]
  obtain⟨rfl,rfl,rfl⟩:=bY hr
  exact⟨m,w,.value (ρ' y),rfl,c8.refl x,.val (dI y (by simp[eP]))⟩
 |assign y=>
  rw[bN]at hr dI
  unfold execOp
  rw[bN]
  obtain⟨rfl,rfl,rfl⟩:=bY hr
  exact⟨m,w,.value (ρ' y),rfl,c8.refl x,.val (dI y (by simp[eP]))⟩
 |pick c a b=>
  rw[bN]at hr dI
  unfold execOp
  rw[bN]
  simp only at hr
  dsimp only
  have hc:=dI c (by simp[eP])
  have ha:=dI a (by simp[eP])
  have bW:=dI b (by simp[eP])
  generalize ρ c=vc at hr hc
  generalize ρ' c=vc' at hc⊢
  cases hc<;>try(cases hr;done)
  rename_i t
  obtain⟨rfl,rfl,rfl⟩:=bY hr
  refine⟨m,w,.value (if t then ρ' a else ρ' b),by cases t<;>rfl,c8.refl x,.val ?_⟩
  cases t
  ·exact bW
  ·exact ha
 |alloc e=>
  rw[bN]at hr dI
  unfold execOp
  rw[bN]
  obtain⟨v,L',rfl,e1⟩:=lS hr
  exact Goal.of (aeb x hb hf e1)
 |box e y=>
  rw[bN]at hr dI
  unfold execOp
  rw[bN]
  obtain⟨v,L',rfl,e1⟩:=lS hr
  exact Goal.of (aec (dI y (by simp[eP])) x hb hf e1)
 |build t ps=>
  rw[bN]at hr dI
  unfold execOp
  rw[bN]
  obtain⟨v,L',rfl,e1⟩:=lS hr
  have vX:(ps.toList.map fun(i,x)=>(i,ρ x)).map (·.1)=(ps.toList.map fun(i,x)=>(i,ρ' x)).map (·.1):=by simp[Ru]
  have yB:bA m ((ps.toList.map fun(i,x)=>(i,ρ x)).map (·.2)) ((ps.toList.map fun(i,x)=>(i,ρ' x)).map (·.2)):=by
   have:=bA.maps (m:=m) (ρ:=ρ) (ρ':=ρ') (ps.toList.map (·.2)) fun y hy=>dI y (by simp only[eP];simpa using hy)
   simpa[Rv,Ru]using this
  have Lr:(ps.map fun(i,x)=>(i,ρ' x))=(ps.toList.map fun(i,x)=>(i,ρ' x)).toArray:=by
   apply Ro
   simp
  dsimp only
  rw[Lr]
  exact Goal.of (aee vX yB x e1)
 |buildSlice t len ps=>
  rw[bN]at hr dI
  unfold execOp
  rw[bN]
  obtain⟨v,L',rfl,e1⟩:=lS hr
  have vX:(ps.toList.map fun(i,x)=>(i,ρ x)).map (·.1)=(ps.toList.map fun(i,x)=>(i,ρ' x)).map (·.1):=by simp[Ru]
  have yB:bA m ((ps.toList.map fun(i,x)=>(i,ρ x)).map (·.2)) ((ps.toList.map fun(i,x)=>(i,ρ' x)).map (·.2)):=by
   have:=bA.maps (m:=m) (ρ:=ρ) (ρ':=ρ') (ps.toList.map (·.2)) fun y hy=>dI y (by simp only[eP];simpa using hy)
   simpa[Rv,Ru]using this
  have Lr:(ps.map fun(i,x)=>(i,ρ' x))=(ps.toList.map fun(i,x)=>(i,ρ' x)).toArray:=by
   apply Ro
   simp
  dsimp only
  rw[Lr]
  exact Goal.of (aeh vX yB x hb hf e1)
 |load t a=>
  rw[bN]at hr dI
  unfold execOp
  rw[bN]
  obtain⟨v,L',rfl,e1⟩:=lS hr
  exact Goal.of (aei (dI a (by simp[eP])) x e1)
 |store t a y=>
  rw[bN]at hr dI
  unfold execOp
  rw[bN]
  obtain⟨v,L',rfl,e1⟩:=lS hr
  obtain⟨rfl,w',dT,hp⟩:=aej (dI a (by simp[eP])) (dI y (by simp[eP])) x e1
  refine⟨m,w',.skip, ?_,hp,.skip⟩
  simp only[fL,dT,gf,qQ]
 |nilCheck y=>
  rw[bN]at hr dI
  unfold execOp
  rw[bN]
  obtain⟨v,L',rfl,e1⟩:=lS hr
  obtain⟨rfl,rfl,hv,hor⟩:=aek (dI y (by simp[eP])) x e1
  dsimp only
  rcases hor with ⟨a,ha⟩|⟨f,a,b,ha⟩<;>rw[ha]at hv⊢<;>exact⟨m,w,_,rfl,c8.refl x,.val hv⟩
 |binOp op t y z yt=>
  rw[bN]at hr
  simp only at hr
  have jT:=dI
  rw[bN]at jT
  have hy:=jT y (by simp[eP])
  have hz:=jT z (by simp[eP])
  cases hq:sJ P t (ρ y) (ρ z)with
  |none=>
   rw[hq]at hr
   exact plain (fun cs b hh=>by rw[bN]at hh;cases hh) hr
  |some b=>
   rw[hq]at hr
   unfold execOp
   rw[bN]
   obtain⟨q1,q2,q3⟩:=aeQ hy hz hq w
   cases op<;>try(cases hr;done)
   case eql=>
    obtain⟨rfl,rfl,rfl⟩:=bY hr
    refine qv x ?_ (.bool b)
    rw[fL,q2]
    simp only[gf]
    rw[q3 .eql (.inl rfl),if_pos rfl,fL,q1]
    rfl
   case neq=>
    obtain⟨rfl,rfl,rfl⟩:=bY hr
    refine qv x ?_ (.bool !b)
    rw[fL,q2]
    simp only[gf]
    rw[q3 .neq (.inr rfl),if_neg (by decide),fL,q1]
    rfl
 |unOp op t y=>
  rw[bN]at hr
  exact plain (fun cs b hh=>by rw[bN]at hh;cases hh) hr
 |convert src dst y=>
  rw[bN]at hr
  simp only at hr
  have jT:=dI
  rw[bN]at jT
  have hy:=jT y (by simp[eP])
  have hns:∀cs b,o.op≠ .select cs b:=fun cs b hh=>by rw[bN]at hh;cases hh
  cases eg:vM (P.underlying src) (P.underlying dst)with
  |some e=>
   rw[eg]at hr
   obtain⟨hs,hd⟩:=aeR eg
   simp only at hr
   split at hr
   ·rename_i Dk
    obtain⟨v,L',rfl,e1⟩:=lS hr
    obtain⟨a,l,c,iR,SY⟩:=aem hy x e1
    unfold execOp
    rw[bN]
    simp only[iR]at SY⊢
    obtain⟨m',w',v',kq,hp,hv⟩:=SY
    exact⟨m',w',.value v',Gi (by rw[run_convert_bytes_string w src dst e a l c hs (SX Dk) hd];exact kq),hp,.val hv⟩
   ·cases hr
  |none=>
   rw[eg]at hr
   simp only at hr
   cases Ls:yi (P.underlying src) (P.underlying dst) (ρ y)with
   |none=>rw[Ls]at hr;exact plain hns hr
   |some es=>
    obtain⟨e,s⟩:=es
    rw[Ls]at hr
    simp only at hr
    obtain⟨hs,hd,Lq⟩:=aeS Ls
    split at hr
    ·rename_i Dk
     simp only[cj,beq_iff_eq]at Dk
     obtain⟨v,L',rfl,e1⟩:=lS hr
     rw[Lq]at hy
     have gJ:ρ' y= .string s:=by generalize ρ' y=q at hy;cases hy;rfl
     obtain⟨m',w',v',kq,hp,hv⟩:=aen Dk.2 x hb hf e1
     unfold execOp
     rw[bN]
     simp only[gJ]
     refine⟨m',w',.value v',Gi ?_,hp,.val hv⟩
     rw[<-kq]
     simp[convert,run_underlying hs,run_underlying hd,run_underlying (SX Dk.1)]
    ·cases hr
 |makeFunc fn a b=>
  rw[bN]at hr dI
  unfold execOp
  rw[bN]
  obtain⟨rfl,rfl,rfl⟩:=bY hr
  refine⟨m,w,.value (.func fn (a.map ρ') (b.map ρ')),rfl,c8.refl x,.val (.func fn ?_ ?_)⟩
  ·rw[um,um]
   exact bA.maps _ fun y hy=>dI y (by simp only[eP,arc];exact .inl (by simpa using hy))
  ·rw[um,um]
   exact bA.maps _ fun y hy=>dI y (by simp only[eP,arc];exact .inr (by simpa using hy))
 |makeSlice t l c=>
  rw[bN]at hr dI
  unfold execOp
  rw[bN]
  obtain⟨v,L',rfl,e1⟩:=lS hr
  exact Goal.of (aer (dI l (by simp[eP])) (dI c (by simp[eP])) x hb hf e1)
 |slice t y lo hi mx=>
  rw[bN]at hr
  simp only at hr
  have jT:=dI
  rw[bN]at jT
  have hy:=jT y (by simp[eP])
  by_cases yF:isStr (ρ y)=true
  ·rw[if_pos yF]at hr
   exact plain (fun cs b hh=>by rw[bN]at hh;cases hh) hr
  ·rw[if_neg yF]at hr
   obtain⟨v,L',rfl,e1⟩:=lS hr
   unfold execOp
   rw[bN]
   have jj:vY m (lo.map ρ) (lo.map ρ'):=Lp fun q hq=>jT q (by rw[ac_]at hq;subst hq;simp[eP])
   have we:vY m (hi.map ρ) (hi.map ρ'):=Lp fun q hq=>jT q (by rw[ac_]at hq;subst hq;simp[eP])
   have vZ:vY m (mx.map ρ) (mx.map ρ'):=Lp fun q hq=>jT q (by rw[ac_]at hq;subst hq;simp[eP])
   generalize ρ y=vy at e1 hy
   unfold qU at e1
   split at e1
   ·rename_i b off l c
    obtain⟨e',h2,n2,L1,L2,e2,e3,_⟩:=bind_some e1
    obtain⟨rfl,rfl,d2,qt,rh,_⟩:=Sk x e2
    cases hu:P.underlying t with
    |none=>rw[hu]at e3;cases e3
    |some du=>
     rw[hu]at e3
     cases du<;>try(cases e3;done)
     rename_i e
     simp only at e3
     split at e3
     ·rename_i dS
      obtain⟨pf,rfl,rfl⟩:=oZ e3
      obtain⟨u,nv,lh⟩:=SK (fun b' SZ l' c' e2' eI uD=>by
       cases eI
       rw[hu]at uD;cases uD
       exact⟨d2,qt,by rw[<-dS];exact rh⟩) hy jj we vZ pf w
      exact qv x nv lh
     ·cases e3
   ·rename_i yy
    obtain⟨pf,rfl,rfl⟩:=oZ e1
    obtain⟨u,nv,lh⟩:=SK (fun b' SZ l' c' e2' eI uD=>absurd eI (yy b' SZ l' c')) hy jj we vZ pf w
    exact qv x nv lh
 |fieldAddr t y f=>
  rw[bN]at hr dI
  unfold execOp
  rw[bN]
  obtain⟨v,L',rfl,e1⟩:=lS hr
  obtain⟨pf,rfl,rfl⟩:=oZ e1
  obtain⟨u,hu,lh⟩:=aet (dI y (by simp[eP])) pf w
  exact qv x hu lh
 |field t y f=>
  rw[bN]at hr dI
  unfold execOp
  rw[bN]
  obtain⟨v,L',rfl,e1⟩:=lS hr
  obtain⟨pf,rfl,rfl⟩:=oZ e1
  obtain⟨u,hu,lh⟩:=Dd (dI y (by simp[eP])) pf w
  exact qv x hu lh
 |indexAddr t y i=>
  rw[bN]at hr dI
  unfold execOp
  rw[bN]
  obtain⟨v,L',rfl,e1⟩:=lS hr
  obtain⟨pf,rfl,rfl⟩:=oZ e1
  obtain⟨u,hu,lh⟩:=aeu (dI y (by simp[eP])) (dI i (by simp[eP])) pf w
  exact qv x hu lh
 |index t y i=>
  rw[bN]at hr
  simp only at hr
  have jT:=dI
  rw[bN]at jT
  split at hr
  ·exact plain (fun cs b hh=>by rw[bN]at hh;cases hh) hr
  ·unfold execOp
   rw[bN]
   obtain⟨v,L',rfl,e1⟩:=lS hr
   obtain⟨pf,rfl,rfl⟩:=oZ e1
   obtain⟨u,hu,lh⟩:=aev (jT y (by simp[eP])) (jT i (by simp[eP])) pf w
   exact qv x hu lh
 |extract y i=>
  rw[bN]at hr dI
  unfold execOp
  rw[bN]
  obtain⟨v,L',rfl,e1⟩:=lS hr
  obtain⟨pf,rfl,rfl⟩:=oZ e1
  obtain⟨u,hu,lh⟩:=aew (dI y (by simp[eP])) pf w
  exact qv x hu lh
 |call c=>
  rw[bN]at hr
  simp only at hr
  have jT:=dI
  rw[bN]at jT
  simp only[eP]at jT
  have dM:bA m (c.args.map ρ).toList (c.args.map ρ').toList:=by
   rw[um,um]
   exact bA.maps _ fun y hy=>jT y (by unfold AO;exact arc.2 (.inr (by simpa using hy)))
  have hex:execOp ρ' o=(do let d<-resolve ρ' c o.type;invoke d.target d.args):=by unfold execOp;rw[bN]
  unfold mK at hr
  cases Bg:c.callee with
  |invoke a b=>rw[Bg]at hr;cases hr
  |value f=>
   rw[Bg]at hr
   simp only at hr
   have Dl:=jT f (by unfold AO;rw[Bg];simp)
   cases yG:FU (ρ f)with
   |none=>rw[yG]at hr;cases hr
   |some gfc=>
    obtain⟨g,first,cap⟩:=gfc
    rw[yG]at hr
    simp only at hr
    obtain⟨Gj,dz,aeX,aeY,iT⟩:∃Gj dz,ρ' f= .func (.func g) Gj dz∧bA m first.toList Gj.toList∧bA m cap.toList dz.toList:=by
     generalize ρ f=p at yG Dl
     generalize ρ' f=q at Dl
     unfold FU at yG
     split at yG
     ·cases yG
      cases Dl with
      |func fn h1 h2=>exact⟨_,_,rfl,h1,h2⟩
     ·cases yG
    split at hr
    ·rename_i wg
     obtain⟨rfl,rfl,rfl⟩:=bY hr
     rw[hex]
     unfold oX at wg
     cases oC:P.funcs[g]? with
     |none=>rw[oC]at wg;cases wg
     |some fn=>
      rw[oC]at wg
      have wg:fn.body.isSome=true:=wg
      refine⟨m,w,.enter g (Gj++c.args.map ρ'++dz), ?_,c8.refl x,.call ?_⟩
      ·have aeZ:(fn.name== "runtime.NumGoroutine")=false:=by
        unfold vQ at oB
        have:=(Array.all_eq_true_iff_forall_mem.1 oB) fn (Array.mem_of_getElem? oC)
        simpa using this
       have cF:fn.body.isNone=false:=by
        cases hq:fn.body with
        |none=>rw[hq]at wg;cases wg
        |some _=>rfl
       unfold resolve
       rw[Bg]
       simp only[aeX,asX,pure_bind,invoke]
       unfold callFunc
       simp only[fL]
       show gf (.ok P w) _=_
       simp only[gf,oC,aeZ,sE,if_false,cF]
       rfl
      ·simp only[Array.toList_append]
       exact(aeY.append dM).append iT
    ·cases hr
  |builtin b=>
   rw[Bg]at hr
   have Lt:execOp ρ' o=builtin b c.argTypes o.type (c.args.map fun| .const _=>true|_=>false) (c.args.map ρ'):=by
    rw[hex]
    unfold resolve
    rw[Bg]
    rfl
   cases b<;>simp only at hr<;>try(cases hr;done)
   case append=>
    cases Lu:A2 P c.argTypes (c.args.map ρ).toList with
    |none=>rw[Lu]at hr;cases hr
    |some tsx=>
     obtain⟨t,s,y⟩:=tsx
     rw[Lu]at hr
     simp only at hr
     obtain⟨u,ht,hu,hl,hk⟩:=aeU Lu
     rw[hl]at dM
     rw[Lt]
     obtain⟨s',y',Lv,hs,hy⟩:∃s' y',c.args.map ρ'=#[s',y']∧VR m s s'∧VR m y y':=by
      generalize c.args.map ρ'=q at dM
      obtain⟨q⟩:=q
      simp only at dM
      cases dM with
      |cons h1 t1=>cases t1 with
       |cons h2 t2=>cases t2 with
        |nil=>exact⟨_,_,rfl,h1,h2⟩
     rw[Lv]
     obtain⟨v,L',rfl,e1⟩:=lS hr
     exact Goal.of (aeC ht hu hk hs hy x hb hf e1)
   case copy=>
    cases Gc:A3 c.argTypes (c.args.map ρ).toList with
    |none=>rw[Gc]at hr;cases hr
    |some tds=>
     obtain⟨t,d,y⟩:=tds
     rw[Gc]at hr
     simp only at hr
     obtain⟨ht,hl⟩:=aeT Gc
     rw[hl]at dM
     rw[Lt]
     obtain⟨d',y',Lv,hd,hy⟩:∃d' y',c.args.map ρ'=#[d',y']∧VR m d d'∧VR m y y':=by
      generalize c.args.map ρ'=q at dM
      obtain⟨q⟩:=q
      simp only at dM
      cases dM with
      |cons h1 t1=>cases t1 with
       |cons h2 t2=>cases t2 with
        |nil=>exact⟨_,_,rfl,h1,h2⟩
     rw[Lv]
     obtain⟨v,L',rfl,e1⟩:=lS hr
     exact Goal.of (aeI ht hd hy x e1)
   case len=>
    cases iR:yj P c.argTypes (c.args.map ρ).toList with
    |none=>rw[iR]at hr;exact plain (fun cs b hh=>by rw[bN]at hh;cases hh) hr
    |some k=>
     rw[iR]at hr
     obtain⟨t,e,a,cp,rest,ht,oA,hl⟩:=aeV iR
     rw[hl]at dM
     obtain⟨rfl,rfl,rfl⟩:=bY hr
     rw[Lt]
     generalize c.args.map ρ'=q at dM
     obtain⟨q⟩:=q
     simp only at dM
     cases dM with
     |cons h1 t1=>
      cases h1 with
      |o0 _ _ hc=>
       refine qv x ?_ (.int _ _)
       unfold Rx
       simp[ht,run_underlying oA,goInt]
      |sQ _ _ _ _=>
       refine qv x ?_ (.int _ _)
       unfold Rx
       simp[ht,run_underlying oA,goInt]
      |iC=>
       refine qv x ?_ (.int _ _)
       unfold Rx
       simp[ht,run_underlying oA,goInt]
   case min=>exact plain (fun cs b hh=>by rw[bN]at hh;cases hh) hr
   case max=>exact plain (fun cs b hh=>by rw[bN]at hh;cases hh) hr
 |_=>rw[bN]at hr;cases hr
end
theorem ae0{P:Program}{base:Nat}{m:Mp}{t:TypeId}{a a' r:Value}{h h1:H}{n n1:Nat}{L:List En}{w:World}(ha:VR m a a')(x:WR P m base h w.heap)(hr:kV P t a h n=some ⟨r,h1,n1,L⟩):
 ∃b off,a'= .pointer (some ⟨b,off,none⟩)∧h1=h∧n1=n∧∃v',VR m r v'∧((do loadVar t (<-asAddr a')):Sem Value).run P w= .ok v' w:=by
 unfold kV at hr
 split at hr
 ·rename_i b off
  obtain⟨d,hd,rfl⟩:=K7 ha
  cases hg:kS P t with
  |none=>rw[hg]at hr;cases hr
  |some g=>
   rw[hg]at hr
   cases g with
   |false=>
    simp only at hr
    obtain⟨rfl,rfl,d',v',mj,hc,hv⟩:=FZ x hr
    rw[hd]at mj;cases mj
    refine⟨_,_,rfl,rfl,rfl,v',hv, ?_⟩
    simp only[asAddr,pure_bind,loadVar,fL,yA hg w,gf,sE,if_false]
    show(Sem.load _ _ _).run P w=_
    simp[Sem.run,hc]
   |true=>
    cases hs:size? P t with
    |none=>rw[hs]at hr;cases hr
    |some k=>
     rw[hs]at hr
     simp only at hr
     obtain⟨vs,h2,n2,L1,L2,e1,e2,_⟩:=bind_some hr
     obtain⟨rfl,rfl,rfl⟩:=bY e2
     obtain⟨rfl,rfl,hl,dD,gI,fI⟩:=vU x hd e1
     refine⟨_,_,rfl,rfl,rfl,.agg dD.toArray,.agg (by simpa using gI), ?_⟩
     have hlen:dD.length=k:=by rw[<-gI.length,hl]
     have:=A9 (P:=P) fI
     rw[hlen]at this
     simp only[asAddr,pure_bind,loadVar,fL,yA hg w,gf,if_true,run_sizeOf hs,this]
     rfl
 ·cases hr
theorem results_at{P:Program}{base:Nat}{m:Mp}{nt:Nat}{s:S}{a:Act}(hs:SR m nt s a):∀(l:List ResultVar) (h h1:H) (n n1:Nat) (L:List En) (vs:List Value) (w:World),WR P m base h w.heap->kW P s l h n=some ⟨vs,h1,n1,L⟩->∃dD,bA m vs dD∧
 ((l.mapM fun| .tmp t=>pure (a.tmps.getD t undef)| .cell b t=>do loadVar t (<-asAddr (a.tmps.getD b undef)):Sem (List Value))).run P w= .ok dD w:=by
 intro l
 induction l with
 |nil=>
  intro h h1 n n1 L vs w x hr
  obtain⟨rfl,rfl,rfl⟩:=bY hr
  exact⟨[],.nil,rfl⟩
 |cons r l ih=>
  intro h h1 n n1 L vs w x hr
  cases r with
  |cell b t=>
   unfold kW at hr
   obtain⟨v,h2,n2,L1,L2,e1,e2,_⟩:=bind_some hr
   obtain⟨us,h3,n3,L3,L4,e3,e4,_⟩:=bind_some e2
   obtain⟨rfl,rfl,rfl⟩:=bY e4
   obtain⟨b0,off,hsb,rfl,rfl,v',eI,kq⟩:=ae0 (hs.at_ b) x e1
   obtain⟨dD,gI,ae1⟩:=ih _ _ _ _ _ _ w x e3
   refine⟨v'::dD,.cons eI gI, ?_⟩
   rw[aqY]
   have h1:(asAddr (a.tmps.getD b undef)).run P w= .ok ⟨b0,off,none⟩ w:=by rw[hsb];rfl
   have h2:(loadVar t ⟨b0,off,none⟩).run P w= .ok v' w:=by
    rw[fL,h1]at kq
    exact kq
   simp only[bind_assoc,pure_bind,fL,h1,gf,h2,ae1,qQ]
  |tmp t=>
   unfold kW at hr
   obtain⟨us,h2,n2,L1,L2,e1,e2,_⟩:=bind_some hr
   obtain⟨rfl,rfl,rfl⟩:=bY e2
   obtain⟨dD,gI,kq⟩:=ih _ _ _ _ _ _ w x e1
   refine⟨a.tmps.getD t undef::dD,.cons (hs.at_ t) gI, ?_⟩
   rw[aqY]
   simp only[pure_bind,fL,kq,gf,qQ]
theorem ae2{P:Program}{t:TypeId}{v r:Value}{h h1:H}{n n1:Nat}{L:List En}(hr:kV P t v h n=some ⟨r,h1,n1,L⟩):h1=h∧n1=n:=by
 have S0:∀{b k:Nat} {h h1:H} {n n1:Nat} {v:Value} {L:List En},rd b k h n=some ⟨v,h1,n1,L⟩->h1=h∧n1=n:=by
  intro b k h h1 n n1 v L hr
  unfold rd at hr
  split at hr
  ·split at hr
   ·split at hr
    ·simp only[eG,Out.mk.injEq]at hr
     exact⟨hr.2.1.symm,hr.2.2.1.symm⟩
    ·cases hr
   ·cases hr
  ·cases hr
 have ae3:∀{c b k:Nat} {h h1:H} {n n1:Nat} {v:List Value} {L:List En},cU b k c h n=some ⟨v,h1,n1,L⟩->h1=h∧n1=n:=by
  intro c
  induction c with
  |zero=>
   intro b k h h1 n n1 v L hr
   obtain⟨_,rfl,rfl⟩:=bY hr
   exact⟨rfl,rfl⟩
  |succ c ih=>
   intro b k h h1 n n1 v L hr
   obtain⟨v0,h2,n2,L1,L2,e2,e3,_⟩:=bind_some (m:=rd b k) hr
   obtain⟨rfl,rfl⟩:=S0 e2
   obtain⟨ws,h4,n4,L3,L4,e4,e5,_⟩:=bind_some (m:=cU b (k+1) c) e3
   obtain⟨rfl,rfl⟩:=ih e4
   obtain⟨_,rfl,rfl⟩:=bY e5
   exact⟨rfl,rfl⟩
 unfold kV at hr
 split at hr
 ·cases hg:kS P t with
  |none=>rw[hg]at hr;cases hr
  |some g=>
   rw[hg]at hr
   cases g with
   |false=>exact S0 hr
   |true=>
    cases hs:size? P t with
    |none=>rw[hs]at hr;cases hr
    |some k=>
     rw[hs]at hr
     obtain⟨vs,h2,n2,L1,L2,e1,e2,_⟩:=bind_some hr
     obtain⟨_,rfl,rfl⟩:=bY e2
     exact ae3 e1
 ·cases hr
theorem ae4{P:Program}{s:S}:∀(l:List ResultVar) (h h1:H) (n n1:Nat) (L:List En) (vs:List Value),kW P s l h n=some ⟨vs,h1,n1,L⟩->h1=h∧n1=n:=by
 intro l
 induction l with
 |nil=>
  intro h h1 n n1 L vs hr
  obtain⟨_,rfl,rfl⟩:=bY hr
  exact⟨rfl,rfl⟩
 |cons r l ih=>
  intro h h1 n n1 L vs hr
  cases r with
  |cell b t=>
   unfold kW at hr
   obtain⟨v,h2,n2,L1,L2,e1,e2,_⟩:=bind_some hr
   obtain⟨us,h3,n3,L3,L4,e3,e4,_⟩:=bind_some e2
   obtain⟨_,rfl,rfl⟩:=bY e4
   obtain⟨rfl,rfl⟩:=ae2 e1
   exact ih _ _ _ _ _ _ e3
  |tmp t=>
   unfold kW at hr
   obtain⟨us,h2,n2,L1,L2,e1,e2,_⟩:=bind_some hr
   obtain⟨_,rfl,rfl⟩:=bY e2
   exact ih _ _ _ _ _ _ e1
theorem ae5{P:Program}{bad:List FuncId}(cG:qW P bad=true){f:FuncId}{fn:Func}{c:Code}(hb:bad.contains f=false)(hf:P.funcs[f]? =some fn)(hc:fn.body=some c):nj P c=true:=by
 unfold qW at cG
 rw[FG]at cG
 have:=cG (fn,f) (by
  rw[List.mem_iff_getElem?]
  exact⟨f,by simp[List.getElem?_zipIdx,hf]⟩)
 simp only[hb,hc,ac2]at this
 exact this
def ae6(w:World):Prop:=∀g∈KG,w.cell? ⟨g.1,g.2.1,none⟩=some g.2.2
theorem S1{P:Program}{m:Mp}{base:Nat}{h:H}{w:World}(x:WR P m base h w.heap)(g:Gl P m):∀{l:List (Nat×Nat×Value)} {n n1:Nat} {h1:H} {u:Unit} {L:List En},qX P l h n=some ⟨u,h1,n1,L⟩->h1=h∧n1=n∧∀q∈l,w.cell? ⟨q.1,q.2.1,none⟩=some q.2.2
 |[],n,n1,h1,u,L,hr=>by
  obtain⟨_,rfl,rfl⟩:=bY hr
  exact⟨rfl,rfl,fun q hq=>by simp at hq⟩
 |q::l,n,n1,h1,u,L,hr=>by
  unfold qX at hr
  obtain⟨v,h2,n2,L1,L2,e1,e2,_⟩:=bind_some hr
  obtain⟨rfl,rfl,d,v',hd,hc,hv⟩:=FZ x e1
  by_cases hz:(decide (q.1<P.globals.size)&&C1 v q.2.2)=true
  ·rw[if_pos hz]at e2
   simp only[cj,decide_eq_true_eq]at hz
   obtain⟨d',mj,b1,b2⟩:=g q.1 hz.1
   rw[hd]at mj
   cases mj
   obtain⟨r1,r2,r3⟩:=S1 x g e2
   refine⟨r1,r2,fun y hy=> ?_⟩
   rcases List.mem_cons.1 hy with e|e
   ·subst e
    rw[b1,b2,fB]at hc
    rw[hc]
    have ju:=hz.2
    cases hv<;>first|(simp[C1]at ju;done)|skip
    cases hq:y.2.2<;>rw[hq]at ju<;>first|(simp[C1]at ju;done)|skip
    simp[C1]at ju
    rw[ju.1,ju.2]
   ·exact r3 y e
  ·rw[if_neg hz]at e2;cases e2
def Gk(P:Program)(bad:List FuncId):Prop:=∀f k,bad.contains f=true->vS f=some k->(k=1->∀(b o n c:Nat) (xs:List Int) (cv:Int) (w:World),xs.length=n->(∀i,i<n->w.cell? ⟨b,o+i,none⟩=some (.int .u8 (xs.getD i 0)))->
 Calls P f #[.slice (some ⟨b,o,none⟩) n c,.int .u8 cv] w fun e w'=>e= .returned (.int .i64 (Lib.indexByte (Lib.bytesOf xs) cv.toNat.toUInt8))∧Below w.heap.size w w')∧
 (k=2->∀(s:ByteArray) (c:Nat) (w:World),c<=1000000->s.size<=1000000->Calls P f #[.string s,.int .i64 c] w fun e w'=>e= .returned (.string ⟨(Lib.repeatL s.data.toList c).toArray⟩)∧Below w.heap.size w w')∧
 (k=3->∀(args:Array Value) (v:Value) (w:World),args.toList.all scalar=true->R8 f args.toList=some v->(∀m,VR m v v)∧Calls P f args w fun e w'=>e= .returned v∧Below w.heap.size w w')∧
 (k=4->(∀(v:Value) (w:World),FT f 0 []=some v->(∀m,VR m v v)∧Calls P f #[.slice none 0 0] w fun e w'=>e= .returned v∧Below w.heap.size w w')∧
   ∀(b o n c:Nat) (cs:List Value) (v:Value) (w:World),cs.length=n*R9 f->cs.all scalar=true->(∀i v,cs[i]? =some v->w.cell? ⟨b,o+i,none⟩=some v)->n<=c->FT f n cs=some v->(∀m,VR m v v)∧Calls P f #[.slice (some ⟨b,o,none⟩) n c] w fun e w'=>e= .returned v∧Below w.heap.size w w')
structure uL (P:Program) (bad:List FuncId):Prop where
 yes:∀f,bad.contains f=true->vS f=none->uA P f=true->∀w,ae6 w->Calls P f #[] w fun e w'=>e= .returned (.bool true)∧Below w.heap.size w w'
 nat:Gk P bad
theorem S2:∀{vs:List Value} {l:List Int},C4 vs=some l->vs=l.map (dG .u8)
 |[],l,h=>by cases h;rfl
 |v::r,l,h=>by
  unfold C4 at h
  split at h
  ·rename_i heq;cases heq
  ·rename_i x r' heq
   cases heq
   split at h
   ·rename_i l' hl
    cases h
    rw[S2 hl];rfl
   ·cases h
  ·cases h
theorem S3{m:Mp}{k:IntKind}:∀{l:List Int} {vs:List Value},bA m (l.map (dG k)) vs->vs=l.map (dG k)
 |[],_,.nil=>rfl
 |_::l,_,.cons (.int _ _) t=>by rw[S3 t];rfl
theorem Gm{a:Array Value}{l:List Value}(h:a.toList=l):a=l.toArray:=by rw[<-h]
theorem bA.plain{m:Mp}:∀{l l':List Value},bA m l l'->l.all scalar=true->l'=l
 |_,_,.nil,_=>rfl
 |_,_,.cons h t,hs=>by
  simp only[List.all_cons,cj]at hs
  rw[h.scalar hs.1,bA.plain t hs.2]
theorem ae7{P:Program}{bad:List FuncId}{base:Nat}(hk:Gk P bad){f:FuncId}{k:Nat}(rk:bad.contains f=true)(hf:vS f=some k){args:List Value}{eR:Array Value}{h h1:H}{n n1:Nat}{v:Value}{L:List En}{m:Mp}{w:World}(hr:vT f k args h n=some ⟨v,h1,n1,L⟩)(x:WR P m base h w.heap)(hb:base<=w.heap.size)(dM:bA m args eR.toList):
 Calls P f eR w fun e w'=>∃m' v',e= .returned v'∧c8 P m base n n1 w h1 m' w'∧VR m' v v':=by
 have fin:∀w',Below w.heap.size w w'->c8 P m base n n w h m w':=fun w' lA=>by
  refine⟨Le.refl _,fun _ _=>rfl,⟨fun b B hB=> ?_,x.inj⟩,lA.mono hb⟩
  obtain⟨d,cs,lo,hi,h1,h2,h3⟩:=x.live b B hB
  exact⟨d,cs,lo,hi,h1,(lA.block d.bE (Array.getElem?_eq_some_iff.1 h2).1).trans h2,h3⟩
 unfold vT at hr
 split at hr
 ·unfold KB at hr
  split at hr
  ·rename_i b off len cap c
   generalize hq:eR.toList=as at dM
   cases dM with
   |cons ha dM=>
   cases dM with
   |cons hc dM=>
   cases dM
   cases hc
   unfold Kz at hr
   obtain⟨vs,h2,n2,L1,L2,e1,e2,_⟩:=bind_some hr
   cases ha with
   |@iC _ _ _ _ dz o' d hd ho _ _ _ _=>
    obtain⟨rfl,rfl,hl,dD,gI,fI⟩:=vU x hd e1
    cases hu:C4 vs with
    |none=>rw[hu]at e2;cases e2
    |some l=>
     rw[hu]at e2
     obtain⟨rfl,rfl,rfl⟩:=bY e2
     have yH:=S2 hu
     rw[yH]at gI hl
     have eI:=S3 gI
     rw[eI]at fI
     simp only[List.length_map]at hl
     rw[Gm hq]
     refine((hk f 1 rk hf).1 rfl d.bE o' len dz l c w hl fun i hi=> ?_).mono ?_
     ·rw[ho (.inl (by omega))]
      exact fI i _ (by rw[List.getElem?_map,bD (by omega),List.getD_eq_getElem?_getD,bD (by omega)];rfl)
     ·rintro e w' ⟨rfl,lA⟩
      exact⟨m,_,rfl,fin w' lA,.int _ _⟩
  ·cases hr
 ·unfold KC at hr
  split at hr
  ·rename_i s c
   generalize hq:eR.toList=as at dM
   cases dM with
   |cons ha dM=>
   cases dM with
   |cons hc dM=>
   cases dM
   cases hc
   cases ha
   unfold KA at hr
   split at hr
   ·rename_i hz
    simp only[cj,decide_eq_true_eq]at hz
    obtain⟨rfl,rfl,rfl⟩:=bY hr
    rw[Gm hq]
    obtain⟨c,rfl⟩:∃k:Nat,c=k:=⟨c.toNat,by omega⟩
    refine((hk f 2 rk hf).2.1 rfl s c w (by omega) hz.2).mono ?_
    rintro e w' ⟨rfl,lA⟩
    exact⟨m,_,rfl,fin w' lA,by rw[Int.toNat_natCast];exact .string _⟩
   ·cases hr
  ·cases hr
 ·unfold KD at hr
  split at hr
  ·rename_i hs
   obtain⟨hv,rfl,rfl⟩:=oZ hr
   have e:=dM.plain hs
   rw[<-e]at hs hv
   obtain⟨q1,q2⟩:=(hk f 3 rk hf).2.2.1 rfl eR v w hs hv
   refine q2.mono ?_
   rintro e w' ⟨rfl,lA⟩
   exact⟨m,_,rfl,fin w' lA,q1 m⟩
  ·cases hr
 ·unfold KE at hr
  split at hr
  ·generalize hq:eR.toList=as at dM
   cases dM with
   |cons ha dM=>
   cases dM
   cases ha
   obtain⟨hv,rfl,rfl⟩:=oZ hr
   rw[Gm hq]
   obtain⟨q1,q2⟩:=((hk f 4 rk hf).2.2.2 rfl).1 v w hv
   refine q2.mono ?_
   rintro e w' ⟨rfl,lA⟩
   exact⟨m,_,rfl,fin w' lA,q1 m⟩
  ·rename_i b off len cap
   generalize hq:eR.toList=as at dM
   cases dM with
   |cons ha dM=>
   cases dM
   obtain⟨vs,h2,n2,L1,L2,e1,e2,_⟩:=bind_some hr
   cases ha with
   |@iC _ _ _ _ dz o' d hd ho wv ky hn _=>
    obtain⟨rfl,rfl,hl,dD,gI,fI⟩:=vU x hd e1
    split at e2
    ·rename_i hs
     obtain⟨hv,rfl,rfl⟩:=oZ e2
     have e:=gI.plain hs
     subst e
     rw[Gm hq]
     obtain⟨q1,q2⟩:=((hk f 4 rk hf).2.2.2 rfl).2 d.bE o' len dz dD v w hl hs (fun i u hu=>by
      have hi:=(List.getElem?_eq_some_iff.1 hu).1
      have h0:0<len:=by
       rcases ac5 len with q|q
       ·rw[q,Nat.zero_mul]at hl;omega
       ·exact q
      rw[ho (.inl h0)]
      exact fI i u hu) hn hv
     refine q2.mono ?_
     rintro e w' ⟨rfl,lA⟩
     exact⟨m,_,rfl,fin w' lA,q1 m⟩
    ·cases e2
  ·cases hr
 ·cases hr
theorem Lw{P:Program}{base:Nat}{bad:List FuncId}(oB:vQ P=true)(cG:qW P bad=true)(o9:P.follows .mixedOrders=true)(lB:uL P bad):∀fuel,Bb P base (cZ P bad fuel):=by
 have bN:yo P base:=aeW oB
 intro fuel
 induction fuel with
 |zero=>intro f args h n v h1 n1 L m w eR hr;cases hr
 |succ fuel ih=>
  intro f args h n v h1 n1 L m w eR hr x hb dM hf g
  unfold cZ at hr
  by_cases rk:bad.contains f=true
  ·rw[if_pos rk]at hr
   cases uM:vS f with
   |some k=>
    rw[uM]at hr
    exact ae7 lB.nat rk uM hr x hb dM
   |none=>
   rw[uM]at hr
   simp only at hr
   by_cases hz:(decide (args.size=0)&&uA P f)=true
   ·rw[if_pos hz]at hr
    simp only[cj,decide_eq_true_eq]at hz
    obtain⟨u,h2,n2,L1,L2,c1,c2,_⟩:=bind_some hr
    obtain⟨rfl,rfl,ae8⟩:=S1 x g c1
    obtain⟨rfl,rfl,rfl⟩:=bY c2
    have hl:=dM.length
    have e1:eR=#[]:=by
     apply Array.eq_empty_of_size_eq_zero
     simp at hl
     omega
    subst e1
    refine(lB.yes f rk uM hz.2 w ae8).mono ?_
    rintro e w' ⟨rfl,lA⟩
    refine⟨m,_,rfl,⟨Le.refl _,fun _ _=>rfl,⟨fun b B hB=> ?_,x.inj⟩,lA.mono hb⟩,.bool true⟩
    obtain⟨d,cs,lo,hi,h1,h2,h3⟩:=x.live b B hB
    exact⟨d,cs,lo,hi,h1,(lA.block d.bE (Array.getElem?_eq_some_iff.1 h2).1).trans h2,h3⟩
   ·rw[if_neg hz]at hr;cases hr
  rw[if_neg rk]at hr
  cases oC:P.funcs[f]? with
  |none=>rw[oC]at hr;cases hr
  |some fn=>
   rw[oC]at hr
   simp only at hr
   cases hc:fn.body with
   |none=>rw[hc]at hr;cases hr
   |some c=>
    rw[hc]at hr
    simp only at hr
    by_cases ld:(args.size<=fn.ntmps&&fn.ntmps<1000)=true
    ·rw[if_pos ld]at hr
     simp only[cj,decide_eq_true_eq]at ld
     obtain⟨L',hr⟩:=KO hr
     obtain⟨y,h2,n2,L1,L2,e1,e2,_⟩:=bind_some hr
     obtain⟨e,s1⟩:=y
     have ae9:nj P c=true:=ae5 cG (Bool.eq_false_iff.2 rk) oC hc
     have jt:=fun f a=>Loc.cZ P bad fuel f a
     refine calls_of_wp oC hc ?_
     have fin:∀(e':Ex) (hn:cv e'= .normal∨cv e'= .ret) (heq:e=e'),((kW P s1 fn.results.toList).bind fun vs=>M.ret (match vs with|[v]=>v|_=> .tuple vs.toArray)) h2 n2=some ⟨v,h1,n1,L2⟩->
      c.wp P (bodyPost P fn fun e w'=>∃m' v',e= .returned v'∧c8 P m base n n1 w h1 m' w'∧VR m' v v') {tmps:=eR++Array.replicate (fn.ntmps-eR.size) undef,defers:=[]} w:=by
      intro e' hn heq e3
      subst heq
      obtain⟨vs,h3,n3,L3,L4,e4,e5,_⟩:=bind_some e3
      obtain⟨rfl,rfl,rfl⟩:=bY e5
      obtain⟨rfl,rfl⟩:=ae4 _ _ _ _ _ _ _ e4
      refine ad9 bN ih jt o9 fuel c ae9 _ m _ s1 _ w h _ n _ L1 e x hb g (ad' dM ld.1 ld.2) e1 hf fun m' a' w' hp dA=> ?_
      obtain⟨dD,gI,kq⟩:=results_at dA _ _ _ _ _ _ _ w' hp.wr e4
      have Lx:(results fn a'.tmps).run P w'= .ok (if h:dD.toArray.size=1 then dD.toArray[0]else .tuple dD.toArray) w':=by
       unfold results
       rw[Array.mapM_eq_mapM_toList]
       simp only[map_eq_pure_bind,bind_assoc,pure_bind,fL]
       refine Eq.trans (congrArg (fun r=>gf r _) kq) ?_
       simp only[gf,qQ]
      have Dm:VR m' (match vs with|[v]=>v|_=> .tuple vs.toArray) (if h:dD.toArray.size=1 then dD.toArray[0]else .tuple dD.toArray):=by
       cases gI with
       |nil=>exact .tuple .nil
       |cons hv ht=>
        cases ht with
        |nil=>exact hv
        |cons sS ht2=>exact .tuple (.cons hv (.cons sS ht2))
      have:bodyPost P fn (fun e w'=>∃m' v',e= .returned v'∧c8 P m base n n1 w h1 m' w'∧VR m' (match vs with|[v]=>v|_=> .tuple vs.toArray) v') (cv e) a' w':=by
       rcases hn with hn|hn<;>rw[hn]<;>exact⟨dA.df,_,Lx,m',_,rfl,hp,Dm⟩
      exact this
     cases e with
     |normal=>exact fin .normal (.inl rfl) rfl e2
     |ret=>exact fin .ret (.inr rfl) rfl e2
     |exit id=>cases e2
    ·rw[if_neg ld]at hr;cases hr
def Gn(r:Option (Out Value)):Bool:=match r with
 |some o=>(match o.val with| .bool b=>b|_=>false)
 |none=>false
end Go.Proofs.YtmjolmggelkjlaaGreat.Ev
namespace Go.Proofs.YtmjolmggelkjlaaGreat.Ev
open Go
abbrev Fr:=List (Nat×Value)
def Fr.at_:Fr->Nat->Option Value
 |[],_=>none
 |(u,v)::r,t=>match cz u t with
  |true=>some v
  |false=>Fr.at_ r t
def Fr.aB(s:Fr):List Nat->Fr
 |[]=>[]
 |t::r=>match s.at_ t with
  |some v=>(t,v)::Fr.aB s r
  |none=>Fr.aB s r
def Fr.keys:Fr->List Nat
 |[]=>[]
 |(u,_)::r=>u::Fr.keys r
def jk(s:Fr)(dst:Option Tmp)(v:Value):Fr:=match dst with
 |none=>s
 |some d=>(d,v)::s
def bh{α β:Type}(o:Option α)(k:α->M β):M β:=match o with
 |some v=>k v
 |none=> .fail
def bI(s:Fr):Operand->Option Value
 | .tmp t=>s.at_ t
 | .const v=>some v
 | .global g=>some (.pointer (some ⟨g,0,none⟩))
 | .func f=>some (.func (.func f) #[] #[])
def ny{β:Type}(s:Fr):List Operand->(List Value->M β)->M β
 |[],k=>k []
 |x::r,k=>bh (bI s x) fun v=>ny s r fun vs=>k (v::vs)
def uN{β:Type}(s:Fr)(x:Option Operand)(k:Option Value->M β):M β:=match x with
 |some x=>bh (bI s x) fun v=>k (some v)
 |none=>k none
def ak{β:Type}(v:Value)(x y:M β):M β:=match v with
 | .bool true=>x
 | .bool false=>y
 |_=> .fail
section
variable (P:Program)
def pj(ok:Bool)(s:Sem Value):Option Value:=
 match ok with
 |true=>match kT P (do pure (.value (<-s)))with
  |some v=>match scalar v with
   |true=>some v
   |false=>none
  |none=>none
 |false=>none
def S4(c a b:Value):Option Value:=match c with
 | .bool t=>some (if t then a else b)
 |_=>none
def S5:Value->Option Value
 | .pointer (some a)=>some (.pointer (some a))
 | .func (.func f) a b=>some (.func (.func f) a b)
 |_=>none
def po(t:TypeId):Bool:=match P.underlying t with
 |some (.pointer _)|some (.slice _)|some (.func _ _ _)|some (.struct _)=>true
 |_=>false
def Ly(op:BinOp)(t:TypeId)(x y:Value):Option Value:=match sJ P t x y,op with
 |some v,.eql=>some (.bool v)
 |some v,.neq=>some (.bool (!v))
 |_,_=>none
def Lz(op:BinOp)(t:TypeId)(x y:Value):Option Value:=pj P (scalar x&&scalar y) (Go.binOp op t x y)
def eS(op:BinOp)(t:TypeId)(x y:Value):Option Value:=match po P t with
 |true=>Ly P op t x y
 |false=>Lz P op t x y
def mr(op:UnOp)(x:Value):Option Value:=pj P (scalar x) (Op.unary op x)
def yI:Option TypeDesc->Option TypeDesc->Option TypeId
 |some .string,some (.slice e)=>some e
 |_,_=>none
def Gp(e:TypeId)(x:Value):M Value:=match x with
 | .string s=>uy e s
 |_=> .fail
def Gq{β:Type}(src dst:TypeId)(x:Value)(k:Value->M β):M β:=
 match vM (P.underlying src) (P.underlying dst)with
 |some e=>match qg P e with
  |true=>(inside (qf x)).bind k
  |false=> .fail
 |none=>match yI (P.underlying src) (P.underlying dst)with
  |some e=>match qg P e&&size? P e==some 1 with
   |true=>(inside (Gp e x)).bind k
   |false=> .fail
  |none=>bh (pj P (scalar x) (Go.convert src dst x)) k
def yJ:Option Value->Bool
 |some v=>scalar v
 |none=>true
def Gr(t:TypeId)(x:Value)(lo hi mx:Option Value):Option Value:=match isStr x with
 |true=>pj P (yJ lo&&yJ hi&&yJ mx) (Instr.sliceAt t x lo hi mx)
 |false=>none
def yK(t:TypeId)(x:Value)(lo hi mx:Option Value):M Value:=match isStr x with
 |true=> .fail
 |false=>qU P t x lo hi mx
def rq(t:TypeId):Bool:=match P.underlying t with
 |some .string=>true
 |_=>false
def Bh{β:Type}(t:TypeId)(x:Value)(lo hi mx:Option Value)(k:Value->M β):M β:=match rq P t with
 |true=>bh (Gr P t x lo hi mx) k
 |false=>(inside (yK P t x lo hi mx)).bind k
def Gs(t:TypeId)(x ix:Value):Option Value:=match isStr x with
 |true=>pj P (scalar ix) (FH t x ix)
 |false=>none
def Gu(t:TypeId)(x ix:Value):Option Value:=match isStr x with
 |true=>none
 |false=>A1 P t x ix
def yL(t:TypeId)(x ix:Value):Option Value:=match rq P t with
 |true=>Gs P t x ix
 |false=>Gu P t x ix
def S6:Value->Option Value
 | .slice _ n _=>some (.int .i64 n)
 |_=>none
def S7:Value->Option Value
 | .string s=>some (.int .i64 s.size)
 |_=>none
def Dp(dR:Array TypeId)(vs:List Value):Option Value:=match dR[0]?,vs with
 |some t,[x]=>match P.underlying t with
  |some (.slice _)=>S6 x
  |some .string=>S7 x
  |_=>none
 |_,_=>none
def kC(a b:Int):Int:=if b<a then b else a
def min2:List Value->Option Value
 |[.int k a,.int _ b]=>some (.int k (if b<a then b else a))
 |[.int k a,.int _ b,.int _ c,.int _ d,.int _ e,.int _ f]=>some (.int k (kC (kC (kC (kC (kC a b) c) d) e) f))
 |_=>none
def max2:List Value->Option Value
 |[.int k a,.int _ b]=>some (.int k (if a<b then b else a))
 |_=>none
variable (rec:FuncId->Array Value->M Value)
def kD{β:Type}(fv:Value)(vs:List Value)(k:Value->M β):M β:=
 bh (FU fv) fun q=>match oX P q.1 with
  |true=>(inside (rec q.1 (q.2.1.toList++vs++q.2.2.toList).toArray)).bind k
  |false=> .fail
def S8{β:Type}(dR:Array TypeId)(vs:List Value)(k:Value->M β):M β:=
 bh (A2 P dR vs) fun q=>(inside (sH P q.1 q.2.1 q.2.2)).bind k
def S9{β:Type}(dR:Array TypeId)(vs:List Value)(k:Value->M β):M β:=
 bh (A3 dR vs) fun q=>(inside (sK P q.1 q.2.1 q.2.2)).bind k
def call2{β:Type}(s:Fr)(c:Call)(vs:List Value)(k:Value->M β):M β:=
 match c.callee with
 | .value f=>bh (bI s f) fun fv=>kD P rec fv vs k
 | .builtin .append=>S8 P c.argTypes vs k
 | .builtin .copy=>S9 P c.argTypes vs k
 | .builtin .len=>bh (Dp P c.argTypes vs) k
 | .builtin .min=>bh (min2 vs) k
 | .builtin .max=>bh (max2 vs) k
 |_=> .fail
def sV{β:Type}(s:Fr)(o:Oper)(k:Value->M β):M β:=
 match o.op with
 | .move x| .assign x=>bh (bI s x) k
 | .pick c a b=>bh (bI s c) fun c=>bh (bI s a) fun a=>bh (bI s b) fun b=>bh (S4 c a b) k
 | .alloc e=>(inside (qd P e)).bind k
 | .box e x=>bh (bI s x) fun x=>(inside (qe P e x)).bind k
 | .build t parts=>ny s (parts.toList.map (·.2)) fun vs=>(inside (oV P t ((parts.toList.map (·.1)).zip vs))).bind k
 | .buildSlice t len parts=>ny s (parts.toList.map (·.2)) fun vs=>(inside (oW P t len ((parts.toList.map (·.1)).zip vs))).bind k
 | .load t a=>bh (bI s a) fun a=>(inside (kV P t a)).bind k
 | .store t a x=>bh (bI s a) fun a=>bh (bI s x) fun x=>(inside (qV P t a x)).bind k
 | .nilCheck x=>bh (bI s x) fun x=>bh (S5 x) k
 | .binOp op t x y _=>bh (bI s x) fun x=>bh (bI s y) fun y=>bh (eS P op t x y) k
 | .unOp op _ x=>bh (bI s x) fun x=>bh (mr P op x) k
 | .convert src dst x=>bh (bI s x) fun x=>Gq P src dst x k
 | .makeFunc fn a b=>ny s a.toList fun a=>ny s b.toList fun b=>k (.func fn a.toArray b.toArray)
 | .makeSlice t l c=>bh (bI s l) fun l=>bh (bI s c) fun c=>(inside (qh P t l c)).bind k
 | .slice t x lo hi mx=>bh (bI s x) fun x=>uN s lo fun lo=>uN s hi fun hi=>uN s mx fun mx=>Bh P t x lo hi mx k
 | .fieldAddr t x f=>bh (bI s x) fun x=>bh (AZ P t x f) k
 | .field t x f=>bh (bI s x) fun x=>bh (vN P t x f) k
 | .indexAddr t x ix=>bh (bI s x) fun x=>bh (bI s ix) fun ix=>bh (uz P t x ix) k
 | .index t x ix=>bh (bI s x) fun x=>bh (bI s ix) fun ix=>bh (yL P t x ix) k
 | .extract t i=>bh (bI s t) fun t=>bh (vO t i) k
 | .call c=>ny s c.args.toList fun vs=>call2 P rec s c vs k
 |_=> .fail
def kind(o:Op):Nat:=match o with
 | .move _| .assign _| .pick _ _ _| .nilCheck _| .binOp _ _ _ _ _| .unOp _ _ _| .makeFunc _ _ _| .fieldAddr _ _ _| .field _ _ _| .indexAddr _ _ _| .index _ _ _| .extract _ _| .build _ _=>0
 | .load _ _| .slice _ _ _ _ _=>1
 | .alloc _| .box _ _| .buildSlice _ _ _| .makeSlice _ _ _=>2
 | .call c=>match c.callee with
   | .builtin .len| .builtin .min| .builtin .max=>0
   |_=>3
 |_=>3
def fits(i j:Nat):Bool:=i==0||j==0||(i==1&&j==1)||(i==2&&j==2)||(i==1&&j==2)
def Gv(ops:Array Oper)(dH:List Nat)(j:Nat)(oj:Oper):Nat->List Oper->Bool
 |_,[]=>true
 |k,ok::r=>((dH.getD k 0).testBit j||(fits (kind oj.op) (kind ok.op)&& !(sM ops oj ok)))&&Gv ops dH j oj (k+1) r
def Gw(ops:Array Oper)(dH:List Nat):Nat->List Oper->Bool
 |_,[]=>true
 |j,oj::r=>Gv ops dH j oj (j+1) r&&Gw ops dH (j+1) r
def Gx(ops:Array Oper):Bool:=vP ops&&Gw ops (od ops.toList []) 0 ops.toList
end
def fj{α:Type}(m:Nat->M α)(h:H)(n:Nat)(a:α)(h1:H)(n1:Nat)(L:List En):Prop:=∃f0,∀fuel,f0<=fuel->m fuel h n=some ⟨a,h1,n1,L⟩
theorem fj.of{α:Type}{m:M α}{h h1:H}{n n1:Nat}{a:α}{L:List En}(e:m h n=some ⟨a,h1,n1,L⟩):fj (fun _=>m) h n a h1 n1 L:=⟨0,fun _ _=>e⟩
theorem bZ{α β:Type}{m:M α}{f:α->M β}{h h1 h2:H}{n n1 n2:Nat}{a:α}{b:β}{L1 L2:List En}(e1:m h n=some ⟨a,h1,n1,L1⟩)(e2:f a h1 n1=some ⟨b,h2,n2,L2⟩):(m.bind f) h n=some ⟨b,h2,n2,L1++L2⟩:=by
 unfold M.bind
 rw[e1]
 simp only
 rw[e2]
theorem fj.bind{α β:Type}{m:Nat->M α}{f:Nat->α->M β}{h h1 h2:H}{n n1 n2:Nat}{a:α}{b:β}{L1 L2:List En}(x:fj m h n a h1 n1 L1)(y:fj (fun fuel=>f fuel a) h1 n1 b h2 n2 L2):
 fj (fun fuel=>(m fuel).bind (f fuel)) h n b h2 n2 (L1++L2):=by
 obtain⟨f0,x⟩:=x
 obtain⟨f1,y⟩:=y
 exact⟨max f0 f1,fun fuel hf=>bZ (x fuel (by omega)) (y fuel (by omega))⟩
theorem fj.map{α:Type}{m m':Nat->M α}{h h1:H}{n n1:Nat}{a:α}{L:List En}(x:fj m h n a h1 n1 L)(e:∀fuel,m' fuel=m fuel):fj m' h n a h1 n1 L:=by
 obtain⟨f0,x⟩:=x
 exact⟨f0,fun fuel hf=>by rw[e];exact x fuel hf⟩
theorem jU{α:Type}{m:M α}{h h1:H}{n n1:Nat}{a:α}{L:List En}(e:m h n=some ⟨a,h1,n1,L⟩):inside m h n=some ⟨a,h1,n1,L.filter fun e=> !(n<=e.b&&e.b<n1)⟩:=by
 unfold inside
 rw[e]
theorem fj.inside{α:Type}{m:Nat->M α}{h h1:H}{n n1:Nat}{a:α}{L:List En}(x:fj m h n a h1 n1 L):fj (fun fuel=>Ev.inside (m fuel)) h n a h1 n1 (L.filter fun e=> !(n<=e.b&&e.b<n1)):=by
 obtain⟨f0,x⟩:=x
 exact⟨f0,fun fuel hf=>jU (x fuel hf)⟩
theorem yM{α:Type}{m:M α}{h h1:H}{n n1:Nat}{a:α}{L:List En}(hr:Ev.inside m h n=some ⟨a,h1,n1,L⟩):∃L',m h n=some ⟨a,h1,n1,L'⟩∧L=L'.filter fun e=> !(n<=e.b&&e.b<n1):=by
 unfold Ev.inside at hr
 split at hr
 ·rename_i a' h' n' L' e
  simp only[eG,Out.mk.injEq]at hr
  obtain⟨rfl,rfl,rfl,rfl⟩:=hr
  exact⟨L',e,rfl⟩
 ·cases hr
def Sub(s:Fr)(s1:S):Prop:=∀t v,s.at_ t=some v->s1.get t=v
theorem Sub.bI{s:Fr}{s1:S}(hs:Sub s s1){x:Operand}{v:Value}(h:Ev.bI s x=some v):ev s1 x=v:=by
 cases x with
 |tmp t=>exact hs t v h
 |const u=>cases h;rfl
 |global g=>cases h;rfl
 |func f=>cases h;rfl
theorem c9{α β:Type}{o:Option α}{k:α->M β}{h:H}{n:Nat}{r:Out β}(hr:bh o k h n=some r):∃v,o=some v∧k v h n=some r:=by
 cases o with
 |none=>cases hr
 |some v=>exact⟨v,rfl,hr⟩
theorem Bi{β:Type}{s:Fr}{s1:S}(hs:Sub s s1):∀{l:List Operand} {k:List Value->M β} {h:H} {n:Nat} {r:Out β},ny s l k h n=some r->∃vs,vs=l.map (ev s1)∧k vs h n=some r
 |[],k,h,n,r,hr=>⟨[],rfl,hr⟩
 |x::l,k,h,n,r,hr=>by
  unfold ny at hr
  obtain⟨v,hv,hr⟩:=c9 hr
  obtain⟨vs,e,hr⟩:=Bi hs hr
  exact⟨v::vs,by rw[List.map_cons,hs.bI hv,e],hr⟩
theorem LA{β:Type}{s:Fr}{s1:S}(hs:Sub s s1){x:Option Operand}{k:Option Value->M β}{h:H}{n:Nat}{r:Out β}(hr:uN s x k h n=some r):k (x.map (ev s1)) h n=some r:=by
 cases x with
 |none=>exact hr
 |some x=>
  obtain⟨v,hv,hr⟩:=c9 hr
  simp only[FF,hs.bI hv]
  exact hr
def cont(P:Program)(kn:List FuncId)(fuel:Nat):Nx->M Value
 | .val v=> .ret v
 | .call f args=>cZ P kn fuel f args
theorem qw{m:M Value}{P:Program}{kn:List FuncId}{fuel:Nat}:(m.bind fun v=> .ret (.val v)).bind (cont P kn fuel)=m:=by
 funext h n
 unfold M.bind
 cases m h n with
 |none=>rfl
 |some o=>simp[M.ret,cont]
theorem mQ{v:Value}{P:Program}{kn:List FuncId}{fuel:Nat}:(M.ret (Nx.val v)).bind (cont P kn fuel)=M.ret v:=by
 funext h n
 simp[M.bind,M.ret,cont]
theorem ae'{f:FuncId}{args:Array Value}{P:Program}{kn:List FuncId}{fuel:Nat}:(M.ret (Nx.call f args)).bind (cont P kn fuel)=cZ P kn fuel f args:=by
 funext h n
 simp only[M.bind,M.ret,cont]
 cases cZ P kn fuel f args h n with
 |none=>rfl
 |some o=>simp
theorem yN{α:Type}(a:α):M.lift (some a)=M.ret a:=rfl
theorem ru{α β:Type}(a:α)(f:α->M β):(M.ret a).bind f=f a:=by
 funext h n
 simp only[M.bind,M.ret]
 cases f a h n with
 |none=>rfl
 |some o=>simp
def Gy(E:Nat->M Value){β:Type}(k:Value->M β)(h:H)(n:Nat)(r:Out β):Prop:=
 ∃v h1 n1 L1 L2,fj (fun fuel=>inside (E fuel)) h n v h1 n1 L1∧k v h1 n1=some ⟨r.val,r.h,r.n,L2⟩∧r.log=L1++L2
section
variable {β:Type} {E:Nat->M Value} {k:Value->M β} {h:H} {n:Nat} {r:Out β}
theorem qx{m:M Value}(hr:((inside m).bind k) h n=some r)(hm:∀fuel,E fuel=m):Gy E k h n r:=by
 obtain⟨c,h2,n2,L⟩:=r
 obtain⟨v,h1,n1,L1,L2,e1,e2,e3⟩:=bind_some hr
 exact⟨v,h1,n1,L1,L2,⟨0,fun fuel _=>by show Ev.inside (E fuel) h n=_;rw[hm];exact e1⟩,e2,e3⟩
theorem mu{v:Value}(hr:k v h n=some r)(hm:∀fuel,E fuel=M.ret v):Gy E k h n r:=by
 obtain⟨c,h2,n2,L⟩:=r
 exact⟨v,h,n,[],L,⟨0,fun fuel _=>by show Ev.inside (E fuel) h n=_;rw[hm];rfl⟩,hr,rfl⟩
theorem ae_ {P:Program} {kn:List FuncId} {rec:FuncId->Array Value->M Value} (cV:∀f args h n v h1 n1 L,rec f args h n=some ⟨v,h1,n1,L⟩->fj (fun fuel=>cZ P kn fuel f args) h n v h1 n1 L) {g:FuncId} {args:Array Value}
 (hr:((inside (rec g args)).bind k) h n=some r) (hm:∀fuel,E fuel=cZ P kn fuel g args):Gy E k h n r:=by
 obtain⟨c,h2,n2,L⟩:=r
 obtain⟨v,h1,n1,L1,L2,e1,e2,e3⟩:=bind_some hr
 obtain⟨L',e4,rfl⟩:=yM e1
 exact⟨v,h1,n1,_,L2,((cV _ _ _ _ _ _ _ _ e4).map hm).inside,e2,e3⟩
end
theorem Dq{P:Program}{ok:Bool}{s:Sem Value}{v:Value}(h:pj P ok s=some v):ok=true∧kT P (do pure (.value (<-s)))=some v∧scalar v=true:=by
 unfold pj at h
 cases ok with
 |false=>cases h
 |true=>
  simp only at h
  split at h
  ·rename_i u hu
   split at h
   ·rename_i hs
    cases h
    exact⟨rfl,hu,hs⟩
   ·cases h
  ·cases h
theorem uO{P:Program}{ρ:Operand->Value}{o:Oper}{v:Value}(h1:(o.op.operands.all fun x=>scalar (ρ x))=true)(h2:kT P (execOp ρ o)=some v)(h3:scalar v=true):iQ P ρ o=M.ret (.val v):=by
 unfold iQ
 rw[if_pos h1,h2,yN,ru,if_pos h3]
theorem afa{P:Program}{t:TypeId}(h:po P t=false)(x y:Value):sJ P t x y=none:=by
 unfold po at h
 unfold sJ yh
 generalize P.underlying t=d at h
 cases d with
 |none=>rfl
 |some d=>cases d<;>first|(cases h;done)|rfl|(unfold sI;rfl)
theorem afb{op:BinOp}{t:TypeId}{x y:Operand}{a b:Value}(ha:scalar a=true)(hb:scalar b=true):eqGuard op t x y a b=pure ():=by
 cases a<;>first|(simp[scalar]at ha;done)|skip
 all_goals cases b<;>first|(simp[scalar]at hb;done)|skip
 all_goals cases op<;>rfl
theorem afc {P:Program} {s1:S} {op:BinOp} {t yt:TypeId} {x y:Operand} {v:Value} {dst:Option Tmp} {ty:TypeId} {pos:String} {after:Array Edge} {guard:Option (Nat×Bool)}
 (h:eS P op t (ev s1 x) (ev s1 y)=some v):cI P (ev s1) ⟨dst,.binOp op t x y yt,ty,pos,after,guard⟩=M.ret (.val v):=by
 unfold eS at h
 split at h
 ·unfold Ly at h
  unfold cI
  simp only
  split at h
  ·rename_i q
   cases h
   rw[q]
  ·rename_i q
   cases h
   rw[q]
  ·cases h
 ·rename_i hn
  unfold Lz at h
  obtain⟨h1,h2,h3⟩:=Dq h
  unfold cI
  simp only[afa hn]
  simp only[cj]at h1
  refine uO (by simp[eP,h1.1,h1.2]) ?_ h3
  rw[<-h2]
  simp only[execOp,afb h1.1 h1.2]
  rfl
theorem afd{a b:Option TypeDesc}{v:Value}(h:yI a b=none):yi a b v=none:=by
 unfold yI at h
 unfold yi
 split at h
 ·cases h
 ·rename_i hn
  split
  ·rename_i e s
   exact(hn _ rfl rfl).elim
  ·rfl
theorem S'{α β:Type}{f:α->β}{l:List α}{a b:β}(h:l.map f=[a,b]):∃x y,l=[x,y]∧f x=a∧f y=b:=by
 match l,h with
 |[x,y],h=>simp at h;exact⟨x,y,rfl,h.1,h.2⟩
theorem afe{α β:Type}{f:α->β}{l:List α}{a b c d e g:β}(h:l.map f=[a,b,c,d,e,g]):∃x y z u t s,l=[x,y,z,u,t,s]∧f x=a∧f y=b∧f z=c∧f u=d∧f t=e∧f s=g:=by
 match l,h with
 |[x,y,z,u,t,s],h=>simp at h;exact⟨x,y,z,u,t,s,rfl,h⟩
theorem aff{α β:Type}{f:α->β}{l:List α}{a:β}(h:l.map f=[a]):∃x,l=[x]∧f x=a:=by
 match l,h with
 |[x],h=>simp at h;exact⟨x,rfl,h⟩
theorem Dr{α:Type}{a:Array α}{l:List α}(h:a.toList=l):a=l.toArray:=by
 cases a;simp at h;rw[h]
theorem zip_map{α β γ:Type}(f:α->β)(g:α->γ)(l:List α):(l.map f).zip (l.map g)=l.map fun x=>(f x,g x):=by
 induction l with
 |nil=>rfl
 |cons a l ih=>simp[ih]
theorem afg{P:Program}{t:TypeId}{x ix v:Value}(h:Gs P t x ix=some v):isStr x=true∧scalar ix=true∧kT P (do pure (.value (<-FH t x ix)))=some v∧scalar v=true:=by
 unfold Gs at h
 split at h
 ·rename_i hs
  obtain⟨h1,h2,h3⟩:=Dq h
  exact⟨hs,h1,h2,h3⟩
 ·cases h
theorem afh{P:Program}{t:TypeId}{x ix v:Value}(h:Gu P t x ix=some v):isStr x=false∧A1 P t x ix=some v:=by
 unfold Gu at h
 split at h
 ·cases h
 ·rename_i hs
  exact⟨hs,h⟩
theorem Ta{x:Value}(h:isStr x=true):scalar x=true:=by
 cases x<;>first|rfl|(simp[isStr]at h)
theorem sW{P:Program}{t:TypeId}{d:TypeDesc}(h:P.underlying t=some d)(f:TypeDesc->Sem Next):kT P (underlying t>>=f)=kT P (f d):=by
 unfold underlying
 show kT P ((match P.underlying t with
  |some d=>pure d
  |none=>stuck "no such type")>>=f)=_
 rw[h]
 rfl
set_option maxHeartbeats 1000000 in
theorem afi {P:Program} {kn:List FuncId} {rec:FuncId->Array Value->M Value} (cV:∀f args h n v h1 n1 L,rec f args h n=some ⟨v,h1,n1,L⟩->fj (fun fuel=>cZ P kn fuel f args) h n v h1 n1 L)
 {β:Type} {s:Fr} {s1:S} {o:Oper} {k:Value->M β} {h:H} {n:Nat} {r:Out β} (hs:Sub s s1) (hr:sV P rec s o k h n=some r):Gy (fun fuel=>(cI P (ev s1) o).bind (cont P kn fuel)) k h n r:=by
 obtain⟨dst,op,ty,pos,after,guard⟩:=o
 unfold sV at hr
 cases op with
 |move x=>
  obtain⟨v,hv,hr⟩:=c9 hr
  exact mu hr fun fuel=>by rw[<-hs.bI hv];exact mQ
 |assign x=>
  obtain⟨v,hv,hr⟩:=c9 hr
  exact mu hr fun fuel=>by rw[<-hs.bI hv];exact mQ
 |pick c a b=>
  obtain⟨vc,hc,hr⟩:=c9 hr
  obtain⟨va,ha,hr⟩:=c9 hr
  obtain⟨vb,hb,hr⟩:=c9 hr
  obtain⟨v,hv,hr⟩:=c9 hr
  refine mu hr fun fuel=> ?_
  unfold cI
  simp only[hs.bI hc,hs.bI ha,hs.bI hb]
  unfold S4 at hv
  split at hv
  ·cases hv
   exact mQ
  ·cases hv
 |alloc e=>exact qx hr fun fuel=>qw
 |box e x=>
  obtain⟨v,hv,hr⟩:=c9 hr
  exact qx hr fun fuel=>by rw[<-hs.bI hv];exact qw
 |build t parts=>
  obtain⟨vs,hv,hr⟩:=Bi hs hr
  refine qx hr fun fuel=> ?_
  rw[hv,Rv,zip_map]
  exact qw
 |buildSlice t len parts=>
  obtain⟨vs,hv,hr⟩:=Bi hs hr
  refine qx hr fun fuel=> ?_
  rw[hv,Rv,zip_map]
  exact qw
 |load t a=>
  obtain⟨v,hv,hr⟩:=c9 hr
  exact qx hr fun fuel=>by rw[<-hs.bI hv];exact qw
 |store t a x=>
  obtain⟨va,ha,hr⟩:=c9 hr
  obtain⟨v,hv,hr⟩:=c9 hr
  exact qx hr fun fuel=>by rw[<-hs.bI hv,<-hs.bI ha];exact qw
 |nilCheck x=>
  obtain⟨v,hv,hr⟩:=c9 hr
  obtain⟨u,hu,hr⟩:=c9 hr
  refine mu hr fun fuel=> ?_
  unfold cI
  simp only[hs.bI hv]
  unfold S5 at hu
  split at hu
  ·cases hu;exact(congrArg (fun z=>M.bind z (cont P kn fuel)) (ru _ _)).trans mQ
  ·cases hu;exact(congrArg (fun z=>M.bind z (cont P kn fuel)) (ru _ _)).trans mQ
  ·cases hu
 |binOp op t x y yt=>
  obtain⟨va,ha,hr⟩:=c9 hr
  obtain⟨vb,hb,hr⟩:=c9 hr
  obtain⟨v,hv,hr⟩:=c9 hr
  rw[<-hs.bI ha,<-hs.bI hb]at hv
  exact mu hr fun fuel=>by simp only[afc hv];exact mQ
 |unOp op t x=>
  obtain⟨va,ha,hr⟩:=c9 hr
  obtain⟨v,hv,hr⟩:=c9 hr
  rw[<-hs.bI ha]at hv
  obtain⟨h1,h2,h3⟩:=Dq hv
  refine mu hr fun fuel=> ?_
  rw[<-mQ (P:=P) (fuel:=fuel),<-uO (ρ:=ev s1) (o:=⟨dst,.unOp op t x,ty,pos,after,guard⟩) (by simpa[eP]using h1) h2 h3]
  rfl
 |convert src d x=>
  obtain⟨va,ha,hr⟩:=c9 hr
  have hx:=hs.bI ha
  unfold Gq at hr
  cases he:vM (P.underlying src) (P.underlying d)with
  |some e=>
   simp only[he]at hr
   cases hu:qg P e with
   |true=>
    simp only[hu]at hr
    refine qx hr fun fuel=> ?_
    unfold cI
    simp only[he,hu,if_true,hx]
    exact qw
   |false=>
    simp only[hu]at hr
    cases hr
  |none=>
   simp only[he]at hr
   cases nA:yI (P.underlying src) (P.underlying d)with
   |some e=>
    simp only[nA]at hr
    cases hu:(qg P e&&size? P e==some 1)with
    |true=>
     simp only[hu]at hr
     cases va with
     |string s0=>
      refine qx hr fun fuel=> ?_
      unfold cI
      simp only[he,hx]
      unfold Gp
      have:yi (P.underlying src) (P.underlying d) (.string s0)=some (e,s0):=by
       revert nA
       generalize P.underlying src=a
       generalize P.underlying d=b
       intro nA
       unfold yI at nA
       split at nA
       ·cases nA;rfl
       ·cases nA
      simp only[this,hu,if_true]
      exact qw
     |_=>
      exfalso
      obtain⟨c,h2,n2,L⟩:=r
      obtain⟨v,h1,n1,L1,L2,e1,e2,e3⟩:=bind_some hr
      obtain⟨L',e4,_⟩:=yM e1
      cases e4
    |false=>
     simp only[hu]at hr
     cases hr
   |none=>
    simp only[nA]at hr
    obtain⟨v,hv,hr⟩:=c9 hr
    obtain⟨h1,h2,h3⟩:=Dq hv
    refine mu hr fun fuel=> ?_
    unfold cI
    simp only[he,afd nA]
    rw[uO (by simpa[eP,hx]using h1) (by rw[<-h2];simp only[execOp,hx]) h3]
    exact mQ
 |makeFunc fn a b=>
  obtain⟨va,ha,hr⟩:=Bi hs hr
  obtain⟨vb,hb,hr⟩:=Bi hs hr
  refine mu hr fun fuel=> ?_
  subst ha hb
  unfold cI
  simp only[<-um,Array.toArray_toList]
  exact mQ
 |makeSlice t l c=>
  obtain⟨va,ha,hr⟩:=c9 hr
  obtain⟨v,hv,hr⟩:=c9 hr
  exact qx hr fun fuel=>by rw[<-hs.bI hv,<-hs.bI ha];exact qw
 |slice t x lo hi mx=>
  obtain⟨va,ha,hr⟩:=c9 hr
  have hr:=LA hs hr
  have hr:=LA hs hr
  have hr:=LA hs hr
  have hx:=hs.bI ha
  unfold Bh at hr
  cases dT:rq P t with
  |true=>
   simp only[dT]at hr
   obtain⟨v,hv,hr⟩:=c9 hr
   unfold Gr at hv
   split at hv
   ·rename_i yF
    obtain⟨h1,h2,h3⟩:=Dq hv
    refine mu hr fun fuel=> ?_
    unfold cI
    simp only[hx,yF,if_true]
    simp only[cj]at h1
    rw[uO ?_ (by rw[<-h2];simp only[execOp,hx]) h3]
    ·exact mQ
    ·have q1:=h1.1.1
     have q2:=h1.1.2
     have q3:=h1.2
     simp only[eP]
     have q0:=Ta yF
     cases lo<;>cases hi<;>cases mx<;>simp_all [yJ]
   ·cases hv
  |false=>
   simp only[dT]at hr
   refine qx hr fun fuel=> ?_
   unfold yK
   unfold cI
   simp only[hx]
   cases yF:isStr va with
   |true=>
    exfalso
    obtain⟨c,h2,n2,L⟩:=r
    obtain⟨v,h1,n1,L1,L2,e1,e2,e3⟩:=bind_some hr
    obtain⟨L',e4,_⟩:=yM e1
    unfold yK at e4
    rw[yF]at e4
    cases e4
   |false=>
    simp only[sE,if_false]
    exact qw
 |fieldAddr t x f=>
  obtain⟨va,ha,hr⟩:=c9 hr
  obtain⟨v,hv,hr⟩:=c9 hr
  refine mu hr fun fuel=> ?_
  unfold cI
  simp only[hs.bI ha,hv,yN,ru]
  rfl
 |field t x f=>
  obtain⟨va,ha,hr⟩:=c9 hr
  obtain⟨v,hv,hr⟩:=c9 hr
  refine mu hr fun fuel=> ?_
  unfold cI
  simp only[hs.bI ha,hv,yN,ru]
  rfl
 |indexAddr t x f=>
  obtain⟨va,ha,hr⟩:=c9 hr
  obtain⟨vb,hb,hr⟩:=c9 hr
  obtain⟨v,hv,hr⟩:=c9 hr
  refine mu hr fun fuel=> ?_
  unfold cI
  simp only[hs.bI ha,hs.bI hb,hv,yN,ru]
  rfl
 |index t x f=>
  obtain⟨va,ha,hr⟩:=c9 hr
  obtain⟨vb,hb,hr⟩:=c9 hr
  obtain⟨v,hv,hr⟩:=c9 hr
  refine mu hr fun fuel=> ?_
  unfold cI
  unfold yL at hv
  split at hv
  ·obtain⟨h0,h1,h2,h3⟩:=afg hv
   simp only[hs.bI ha,hs.bI hb,h0,if_true]
   rw[uO (by simp[eP,hs.bI ha,hs.bI hb,h1,Ta h0]) (by rw[<-h2];simp only[execOp,hs.bI ha,hs.bI hb]) h3]
   exact mQ
  ·obtain⟨h0,h1⟩:=afh hv
   simp only[hs.bI ha,hs.bI hb,h0,h1,yN,ru,sE,if_false]
   rfl
 |extract t i=>
  obtain⟨va,ha,hr⟩:=c9 hr
  obtain⟨v,hv,hr⟩:=c9 hr
  refine mu hr fun fuel=> ?_
  unfold cI
  simp only[hs.bI ha,hv,yN,ru]
  rfl
 |call c=>
  obtain⟨vs,hv,hr⟩:=Bi hs hr
  unfold call2 at hr
  cases hc:c.callee with
  |value f=>
   simp only[hc]at hr
   obtain⟨fv,Dl,hr⟩:=c9 hr
   unfold kD at hr
   obtain⟨q,hq,hr⟩:=c9 hr
   obtain⟨g,first,captured⟩:=q
   simp only at hr
   cases hb:oX P g with
   |true=>
    simp only[hb]at hr
    refine ae_ cV hr fun fuel=> ?_
    unfold cI mK
    simp only[hc,hs.bI Dl,hq,hb,if_true]
    rw[ae']
    congr 1
    subst hv
    apply Dr
    simp
   |false=>
    simp only[hb]at hr
    cases hr
  |builtin b=>
   simp only[hc]at hr
   cases b with
   |append=>
    simp only at hr
    unfold S8 at hr
    obtain⟨q,hq,hr⟩:=c9 hr
    obtain⟨t,x,y⟩:=q
    refine qx hr fun fuel=> ?_
    unfold cI mK
    simp only[hc,um,<-hv,hq]
    exact qw
   |copy=>
    simp only at hr
    unfold S9 at hr
    obtain⟨q,hq,hr⟩:=c9 hr
    obtain⟨t,x,y⟩:=q
    refine qx hr fun fuel=> ?_
    unfold cI mK
    simp only[hc,um,<-hv,hq]
    exact qw
   |len=>
    simp only at hr
    obtain⟨v,hl,hr⟩:=c9 hr
    refine mu hr fun fuel=> ?_
    unfold cI mK
    simp only[hc,um,<-hv]
    unfold Dp at hl
    split at hl
    ·rename_i t u ht
     split at hl
     ·rename_i e oA
      unfold S6 at hl
      split at hl
      ·cases hl
       simp only[yj,ht,oA]
       exact mQ
      ·cases hl
     ·rename_i oA
      unfold S7 at hl
      split at hl
      ·rename_i s0
       cases hl
       have:yj P c.argTypes [Value.string s0]=none:=by simp[yj,ht]
       simp only[this]
       obtain⟨x,nk,ee⟩:=aff hv.symm
       have ry:=Dr nk
       rw[uO (v:= .int .i64 s0.size) ?_ ?_ rfl]
       ·exact mQ
       ·simp[eP,AO,hc,ry,ee,scalar]
       ·simp only[execOp,resolve,hc,ry]
        simp[ee,invoke,builtin,Rx,ht]
        rw[sW oA]
        rfl
      ·cases hl
     ·cases hl
    ·cases hl
   |min=>
    simp only at hr
    obtain⟨v,hl,hr⟩:=c9 hr
    refine mu hr fun fuel=> ?_
    unfold cI mK
    simp only[hc]
    unfold min2 at hl
    split at hl
    ·rename_i kd a0 Tb b0
     obtain⟨x,y,nk,ee,Dt⟩:=S' hv.symm
     have ry:=Dr nk
     rw[uO (v:=v) ?_ ?_ (by cases hl;rfl)]
     ·exact mQ
     ·simp[eP,AO,hc,ry,ee,Dt,scalar]
     ·cases hl
      simp only[execOp,resolve,hc,ry]
      simp[ee,Dt]
      rfl
    ·rename_i kd a0 Tb b0 kd3 c0 kd4 d0 kd5 e0 kd6 f0
     obtain⟨x,y,z,u,t,s,nk,q1,q2,q3,q4,q5,q6⟩:=afe hv.symm
     have ry:=Dr nk
     rw[uO (v:=v) ?_ ?_ (by cases hl;rfl)]
     ·exact mQ
     ·simp[eP,AO,hc,ry,q1,q2,q3,q4,q5,q6,scalar]
     ·cases hl
      simp only[execOp,resolve,hc,ry]
      simp[q1,q2,q3,q4,q5,q6]
      rfl
    ·cases hl
   |max=>
    simp only at hr
    obtain⟨v,hl,hr⟩:=c9 hr
    refine mu hr fun fuel=> ?_
    unfold cI mK
    simp only[hc]
    unfold max2 at hl
    split at hl
    ·rename_i kd a0 Tb b0
     obtain⟨x,y,nk,ee,Dt⟩:=S' hv.symm
     have ry:=Dr nk
     rw[uO (v:=v) ?_ ?_ (by cases hl;rfl)]
     ·exact mQ
     ·simp[eP,AO,hc,ry,ee,Dt,scalar]
     ·cases hl
      simp only[execOp,resolve,hc,ry]
      simp[ee,Dt]
      rfl
    ·cases hl
   |_=>cases hr
  |invoke _ _=>
   simp only[hc]at hr
   cases hr
 |_=>cases hr
def Q0{α:Type}(m:M α):Prop:=∀h n a h1 n1 L,m h n=some ⟨a,h1,n1,L⟩->L=[]∧n1=n
def Q1{α:Type}(m:M α):Prop:=∀h n a h1 n1 L,m h n=some ⟨a,h1,n1,L⟩->n1=n∧∀e∈L,e.wr=false
def Q2{α:Type}(m:M α):Prop:=∀h n a h1 n1 L,m h n=some ⟨a,h1,n1,L⟩->L=[]
theorem Q0.ret{α:Type}(a:α):Q0 (M.ret a):=fun h n b h1 n1 L e=>by simp only[M.ret,eG,Out.mk.injEq]at e;exact⟨e.2.2.2.symm,e.2.2.1.symm⟩
theorem Q0.fail{α:Type}:Q0 (M.fail:M α):=fun h n b h1 n1 L e=>by cases e
theorem Q0.lift{α:Type}(o:Option α):Q0 (M.lift o):=by cases o with|none=>exact Q0.fail|some a=>exact Q0.ret a
theorem Q0.bind{α β:Type}{m:M α}{f:α->M β}(x:Q0 m)(y:∀a,Q0 (f a)):Q0 (m.bind f):=fun h n b h2 n2 L e=>by
 obtain⟨a,h1,n1,L1,L2,e1,e2,rfl⟩:=bind_some e
 obtain⟨rfl,rfl⟩:=x _ _ _ _ _ _ e1
 obtain⟨rfl,rfl⟩:=y _ _ _ _ _ _ _ e2
 exact⟨rfl,rfl⟩
theorem Q0.q1{α:Type}{m:M α}(x:Q0 m):Q1 m:=fun h n a h1 n1 L e=>by
 obtain⟨rfl,rfl⟩:=x _ _ _ _ _ _ e
 exact⟨rfl,fun e he=>nomatch he⟩
theorem Q0.q2{α:Type}{m:M α}(x:Q0 m):Q2 m:=fun h n a h1 n1 L e=>(x _ _ _ _ _ _ e).1
theorem Q1.bind{α β:Type}{m:M α}{f:α->M β}(x:Q1 m)(y:∀a,Q1 (f a)):Q1 (m.bind f):=fun h n b h2 n2 L e=>by
 obtain⟨a,h1,n1,L1,L2,e1,e2,rfl⟩:=bind_some e
 obtain⟨rfl,g1⟩:=x _ _ _ _ _ _ e1
 obtain⟨rfl,g2⟩:=y _ _ _ _ _ _ _ e2
 refine⟨rfl,fun e he=> ?_⟩
 rcases List.mem_append.1 he with q|q
 ·exact g1 e q
 ·exact g2 e q
theorem Q2.bind{α β:Type}{m:M α}{f:α->M β}(x:Q2 m)(y:∀a,Q2 (f a)):Q2 (m.bind f):=fun h n b h2 n2 L e=>by
 obtain⟨a,h1,n1,L1,L2,e1,e2,rfl⟩:=bind_some e
 rw[x _ _ _ _ _ _ e1,y _ _ _ _ _ _ _ e2]
 rfl
theorem Q1.rd(b k:Nat):Q1 (Ev.rd b k):=fun h n a h1 n1 L e=>by
 unfold Ev.rd at e
 split at e
 ·split at e
  ·split at e
   ·simp only[eG,Out.mk.injEq]at e
    obtain⟨_,_,rfl,rfl⟩:=e
    exact⟨rfl,fun e he=>by simp at he;subst he;rfl⟩
   ·cases e
  ·cases e
 ·cases e
theorem Q1.gH(b:Nat):Q1 (Ev.gH b):=fun h n a h1 n1 L e=>by
 unfold Ev.gH at e
 split at e
 ·split at e
  ·simp only[eG,Out.mk.injEq]at e
   obtain⟨_,_,rfl,rfl⟩:=e
   exact⟨rfl,fun e he=>by simp at he;subst he;rfl⟩
  ·cases e
 ·cases e
theorem Q1.cU(b:Nat):∀n k,Q1 (Ev.cU b k n)
 |0,_=>(Q0.ret _).q1
 |n+1,k=>Q1.bind (Q1.rd _ _) fun _=>Q1.bind (Q1.cU b n _) fun _=>(Q0.ret _).q1
theorem Q2.dC(e:TypeId)(cs:List Value):Q2 (Ev.dC e cs):=fun h n a h1 n1 L hr=>by
 unfold Ev.dC at hr
 split at hr
 ·simp only[eG,Out.mk.injEq]at hr
  exact hr.2.2.2.symm
 ·cases hr
theorem Q0.iQ(P:Program)(ρ:Operand->Value)(o:Oper):Q0 (Ev.iQ P ρ o):=by
 unfold Ev.iQ
 split
 ·refine Q0.bind (Q0.lift _) fun v=> ?_
  split
  ·exact Q0.ret _
  ·exact Q0.fail
 ·exact Q0.fail
theorem Q0.nilCheck(v:Value):Q0 (ux v):=by
 unfold ux
 split<;>first|exact Q0.ret _|exact Q0.fail
theorem Q0.build(P:Program)(t:TypeId)(ps:List (Nat×Value)):Q0 (oV P t ps):=by
 unfold oV
 split
 ·split
  ·split
   ·exact Q0.ret _
   ·exact Q0.fail
  ·exact Q0.fail
 ·exact Q0.fail
theorem Q1.load(P:Program)(t:TypeId)(v:Value):Q1 (kV P t v):=by
 unfold kV
 split
 ·split
  ·exact Q1.bind (Q1.cU _ _ _) fun _=>(Q0.ret _).q1
  ·exact Q1.rd _ _
  ·exact Q0.fail.q1
 ·exact Q0.fail.q1
theorem Q1.afj(P:Program)(t:TypeId)(v:Value)(lo hi mx:Option Value):Q1 (qU P t v lo hi mx):=by
 unfold qU
 split
 ·refine Q1.bind (Q1.gH _) fun _=> ?_
  split
  ·split
   ·exact(Q0.lift _).q1
   ·exact Q0.fail.q1
  ·exact Q0.fail.q1
 ·exact(Q0.lift _).q1
theorem Q2.alloc(P:Program)(e:TypeId):Q2 (qd P e):=by
 unfold qd
 split
 ·exact Q2.bind (Q2.dC _ _) fun _=>(Q0.ret _).q2
 ·exact Q0.fail.q2
theorem Q2.box(P:Program)(e:TypeId)(v:Value):Q2 (qe P e v):=by
 unfold qe
 split
 ·exact Q2.bind (Q2.dC _ _) fun _=>(Q0.ret _).q2
 ·exact Q0.fail.q2
theorem Q2.buildSlice(P:Program)(t:TypeId)(len:Nat)(ps:List (Nat×Value)):Q2 (oW P t len ps):=by
 unfold oW
 repeat' (first|exact Q0.fail.q2|exact Q2.bind (Q2.dC _ _) fun _=>(Q0.ret _).q2|split)
theorem Q2.makeSlice(P:Program)(t:TypeId)(l c:Value):Q2 (qh P t l c):=by
 unfold qh
 repeat' (first|exact Q0.fail.q2|exact Q2.bind (Q2.dC _ _) fun _=>(Q0.ret _).q2|split)
def QK(k:Nat){α:Type}(m:M α):Prop:=(k=0->Q0 m)∧(k=1->Q1 m)∧(k=2->Q2 m)
theorem QK.mv{α:Type}{m:M α}(x:Q0 m)(k:Nat):QK k m:=⟨fun _=>x,fun _=>x.q1,fun _=>x.q2⟩
theorem QK.Tc{α:Type}{m:M α}(x:Q1 m):QK 1 m:=⟨fun h=>by omega,fun _=>x,fun h=>by omega⟩
theorem QK.Gz{α:Type}{m:M α}(x:Q2 m):QK 2 m:=⟨fun h=>by omega,fun h=>by omega,fun _=>x⟩
theorem QK.uP{α:Type}{m:M α}:QK 3 m:=⟨fun h=>by omega,fun h=>by omega,fun h=>by omega⟩
def Bj(rec:FuncId->Array Value->M Value):Nx->M Value
 | .val v=> .ret v
 | .call f args=>rec f args
theorem afk{α β:Type}(f:α->M β):(M.fail:M α).bind f=M.fail:=rfl
theorem afl(P:Program)(ρ:Operand->Value)(rec:FuncId->Array Value->M Value)(o:Oper):QK (kind o.op) ((cI P ρ o).bind (Bj rec)):=by
 have v1:∀{m:M Value},(m.bind fun v=>M.ret (Nx.val v)).bind (Bj rec)=m:=fun{m}=>by
  funext h n
  unfold M.bind
  cases m h n with
  |none=>rfl
  |some o=>simp[M.ret,Bj]
 have v0:∀(v:Value),(M.ret (Nx.val v)).bind (Bj rec)=M.ret v:=fun v=>by rw[ru];rfl
 have vp:Q0 ((iQ P ρ o).bind (Bj rec)):=by
  unfold iQ
  split
  ·intro h n r h1 n1 L e
   obtain⟨x,h2,n2,L1,L2,e1,e2,rfl⟩:=bind_some e
   obtain⟨y,h3,n3,L3,L4,e3,e4,rfl⟩:=bind_some e1
   obtain⟨rfl,rfl⟩:=Q0.lift _ _ _ _ _ _ _ e3
   split at e4
   ·obtain⟨rfl,_,_⟩:=bY e4
    obtain⟨rfl,rfl⟩:=Q0.ret _ _ _ _ _ _ _ e4
    obtain⟨rfl,rfl⟩:=Q0.ret _ _ _ _ _ _ _ e2
    exact⟨rfl,rfl⟩
   ·cases e4
  ·intro h n r h1 n1 L e
   cases e
 obtain⟨dst,op,ty,pos,after,guard⟩:=o
 cases op with
 |move x=>exact QK.mv (by unfold cI;rw[v0];exact Q0.ret _) _
 |assign x=>exact QK.mv (by unfold cI;rw[v0];exact Q0.ret _) _
 |pick c a b=>
  refine QK.mv ?_ _
  unfold cI
  simp only
  split
  ·rw[v0];exact Q0.ret _
  ·rw[afk];exact Q0.fail
 |alloc e=>exact QK.Gz (by unfold cI;rw[v1];exact Q2.alloc _ _)
 |box e x=>exact QK.Gz (by unfold cI;rw[v1];exact Q2.box _ _ _)
 |build t ps=>exact QK.mv (by unfold cI;rw[v1];exact Q0.build _ _ _) _
 |buildSlice t len ps=>exact QK.Gz (by unfold cI;rw[v1];exact Q2.buildSlice _ _ _ _)
 |load t a=>exact QK.Tc (by unfold cI;rw[v1];exact Q1.load _ _ _)
 |nilCheck x=>exact QK.mv (by unfold cI;rw[v1];exact Q0.nilCheck _) _
 |binOp op t x y yt=>
  refine QK.mv ?_ _
  unfold cI
  simp only
  split
  ·rw[v0];exact Q0.ret _
  ·rw[v0];exact Q0.ret _
  ·exact vp
  ·intro h n a h1 n1 L e;cases e
 |unOp op t x=>exact QK.mv (vp) _
 |makeFunc fn a b=>exact QK.mv (by unfold cI;rw[v0];exact Q0.ret _) _
 |makeSlice t l c=>exact QK.Gz (by unfold cI;rw[v1];exact Q2.makeSlice _ _ _ _)
 |slice t x lo hi mx=>
  refine QK.Tc ?_
  unfold cI
  simp only
  split
  ·exact(vp).q1
  ·rw[v1];exact Q1.afj _ _ _ _ _ _
 |fieldAddr t x f=>exact QK.mv (by unfold cI;rw[v1];exact Q0.lift _) _
 |field t x f=>exact QK.mv (by unfold cI;rw[v1];exact Q0.lift _) _
 |indexAddr t x f=>exact QK.mv (by unfold cI;rw[v1];exact Q0.lift _) _
 |index t x ix=>
  refine QK.mv ?_ _
  unfold cI
  simp only
  split
  ·exact vp
  ·rw[v1];exact Q0.lift _
 |extract t i=>exact QK.mv (by unfold cI;rw[v1];exact Q0.lift _) _
 |call c=>
  unfold kind
  simp only
  split
  ·rename_i hc
   refine QK.mv ?_ _
   unfold cI mK
   simp only[hc]
   split
   ·rw[v0];exact Q0.ret _
   ·exact vp
  ·rename_i hc
   refine QK.mv ?_ _
   unfold cI mK
   simp only[hc]
   exact vp
  ·rename_i hc
   refine QK.mv ?_ _
   unfold cI mK
   simp only[hc]
   exact vp
  ·exact QK.uP
 |_=>exact QK.uP
structure GA (o:Oper) (t:Tk):Prop where
 le:t.n<=t.n1
 lt:∀e∈t.log,e.b<t.n1
 k0:kind o.op=0->t.log=[]∧t.n1=t.n
 k1:kind o.op=1->t.n1=t.n∧∀e∈t.log,e.wr=false
 k2:kind o.op=2->t.log=[]
inductive rz:Nat->List Oper->List Tk->Nat->Prop
 |nil (n:Nat):rz n [] [] n
 |cons {n m:Nat} {o:Oper} {t:Tk} {r:List Oper} {ts:List Tk} (h:GA o t) (e:t.n=n) (x:rz t.n1 r ts m):rz n (o::r) (t::ts) m
theorem rz.le{n m:Nat}{l:List Oper}{ts:List Tk}(x:rz n l ts m):n<=m:=by
 induction x with
 |nil n=>exact an _
 |cons h e x ih=>have:=h.le;omega
theorem any_false{α:Type}{l:List α}{p:α->Bool}(h:∀x∈l,p x=false):l.any p=false:=by
 rw[List.any_eq_false]
 intro x hx
 rw[h x hx]
 exact Bool.false_ne_true
theorem afm{a b:Oper}{ta tb:Tk}(xa:GA a ta)(xb:GA b tb)(hle:ta.n1<=tb.n)(hf:fits (kind a.op) (kind b.op)=true):ta.cA tb=false:=by
 have ale:=xa.le
 have ble:=xb.le
 unfold fits at hf
 simp only[pY,beq_iff_eq,cj]at hf
 unfold Tk.cA
 rcases hf with (((hf|hf)|hf)|hf)|hf
 ·obtain⟨h1,h2⟩:=xa.k0 hf
  rw[h1]
  simp only[Kg,Kh,ac2,Ki,CN]
  refine⟨any_false fun x _=>rfl,any_false fun x hx=> ?_⟩
  simp;omega
 ·obtain⟨h1,h2⟩:=xb.k0 hf
  rw[h1]
  simp only[Kg,Kh,CN,ac2,Ki]
  refine⟨any_false fun x _=>rfl,any_false fun x hx=> ?_⟩
  simp;omega
 ·obtain⟨h1,h2⟩:=xa.k1 hf.1
  obtain⟨h3,h4⟩:=xb.k1 hf.2
  simp only[CN]
  refine⟨⟨⟨any_false fun x hx=>by rw[h2 x hx];rfl,any_false fun x hx=>by rw[h4 x hx];rfl⟩,any_false fun x hx=> ?_⟩,any_false fun x hx=> ?_⟩
  ·simp;omega
  ·simp;omega
 ·rw[xa.k2 hf.1,xb.k2 hf.2];rfl
 ·obtain⟨h1,h2⟩:=xa.k1 hf.1
  have h3:=xb.k2 hf.2
  rw[h3]
  simp only[Kg,Kh,CN,Ki]
  refine⟨any_false fun x _=>rfl,any_false fun x hx=> ?_⟩
  have:=xa.lt x hx
  simp;omega
theorem Td{P:Program}{rec:FuncId->Array Value->M Value}{ops:Array Oper}{o:Oper}{s:S}(h:iA o (jh ops s)=true):ig P rec ops o s=(cI P (ev s) o).bind (Bj rec):=by
 unfold ig
 rw[if_pos h]
 rfl
theorem afn{P:Program}{rec:FuncId->Array Value->M Value}{ops:Array Oper}{o:Oper}{s:S}:QK (kind o.op) (ig P rec ops o s):=by
 by_cases h:iA o (jh ops s)=true
 ·rw[Td h];exact afl _ _ _ _
 ·unfold ig;rw[if_neg h];exact QK.mv (Q0.ret _) _
theorem filter_nil{α:Type}{L:List α}{p:α->Bool}(h:L=[]):L.filter p=[]:=by rw[h];rfl
theorem LB{α:Type}{m:M α}{h h1:H}{n n1:Nat}{x:α×Tk}{L:List En}(hr:aG m h n=some ⟨x,h1,n1,L⟩):m h n=some ⟨x.1,h1,n1,L⟩∧x.2=⟨n,n1,L⟩:=by
 unfold aG at hr
 split at hr
 ·rename_i a h' n' L' e
  simp only[eG,Out.mk.injEq]at hr
  obtain⟨rfl,rfl,rfl,rfl⟩:=hr
  exact⟨e,rfl⟩
 ·cases hr
theorem Du{α:Type}{m:M α}{h h1:H}{n n1:Nat}{a:α}{L:List En}(e:m h n=some ⟨a,h1,n1,L⟩):aG m h n=some ⟨(a,⟨n,n1,L⟩),h1,n1,L⟩:=by
 unfold aG
 rw[e]
theorem afo{P:Program}{rec:FuncId->Array Value->M Value}(jt:∀f a,Loc (rec f a)){nt:Nat}{ops:Array Oper}:∀(l:List Oper) (s:S) (h h1:H) (n n1:Nat) (y:S×List Tk) (L:List En),kp P rec nt ops l s h n=some ⟨y,h1,n1,L⟩->rz n l y.2 n1:=by
 intro l
 induction l with
 |nil=>
  intro s h h1 n n1 y L hr
  obtain⟨rfl,rfl,rfl⟩:=bY hr
  exact .nil _
 |cons o l ih=>
  intro s h h1 n n1 y L hr
  unfold kp at hr
  obtain⟨x,h2,n2,L1,L2,e1,e2,_⟩:=bind_some hr
  obtain⟨s2,h3,n3,L3,L4,e3,e4,_⟩:=bind_some e2
  obtain⟨z,h5,n5,L5,L6,e5,e6,_⟩:=bind_some e4
  obtain⟨rfl,rfl,rfl⟩:=bY e6
  obtain⟨_,rfl,rfl⟩:=oZ e3
  obtain⟨g1,g2⟩:=LB e1
  obtain⟨L',g3,rfl⟩:=yM g1
  have A:=Loc.inside (Loc.ig jt ops o s) h n _ _ _ _ g1
  have K:=afn (P:=P) (rec:=rec) (ops:=ops) (o:=o) (s:=s)
  refine .cons ⟨?_, ?_,fun hk=> ?_,fun hk=> ?_,fun hk=> ?_⟩ ?_ ?_
  ·rw[g2];exact A.le
  ·rw[g2];exact A.lt
  ·obtain⟨q1,q2⟩:=K.1 hk _ _ _ _ _ _ g3
   rw[g2]
   exact⟨filter_nil q1,q2⟩
  ·obtain⟨q1,q2⟩:=K.2.1 hk _ _ _ _ _ _ g3
   rw[g2]
   exact⟨q1,fun e he=>q2 e (List.mem_filter.1 he).1⟩
  ·rw[g2]
   exact filter_nil (K.2.2 hk _ _ _ _ _ _ g3)
  ·rw[g2]
  ·rw[g2]
   exact ih _ _ _ _ _ _ _ e5
theorem afp{n m:Nat}{l:List Oper}{ts:List Tk}(x:rz n l ts m):∀(i:Nat) (ti:Tk),ts[i]? =some ti->∃oi:Oper,l[i]? =some oi∧GA oi ti∧n<=ti.n:=by
 induction x with
 |nil n=>intro i ti hi;simp at hi
 |cons h e x ih=>
  intro i ti hi
  cases i with
  |zero=>simp at hi;subst hi;exact⟨_,rfl,h,by omega⟩
  |succ i=>
   obtain⟨oi,g1,g2,g3⟩:=ih i ti (by simpa using hi)
   exact⟨oi,by simpa using g1,g2,by have:=h.le;omega⟩
theorem Te{ops:Array Oper}{dH:List Nat}:∀(l:List Oper) (ts:List Tk) (n m j:Nat),rz n l ts m->(∀i o,l[i]? =some o->ops.getD (j+i) default=o)->
 (∀p q op oq tp tq,p<q->l[p]? =some op->l[q]? =some oq->ts[p]? =some tp->ts[q]? =some tq->(dH.getD (j+q) 0).testBit (j+p)=true∨((fits (kind op.op) (kind oq.op)=true∨tp.cA tq=false)∧sM ops op oq=false))->sN ops dH (tagged j ts)=true:=by
 intro l
 induction l with
 |nil=>
  intro ts n m j x _ _
  cases x
  rfl
 |cons o l ih=>
  intro ts n m j x hg hp
  cases x with
  |@cons _ _ _ t _ ts h e x=>
   unfold tagged sN
   simp only[cj,FG]
   refine⟨?_,ih ts _ m (j+1) x (fun i o' hi=>by have:=hg (i+1) o' (by simpa using hi);rw[show j+1+i=j+(i+1) by omega];exact this) (fun p q op oq tp tq fi h1 h2 h3 h4=>by
    have:=hp (p+1) (q+1) op oq tp tq (by omega) (by simpa using h1) (by simpa using h2) (by simpa using h3) (by simpa using h4)
    rw[show j+1+q=j+(q+1) by omega,show j+1+p=j+(p+1) by omega]
    exact this)⟩
   intro z hz
   obtain⟨i,hi⟩:=List.mem_iff_getElem?.1 hz
   rw[KQ]at hi
   cases yO:ts[i]? with
   |none=>rw[yO]at hi;cases hi
   |some ti=>
    rw[yO]at hi
    simp only[FF,eG]at hi
    subst hi
    obtain⟨oi,g1,g2,g3⟩:=afp x i ti yO
    have e1:=hg 0 o rfl
    have e2:=hg (i+1) oi (by simpa using g1)
    have hq:=hp 0 (i+1) o oi t ti (by omega) rfl (by simpa using g1) rfl (by simpa using yO)
    rw[kQ]at e1 hq
    simp only[show j+1+i=j+(i+1) by omega,e1,e2,pY,cj,FJ]
    rcases hq with hq|⟨hq,hs⟩
    ·exact .inl hq
    ·refine .inr ⟨?_,hs⟩
     rcases hq with hq|hq
     ·exact afm h g2 g3 hq
     ·exact hq
theorem afq{ops:Array Oper}{dH:List Nat}{j:Nat}{oj:Oper}:∀(l:List Oper) (k:Nat),Gv ops dH j oj k l=true->∀i o,l[i]? =some o->(dH.getD (k+i) 0).testBit j=true∨(fits (kind oj.op) (kind o.op)=true∧sM ops oj o=false):=by
 intro l
 induction l with
 |nil=>intro k _ i o h;simp at h
 |cons o l ih=>
  intro k h i o' hi
  unfold Gv at h
  simp only[cj,pY,FJ]at h
  cases i with
  |zero=>simp at hi;subst hi;exact h.1
  |succ i=>
   rw[show k+(i+1)=k+1+i by omega]
   exact ih (k+1) h.2 i o' (by simpa using hi)
theorem afr{ops:Array Oper}{dH:List Nat}:∀(l:List Oper) (j:Nat),Gw ops dH j l=true->∀p q op oq,p<q->l[p]? =some op->l[q]? =some oq->(dH.getD (j+q) 0).testBit (j+p)=true∨(fits (kind op.op) (kind oq.op)=true∧sM ops op oq=false):=by
 intro l
 induction l with
 |nil=>intro k _ p q op oq _ h;simp at h
 |cons o l ih=>
  intro j h p q op oq fi h1 h2
  unfold Gw at h
  simp only[cj]at h
  cases q with
  |zero=>omega
  |succ q=>
   cases p with
   |zero=>
    simp at h1;subst h1
    have:=afq l (j+1) h.1 q oq (by simpa using h2)
    rw[show j+(q+1)=j+1+q by omega,kQ]
    exact this
   |succ p=>
    have:=ih (j+1) h.2 p q op oq (by omega) (by simpa using h1) (by simpa using h2)
    rw[show j+(q+1)=j+1+q by omega,show j+(p+1)=j+1+p by omega]
    exact this
theorem Tf(ops:Array Oper)(i:Nat)(o:Oper)(h:ops.toList[i]? =some o):ops.getD (0+i) default=o:=by
 rw[fB]
 rw[Kf]at h
 simp[Array.getD_eq_getD_getElem?,h]
theorem afs{ops:Array Oper}{ts:List Tk}{n m:Nat}(x:rz n ops.toList ts m)(h:Gx ops=true):vP ops=true∧sN ops (od ops.toList []) (tagged 0 ts)=true:=by
 unfold Gx at h
 simp only[cj]at h
 refine⟨h.1,Te ops.toList ts n m 0 x (Tf ops) fun p q op oq tp tq fi h1 h2 h3 h4=> ?_⟩
 rcases afr ops.toList 0 h.2 p q op oq fi h1 h2 with g|g
 ·exact .inl g
 ·exact .inr ⟨.inl g.1,g.2⟩
end Go.Proofs.YtmjolmggelkjlaaGreat.Ev
namespace Go.Proofs.YtmjolmggelkjlaaGreat.Ev
open Go Go.RowKit
theorem aJ{x:Int}(h0:-9223372036854775808<=x)(h1:x<=9223372036854775807):IntKind.i64.wrap x=x:=IntWalk.i64_in x (by omega)
def rA(k:IntKind)(z:Int):Int:=match k,z with
 | .i64,.ofNat m=>match bK m 9223372036854775807 with
   |true=>z
   |false=>k.wrap z
 | .i64,.negSucc m=>match bK m 9223372036854775807 with
   |true=>z
   |false=>k.wrap z
 | .u8,.ofNat m=> .ofNat (m %256)
 | .u32,.ofNat m=> .ofNat (m %4294967296)
 | .u64,.ofNat m=> .ofNat (m %18446744073709551616)
 |_,_=>k.wrap z
theorem mR(k:IntKind)(z:Int):rA k z=k.wrap z:=by
 unfold rA
 split
 ·rename_i m
  cases h:bK m 9223372036854775807 with
  |true=>
   have:m<=9223372036854775807:=iM h
   exact(aJ (x:=((m:Nat):Int)) (by omega) (by omega)).symm
  |false=>rfl
 ·rename_i m
  cases h:bK m 9223372036854775807 with
  |true=>
   have:m<=9223372036854775807:=iM h
   exact(aJ (x:=arf m) (by omega) (by omega)).symm
  |false=>rfl
 ·rename_i m
  show((m %256:Nat):Int)=IntKind.u8.wrap m
  simp[adb,Kj,ade]
 ·rename_i m
  show((m %4294967296:Nat):Int)=IntKind.u32.wrap m
  simp[adb,Kj,ade]
 ·rename_i m
  show((m %18446744073709551616:Nat):Int)=IntKind.u64.wrap m
  simp[adb,Kj,ade]
 ·rfl
def GB(a b:Int):Int:=match a,b with
 | .ofNat x,.ofNat y=> .ofNat (iO x y)
 |_,_=>a+b
theorem Tg(a b:Int):GB a b=a+b:=by unfold GB;split<;>rfl
def GC(a b:Int):Int:=match a,b with
 | .ofNat x,.ofNat y=>match bK y x with
   |true=> .ofNat (Kk x y)
   |false=> .negSucc (Kk (Kk y x) 1)
 |_,_=>a-b
theorem GD(a b:Int):GC a b=a-b:=by
 unfold GC
 split
 ·rename_i x y
  cases h:bK y x with
  |true=>
   have:=iM h
   show((x-y:Nat):Int)=(x:Int)-y
   omega
  |false=>
   have:¬y<=x:=fun q=>by rw[nZ q]at h;cases h
   show arf (y-x-1)=(x:Int)-y
   omega
 ·rfl
def LC(a b:Int):Int:=match a,b with
 | .ofNat x,.ofNat y=> .ofNat (Rz x y)
 |_,_=>a*b
theorem Th(a b:Int):LC a b=a*b:=by unfold LC;split<;>rfl
def sX(a b:Int):Bool:=match a,b with
 | .ofNat x,.ofNat y=>cz x y
 |_,_=>a==b
theorem wx(a b:Int):sX a b=(a==b):=by
 unfold sX
 split
 ·rename_i x y
  cases h:cz x y with
  |true=>rw[m7 h];simp
  |false=>
   have:x≠y:=adf h
   symm
   rw[beq_eq_false_iff_ne]
   intro q
   exact this (asY q)
 ·rfl
def GF(a b:Int):Bool:=match a,b with
 | .ofNat x,.ofNat y=>bK x y
 |_,_=>decide (a<=b)
theorem GG(a b:Int):GF a b=decide (a<=b):=by
 unfold GF
 split
 ·rename_i x y
  cases h:bK x y with
  |true=>
   have:=iM h
   symm
   rw[decide_eq_true_eq]
   show(x:Int)<=y
   omega
  |false=>
   have:¬x<=y:=fun q=>by rw[nZ q]at h;cases h
   symm
   rw[decide_eq_false_iff_not]
   show¬((x:Int)<=y)
   omega
 ·rfl
def Bn(a b:Int):Bool:=match a,b with
 | .ofNat x,.ofNat y=>bK (gL x) y
 |_,_=>decide (a<b)
theorem sY(a b:Int):Bn a b=decide (a<b):=by
 unfold Bn
 split
 ·rename_i x y
  cases h:bK (gL x) y with
  |true=>
   have:=iM h
   symm
   rw[decide_eq_true_eq]
   show(x:Int)<y
   omega
  |false=>
   have:¬gL x<=y:=fun q=>by rw[nZ q]at h;cases h
   symm
   rw[decide_eq_false_iff_not]
   show¬((x:Int)<y)
   omega
 ·rfl
def uQ:List UInt8->List UInt8->Bool
 |[],[]=>true
 |a::l,b::m=>match cz a.toNat b.toNat with
  |true=>uQ l m
  |false=>false
 |_,_=>false
theorem GH:∀a b:List UInt8,uQ a b=decide (a=b)
 |[],[]=>rfl
 |a::l,b::m=>by
  unfold uQ
  cases h:cz a.toNat b.toNat with
  |true=>
   have e:a=b:=UInt8.toNat_inj.1 (m7 h)
   subst e
   simp only
   rw[GH l m]
   simp
  |false=>
   have e:a≠b:=fun q=>adf h (by rw[q])
   symm
   rw[decide_eq_false_iff_not]
   intro q
   exact e (asZ q).1
 |[],_::_=>by unfold uQ;simp
 |_::_,[]=>by unfold uQ;simp
def GI:List UInt8->List UInt8->List UInt8
 |[],m=>m
 |a::l,m=>a::GI l m
theorem LD:∀l m:List UInt8,GI l m=l++m
 |[],_=>rfl
 |a::l,m=>by unfold GI;rw[LD l m];rfl
def lC:List UInt8->Nat
 |[]=>0
 |_::l=>gL (lC l)
theorem sZ:∀l:List UInt8,lC l=l.length
 |[]=>rfl
 |_::l=>by unfold lC;rw[sZ l];rfl
def uR:List UInt8->Nat->Option UInt8
 |[],_=>none
 |a::l,i=>match i with
  |0=>some a
  |i+1=>uR l i
theorem LF:∀(l:List UInt8) (i:Nat) (b:UInt8),uR l i=some b->i<l.length∧l.getD i 0=b
 |[],_,_,h=>by cases h
 |a::l,0,b,h=>by
  unfold uR at h
  cases h
  exact⟨Nat.zero_lt_succ _,rfl⟩
 |a::l,i+1,b,h=>by
  unfold uR at h
  obtain⟨h1,h2⟩:=LF l i b h
  exact⟨Nat.succ_lt_succ h1,h2⟩
def s9:IntKind->IntKind->Bool
 | .i64,.i64| .u8,.u8| .u32,.u32| .u64,.u64| .i8,.i8| .i16,.i16| .i32,.i32| .u16,.u16=>true
 |_,_=>false
theorem GJ(k:IntKind):s9 k k=true:=by cases k<;>rfl
theorem GK{a b:IntKind}(h:s9 a b=true):a=b:=by cases a<;>cases b<;>first|rfl|cases h
def pw:IntKind->Nat
 | .i64| .u64=>18446744073709551616
 | .i32| .u32=>4294967296
 | .i16| .u16=>65536
 | .i8| .u8=>256
theorem aft(k:IntKind):pw k=2^k.bits:=by cases k<;>rfl
theorem Ti(w x:Nat):(BitVec.ofInt w (x:Int)).toNat=x %2^w:=by
 rw[BitVec.ofInt_natCast,BitVec.toNat_ofNat]
noncomputable def Bo {α:Type}:Nat->Tr α->Nat->Option α
 |0,_,_=>none
 |_+1,.nil,_=>none
 |f+1,.node l v r,i=>match cz i 0 with
  |true=>v
  |false=>match cz (mc i 2) 1 with
   |true=>Bo f l (mI i 2)
   |false=>Bo f r (vH (mI i 2))
theorem wy(a b:Nat):cz a b=decide (a=b):=by
 cases h:cz a b with
 |true=>rw[m7 h];simp
 |false=>have:=adf h;simp[this]
theorem LG{α:Type}:∀(f:Nat) (t:Tr α) (i:Nat),Bo f t i=Tr.get f t i
 |0,_,_=>rfl
 |_+1,.nil,_=>rfl
 |f+1,.node l v r,i=>by
  unfold Bo Tr.get
  rw[wy,wy]
  by_cases h0:i=0
  ·simp[h0]
  ·by_cases h1:i %2=1
   ·have fS:mc i 2=1:=h1
    simp only[h0,h1,fS,decide_true,decide_false,if_true,if_false]
    exact LG f l (i/2)
   ·have fS:¬mc i 2=1:=h1
    simp only[h0,h1,fS,decide_false,if_false]
    exact LG f r (i/2-1)
noncomputable def pq {α:Type}:Nat->Tr α->Nat->Option α->Tr α
 |0,t,_,_=>t
 |f+1,.nil,i,a=>match cz i 0 with
  |true=> .node .nil a .nil
  |false=>match cz (mc i 2) 1 with
   |true=> .node (pq f .nil (mI i 2) a) none .nil
   |false=> .node .nil none (pq f .nil (vH (mI i 2)) a)
 |f+1,.node l v r,i,a=>match cz i 0 with
  |true=> .node l a r
  |false=>match cz (mc i 2) 1 with
   |true=> .node (pq f l (mI i 2) a) v r
   |false=> .node l v (pq f r (vH (mI i 2)) a)
theorem Dv{α:Type}:∀(f:Nat) (t:Tr α) (i:Nat) (a:Option α),pq f t i a=Tr.set f t i a
 |0,_,_,_=>rfl
 |f+1,.nil,i,a=>by
  unfold pq Tr.set
  rw[wy,wy]
  by_cases h0:i=0
  ·simp[h0]
  ·by_cases h1:i %2=1
   ·have fS:mc i 2=1:=h1
    simp only[h0,h1,fS,decide_true,decide_false,if_true,if_false]
    rw[Dv f .nil];rfl
   ·have fS:¬mc i 2=1:=h1
    simp only[h0,h1,fS,decide_false,if_false]
    rw[Dv f .nil];rfl
 |f+1,.node l v r,i,a=>by
  unfold pq Tr.set
  rw[wy,wy]
  by_cases h0:i=0
  ·simp[h0]
  ·by_cases h1:i %2=1
   ·have fS:mc i 2=1:=h1
    simp only[h0,h1,fS,decide_true,decide_false,if_true,if_false]
    rw[Dv f l];rfl
   ·have fS:¬mc i 2=1:=h1
    simp only[h0,h1,fS,decide_false,if_false]
    rw[Dv f r];rfl
noncomputable def GL {α:Type} (t:Tr α):Nat->Option α:=Tr.rec (motive:=fun _=>Nat->Option α) (fun _=>none) (fun _ v _ Dw LH i=>match cz i 0 with
 |true=>v
 |false=>match cz (mc i 2) 1 with
  |true=>Dw (mI i 2)
  |false=>LH (vH (mI i 2))) t
theorem LI{α:Type}:∀(t:Tr α) (f i:Nat),i<f->GL t i=Bo f t i
 | .nil,0,i,h=>by omega
 | .nil,f+1,i,h=>rfl
 | .node l v r,0,i,h=>by omega
 | .node l v r,f+1,i,h=>by
   show(match cz i 0 with
    |true=>v
    |false=>match cz (mc i 2) 1 with
     |true=>GL l (mI i 2)
     |false=>GL r (vH (mI i 2)))=_
   unfold Bo
   cases h0:cz i 0 with
   |true=>rfl
   |false=>
    have hi:i≠0:=fun q=>by subst q;simp at h0
    have h1:i/2<f:=by omega
    have h2:mI i 2=i/2:=rfl
    have h3:vH (i/2)=i/2-1:=rfl
    simp only[h2,h3]
    rw[LI l f (i/2) h1,LI r f (i/2-1) (by omega)]
noncomputable def GM {α:Type} (t:Tr α):Nat->Option α->Tr α:=Tr.rec (motive:=fun _=>Nat->Option α->Tr α) (fun i a=>pq (gL i) .nil i a) (fun l v r Dw LH i a=>match cz i 0 with
 |true=> .node l a r
 |false=>match cz (mc i 2) 1 with
  |true=> .node (Dw (mI i 2) a) v r
  |false=> .node l v (LH (vH (mI i 2)) a)) t
theorem LJ{α:Type}(a:Option α):∀(f i g:Nat),i<f->i<g->pq f .nil i a=pq g .nil i a
 |0,_,_,h,_=>by omega
 |f+1,_,0,_,h=>by omega
 |f+1,i,g+1,h,h'=>by
  unfold pq
  cases h0:cz i 0 with
  |true=>rfl
  |false=>
   have hi:i≠0:=fun q=>by subst q;simp at h0
   have h2:mI i 2=i/2:=rfl
   have h3:vH (i/2)=i/2-1:=rfl
   simp only[h2,h3]
   rw[LJ a f (i/2) g (by omega) (by omega),LJ a f (i/2-1) g (by omega) (by omega)]
theorem LK{α:Type}(a:Option α):∀(t:Tr α) (f i:Nat),i<f->GM t i a=pq f t i a
 | .nil,f,i,h=>LJ a _ _ _ (gh i) h
 | .node l v r,0,i,h=>by omega
 | .node l v r,f+1,i,h=>by
   show(match cz i 0 with
    |true=>Tr.node l a r
    |false=>match cz (mc i 2) 1 with
     |true=>Tr.node (GM l (mI i 2) a) v r
     |false=>Tr.node l v (GM r (vH (mI i 2)) a))=_
   unfold pq
   cases h0:cz i 0 with
   |true=>rfl
   |false=>
    have hi:i≠0:=fun q=>by subst q;simp at h0
    have h2:mI i 2=i/2:=rfl
    have h3:vH (i/2)=i/2-1:=rfl
    simp only[h2,h3]
    rw[LK a l f (i/2) (by omega),LK a r f (i/2-1) (by omega)]
noncomputable def jV (h:H) (b:Nat):Option AB:=GL h b
theorem wz(h:H)(b:Nat):jV h b=h.get b:=(LI h (b+1) b (gh b)).trans (LG _ _ _)
noncomputable def qZ (h:H) (b:Nat) (x:Option AB):H:=GM h b x
theorem LL(h:H)(b:Nat)(x:Option AB):qZ h b x=h.set b x:=(LK x h (b+1) b (gh b)).trans (Dv _ _ _ _)
theorem uS(a b:Nat):bK a b=decide (a<=b):=by
 cases h:bK a b with
 |true=>have:=iM h;simp[this]
 |false=>
  have:¬a<=b:=fun q=>by rw[nZ q]at h;cases h
  simp[this]
noncomputable def wA (l:List Value):Nat->Option Value:=FK (motive:=fun _=>Nat->Option Value) (fun _=>none) (fun a _ ih i=>adg (motive:=fun _=>Option Value) (some a) (fun j _=>ih j) i) l
theorem GN:∀(l:List Value) (i:Nat),wA l i=l[i]?
 |[],_=>rfl
 |_::_,0=>rfl
 |a::l,i+1=>by
  show wA l i=_
  rw[GN l i];rfl
noncomputable def LM (l:List Value):Nat->Value->Option (List Value):=FK (motive:=fun _=>Nat->Value->Option (List Value)) (fun _ _=>none) (fun a l ih i v=>adg (motive:=fun _=>Option (List Value)) (some (v::l)) (fun j _=>match ih j v with
 |some l'=>some (a::l')
 |none=>none) i) l
theorem Tj:∀(l:List Value) (i:Nat) (v:Value),LM l i v=if i<l.length then some (l.set i v)else none
 |[],i,v=>by show none=_;simp
 |a::l,0,v=>by show some (v::l)=_;simp
 |a::l,i+1,v=>by
  show(match LM l i v with
   |some l'=>some (a::l')
   |none=>none)=_
  rw[Tj l i v]
  by_cases h:i<l.length
  ·simp[h]
  ·simp[h]
noncomputable def Bp (b k:Nat):M Value:=fun h n=>match bK (gL b) n with
 |true=>match jV h b with
  |some B=>match wA B.cells k with
   |some v=>some ⟨v,h,n,[⟨false,b,some k⟩]⟩
   |none=>none
  |none=>none
 |false=>none
theorem GO:Bp=rd:=by
 funext b k h n
 unfold Bp rd
 rw[uS,wz]
 by_cases hb:b<n
 ·have:b.succ<=n:=hb
  simp only[hb,this,decide_true,if_true]
  cases h.get b with
  |none=>rfl
  |some B=>simp only[GN];rfl
 ·have:¬b.succ<=n:=hb
  simp only[hb,this,decide_false,if_false]
noncomputable def yP (b k:Nat) (v:Value):M Unit:=fun h n=>match bK (gL b) n with
 |true=>match jV h b with
  |some B=>match B.own with
   |true=>match one v with
    |true=>match LM B.cells k v with
     |some cs=>some ⟨(),qZ h b (some ⟨B.elem,true,cs⟩),n,[⟨false,b,some k⟩,⟨true,b,some k⟩]⟩
     |none=>none
    |false=>none
   |false=>none
  |none=>none
 |false=>none
theorem GP:yP=wr:=by
 funext b k v h n
 unfold yP wr
 rw[uS,wz]
 by_cases hb:b<n
 ·have:b.succ<=n:=hb
  simp only[hb,this,decide_true,if_true]
  cases h.get b with
  |none=>rfl
  |some B=>
   obtain⟨e,o,cs⟩:=B
   simp only[Tj,LL]
   cases o with
   |false=>simp
   |true=>
    cases h1:one v with
    |false=>simp
    |true=>
     by_cases hk:k<cs.length
     ·simp[hk]
     ·simp[hk]
 ·have:¬b.succ<=n:=hb
  simp only[hb,this,decide_false,if_false]
noncomputable def kF (e:TypeId) (cs:List Value):M Nat:=fun h n=>some ⟨n,qZ h n (some ⟨e,true,cs⟩),gL n,[]⟩
theorem mS:kF=dC:=by
 funext e cs h n
 unfold kF dC
 rw[if_pos (gh n),LL]
noncomputable def Dx (b:Nat):M TypeId:=fun h n=>match bK (gL b) n with
 |true=>match jV h b with
  |some B=>some ⟨B.elem,h,n,[⟨false,b,some 1099511627776⟩]⟩
  |none=>none
 |false=>none
theorem yQ:Dx=gH:=by
 funext b h n
 unfold Dx gH
 rw[uS,wz]
 by_cases hb:b<n
 ·have:b.succ<=n:=hb
  simp only[hb,this,decide_true,if_true]
  rfl
 ·have:¬b.succ<=n:=hb
  simp only[hb,this,decide_false,if_false]
noncomputable def LN (b:Nat):M Unit:=fun h n=>match bK (gL b) n with
 |true=>match jV h b with
  |some B=>match B.own with
   |true=>some ⟨(),qZ h b none,n,[⟨false,b,none⟩,⟨true,b,none⟩]⟩
   |false=>none
  |none=>none
 |false=>none
theorem GQ:LN=kill:=by
 funext b h n
 unfold LN kill
 rw[uS,wz]
 by_cases hb:b<n
 ·have:b.succ<=n:=hb
  simp only[hb,this,decide_true,if_true]
  cases h.get b with
  |none=>rfl
  |some B=>
   simp only[LL]
   cases B.own<;>simp
 ·have:¬b.succ<=n:=hb
  simp only[hb,this,decide_false,if_false]
noncomputable def rB (b k:Nat):List Value->M Unit
 |[]=> .ret ()
 |v::vs=>(yP b k v).bind fun _=>rB b (gL k) vs
theorem Tl(b:Nat):∀(vs:List Value) (k:Nat),rB b k vs=fN b k vs
 |[],_=>rfl
 |v::vs,k=>by
  unfold rB fN
  rw[GP,Tl b vs (gL k)]
theorem Dy:rB=fN:=by funext b k vs;exact Tl b vs k
noncomputable def gO (l:List Value):Nat:=FK (motive:=fun _=>Nat) 0 (fun _ _ ih=>gL ih) l
theorem oD:∀l:List Value,gO l=l.length
 |[]=>rfl
 |a::l=>by
  show gL (gO l)=_
  rw[oD l];rfl
noncomputable def GR (b k:Nat):Nat->List En
 |0=>[]
 |c+1=>⟨false,b,some k⟩::GR b (k+1) c
noncomputable def jv (b k c:Nat):M (List Value):=fun h n=>match c with
 |0=>some ⟨[],h,n,[]⟩
 |c+1=>match bK (gL b) n with
  |true=>match jV h b with
   |some B=>match bK (iO k (c+1)) (gO B.cells)with
    |true=>some ⟨(B.cells.drop k).take (c+1),h,n,GR b k (c+1)⟩
    |false=>none
   |none=>none
  |false=>none
theorem Tm(b:Nat)(h:H)(n:Nat):∀c k:Nat,jv b k c h n=cU b k c h n
 |0,_=>rfl
 |c+1,k=>by
  have ih:=Tm b h n c (k+1)
  have e0:cU b k (c+1) h n=((rd b k).bind fun v=>(cU b (k+1) c).bind fun vs=>M.ret (v::vs)) h n:=rfl
  rw[e0]
  unfold M.bind
  cases hb:bK (gL b) n with
  |false=>
   have bM:¬b<n:=fun q=>by rw[nZ q]at hb;cases hb
   have yR:rd b k h n=none:=by unfold rd;rw[if_neg bM]
   have hl:jv b k (c+1) h n=none:=by unfold jv;simp only[hb]
   rw[hl];simp only[yR]
  |true=>
   have bM:b<n:=iM hb
   cases hg:h.get b with
   |none=>
    have yR:rd b k h n=none:=by unfold rd;rw[if_pos bM,hg]
    have hl:jv b k (c+1) h n=none:=by unfold jv;simp only[hb,wz,hg]
    rw[hl];simp only[yR]
   |some B=>
    cases hv:B.cells[k]? with
    |none=>
     have hle:B.cells.length<=k:=List.getElem?_eq_none_iff.1 hv
     have hq:bK (iO k (c+1)) (gO B.cells)=false:=by
      rw[oD]
      cases hq:bK (iO k (c+1)) B.cells.length with
      |false=>rfl
      |true=>
       have:=iM hq
       have e:iO k (c+1)=k+(c+1):=rfl
       omega
     have yR:rd b k h n=none:=by unfold rd;rw[if_pos bM,hg];simp only[hv]
     have hl:jv b k (c+1) h n=none:=by unfold jv;simp only[hb,wz,hg,hq]
     rw[hl];simp only[yR]
    |some v=>
     have Tn:k<B.cells.length:=(List.getElem?_eq_some_iff.1 hv).1
     have hd:B.cells.drop k=v::B.cells.drop (k+1):=by
      rw[List.drop_eq_getElem_cons Tn]
      rw[bD Tn]at hv
      cases hv
      rfl
     have yR:rd b k h n=some ⟨v,h,n,[⟨false,b,some k⟩]⟩:=by
      unfold rd
      rw[if_pos bM,hg]
      simp only[hv]
     simp only[yR,<-ih]
     match c with
     |0=>
      have hq:bK (iO k (0+1)) (gO B.cells)=true:=by
       rw[oD]
       exact nZ (by show k+1<=_;omega)
      unfold jv
      simp only[hb,wz,hg,hq,hd]
      simp[GR,M.ret]
     |c+1=>
      have e:iO k (c+1+1)=iO (k+1) (c+1):=by
       show k+(c+1+1)=k+1+(c+1)
       omega
      unfold jv
      simp only[hb,wz,hg,e]
      cases bK (iO (k+1) (c+1)) (gO B.cells)with
      |false=>rfl
      |true=>
       simp only[M.ret,hd,List.take_succ_cons]
       simp[GR]
theorem pr:jv=cU:=by funext b k c h n;exact Tm b h n c k
noncomputable def mw:List Value->Option (List UInt8)
 |[]=>some []
 | .int .u8 n::r=>match mw r with
   |some l=>some (jq n.toNat::l)
   |none=>none
 |_=>none
theorem afu:∀(vs:List Value) (acc:List UInt8),bytesOf vs ⟨⟨acc⟩⟩=(mw vs).map fun l=>⟨⟨acc++l⟩⟩:=by
 intro vs
 induction vs with
 |nil=>intro acc;simp[bytesOf,mw]
 |cons v r ih=>
  intro acc
  cases v<;>try rfl
  rename_i k n
  cases k<;>try rfl
  show bytesOf r (adh ⟨⟨acc⟩⟩ (jq n.toNat))=Option.map _ (match mw r with
   |some l=>some (jq n.toNat::l)
   |none=>none)
  have e:(adh ⟨⟨acc⟩⟩ (jq n.toNat))=⟨⟨acc++[jq n.toNat]⟩⟩:=by
   apply ByteArray.ext
   simp[adh]
  rw[e,ih]
  cases mw r with
  |none=>rfl
  |some l=>simp
noncomputable def Tp:Value->M Value
 | .slice (some ⟨b,off,none⟩) len _=>(jv b off len).bind fun vs=>match mw vs with
   |some l=> .ret (.string ⟨⟨l⟩⟩)
   |none=> .fail
 |x=>qf x
theorem afv:Tp=qf:=by
 funext x
 unfold Tp
 split
 ·rename_i b off len c
  unfold qf
  rw[pr]
  congr 1
  funext vs
  have:=afu vs []
  have e:(as0)=⟨⟨[]⟩⟩:=rfl
  rw[e,this]
  cases mw vs with
  |none=>rfl
  |some l=>simp
 ·rfl
noncomputable def wB (sz:Nat) (n:Nat):Value->M (List Value)
 | .slice (some ⟨b,off,none⟩) _ _=>jv b off (n*sz)
 | .string ⟨⟨l⟩⟩=> .ret ((l.take n).map fun b=>dG .u8 (.ofNat b.toNat))
 |_=> .fail
theorem td:wB=kU:=by
 funext sz n x
 cases x<;>try rfl
 ·rename_i s
  obtain⟨⟨l⟩⟩:=s
  unfold wB kU
  simp only
  congr 1
  simp[ac']
 ·rename_i a len cap
  cases a with
  |none=>rfl
  |some a=>
   obtain⟨b,off,p⟩:=a
   cases p with
   |none=>unfold wB kU;rw[pr]
   |some p=>rfl
noncomputable def over:List Value->List Value->List Value
 |[],cs=>cs
 |x::l,cs=>match cs with
  |[]=>[]
  |_::cs=>x::over l cs
noncomputable def te:List Value->Nat->List Value->List Value
 |cs,0,l=>over l cs
 |[],_+1,_=>[]
 |a::cs,off+1,l=>a::te cs off l
noncomputable def rC:List Value->Nat->List Value->List Value
 |cs,_,[]=>cs
 |cs,off,x::l=>rC (cs.set off x) (off+1) l
theorem LO(a:Value):∀(l cs:List Value) (off:Nat),rC (a::cs) (off+1) l=a::rC cs off l
 |[],_,_=>rfl
 |x::l,cs,off=>by
  show rC ((a::cs).set (off+1) x) (off+1+1) l=a::rC (cs.set off x) (off+1) l
  rw[List.set_cons_succ]
  exact LO a l _ _
theorem LP:∀(l:List Value) (off:Nat),rC [] off l=[]
 |[],_=>rfl
 |x::l,off=>by
  show rC (([]:List Value).set off x) (off+1) l=[]
  rw[List.set_nil]
  exact LP l _
theorem LQ:∀(l cs:List Value),over l cs=rC cs 0 l
 |[],_=>rfl
 |x::l,[]=>by rw[LP];rfl
 |x::l,c::cs=>by
  show x::over l cs=rC ((c::cs).set 0 x) (0+1) l
  rw[List.set_cons_zero,LO,LQ l cs]
theorem LR:∀(off:Nat) (cs l:List Value),te cs off l=rC cs off l
 |0,cs,l=>by
  have:te cs 0 l=over l cs:=by cases cs<;>rfl
  rw[this];exact LQ l cs
 |off+1,[],l=>by rw[LP];rfl
 |off+1,a::cs,l=>by
  rw[LO]
  show a::te cs off l=_
  rw[LR off cs l]
theorem Tq(off:Nat):∀(l:List Value) (j:Nat) (cells:Array Value),((l.zipIdx j).foldl (fun cs (x:Value×Nat)=>cs.setIfInBounds (off+x.2) x.1) cells).toList=rC cells.toList (off+j) l
 |[],_,_=>rfl
 |x::l,j,cells=>by
  rw[List.zipIdx_cons,List.foldl_cons,Tq off l (j+1)]
  rw[Array.toList_setIfInBounds]
  rfl
noncomputable def dU:Value->List Value
 | .agg ⟨l⟩=>l
 |v=>[v]
theorem rD(v:Value):dU v=v.cells.toList:=by
 cases v<;>rfl
noncomputable def wC (place:Nat->Option (Nat×Nat)) (cells:List Value):List (Nat×Value)->Option (List Value)
 |[]=>some cells
 |(i,v)::rest=>match place i with
  |none=>none
  |some (off,size)=>match cz (gO (dU v)) size&&bK (iO off (gO (dU v))) (gO cells)with
   |true=>wC place (te cells off (dU v)) rest
   |false=>none
theorem GS(place:Nat->Option (Nat×Nat)):∀(parts:List (Nat×Value)) (cells:Array Value),wC place cells.toList parts=(nY place cells parts).map (·.toList)
 |[],_=>rfl
 |(i,v)::rest,cells=>by
  unfold wC nY
  cases place i with
  |none=>rfl
  |some q=>
   obtain⟨off,size⟩:=q
   simp only
   rw[oD,oD,rD,wy,uS]
   have e1:v.cells.toList.length=v.cells.size:=by simp
   have e2:cells.toList.length=cells.size:=by simp
   rw[e1,e2]
   by_cases h1:v.cells.size=size
   ·by_cases h2:off+v.cells.size<=cells.size
    ·have qi:iO off v.cells.size<=cells.size:=h2
     have h3:¬off+v.cells.size>cells.size:=by omega
     rw[if_neg (by simp[h1];omega)]
     simp only[h1,qi,decide_true,Bool.and_true]
     rw[<-h1]
     simp only[qi,decide_true,Bool.true_and]
     rw[<-GS place rest]
     congr 1
     rw[LR]
     have:=Tq off v.cells.toList 0 cells
     rw[kQ]at this
     rw[<-this]
     congr 1
     rw[<-Array.foldl_toList,Array.toList_zipIdx]
    ·have qi:¬iO off v.cells.size<=cells.size:=h2
     rw[if_pos (by simp[h1];omega)]
     simp[h2,qi]
   ·rw[if_pos (by simp[h1])]
    simp[h1]
noncomputable def yS (v:Value) (n:Nat):List Value:=adg (motive:=fun _=>List Value) [] (fun _ ih=>v::ih) n
theorem Dz(v:Value):∀n:Nat,yS v n=List.replicate n v
 |0=>rfl
 |n+1=>by
  show v::yS v n=_
  rw[Dz v n];rfl
noncomputable def uT (a b:List Value):List Value:=FK (motive:=fun _=>List Value) b (fun v _ ih=>v::ih) a
noncomputable def yT (n n1:Nat) (L L2:List En):List En:=FK (motive:=fun _=>List En) L2 (fun e _ ih=>match bK n e.b with
 |true=>(match bK (gL e.b) n1 with
  |true=>ih
  |false=>e::ih)
 |false=>e::ih) L
theorem Ts(n n1:Nat)(L2:List En):∀L:List En,yT n n1 L L2=(L.filter fun e=> !(decide (n<=e.b)&&decide (e.b<n1)))++L2
 |[]=>rfl
 |e::L=>by
  show(match bK n e.b with
   |true=>(match bK (gL e.b) n1 with
    |true=>yT n n1 L L2
    |false=>e::yT n n1 L L2)
   |false=>e::yT n n1 L L2)=_
  rw[Ts n n1 L2 L,List.filter_cons,uS,uS]
  by_cases h1:n<=e.b
  ·by_cases h2:e.b<n1
   ·have h3:e.b.succ<=n1:=h2
    simp[h1,h2,h3]
   ·have h3:¬e.b.succ<=n1:=h2
    simp[h1,h2,h3]
  ·simp[h1]
noncomputable def eW {α β:Type} (m:M α) (k:α->M β):M β:=fun h n=>match m h n with
 |some ⟨a,h1,n1,L⟩=>(match k a h1 n1 with
  |some ⟨b,h2,n2,L2⟩=>some ⟨b,h2,n2,yT n n1 L L2⟩
  |none=>none)
 |none=>none
theorem nB{α β:Type}(m:M α)(k:α->M β):eW m k=(inside m).bind k:=by
 funext h n
 unfold eW M.bind inside
 cases hm:m h n with
 |none=>simp only[hm]
 |some o=>
  obtain⟨a,h1,n1,L⟩:=o
  simp only[hm,Ts]
  rfl
noncomputable def uU (p:En->Bool) (L:List En):Bool:=FK (motive:=fun _=>Bool) false (fun e _ ih=>match p e with
 |true=>true
 |false=>ih) L
theorem LS(p:En->Bool):∀L:List En,uU p L=L.any p
 |[]=>rfl
 |e::L=>by
  show(match p e with
   |true=>true
   |false=>uU p L)=_
  rw[LS p L,List.any_cons]
  cases p e<;>rfl
noncomputable def Bq (a b:Bool):Bool:=match a with
 |true=>b
 |false=>false
theorem Tt(a b:Bool):Bq a b=(a&&b):=by cases a<;>rfl
noncomputable def GU (x y:En):Bool:=match cz x.b y.b with
 |true=>(x.k==y.k||x.k.isNone||y.k.isNone)
 |false=>false
theorem afw(x y:En):GU x y=x.meets y:=by
 unfold GU En.meets
 rw[wy]
 by_cases h:x.b=y.b
 ·simp[h]
 ·have:(x.b==y.b)=false:=by simpa using h
  simp[h]
noncomputable def cT (a b:Tk):Bool:=
 match uU (fun x=>Bq x.wr (uU (fun y=>GU x y) b.log)) a.log with
 |true=>true
 |false=>match uU (fun x=>Bq x.wr (uU (fun y=>GU x y) a.log)) b.log with
  |true=>true
  |false=>match uU (fun x=>Bq (bK b.n x.b) (bK (gL x.b) b.n1)) a.log with
   |true=>true
   |false=>uU (fun x=>Bq (bK a.n x.b) (bK (gL x.b) a.n1)) b.log
theorem Br(a b:Tk):cT a b=a.cA b:=by
 have key:∀(n n1:Nat) (L:List En),(uU (fun x=>Bq (bK n x.b) (bK (gL x.b) n1)) L)=L.any fun x=>decide (n<=x.b)&&decide (x.b<n1):=fun n n1 L=>by
  rw[LS]
  congr 1
  funext x
  rw[Tt,uS,uS]
  rfl
 unfold cT Tk.cA
 rw[key,key]
 simp only[LS,Tt,afw]
 cases (a.log.any fun x=>x.wr&&b.log.any fun y=>x.meets y)<;>cases (b.log.any fun x=>x.wr&&a.log.any fun y=>x.meets y)<;>cases (a.log.any fun x=>decide (b.n<=x.b)&&decide (x.b<b.n1))<;>simp
noncomputable section
variable {β:Type}
def mT(f:IntKind->Int->Int->Value)(x y:Value)(k:Value->M β):M β:=match x with
 | .int a p=>match y with
   | .int b q=>match s9 a b with
     |true=>k (f a p q)
     |false=> .fail
   |_=> .fail
 |_=> .fail
def yU(f:Nat->Nat->Nat)(x y:Value)(k:Value->M β):M β:=match x with
 | .int a (.ofNat p)=>match y with
   | .int b (.ofNat q)=>match s9 a b with
     |true=>k (.int a (rA a (.ofNat (f (mc p (pw a)) (mc q (pw a))))))
     |false=> .fail
   |_=> .fail
 |_=> .fail
def aA(x y:Value)(k:Value->M β):M β:=match x with
 | .string ⟨⟨a⟩⟩=>match y with
   | .string ⟨⟨b⟩⟩=>match bK (iO (lC a) (lC b)) 9223372036854775807 with
     |true=>k (.string ⟨⟨GI a b⟩⟩)
     |false=> .fail
   |_=> .fail
 |x=>mT (fun k a b=> .int k (rA k (GB a b))) x y k
def cW(x y:Value)(k:Value->M β):M β:=mT (fun k a b=> .int k (rA k (GC a b))) x y k
def fo(x y:Value)(k:Value->M β):M β:=mT (fun k a b=> .int k (rA k (LC a b))) x y k
def aW(x y:Value)(k:Value->M β):M β:=match x with
 | .string ⟨⟨a⟩⟩=>match y with
   | .string ⟨⟨b⟩⟩=>k (.bool (uQ a b))
   |_=> .fail
 |x=>mT (fun _ a b=> .bool (sX a b)) x y k
def bz(x y:Value)(k:Value->M β):M β:=match x with
 | .string ⟨⟨a⟩⟩=>match y with
   | .string ⟨⟨b⟩⟩=>k (.bool (!uQ a b))
   |_=> .fail
 |x=>mT (fun _ a b=> .bool (!sX a b)) x y k
def bp(x y:Value)(k:Value->M β):M β:=mT (fun _ a b=> .bool (Bn a b)) x y k
def nC(x y:Value)(k:Value->M β):M β:=mT (fun _ a b=> .bool (GF a b)) x y k
def dJ(x y:Value)(k:Value->M β):M β:=mT (fun _ a b=> .bool (Bn b a)) x y k
def gV(x y:Value)(k:Value->M β):M β:=mT (fun _ a b=> .bool (GF b a)) x y k
def DA(x y:Value)(k:Value->M β):M β:=yU Nat.land x y k
def DB(x y:Value)(k:Value->M β):M β:=yU Nat.lor x y k
def rE(x y:Value)(k:Value->M β):M β:=yU Nat.xor x y k
def pA(x y:Value)(k:Value->M β):M β:=match x with
 | .int a (.ofNat p)=>match y with
   | .int _ (.ofNat q)=>k (.int a (rA a (.ofNat (Rz p (arl 2 (Nat.min q a.bits))))))
   |_=> .fail
 |_=> .fail
def tf(x y:Value)(k:Value->M β):M β:=match x with
 | .int a (.ofNat p)=>match y with
   | .int _ (.ofNat q)=>k (.int a (.ofNat (mI p (arl 2 (Nat.min q a.bits)))))
   |_=> .fail
 |_=> .fail
def lT(x y:Value)(k:Value->M β):M β:=match x with
 | .int a p=>match y with
   | .int b q=>match s9 a b with
     |true=>match sX q 0 with
      |true=> .fail
      |false=>k (.int a (rA a (Int.tdiv p q)))
     |false=> .fail
   |_=> .fail
 |_=> .fail
def rF(x y:Value)(k:Value->M β):M β:=match x with
 | .int a p=>match y with
   | .int b q=>match s9 a b with
     |true=>match sX q 0 with
      |true=> .fail
      |false=>k (.int a (Int.tmod p q))
     |false=> .fail
   |_=> .fail
 |_=> .fail
def LU(x y:Value)(k:Value->M β):M β:=match x with
 | .bool a=>match y with
   | .bool b=>k (.bool (match a with
     |true=>b
     |false=> !b))
   |_=> .fail
 |_=> .fail
def GV(x y:Value)(k:Value->M β):M β:=match x with
 | .bool a=>match y with
   | .bool b=>k (.bool (match a with
     |true=> !b
     |false=>b))
   |_=> .fail
 |_=> .fail
def GW(f:Bool->Bool)(x y:Value)(k:Value->M β):M β:=match x with
 | .pointer none=>match y with
   | .pointer b=>k (.bool (f b.isNone))
   |_=> .fail
 | .pointer (some _)=>match y with
   | .pointer none=>k (.bool (f false))
   |_=> .fail
 |_=> .fail
def GX(f:Bool->Bool)(x y:Value)(k:Value->M β):M β:=match x with
 | .slice none _ _=>match y with
   | .slice b _ _=>k (.bool (f b.isNone))
   |_=> .fail
 | .slice (some _) _ _=>match y with
   | .slice none _ _=>k (.bool (f false))
   |_=> .fail
 |_=> .fail
def GY(f:Bool->Bool)(x y:Value)(k:Value->M β):M β:=match x with
 | .nilFunc=>match y with
   | .nilFunc=>k (.bool (f true))
   | .func _ _ _=>k (.bool (f false))
   |_=> .fail
 | .func _ _ _=>match y with
   | .nilFunc=>k (.bool (f false))
   |_=> .fail
 |_=> .fail
def GZ(ds:List Nat)(x y:Value)(k:Value->M β):M β:=match x with
 | .agg ⟨l⟩=>match y with
   | .agg ⟨m⟩=>match lQ ds l m with
     |some b=>k (.bool b)
     |none=> .fail
   |_=> .fail
 |_=> .fail
def G0(ds:List Nat)(x y:Value)(k:Value->M β):M β:=match x with
 | .agg ⟨l⟩=>match y with
   | .agg ⟨m⟩=>match lQ ds l m with
     |some b=>k (.bool !b)
     |none=> .fail
   |_=> .fail
 |_=> .fail
def fT(x y:Value)(k:Value->M β):M β:=GW (fun b=>b) x y k
def pB(x y:Value)(k:Value->M β):M β:=GW (fun b=> !b) x y k
def DC(x y:Value)(k:Value->M β):M β:=GX (fun b=>b) x y k
def G1(x y:Value)(k:Value->M β):M β:=GX (fun b=> !b) x y k
def LV(x y:Value)(k:Value->M β):M β:=GY (fun b=>b) x y k
def LW(x y:Value)(k:Value->M β):M β:=GY (fun b=> !b) x y k
def hX(x:Value)(k:Value->M β):M β:=match x with
 | .bool b=>k (.bool (!b))
 |_=> .fail
def G2(x:Value)(k:Value->M β):M β:=match x with
 | .int a p=>k (.int a (rA a (GC 0 p)))
 |_=> .fail
def G3(x:Value)(k:Value->M β):M β:=match x with
 | .int .u32 (.ofNat p)=>match bK p 4294967295 with
   |true=>k (.int .u32 (.ofNat (Kk 4294967295 p)))
   |false=> .fail
 |_=> .fail
def dY(kd:IntKind)(x:Value)(k:Value->M β):M β:=match x with
 | .int _ p=>k (.int kd (rA kd p))
 |_=> .fail
def Tu(x:Value)(k:Value->M β):M β:=match x with
 | .string s=>k (.string s)
 |_=> .fail
def bO(x:Value)(k:Value->M β):M β:=match x with
 | .slice _ n _=>k (.int .i64 (.ofNat n))
 |_=> .fail
def bP(x:Value)(k:Value->M β):M β:=match x with
 | .string ⟨⟨l⟩⟩=>k (.int .i64 (.ofNat (lC l)))
 |_=> .fail
def nD(x y:Value)(k:Value->M β):M β:=match x with
 | .int a p=>match y with
   | .int _ q=>k (.int a (match Bn q p with
     |true=>q
     |false=>p))
   |_=> .fail
 |_=> .fail
def DD(x y z u v w:Value)(k:Value->M β):M β:=nD x y fun a=>nD a z fun a=>nD a u fun a=>nD a v fun a=>nD a w k
def yV(x y:Value)(k:Value->M β):M β:=match x with
 | .int a p=>match y with
   | .int _ q=>k (.int a (match Bn p q with
     |true=>q
     |false=>p))
   |_=> .fail
 |_=> .fail
def G4(c a b:Value)(k:Value->M β):M β:=match c with
 | .bool true=>k a
 | .bool false=>k b
 |_=> .fail
def az(x:Value)(k:Value->M β):M β:=match x with
 | .pointer (some a)=>k (.pointer (some a))
 | .func (.func f) a b=>k (.func (.func f) a b)
 |_=> .fail
def aq(K:Nat)(x:Value)(k:Value->M β):M β:=match x with
 | .pointer (some ⟨b,off,none⟩)=>k (.pointer (some ⟨b,iO off K,none⟩))
 |_=> .fail
def G5(K:Nat)(x:Value)(k:Value->M β):M β:=match x with
 | .agg ⟨l⟩=>match wA l K with
   |some v=>k v
   |none=> .fail
 |_=> .fail
def LX(K m:Nat)(x:Value)(k:Value->M β):M β:=match x with
 | .agg ⟨l⟩=>k (.agg ⟨(l.drop K).take m⟩)
 |_=> .fail
def dO(x ix:Value)(k:Value->M β):M β:=match x with
 | .slice (some ⟨b,off,none⟩) n _=>match ix with
   | .int _ (.ofNat i)=>match bK (gL i) n with
     |true=>k (.pointer (some ⟨b,iO off i,none⟩))
     |false=> .fail
   |_=> .fail
 |_=> .fail
def kG(sz:Nat)(x ix:Value)(k:Value->M β):M β:=match x with
 | .slice (some ⟨b,off,none⟩) n _=>match ix with
   | .int _ (.ofNat i)=>match bK (gL i) n with
     |true=>k (.pointer (some ⟨b,iO off (Rz i sz),none⟩))
     |false=> .fail
   |_=> .fail
 |_=> .fail
def iU(n:Nat)(x ix:Value)(k:Value->M β):M β:=match x with
 | .pointer (some ⟨b,off,none⟩)=>match ix with
   | .int _ (.ofNat i)=>match bK (gL i) n with
     |true=>k (.pointer (some ⟨b,iO off i,none⟩))
     |false=> .fail
   |_=> .fail
 |_=> .fail
def G6(n sz:Nat)(x ix:Value)(k:Value->M β):M β:=match x with
 | .pointer (some ⟨b,off,none⟩)=>match ix with
   | .int _ (.ofNat i)=>match bK (gL i) n with
     |true=>k (.pointer (some ⟨b,iO off (Rz i sz),none⟩))
     |false=> .fail
   |_=> .fail
 |_=> .fail
def da(x ix:Value)(k:Value->M β):M β:=match x with
 | .string ⟨⟨l⟩⟩=>match ix with
   | .int _ (.ofNat i)=>match uR l i with
     |some c=>k (.int .u8 (.ofNat c.toNat))
     |none=> .fail
   |_=> .fail
 |_=> .fail
def Bs(n:Nat)(x ix:Value)(k:Value->M β):M β:=match x with
 | .agg ⟨l⟩=>match ix with
   | .int _ (.ofNat i)=>match bK (gL i) n with
     |true=>match wA l i with
      |some v=>k v
      |none=> .fail
     |false=> .fail
   |_=> .fail
 |_=> .fail
def aP(x:Value)(i:Nat)(k:Value->M β):M β:=match x with
 | .tuple ⟨l⟩=>match wA l i with
   |some v=>k v
   |none=> .fail
 |_=> .fail
def uV(o:Option Value)(d:Nat):Option Nat:=match o with
 |none=>some d
 |some (.int _ (.ofNat i))=>some i
 |_=>none
def bU(x:Value)(lo hi:Option Value)(k:Value->M β):M β:=match x with
 | .string ⟨⟨l⟩⟩=>match uV lo 0 with
   |some a=>match uV hi (lC l)with
    |some b=>match bK a b with
     |true=>match bK b (lC l)with
      |true=>k (.string ⟨⟨(l.drop a).take (Kk b a)⟩⟩)
      |false=> .fail
     |false=> .fail
    |none=> .fail
   |none=> .fail
 |_=> .fail
def ar(x:Value)(k:Value->M β):M β:=match x with
 | .pointer (some ⟨b,off,none⟩)=>eW (Bp b off) k
 |_=> .fail
def bx(sz:Nat)(x:Value)(k:Value->M β):M β:=match x with
 | .pointer (some ⟨b,off,none⟩)=>eW ((jv b off sz).bind fun vs=> .ret (.agg ⟨vs⟩)) k
 |_=> .fail
def aZ(a x:Value)(k:Value->M β):M β:=match a with
 | .pointer (some ⟨b,off,none⟩)=>match one x with
   |true=>eW ((yP b off x).bind fun _=> .ret undef) k
   |false=> .fail
 |_=> .fail
def aX(sz:Nat)(a x:Value)(k:Value->M β):M β:=match a with
 | .pointer (some ⟨b,off,none⟩)=>match x with
   | .agg ⟨l⟩=>match cz (gO l) sz with
     |true=>eW ((rB b off l).bind fun _=> .ret undef) k
     |false=> .fail
   |_=> .fail
 |_=> .fail
def di(e:TypeId)(z:List Value)(k:Value->M β):M β:=eW ((kF e z).bind fun id=> .ret (.pointer (some ⟨id,0,none⟩))) k
def iD(e:TypeId)(v:Value)(k:Value->M β):M β:=eW ((kF e (dU v)).bind fun id=> .ret (.pointer (some ⟨id,0,none⟩))) k
def fU:List Value->List (Nat×Nat×Value)->Option (List Value)
 |cs,[]=>some cs
 |cs,q::r=>match cz (gO (dU q.2.2)) q.2.1 with
  |true=>match bK (iO q.1 (gO (dU q.2.2))) (gO cs)with
   |true=>fU (te cs q.1 (dU q.2.2)) r
   |false=>none
  |false=>none
def bB(z:List Value)(ps:List (Nat×Nat×Value))(k:Value->M β):M β:=match fU z ps with
 |some cs=>k (.agg ⟨cs⟩)
 |none=> .fail
def cX(e:TypeId)(sz:Nat)(v:Value)(k:Value->M β):M β:=match cz (gO (dU v)) sz with
 |true=>eW ((kF e (dU v)).bind fun id=> .ret (.slice (some ⟨id,0,none⟩) 1 1)) k
 |false=> .fail
def oE(e:TypeId)(z:List Value)(len:Nat)(ps:List (Nat×Nat×Value))(k:Value->M β):M β:=match fU z ps with
 |some cs=>eW ((kF e cs).bind fun id=> .ret (.slice (some ⟨id,0,none⟩) len len)) k
 |none=> .fail
def lD(z:List Value):Nat->List Value
 |0=>[]
 |n+1=>uT z (lD z n)
def uW(e:TypeId)(z:List Value)(l c:Value)(k:Value->M β):M β:=match l with
 | .int _ (.ofNat l)=>match c with
   | .int _ (.ofNat c)=>match bK l c with
     |true=>match bK c 1099511627776 with
      |true=>eW ((kF e (lD z c)).bind fun id=> .ret (.slice (some ⟨id,0,none⟩) l c)) k
      |false=> .fail
     |false=> .fail
   |_=> .fail
 |_=> .fail
def yW(sz:Nat)(a:Option Addr)(len cap:Nat)(lo hi:Option Value):Option Value:=match fH hi len,fH lo 0 with
 |some h,some l=>
  if l<=h&&h<=cap&&cap<=cap&&(cap<bq||((none:Option Value).isNone&&h<=len))then
   match a with
   |none=>some (.slice none (h-l) (cap-l))
   |some ⟨b,off,none⟩=>some (.slice (some ⟨b,if cap=l then off else off+l*sz,none⟩) (h-l) (cap-l))
   |_=>none
  else none
 |_,_=>none
def Bt(e:TypeId)(sz:Nat)(x:Value)(lo hi:Option Value)(k:Value->M β):M β:=match x with
 | .slice none len cap=>match yW sz none len cap lo hi with
   |some v=>k v
   |none=> .fail
 | .slice (some ⟨b,off,none⟩) len cap=>eW ((Dx b).bind fun e'=>match cz e' e with
   |true=>M.lift (yW sz (some ⟨b,off,none⟩) len cap lo hi)
   |false=> .fail) k
 |_=> .fail
def Bu(e:TypeId)(n sz b off l cap:Nat)(new:List Value):M Value:=
 if cap<bq then
  if l+n<=cap then(rB b (off+l*sz) new).bind fun _=> .ret (.slice (some ⟨b,off,none⟩) (l+n) cap)
  else(jv b off (l*sz)).bind fun old=>(kF e (old++new)).bind fun id=> .ret (.slice (some ⟨id,0,none⟩) (l+n) (bq+(l+n)))
 else(jv b off (l*sz)).bind fun old=>(LN b).bind fun _=>(kF e (old++new)).bind fun id=> .ret (.slice (some ⟨id,0,none⟩) (l+n) (bq+(l+n)))
def lE(e:TypeId)(sz:Nat)(s x:Value):M Value:=match ic x with
 |some n=>
  if n=0 then(match s with| .slice _ _ _=> .ret s|_=> .fail)else
  match s with
  | .slice none 0 0=>if n<=1099511627776 then(wB sz n x).bind fun new=>if new.length=n*sz&&new.all one then(kF e ([]++new)).bind fun id=> .ret (.slice (some ⟨id,0,none⟩) (0+n) (bq+(0+n)))else .fail else .fail
  | .slice (some ⟨b,off,none⟩) l cap=>
    if l+n<=1099511627776 then
    (Dx b).bind fun e'=>if e'=e then
      (wB sz n x).bind fun new=>if new.length=n*sz&&new.all one then Bu e n sz b off l cap new else .fail
    else .fail
    else .fail
  |_=> .fail
 |none=> .fail
def dj(e:TypeId)(sz:Nat)(s x:Value)(k:Value->M β):M β:=eW (lE e sz s x) k
def yX(sz:Nat)(d s:Value):M Value:=match d,ic s with
 | .slice a dl _,some sl=>
   if 0<Nat.min sl dl then(match a with
    |some ⟨b,off,none⟩=>(wB sz (Nat.min sl dl) s).bind fun vs=>(rB b off vs).bind fun _=> .ret (.int .i64 (Nat.min sl dl))
    |_=> .fail)
   else .ret (.int .i64 0)
 |_,_=> .fail
def G7(sz:Nat)(d s:Value)(k:Value->M β):M β:=eW (yX sz d s) k
def lU(x:Value)(k:Value->M β):M β:=match x with
 | .slice (some ⟨b,off,none⟩) len _=>eW ((jv b off len).bind fun vs=>match mw vs with
   |some l=> .ret (.string ⟨⟨l⟩⟩)
   |none=> .fail) k
 | .slice none _ _=>k (.string ⟨⟨[]⟩⟩)
 |_=> .fail
def Bv(e:TypeId)(x:Value)(k:Value->M β):M β:=match x with
 | .string ⟨⟨l⟩⟩=>match bK (lC l) 1099511627776 with
   |true=>eW ((kF e (l.map fun b=>dG .u8 (.ofNat b.toNat))).bind fun id=> .ret (.slice (some ⟨id,0,none⟩) (lC l) (bq+lC l))) k
   |false=> .fail
 |_=> .fail
def ay(R:FuncId->Array Value->M Value)(f:FuncId)(vs:List Value)(k:Value->M β):M β:=eW (R f ⟨vs⟩) k
end
end Go.Proofs.YtmjolmggelkjlaaGreat.Ev
