import Derived.Test.YtdagfcflbphoiaaGreatDoorMaa
open Int renaming natCast_nonneg→aa, ofNat→g9, negSucc→ama
open Nat renaming le_refl→av, ble→bx, beq→bK, succ→eT, lt_succ_self→fp, add→fS, le_of_ble_eq_true→fY, zero_add→iO, mod→j5, div→kF, add_mul→lj, eq_of_beq_eq_true→lk, ble_eq_true_of_le→lR, add_zero→mH, lt_of_lt_of_le→qJ, pred→se, sub→On, mul→Oo, ne_of_beq_eq_false→aa0, rec→aa1, eq_zero_or_pos→alZ, pow→ame
open List renaming getD_eq_getElem?_getD→aF, getElem?_eq_getElem→aM, length_append→aY, rec→Cq, all_eq_true→Oc, map_map→Oi, any_nil→aaW, mapM_cons→alY, extract_eq_take_drop→al4
open Bool renaming and_eq_true→cb, false_eq_true→sd, or_eq_true→xI, or_eq_false_iff→xJ, and_false→Hm, not_eq_true'→Om, false_or→aaL, or_false→aaX
open Go.Op renaming operands→dR, equal→zL, maxDepth→aaT, equalIn→aaU, stringOp→aa3, intDiv→amf, shift→amg
open Option.some renaming injEq→ee
open Go.Sem renaming run_bind→eI, run_pure→oI, bind→zG
open Go.Result renaming andThen→fi
open Go.Region renaming wanted→fJ
open BitVec renaming ofInt→gF
open Go.Value renaming int→gZ
open Go renaming binOp→g8
open Go.Builtin renaming firstCells→kE, append_→zK, zeroCells→Hk, copy_→Hl, len_→Oj, lenOf→aaR
open Go.Instr renaming fill→lQ, index→Co, sliceAt→Cp, sliceBound→Of
open UInt8 renaming ofNat→nB
open Array renaming toList_map→qK, ext'→Od, mem_append→al'
open Go.RowKit.Below renaming refl→r7
open Go.Call renaming operands→zI
open Option renaming map_some→Ch, mem_def→aaV
open Go.IntKind renaming bits→Hn, wrap→aaY, signed→aaZ
open Function renaming comp_def→Oh
open Go.Next renaming value→Oq
open Go.Question renaming cut→aaO, forced→al3
open ByteArray renaming data_extract→aaS, push→aa2, empty→anM, size→anN
open Go.World renaming cell?→alM
open List.cons renaming inj→amb
open Go.Deferred renaming ofValue→anK
open Int.ofNat renaming inj→anL
open Go.ByteArray renaming toList_eq→anO
set_option linter.unusedVariables false
set_option linter.unusedSimpArgs false
namespace Go.Proofs.YtdagfcflbphoiaaGreatDoor.Ev
open Go Go.RowKit
section
variable {P:Program} {base:Nat} {m:Mp} {w:World} {h h1:H} {n n1:Nat} {r:Value} {L:List En}
theorem q8{x x':Value}{k:Nat}(hx:VR m x x')(hl:gO x=some k)(w:World):(aaR x').run P w= .ok k w:=by
 cases hx<;>simp[gO]at hl<;>subst hl<;>rfl
theorem Ih{sz k j0:Nat}{x x':Value}{vs:List Value}(hx:VR m x x')(hl:gO x=some k)(h0:0<k)(wr:WR P m base h w.heap)(hr:j8 sz j0 x h n=some ⟨vs,h1,n1,L⟩):
 h1=h∧n1=n∧∃dh,ba m vs dh∧∀w2:World,w2.heap=w.heap->(kE sz j0 x').run P w2= .ok dh.toArray w2:=by
 unfold j8 at hr
 split at hr
 ·rename_i b off l c
  simp[gO]at hl
  subst hl
  cases hx with
  |@fV _ _ _ _ cG o' d hd ho c1 c2 c3 c4=>
   obtain⟨rfl,rfl,hlen,dh,fE,eh⟩:=uN wr hd hr
   refine⟨rfl,rfl,dh,fE,fun w2 hZ=> ?_⟩
   have fN:dh.length=j0*sz:=by rw[<-fE.length,hlen]
   have:=xX (P:=P) (w:=w2) (c:=d.dJ) (o:=d.sh+off) (vs:=dh) (fun j v hj=>by
    have:=eh j v hj
    unfold alM at this⊢
    rw[hZ];exact this)
   rw[fN]at this
   simp only[kE,ho (.inl h0)]
   exact this
 ·rename_i s
  simp[gO]at hl
  subst hl
  cases hx
  obtain⟨rfl,rfl,rfl⟩:=bD hr
  refine⟨rfl,rfl,_,ba.mN rfl (fun j v hj=>⟨v,hj, ?_⟩),fun w2 _=>by
   simp[kE]
   apply Od
   simp⟩
  have hm:=List.mem_of_getElem? hj
  simp only[aaS,Array.map_extract,Array.toList_extract,al4,List.drop_zero,qK]at hm
  have hm:=List.mem_of_mem_take hm
  simp at hm
  obtain⟨b,_,rfl⟩:=hm
  exact .int _ _
 ·cases hr
theorem ab9{c o:Nat}{e:TypeId}{lo hi:Nat}:∀(vs:List Value) (i:Nat) (w:World) (cs:Array Value),w.heap[c]? =some (.cells cs e (lo,hi))->(∀j,j<vs.length->o+i+j<cs.size∧¬(lo<=o+i+j∧o+i+j<hi))->(∀v∈vs,Ev.one v=true)->base<=c->
 ∃w' cs',(storeCells ⟨c,o,none⟩ vs i).run P w= .ok () w'∧w'.heap[c]? =some (.cells cs' e (lo,hi))∧cs'.size=cs.size∧(∀j,cs'[j]? =if o+i<=j∧j<o+i+vs.length then vs[j-(o+i)]? else cs[j]?)∧(∀b,b≠c->w'.heap[b]? =w.heap[b]?)∧Below base w w':=by
 intro vs
 induction vs with
 |nil=>intro i w cs hg _ _ _;exact⟨w,cs,rfl,hg,rfl,fun j=>by rw[if_neg (by simp)],fun _ _=>rfl,r7 _ _⟩
 |cons v vs ih=>
  intro i w cs hg bP h1 hb
  obtain⟨bf,fF⟩:=bP 0 (by simp)
  have jj:(w.setCell ⟨c,o+i,none⟩ v).heap[c]? =some (.cells (cs.setIfInBounds (o+i) v) e (lo,hi)):=by
   simp only[World.setCell,Array.getElem?_modify,if_true,hg]
   simp
  obtain⟨w',cs',a1,a2,a3,a4,a5,a6⟩:=ih (i+1) (w.setCell ⟨c,o+i,none⟩ v) _ jj (fun j hj=>by
   have:=bP (j+1) (by simpa using hj)
   rw[show o+(i+1)+j=o+i+(j+1) by omega]
   simpa using this) (fun u hu=>h1 u (by simp[hu])) hb
  refine⟨w',cs', ?_,a2,by rw[a3];simp,fun j=> ?_,fun b Pg=> ?_,((r7 base w).setCell (p:=⟨c,o+i,none⟩) hb _).trans a6⟩
  ·unfold storeCells
   rw[nO]
   show(zG (store _ _) _).run P w=_
   unfold store
   simp only[zG]
   rw[OT (by rw[uM w _ _ hg];simpa using bf) (by
    unfold World.frozen?
    simp only[hg,Bool.and_eq_false_iff,decide_eq_false_iff_not]
    omega) (h1 v (by simp))]
   exact a1
  ·rw[a4 j]
   simp only[List.length_cons]
   by_cases hj:o+(i+1)<=j∧j<o+(i+1)+vs.length
   ·rw[if_pos hj,if_pos (by omega)]
    rw[show j-(o+i)=(j-(o+(i+1)))+1 by omega]
    simp
   ·rw[if_neg hj]
    by_cases e2:j=o+i
    ·subst e2
     rw[if_pos (by omega)]
     simp at bf
     simp[bf]
    ·rw[if_neg (by omega),Array.getElem?_setIfInBounds_ne (by omega)]
  ·rw[a5 b Pg,Below.heap_setCell w _ _ _ Pg]
theorem Ii {dk:Array TypeId} {t u ty e:TypeId} {i:TypeInfo} {x:Value} {k:Nat} {news:List Value} {b off l cap:Nat} {w':World} (ki:dk[0]? =some t) (jM:dk[1]? =some u) (ht:P.underlying t=some (.slice e)) (hu:(∃e',P.underlying u=some (.slice e'))∨P.underlying u=some .string) (hi:P.info? e=some i)
 (hl:(aaR x).run P w= .ok k w) (oU:l+k<=cap) (hx:(kE i.size k x).run P w= .ok news.toArray w) (eE:(storeCells ⟨b,off+l*i.size,none⟩ news).run P w= .ok () w'):
 (zK dk ty #[.slice (some ⟨b,off,none⟩) l cap,x]).run P w= .ok (.slice (some ⟨b,off,none⟩) (l+k) cap) w':=by
 rcases hu with ⟨e',hk⟩|hk<;>simp[zK,ki,jM,run_underlying ht,run_underlying hk,sizeOf,typeInfo,hi,hl,oU,hx,nO,eE]
theorem Ij {dk:Array TypeId} {t u ty e:TypeId} {i:TypeInfo} {z:Value} {x:Value} {k:Nat} {olds news:List Value} {bo:Option Addr} {l cap:Nat} (ki:dk[0]? =some t) (jM:dk[1]? =some u) (ht:P.underlying t=some (.slice e)) (hu:(∃e',P.underlying u=some (.slice e'))∨P.underlying u=some .string) (hi:P.info? e=some i) (hz:i.zero=some z)
 (hl:(aaR x).run P w= .ok k w) (oU:cap<l+k) (hsm:l+k<=1099511627776) (Aa:i.bytes<=64) (hx:(kE i.size k x).run P w.drew= .ok news.toArray w.drew) (ho:(kE i.size l (.slice bo l cap)).run P w.drew= .ok olds.toArray w.drew):
 (zK dk ty #[.slice bo l cap,x]).run P w= .ok (.slice (some ⟨w.heap.size,0,none⟩) (l+k) (grownCap w (l+k) cap e))
   (w.drew.alloc (.cells ((olds++news).toArray++Hk z.cells (grownCap w (l+k) cap e-(l+k))) e)):=by
 have hn:¬(l+k<=cap):=by omega
 have ab':¬(9223372036854775807<((l:Int)+(k:Int))):=by omega
 have Ph:=growslice_fits (need:=l+k) (old:=cap) (bytes:=i.bytes) oU (by
  have:=Nat.mul_le_mul hsm Aa
  omega)
 have ab_:¬(281474976710656<Builtin.nextslicecap (l+k) cap*i.bytes):=by omega
 rcases hu with ⟨e',hk⟩|hk<;>
  (simp[zK,ki,jM,run_underlying ht,run_underlying hk,sizeOf,typeInfo,zeroValue,hi,hz,hl,hn,ab',ab_,al3,hx,ho,newRow,grownCap]
   congr 2
   apply Od
   simp[List.append_assoc])
theorem size_zeroCells(z:Array Value)(k:Nat):(Hk z k).size=k*z.size:=by simp[Hk]
theorem aca(w:World)(need old:Nat)(e:TypeId):need<=grownCap w need old e:=by unfold grownCap aaO;exact Nat.le_add_right _ _
theorem Ik {e:TypeId} {i:TypeInfo} {z:Value} {l k cap:Nat} {old new old' oV:List Value} (x:WR P m base h w.heap) (hb:base<=w.heap.size) (hf:ic m n n1) (hi:P.info? e=some i) (p8:z.cells.size=i.size) (ho:ba m old old') (hn:ba m new oV) (ir:old.length=l*i.size) (yb:new.length=k*i.size)
 (hr:nF e l k old new h n=some ⟨r,h1,n1,L⟩):∃m',cK P m base n n1 w h1 m' (w.drew.alloc (.cells ((old'++oV).toArray++Hk z.cells (grownCap w (l+k) cap e-(l+k))) e))∧
   VR m' r (.slice (some ⟨w.heap.size,0,none⟩) (l+k) (grownCap w (l+k) cap e)):=by
 unfold nF at hr
 obtain⟨id,h2,n2,L1,L2,e1,e2,_⟩:=bind_some hr
 obtain⟨rfl,rfl,rfl⟩:=bD e2
 have hc:=aca w (l+k) cap e
 have yc:=ho.append hn
 have hlen:=yc.length
 obtain⟨rfl,rfl,m',dz,hp⟩:=uO (w:=w.drew) (P:=P) (m:=m) (base:=base) x e1 hf hb (cs':=(old'++oV).toArray++Hk z.cells (grownCap w (l+k) cap e-(l+k))) (by simp at hlen⊢;omega) (fun j v hj=>by
  obtain⟨v',bX,oR⟩:=yc.get j v hj
  refine⟨v', ?_,oR⟩
  have:j<(old'++oV).length:=by
   rcases Nat.lt_or_ge j (old'++oV).length with q|q
   ·exact q
   ·rw[List.getElem?_eq_none q]at bX;cases bX
  rw[Array.getElem?_append_left (by simpa using this)]
  simpa using bX) (esz:=i.size) (by simp[size?,hi])
 refine⟨m',⟨hp.le,hp.out,hp.wr,(Below.drew (r7 base w)).trans hp.below⟩,VR.fV dz (fun _=>rfl) (fun q=>by unfold bc at q;omega) (fun _=>⟨av _,by omega⟩) hc ?_⟩
 simp only[Array.size_append,size_zeroCells,p8,List.size_toArray,<-hlen,aY,ir,yb]
 rw[<-lj,<-lj,iO]
 exact Nat.le_of_eq (by congr 1;omega)
theorem acb {dk:Array TypeId} {t u ty:TypeId} {s s' x x':Value} (ki:dk[0]? =some t) (jM:dk[1]? =some u) (hu:(∃e',P.underlying u=some (.slice e'))∨P.underlying u=some .string) (hs:VR m s s') (hx:VR m x x') (wr:WR P m base h w.heap) (hb:base<=w.heap.size) (hf:ic m n n1)
 (hr:pR P t s x h n=some ⟨r,h1,n1,L⟩):Sound P base m w h n (zK dk ty #[s',x']) r h1 n1:=by
 unfold pR at hr
 cases ht:P.underlying t with
 |none=>rw[ht]at hr;cases hr
 |some dt=>
  rw[ht]at hr
  cases dt<;>try(cases hr;done)
  rename_i e
  simp only at hr
  cases hi:P.info? e with
  |none=>rw[hi]at hr;cases hr
  |some ie=>
   cases hz:fK P e with
   |none=>rw[hi,hz]at hr;cases hr
   |some z=>
    cases hl:gO x with
    |none=>rw[hi,hz,hl]at hr;cases hr
    |some k=>
     rw[hi,hz,hl]at hr
     simp only at hr
     obtain⟨i2,ke,lX⟩:=CK hz
     rw[hi]at ke;cases ke
     split at hr
     ·rename_i jm
      simp only[cb,decide_eq_true_eq]at jm
      obtain⟨⟨p8,Pd⟩,Aa⟩:=jm
      by_cases hk:k=0
      ·rw[if_pos hk]at hr
       subst hk
       cases hs<;>try(cases hr;done)
       case mO l cap fW=>
        obtain⟨rfl,rfl,rfl⟩:=bD hr
        refine⟨m,w,.slice none l cap, ?_,cK.refl wr,.mO _ _ fW⟩
        have Ab:(kE ie.size 0 x').run P w= .ok #[] w:=by
         cases hx<;>simp[gO]at hl<;>simp[kE,loadCells,loadCellsFrom]
        have:=q8 (P:=P) hx hl w
        rcases hu with ⟨e',hk⟩|hk<;>simp[zK,ki,jM,run_underlying ht,run_underlying hk,sizeOf,typeInfo,hi,this,fW.1,Ab]
       case pX b off s a'=>
        obtain⟨rfl,rfl,rfl⟩:=bD hr
        refine⟨m,w,.slice (some a') 0 0, ?_,cK.refl wr,.pX _ _ _ _⟩
        have Ab:(kE ie.size 0 x').run P w= .ok #[] w:=by
         cases hx<;>simp[gO]at hl<;>simp[kE,loadCells,loadCellsFrom]
        have:=q8 (P:=P) hx hl w
        rcases hu with ⟨e',hk⟩|hk<;>simp[zK,ki,jM,run_underlying ht,run_underlying hk,sizeOf,typeInfo,hi,this,Ab,storeCells]
       case fV b off l cap cG o' d hd ho c1 c2 c3 c4=>
        obtain⟨rfl,rfl,rfl⟩:=bD hr
        refine⟨m,w,_, ?_,cK.refl wr,.fV hd ho c1 c2 c3 c4⟩
        have Ab:(kE ie.size 0 x').run P w= .ok ([]:List Value).toArray w:=by
         cases hx<;>simp[gO]at hl<;>simp[kE,loadCells,loadCellsFrom]
        have:=Ii (P:=P) (ty:=ty) ki jM ht hu hi (q8 (P:=P) hx hl w) (b:=d.dJ) (off:=o') (l:=l) (cap:=cG) (by omega) Ab (w':=w) rfl
        simpa using this
      ·rw[if_neg hk]at hr
       have Pj:0<k:=by omega
       cases hs<;>try(cases hr;done)
       case mO l cap fW=>
        cases l<;>try(cases hr;done)
        cases cap<;>try(cases hr;done)
        simp only at hr
        split at hr
        ·rename_i Il
         obtain⟨new,h2,n2,L1,L2,e1,e2,_⟩:=bind_some hr
         obtain⟨rfl,rfl,oV,hn,sQ⟩:=Ih hx hl Pj wr e1
         split at e2
         ·rename_i hc
          simp only[cb,decide_eq_true_eq]at hc
          obtain⟨m',hp,hv⟩:=Ik (cap:=0) (old:=[]) (old':=[]) (l:=0) wr hb hf hi p8 .nil hn (by simp) hc.1 e2
          refine⟨m',_,_, ?_,hp,hv⟩
          exact Ij (P:=P) ki jM ht hu hi lX (q8 (P:=P) hx hl w) (by omega) (by omega) Aa (sQ _ rfl) (by simp[kE])
         ·cases e2
        ·cases hr
       case fV b off l cap cG o' d hd ho c1 c2 c3 c4=>
        simp only at hr
        split at hr
        ·rename_i Il
         obtain⟨e',h2,n2,L1,L2,e1,e2,_⟩:=bind_some hr
         obtain⟨rfl,rfl,d2,u0,oS,B0,Pl,hBe⟩:=OS wr e1
         rw[hd]at u0;cases u0
         split at e2
         ·rename_i he
          subst he
          have Im:ie.size=d.esz:=by simpa[size?,hi]using oS
          obtain⟨new,h3,n3,L3,L4,e3,e4,_⟩:=bind_some e2
          obtain⟨rfl,rfl,oV,hn,sQ⟩:=Ih hx hl Pj wr e3
          split at e4
          ·rename_i hc
           simp only[cb,decide_eq_true_eq]at hc
           obtain⟨yb,acd⟩:=hc
           have ace:oV.length=k*ie.size:=by rw[<-hn.length];exact yb
           have acf:∀v∈oV,Ev.one v=true:=by
            intro v hv
            obtain⟨j,hj⟩:=List.mem_iff_getElem?.1 hv
            have eM:j<new.length:=by
             rw[hn.length]
             exact(List.getElem?_eq_some_iff.1 hj).1
            obtain⟨v2,iq,gh⟩:=hn.get j new[j] (by simp[eM])
            rw[hj]at iq;cases iq
            rw[gh.one]
            exact Oc.1 acd _ (List.getElem_mem eM)
           unfold uH at e4
           by_cases fW:cap<bc
           ·rw[if_pos fW]at e4
            have xW:=c1 fW
            subst xW
            have qV:=ho (.inr fW)
            subst qV
            by_cases oU:l+k<=cG
            ·rw[if_pos oU]at e4
             obtain⟨uu,h5,n5,L5,L6,e5,e6,_⟩:=bind_some e4
             obtain⟨rfl,rfl,rfl⟩:=bD e6
             cases uu
             obtain⟨rfl,w',eE,x2,ew⟩:=HL hd hn (i:=0) (d.sh+off+l*ie.size) (by omega) wr e5
             refine⟨m,w',_, ?_,⟨Le.refl _,fun _ _=>rfl,x2,ew⟩,.fV hd (fun _=>rfl) (fun _=>rfl) (fun q=>by omega) (by omega) c4⟩
             exact Ii (P:=P) ki jM ht hu hi (q8 (P:=P) hx hl w) oU (sQ w rfl) eE
            ·rw[if_neg oU]at e4
             obtain⟨old,h5,n5,L5,L6,e5,e6,_⟩:=bind_some e4
             obtain⟨rfl,rfl,ir,old',kj,CO⟩:=uN wr hd e5
             obtain⟨m',hp,hv⟩:=Ik (cap:=cG) wr hb hf hi p8 kj hn ir yb e6
             refine⟨m',_,_, ?_,hp,hv⟩
             refine Ij (P:=P) ki jM ht hu hi lX (q8 (P:=P) hx hl w) (by omega) Il Aa (sQ _ rfl) ?_
             have:=xX (P:=P) (w:=w.drew) (c:=d.dJ) (o:=d.sh+off) (vs:=old') CO
             rw[<-kj.length,ir]at this
             simpa[kE]using this
           ·rw[if_neg fW]at e4
            obtain⟨old,h5,n5,L5,L6,e5,e6,_⟩:=bind_some e4
            obtain⟨rfl,rfl,ir,old',kj,CO⟩:=uN wr hd e5
            obtain⟨uu,h7,n7,L7,L8,e7,e8,_⟩:=bind_some e6
            unfold kill at e7
            split at e7
            ·split at e7
             ·rename_i ko _ B hB
              split at e7
              ·rename_i oP
               simp only[ee,Out.mk.injEq]at e7
               obtain⟨_,rfl,rfl,_⟩:=e7
               have xk:=wr.kill hB
               have acg:∀(w2:World),w2.heap=w.heap->(kE ie.size l (.slice (some ⟨d.dJ,o',none⟩) l cG)).run P w2= .ok old'.toArray w2:=by
                intro w2 hZ
                have hq:∀j v,old'[j]? =some v->w2.cell? ⟨d.dJ,o'+j,none⟩=some v:=by
                 intro j v hj
                 have eM:j<old'.length:=(List.getElem?_eq_some_iff.1 hj).1
                 have qa:0<l:=by
                  rcases alZ l with q|q
                  ·rw[<-kj.length,ir,q]at eM;simp at eM
                  ·exact q
                 rw[ho (.inl qa)]
                 have:=CO j v hj
                 unfold alM at this⊢
                 rw[hZ];exact this
                have:=xX (P:=P) hq
                rw[<-kj.length,ir]at this
                simpa[kE]using this
               by_cases oU:l+k<=cG
               ·
                obtain⟨dB,cs,lo,ke,b1,b2,b3,b4,b5,b6,b7⟩:=wr.live b B hB
                rw[hd]at b1;cases b1
                obtain⟨nQ,sI,fF⟩:=b6 oP
                have hmul:l*d.esz+k*d.esz<=cG*d.esz:=by rw[<-lj];exact Nat.mul_le_mul_right _ oU
                obtain⟨w',cs',s1,s2,s3,s4,s5,s6⟩:=ab9 (P:=P) (base:=base) (o:=o'+l*ie.size) oV 0 w cs b2 (fun j hj=>by
                 rw[ace,Im]at hj
                 rw[Im]
                 exact⟨by omega,fF _ (by omega)⟩) acf sI
                unfold nF at e8
                obtain⟨id,h9,n9,L9,L10,e9,e10,_⟩:=bind_some e8
                obtain⟨rfl,rfl,rfl⟩:=bD e10
                unfold cY at e9
                split at e9
                ·rename_i ana
                 simp only[ee,Out.mk.injEq]at e9
                 obtain⟨rfl,rfl,rfl,_⟩:=e9
                 have hBB:B.elem=e':=by rw[hB]at Pl;cases Pl;exact hBe
                 rw[nQ,hBB]at s2
                 have dF:m n5=none:=hf n5 (av _) (by omega)
                 obtain⟨m',dz⟩:∃m':Mp,m'=fun q=>if q=n5 then some ⟨d.dJ,o',d.uL,d.esz,e'⟩else m q:=⟨_,rfl⟩
                 have u3:m' n5=some ⟨d.dJ,o',d.uL,d.esz,e'⟩:=by rw[dz];simp
                 have Ac:∀q,q≠n5->m' q=m q:=fun q hq=>by rw[dz];simp[hq]
                 have hle:Le m m':=fun q dd hq=>by
                  by_cases e:q=n5
                  ·subst e;rw[dF]at hq;cases hq
                  ·rw[Ac q e];exact hq
                 refine⟨m',w',.slice (some ⟨d.dJ,o',none⟩) (l+k) cG, ?_,⟨hle,fun q hq=>Ac q (by omega),⟨?_, ?_⟩,s6⟩,VR.fV (d:=⟨d.dJ,o',d.uL,d.esz,e'⟩) u3 (fun _=>rfl) (fun q=>by unfold bc at*;omega) (fun _=>⟨av _,by omega⟩) oU c4⟩
                 ·exact Ii (P:=P) ki jM ht hu hi (q8 (P:=P) hx hl w) oU (sQ w rfl) s1
                 ·intro q B2 hq
                  rw[H.ji _ _]at hq
                  by_cases e:q=n5
                  ·subst e
                   rw[if_pos rfl]at hq
                   cases hq
                   refine⟨_,cs',lo,ke,u3,s2,by rw[s3,b3], ?_,oS,fun _=>⟨rfl,sI,fF⟩,fun j v hj=> ?_⟩
                   ·simp only[aY,ir,yb,Im];omega
                   ·obtain⟨v',bX,oR⟩:=(kj.append hn).get j v hj
                    refine⟨v', ?_,oR.mono hle⟩
                    show cs'[o'+j]? =_
                    rw[s4]
                    have Io:old'.length=l*ie.size:=by rw[<-kj.length,ir]
                    by_cases eM:j<old'.length
                    ·rw[if_neg (by rw[Io]at eM;omega)]
                     rw[List.getElem?_append_left eM]at bX
                     have qa:0<l:=by
                      rcases alZ l with q|q
                      ·rw[Io,q]at eM;simp at eM
                      ·exact q
                     have:=CO j v' bX
                     rw[uM w _ _ b2]at this
                     rw[ho (.inl qa)]
                     exact this
                    ·have ach:j<(old'++oV).length:=(List.getElem?_eq_some_iff.1 bX).1
                     rw[List.getElem?_append_right (by omega)]at bX
                     simp only[aY]at ach
                     rw[if_pos (by omega)]
                     rw[<-bX,Io]
                     congr 1
                     omega
                  ·rw[if_neg e]at hq
                   obtain⟨d3,cs3,lo3,hi3,g1,g2,g3,g4,g5,g6,g7⟩:=xk.live q B2 hq
                   have Pm:q≠b∧h5.get q=some B2:=by
                    rw[H.ji _ _]at hq
                    by_cases e3:q=b
                    ·rw[if_pos e3]at hq;cases hq
                    ·rw[if_neg e3]at hq;exact⟨e3,hq⟩
                   have bE:d3.dJ≠d.dJ:=fun e3=>Pm.1 (wr.inj q b B2 B d3 d Pm.2 hB (.inr oP) g1 hd e3)
                   refine⟨d3,cs3,lo3,hi3,hle _ _ g1,by rw[s5 _ bE];exact g2,g3,g4,g5,g6,fun j v hj=> ?_⟩
                   obtain⟨v',bX,oR⟩:=g7 j v hj
                   exact⟨v',bX,oR.mono hle⟩
                 ·intro q q' B2 B3 d2 d3 hq q9 qV gf Ad Ae
                  rw[H.ji _ _]at hq q9
                  have key:∀q B2 d2,q≠n5->(h5.set b none).get q=some B2->m' q=some d2->d2.dJ≠d.dJ:=by
                   intro q B2 d2 hqn hq gf Ae
                   rw[H.ji _ _]at hq
                   by_cases e3:q=b
                   ·rw[if_pos e3]at hq;cases hq
                   ·rw[if_neg e3]at hq
                    rw[Ac q hqn]at gf
                    exact e3 (wr.inj q b B2 B d2 d hq hB (.inr oP) gf hd Ae)
                  by_cases e1:q=n5
                  ·by_cases e2:q'=n5
                   ·rw[e1,e2]
                   ·rw[if_neg e2]at q9
                    subst e1
                    rw[u3]at gf;cases gf
                    exact absurd Ae.symm (key q' B3 d3 e2 q9 Ad)
                  ·rw[if_neg e1]at hq
                   by_cases e2:q'=n5
                   ·subst e2
                    rw[u3]at Ad;cases Ad
                    exact absurd Ae (key q B2 d2 e1 hq gf)
                   ·rw[if_neg e2]at q9
                    rw[Ac q e1]at gf
                    rw[Ac q' e2]at Ad
                    exact xk.inj q q' B2 B3 d2 d3 hq q9 qV gf Ad Ae
                ·cases e9
               ·
                obtain⟨m',hp,hv⟩:=Ik (cap:=cG) xk hb hf hi p8 kj hn ir yb e8
                refine⟨m',_,_, ?_,hp,hv⟩
                exact Ij (P:=P) ki jM ht hu hi lX (q8 (P:=P) hx hl w) (by omega) Il Aa (sQ _ rfl) (acg _ rfl)
              ·cases e7
             ·cases e7
            ·cases e7
          ·cases e4
         ·cases e2
        ·cases hr
     ·cases hr
theorem aci{dk:Array TypeId}{t ty:TypeId}{d d' s s':Value}(ki:dk[0]? =some t)(hd:VR m d d')(hs:VR m s s')(wr:WR P m base h w.heap)(hr:pS P t d s h n=some ⟨r,h1,n1,L⟩):
 Sound P base m w h n (Hl dk ty #[d',s']) r h1 n1:=by
 unfold pS at hr
 cases l9:P.underlying t with
 |none=>rw[l9]at hr;cases hr
 |some du=>
  rw[l9]at hr
  cases du<;>try(cases hr;done)
  rename_i e
  simp only at hr
  cases fL:size? P e with
  |none=>rw[fL]at hr;cases hr
  |some sz=>
   cases eL:gO s with
   |none=>rw[fL,eL]at hr;cases hd<;>cases hr
   |some sl=>
    rw[fL,eL]at hr
    have hlen:=q8 (P:=P) hs eL w
    have zero:∀dl,¬0<Nat.min sl dl->Nat.min sl dl=0∧(kE sz (Nat.min sl dl) s').run P w= .ok #[] w:=by
     intro dl h0
     have re:Nat.min sl dl=0:=by omega
     refine⟨re, ?_⟩
     rw[re]
     cases hs<;>simp[gO]at eL<;>simp[kE,loadCells,loadCellsFrom]
    cases hd with
    |mO dl cap hc=>
     simp only at hr
     by_cases h0:0<Nat.min sl dl
     ·rw[if_pos h0]at hr;cases hr
     ·rw[if_neg h0]at hr
      obtain⟨rfl,rfl,rfl⟩:=bD hr
      obtain⟨z1,z2⟩:=zero dl h0
      refine⟨m,w,_, ?_,cK.refl wr,.int _ _⟩
      rw[z1]at z2
      simp[Hl,ki,run_underlying l9,run_sizeOf fL,hlen,z1,z2,goInt]
    |pX b off sp a'=>
     simp only at hr
     by_cases h0:0<Nat.min sl 0
     ·rw[if_pos h0]at hr;cases hr
     ·rw[if_neg h0]at hr
      obtain⟨rfl,rfl,rfl⟩:=bD hr
      obtain⟨z1,z2⟩:=zero 0 h0
      refine⟨m,w,_, ?_,cK.refl wr,.int _ _⟩
      rw[z1]at z2
      simp[Hl,ki,run_underlying l9,run_sizeOf fL,hlen,z1,z2,goInt,storeCells]
    |@fV b off dl cap cG o' dd CP ho c1 c2 c3 c4=>
     simp only at hr
     by_cases h0:0<Nat.min sl dl
     ·rw[if_pos h0]at hr
      obtain⟨vs,h2,n2,L1,L2,e1,e2,_⟩:=bind_some hr
      have acj:0<sl:=qJ h0 (Nat.min_le_left _ _)
      have ack:0<dl:=qJ h0 (Nat.min_le_right _ _)
      obtain⟨rfl,rfl,dh,fE,sQ⟩:=Ih hs eL acj wr e1
      obtain⟨u,h3,n3,L3,L4,e3,e4,_⟩:=bind_some e2
      obtain⟨rfl,rfl,rfl⟩:=bD e4
      cases u
      obtain⟨rfl,w',eE,x2,ew⟩:=HL CP fE (i:=0) (dd.sh+off) (by omega) wr e3
      refine⟨m,w',_, ?_,⟨Le.refl _,fun _ _=>rfl,x2,ew⟩,.int _ _⟩
      have hf:=sQ w rfl
      rw[<-ho (.inl ack)]at eE
      simp[Hl,ki,run_underlying l9,run_sizeOf fL,hlen,hf,eE,goInt]
     ·rw[if_neg h0]at hr
      obtain⟨rfl,rfl,rfl⟩:=bD hr
      obtain⟨z1,z2⟩:=zero dl h0
      refine⟨m,w,_, ?_,cK.refl wr,.int _ _⟩
      rw[z1]at z2
      simp[Hl,ki,run_underlying l9,run_sizeOf fL,hlen,z1,z2,goInt,storeCells]
    |_=>cases hr
end
theorem ba.maps{m:Mp}{ρ ρ':Operand->Value}:∀(l:List Operand),(∀y∈l,VR m (ρ y) (ρ' y))->ba m (l.map ρ) (l.map ρ')
 |[],_=> .nil
 |x::l,h=> .cons (h x (by simp)) (ba.maps l fun y hy=>h y (by simp[hy]))
theorem CQ{P:Program}{w:World}{s:Sem Value}{v:Value}{w':World}(h:s.run P w= .ok v w'):((do pure (.value (<-s)):Sem Next)).run P w= .ok (.value v) w':=by
 simp only[eI,h,fi,oI]
section
variable {P:Program} {base:Nat}
def Goal(P:Program)(base:Nat)(m:Mp)(w:World)(n n1:Nat)(h1:H)(r:Nx)(s:Sem Next):Prop:=∃m' w' R,s.run P w= .ok R w'∧cK P m base n n1 w h1 m' w'∧NR m' r R
theorem Goal.of{m:Mp}{w:World}{h h1:H}{n n1:Nat}{v:Value}{s:Sem Value}(x:Sound P base m w h n s v h1 n1):Goal P base m w n n1 h1 (.val v) (do pure (.value (<-s))):=by
 obtain⟨m',w',v',hr,hp,hv⟩:=x
 exact⟨m',w',.value v',CQ hr,hp,.val hv⟩
theorem jN{m:M Value}{h h2:H}{n n2:Nat}{r:Nx}{L:List En}(hr:(m.bind fun v=>M.ret (Nx.val v)) h n=some ⟨r,h2,n2,L⟩):∃v L',r= .val v∧m h n=some ⟨v,h2,n2,L'⟩:=by
 obtain⟨v,h1,n1,L1,L2,e1,e2,_⟩:=bind_some hr
 obtain⟨rfl,rfl,rfl⟩:=bD e2
 exact⟨v,L1,rfl,e1⟩
theorem acm{ρ ρ':Operand->Value}{o:Oper}{m:Mp}{w:World}{h h1:H}{n n1:Nat}{r:Nx}{L:List En}(hs:∀cs b,o.op≠ .select cs b)(de:∀y∈o.op.operands,VR m (ρ y) (ρ' y))(x:WR P m base h w.heap)(hr:fT P ρ o h n=some ⟨r,h1,n1,L⟩):
 Goal P base m w n n1 h1 r (execOp ρ' o):=by
 unfold fT at hr
 split at hr
 ·rename_i gR
  obtain⟨v,h2,n2,L1,L2,e1,e2,_⟩:=bind_some hr
  obtain⟨hp,rfl,rfl⟩:=pW e1
  split at e2
  ·rename_i Ip
   obtain⟨rfl,rfl,rfl⟩:=bD e2
   have:execOp ρ' o=execOp ρ o:=execOp_congr o hs fun y hy=>(de y hy).scalar ((Array.all_eq_true_iff_forall_mem.1 gR) y hy)
   rw[this]
   exact⟨m,w,.value v,abK _ _ hp w,cK.refl x,.val (VR.self Ip)⟩
  ·cases e2
 ·cases hr
theorem nW{m:Mp}{w:World}{h:H}{n:Nat}{v v':Value}{s:Sem Value}(x:WR P m base h w.heap)(hr:s.run P w= .ok v' w)(hv:VR m v v'):Goal P base m w n n h (.val v) (do pure (.value (<-s))):=
 ⟨m,w,.value v',CQ hr,cK.refl x,.val hv⟩
theorem Iq{m:Mp}{ρ ρ':Operand->Value}{o:Option Operand}(h:∀y∈o,VR m (ρ y) (ρ' y)):sO m (o.map ρ) (o.map ρ'):=by
 cases o with
 |none=>trivial
 |some y=>exact h y rfl
theorem acn{m:Mp}{t:TypeId}{v v' u u':Value}{b:Bool}(hv:VR m v v')(hu:VR m u u')(h:nG (P.underlying t) v u=some b)(w:World):
 (zL t v' u').run P w= .ok b w∧(∀op x y,(eqGuard op t x y v' u').run P w= .ok () w)∧(∀op:BinOp,op= .eql∨op= .neq->binOp op t v' u'=(if op= .eql then do pure (.bool (<-zL t v' u'))else do pure (.bool (!(<-zL t v' u'))))):=by
 cases hd:P.underlying t with
 |none=>rw[hd]at h;simp[nG]at h
 |some d=>
  rw[hd]at h
  have aco:aaT=9999+1:=rfl
  unfold zL
  rw[aco]
  cases d<;>try(simp[nG]at h;done)
  all_goals (cases hv<;>try(simp[nG]at h;done))
  all_goals (cases hu<;>try(simp[nG]at h;done))
  all_goals (
   simp[nG]at h
   subst h
   refine⟨?_,fun op x y=> ?_,fun op bC=> ?_⟩
   ·rw[aaU]
    simp only[eI,run_underlying hd,fi]
    rfl
   ·unfold eqGuard
    split<;>rfl
   ·rcases bC with rfl|rfl<;>rfl)
theorem acp{a b:Option TypeDesc}{e:TypeId}(h:sx a b=some e):a=some (.slice e)∧b=some .string:=by
 unfold sx at h
 split at h
 ·cases h;exact⟨rfl,rfl⟩
 ·cases h
theorem acq{a b:Option TypeDesc}{v:Value}{e:TypeId}{s:ByteArray}(h:uI a b v=some (e,s)):a=some .string∧b=some (.slice e)∧v= .string s:=by
 unfold uI at h
 split at h
 ·cases h;exact⟨rfl,rfl,rfl⟩
 ·cases h
theorem Pn{e:TypeId}(h:nK P e=true):P.underlying e=some (.int .u8):=by
 unfold nK at h
 split at h
 ·assumption
 ·cases h
theorem acr{dk:Array TypeId}{args:List Value}{t:TypeId}{d y:Value}(h:xR dk args=some (t,d,y)):dk[0]? =some t∧args=[d,y]:=by
 unfold xR at h
 split at h
 ·rename_i t' d' y' h0
  cases h
  exact⟨h0,rfl⟩
 ·cases h
theorem acs{dk:Array TypeId}{args:List Value}{t:TypeId}{s y:Value}(h:xQ P dk args=some (t,s,y)):∃u,dk[0]? =some t∧dk[1]? =some u∧args=[s,y]∧((∃e',P.underlying u=some (.slice e'))∨P.underlying u=some .string):=by
 unfold xQ at h
 split at h
 ·rename_i t' u s' y' h0 h1
  split at h
  ·rename_i hk
   cases h
   refine⟨u,h0,h1,rfl, ?_⟩
   unfold OJ at hk
   split at hk
   ·rename_i e hh;exact .inl ⟨e,hh⟩
   ·rename_i hh;exact .inr hh
   ·cases hk
  ·cases h
 ·cases h
theorem acu{dk:Array TypeId}{args:List Value}{k:Nat}(h:uJ P dk args=some k):∃t e a cp rest,dk[0]? =some t∧P.underlying t=some (.slice e)∧args= .slice a k cp::rest:=by
 unfold uJ at h
 split at h
 ·rename_i t a n cp rest h0
  split at h
  ·rename_i e hh
   cases h
   exact⟨t,e,a,cp,rest,h0,hh,rfl⟩
  ·cases h
 ·cases h
theorem acv(nX:sE P=true):uQ P base:=by
 intro ρ ρ' o h n r h1 n1 L m w hr de x hb hf
 show Goal P base m w n n1 h1 r (execOp ρ' o)
 have plain:(∀cs b,o.op≠ .select cs b)->fT P ρ o h n=some ⟨r,h1,n1,L⟩->Goal P base m w n n1 h1 r (execOp ρ' o):=fun hs hr=>acm hs de x hr
 unfold bU at hr
 cases bC:o.op with
 |move y=>
  rw[bC]at hr de
  unfold execOp
  rw[bC]
  obtain⟨rfl,rfl,rfl⟩:=bD hr
  exact⟨m,w,.value (ρ' y),rfl,cK.refl x,.val (de y (by simp[dR]))⟩
 |assign y=>
  rw[bC]at hr de
  unfold execOp
  rw[bC]
  obtain⟨rfl,rfl,rfl⟩:=bD hr
  exact⟨m,w,.value (ρ' y),rfl,cK.refl x,.val (de y (by simp[dR]))⟩
 |pick c a b=>
  rw[bC]at hr de
  unfold execOp
  rw[bC]
  simp only at hr
  dsimp only
  have hc:=de c (by simp[dR])
  have ha:=de a (by simp[dR])
  have bO:=de b (by simp[dR])
  generalize ρ c=vc at hr hc
  generalize ρ' c=vc' at hc⊢
  cases hc<;>try(cases hr;done)
  rename_i t
  obtain⟨rfl,rfl,rfl⟩:=bD hr
  refine⟨m,w,.value (if t then ρ' a else ρ' b),by cases t<;>rfl,cK.refl x,.val ?_⟩
  cases t
  ·exact bO
  ·exact ha
 |alloc e=>
  rw[bC]at hr de
  unfold execOp
  rw[bC]
  obtain⟨v,L',rfl,e1⟩:=jN hr
  exact Goal.of (abM x hb hf e1)
 |box e y=>
  rw[bC]at hr de
  unfold execOp
  rw[bC]
  obtain⟨v,L',rfl,e1⟩:=jN hr
  exact Goal.of (abN (de y (by simp[dR])) x hb hf e1)
 |build t ps=>
  rw[bC]at hr de
  unfold execOp
  rw[bC]
  obtain⟨v,L',rfl,e1⟩:=jN hr
  have sN:(ps.toList.map fun(i,x)=>(i,ρ x)).map (·.1)=(ps.toList.map fun(i,x)=>(i,ρ' x)).map (·.1):=by simp[Oh]
  have uX:ba m ((ps.toList.map fun(i,x)=>(i,ρ x)).map (·.2)) ((ps.toList.map fun(i,x)=>(i,ρ' x)).map (·.2)):=by
   have:=ba.maps (m:=m) (ρ:=ρ) (ρ':=ρ') (ps.toList.map (·.2)) fun y hy=>de y (by simp only[dR];simpa using hy)
   simpa[Oi,Oh]using this
  have sR:(ps.map fun(i,x)=>(i,ρ' x))=(ps.toList.map fun(i,x)=>(i,ρ' x)).toArray:=by
   apply Od
   simp
  dsimp only
  rw[sR]
  exact Goal.of (abP sN uX x e1)
 |buildSlice t len ps=>
  rw[bC]at hr de
  unfold execOp
  rw[bC]
  obtain⟨v,L',rfl,e1⟩:=jN hr
  have sN:(ps.toList.map fun(i,x)=>(i,ρ x)).map (·.1)=(ps.toList.map fun(i,x)=>(i,ρ' x)).map (·.1):=by simp[Oh]
  have uX:ba m ((ps.toList.map fun(i,x)=>(i,ρ x)).map (·.2)) ((ps.toList.map fun(i,x)=>(i,ρ' x)).map (·.2)):=by
   have:=ba.maps (m:=m) (ρ:=ρ) (ρ':=ρ') (ps.toList.map (·.2)) fun y hy=>de y (by simp only[dR];simpa using hy)
   simpa[Oi,Oh]using this
  have sR:(ps.map fun(i,x)=>(i,ρ' x))=(ps.toList.map fun(i,x)=>(i,ρ' x)).toArray:=by
   apply Od
   simp
  dsimp only
  rw[sR]
  exact Goal.of (abS sN uX x hb hf e1)
 |load t a=>
  rw[bC]at hr de
  unfold execOp
  rw[bC]
  obtain⟨v,L',rfl,e1⟩:=jN hr
  exact Goal.of (abT (de a (by simp[dR])) x e1)
 |store t a y=>
  rw[bC]at hr de
  unfold execOp
  rw[bC]
  obtain⟨v,L',rfl,e1⟩:=jN hr
  obtain⟨rfl,w',eE,hp⟩:=abU (de a (by simp[dR])) (de y (by simp[dR])) x e1
  refine⟨m,w',.skip, ?_,hp,.skip⟩
  simp only[eI,eE,fi,oI]
 |nilCheck y=>
  rw[bC]at hr de
  unfold execOp
  rw[bC]
  obtain⟨v,L',rfl,e1⟩:=jN hr
  obtain⟨rfl,rfl,hv,hor⟩:=abV (de y (by simp[dR])) x e1
  dsimp only
  rcases hor with ⟨a,ha⟩|⟨f,a,b,ha⟩<;>rw[ha]at hv⊢<;>exact⟨m,w,_,rfl,cK.refl x,.val hv⟩
 |binOp op t y z yt=>
  rw[bC]at hr
  simp only at hr
  have iu:=de
  rw[bC]at iu
  have hy:=iu y (by simp[dR])
  have hz:=iu z (by simp[dR])
  cases hq:nG (P.underlying t) (ρ y) (ρ z)with
  |none=>
   rw[hq]at hr
   exact plain (fun cs b hh=>by rw[bC]at hh;cases hh) hr
  |some b=>
   rw[hq]at hr
   unfold execOp
   rw[bC]
   obtain⟨q1,q2,q3⟩:=acn hy hz hq w
   cases op<;>try(cases hr;done)
   case eql=>
    obtain⟨rfl,rfl,rfl⟩:=bD hr
    refine nW x ?_ (.bool b)
    rw[eI,q2]
    simp only[fi]
    rw[q3 .eql (.inl rfl),if_pos rfl,eI,q1]
    rfl
   case neq=>
    obtain⟨rfl,rfl,rfl⟩:=bD hr
    refine nW x ?_ (.bool !b)
    rw[eI,q2]
    simp only[fi]
    rw[q3 .neq (.inr rfl),if_neg (by decide),eI,q1]
    rfl
 |unOp op t y=>
  rw[bC]at hr
  exact plain (fun cs b hh=>by rw[bC]at hh;cases hh) hr
 |convert src dst y=>
  rw[bC]at hr
  simp only at hr
  have iu:=de
  rw[bC]at iu
  have hy:=iu y (by simp[dR])
  have mT:∀cs b,o.op≠ .select cs b:=fun cs b hh=>by rw[bC]at hh;cases hh
  cases eN:sx (P.underlying src) (P.underlying dst)with
  |some e=>
   rw[eN]at hr
   obtain⟨hs,hd⟩:=acp eN
   simp only at hr
   split at hr
   ·rename_i Af
    obtain⟨v,L',rfl,e1⟩:=jN hr
    obtain⟨a,l,c,eL,Po⟩:=abX hy x e1
    unfold execOp
    rw[bC]
    simp only[eL]at Po⊢
    obtain⟨m',w',v',jK,hp,hv⟩:=Po
    exact⟨m',w',.value v',CQ (by rw[run_convert_bytes_string w src dst e a l c hs (Pn Af) hd];exact jK),hp,.val hv⟩
   ·cases hr
  |none=>
   rw[eN]at hr
   simp only at hr
   cases Ag:uI (P.underlying src) (P.underlying dst) (ρ y)with
   |none=>rw[Ag]at hr;exact plain mT hr
   |some es=>
    obtain⟨e,s⟩:=es
    rw[Ag]at hr
    simp only at hr
    obtain⟨hs,hd,hys⟩:=acq Ag
    split at hr
    ·rename_i Af
     simp only[cb,beq_iff_eq]at Af
     obtain⟨v,L',rfl,e1⟩:=jN hr
     rw[hys]at hy
     have dS:ρ' y= .string s:=by generalize ρ' y=q at hy;cases hy;rfl
     obtain⟨m',w',v',jK,hp,hv⟩:=abY Af.2 x hb hf e1
     unfold execOp
     rw[bC]
     simp only[dS]
     refine⟨m',w',.value v',CQ ?_,hp,.val hv⟩
     rw[<-jK]
     simp[convert,run_underlying hs,run_underlying hd,run_underlying (Pn Af.1)]
    ·cases hr
 |makeFunc fn a b=>
  rw[bC]at hr de
  unfold execOp
  rw[bC]
  obtain⟨rfl,rfl,rfl⟩:=bD hr
  refine⟨m,w,.value (.func fn (a.map ρ') (b.map ρ')),rfl,cK.refl x,.val (.func fn ?_ ?_)⟩
  ·rw[qK,qK]
   exact ba.maps _ fun y hy=>de y (by simp only[dR,al'];exact .inl (by simpa using hy))
  ·rw[qK,qK]
   exact ba.maps _ fun y hy=>de y (by simp only[dR,al'];exact .inr (by simpa using hy))
 |makeSlice t l c=>
  rw[bC]at hr de
  unfold execOp
  rw[bC]
  obtain⟨v,L',rfl,e1⟩:=jN hr
  exact Goal.of (ab2 (de l (by simp[dR])) (de c (by simp[dR])) x hb hf e1)
 |slice t y lo hi mx=>
  rw[bC]at hr
  simp only at hr
  have iu:=de
  rw[bC]at iu
  have hy:=iu y (by simp[dR])
  by_cases u4:isStr (ρ y)=true
  ·rw[if_pos u4]at hr
   exact plain (fun cs b hh=>by rw[bC]at hh;cases hh) hr
  ·rw[if_neg u4]at hr
   obtain⟨v,L',rfl,e1⟩:=jN hr
   unfold execOp
   rw[bC]
   have mc:sO m (lo.map ρ) (lo.map ρ'):=Iq fun q hq=>iu q (by rw[aaV]at hq;subst hq;simp[dR])
   have CR:sO m (hi.map ρ) (hi.map ρ'):=Iq fun q hq=>iu q (by rw[aaV]at hq;subst hq;simp[dR])
   have sP:sO m (mx.map ρ) (mx.map ρ'):=Iq fun q hq=>iu q (by rw[aaV]at hq;subst hq;simp[dR])
   generalize ρ y=vy at e1 hy
   unfold oN at e1
   split at e1
   ·rename_i b off l c
    obtain⟨e',h2,n2,L1,L2,e2,e3,_⟩:=bind_some e1
    obtain⟨rfl,rfl,d2,u0,oS,_⟩:=OS x e2
    cases hu:P.underlying t with
    |none=>rw[hu]at e3;cases e3
    |some du=>
     rw[hu]at e3
     cases du<;>try(cases e3;done)
     rename_i e
     simp only at e3
     split at e3
     ·rename_i fL
      obtain⟨mU,rfl,rfl⟩:=pW e3
      obtain⟨u,q6,jq⟩:=Pf (fun b' kM l' c' e2' bX qT=>by
       cases bX
       rw[hu]at qT;cases qT
       exact⟨d2,u0,by rw[<-fL];exact oS⟩) hy mc CR sP mU w
      exact nW x q6 jq
     ·cases e3
   ·rename_i qY
    obtain⟨mU,rfl,rfl⟩:=pW e1
    obtain⟨u,q6,jq⟩:=Pf (fun b' kM l' c' e2' bX qT=>absurd bX (qY b' kM l' c')) hy mc CR sP mU w
    exact nW x q6 jq
 |fieldAddr t y f=>
  rw[bC]at hr de
  unfold execOp
  rw[bC]
  obtain⟨v,L',rfl,e1⟩:=jN hr
  obtain⟨mU,rfl,rfl⟩:=pW e1
  obtain⟨u,hu,jq⟩:=ab4 (de y (by simp[dR])) mU w
  exact nW x hu jq
 |field t y f=>
  rw[bC]at hr de
  unfold execOp
  rw[bC]
  obtain⟨v,L',rfl,e1⟩:=jN hr
  obtain⟨mU,rfl,rfl⟩:=pW e1
  obtain⟨u,hu,jq⟩:=Ig (de y (by simp[dR])) mU w
  exact nW x hu jq
 |indexAddr t y i=>
  rw[bC]at hr de
  unfold execOp
  rw[bC]
  obtain⟨v,L',rfl,e1⟩:=jN hr
  obtain⟨mU,rfl,rfl⟩:=pW e1
  obtain⟨u,hu,jq⟩:=ab5 (de y (by simp[dR])) (de i (by simp[dR])) mU w
  exact nW x hu jq
 |index t y i=>
  rw[bC]at hr
  simp only at hr
  have iu:=de
  rw[bC]at iu
  split at hr
  ·exact plain (fun cs b hh=>by rw[bC]at hh;cases hh) hr
  ·unfold execOp
   rw[bC]
   obtain⟨v,L',rfl,e1⟩:=jN hr
   obtain⟨mU,rfl,rfl⟩:=pW e1
   obtain⟨u,hu,jq⟩:=ab6 (iu y (by simp[dR])) (iu i (by simp[dR])) mU w
   exact nW x hu jq
 |extract y i=>
  rw[bC]at hr de
  unfold execOp
  rw[bC]
  obtain⟨v,L',rfl,e1⟩:=jN hr
  obtain⟨mU,rfl,rfl⟩:=pW e1
  obtain⟨u,hu,jq⟩:=ab7 (de y (by simp[dR])) mU w
  exact nW x hu jq
 |call c=>
  rw[bC]at hr
  simp only at hr
  have iu:=de
  rw[bC]at iu
  simp only[dR]at iu
  have ek:ba m (c.args.map ρ).toList (c.args.map ρ').toList:=by
   rw[qK,qK]
   exact ba.maps _ fun y hy=>iu y (by unfold zI;exact al'.2 (.inr (by simpa using hy)))
  have hex:execOp ρ' o=(do let d<-resolve ρ' c o.type;invoke d.target d.args):=by unfold execOp;rw[bC]
  unfold kJ at hr
  cases yd:c.callee with
  |invoke a b=>rw[yd]at hr;cases hr
  |value f=>
   rw[yd]at hr
   simp only at hr
   have Ah:=iu f (by unfold zI;rw[yd];simp)
   cases u5:Cz (ρ f)with
   |none=>rw[u5]at hr;cases hr
   |some gfc=>
    obtain⟨g,first,cap⟩:=gfc
    rw[u5]at hr
    simp only at hr
    obtain⟨CS,cG,acw,acx,fW⟩:∃CS cG,ρ' f= .func (.func g) CS cG∧ba m first.toList CS.toList∧ba m cap.toList cG.toList:=by
     generalize ρ f=p at u5 Ah
     generalize ρ' f=q at Ah
     unfold Cz at u5
     split at u5
     ·cases u5
      cases Ah with
      |func fn h1 h2=>exact⟨_,_,rfl,h1,h2⟩
     ·cases u5
    split at hr
    ·rename_i sS
     obtain⟨rfl,rfl,rfl⟩:=bD hr
     rw[hex]
     unfold mL at sS
     cases kN:P.funcs[g]? with
     |none=>rw[kN]at sS;cases sS
     |some fn=>
      rw[kN]at sS
      have sS:fn.body.isSome=true:=sS
      refine⟨m,w,.enter g (CS++c.args.map ρ'++cG), ?_,cK.refl x,.call ?_⟩
      ·have acy:(fn.name== "runtime.NumGoroutine")=false:=by
        unfold sE at nX
        have:=(Array.all_eq_true_iff_forall_mem.1 nX) fn (Array.mem_of_getElem? kN)
        simpa using this
       have ig:fn.body.isNone=false:=by
        cases hq:fn.body with
        |none=>rw[hq]at sS;cases sS
        |some _=>rfl
       unfold resolve
       rw[yd]
       simp only[acw,anK,pure_bind,invoke]
       unfold callFunc
       simp only[eI]
       show fi (.ok P w) _=_
       simp only[fi,kN,acy,sd,if_false,ig]
       rfl
      ·simp only[Array.toList_append]
       exact(acx.append ek).append fW
    ·cases hr
  |builtin b=>
   rw[yd]at hr
   have Ir:execOp ρ' o=builtin b c.argTypes o.type (c.args.map fun| .const _=>true|_=>false) (c.args.map ρ'):=by
    rw[hex]
    unfold resolve
    rw[yd]
    rfl
   cases b<;>simp only at hr<;>try(cases hr;done)
   case append=>
    cases Is:xQ P c.argTypes (c.args.map ρ).toList with
    |none=>rw[Is]at hr;cases hr
    |some tsx=>
     obtain⟨t,s,y⟩:=tsx
     rw[Is]at hr
     simp only at hr
     obtain⟨u,ht,hu,hl,hk⟩:=acs Is
     rw[hl]at ek
     rw[Ir]
     obtain⟨s',y',Ai,hs,hy⟩:∃s' y',c.args.map ρ'=#[s',y']∧VR m s s'∧VR m y y':=by
      generalize c.args.map ρ'=q at ek
      obtain⟨q⟩:=q
      simp only at ek
      cases ek with
      |cons h1 t1=>cases t1 with
       |cons h2 t2=>cases t2 with
        |nil=>exact⟨_,_,rfl,h1,h2⟩
     rw[Ai]
     obtain⟨v,L',rfl,e1⟩:=jN hr
     exact Goal.of (acb ht hu hk hs hy x hb hf e1)
   case copy=>
    cases u1:xR c.argTypes (c.args.map ρ).toList with
    |none=>rw[u1]at hr;cases hr
    |some tds=>
     obtain⟨t,d,y⟩:=tds
     rw[u1]at hr
     simp only at hr
     obtain⟨ht,hl⟩:=acr u1
     rw[hl]at ek
     rw[Ir]
     obtain⟨d',y',Ai,hd,hy⟩:∃d' y',c.args.map ρ'=#[d',y']∧VR m d d'∧VR m y y':=by
      generalize c.args.map ρ'=q at ek
      obtain⟨q⟩:=q
      simp only at ek
      cases ek with
      |cons h1 t1=>cases t1 with
       |cons h2 t2=>cases t2 with
        |nil=>exact⟨_,_,rfl,h1,h2⟩
     rw[Ai]
     obtain⟨v,L',rfl,e1⟩:=jN hr
     exact Goal.of (aci ht hd hy x e1)
   case len=>
    cases eL:uJ P c.argTypes (c.args.map ρ).toList with
    |none=>rw[eL]at hr;exact plain (fun cs b hh=>by rw[bC]at hh;cases hh) hr
    |some k=>
     rw[eL]at hr
     obtain⟨t,e,a,cp,rest,ht,l9,hl⟩:=acu eL
     rw[hl]at ek
     obtain⟨rfl,rfl,rfl⟩:=bD hr
     rw[Ir]
     generalize c.args.map ρ'=q at ek
     obtain⟨q⟩:=q
     simp only at ek
     cases ek with
     |cons h1 t1=>
      cases h1 with
      |mO _ _ hc=>
       refine nW x ?_ (.int _ _)
       unfold Oj
       simp[ht,run_underlying l9,goInt]
      |pX _ _ _ _=>
       refine nW x ?_ (.int _ _)
       unfold Oj
       simp[ht,run_underlying l9,goInt]
      |fV=>
       refine nW x ?_ (.int _ _)
       unfold Oj
       simp[ht,run_underlying l9,goInt]
   case min=>exact plain (fun cs b hh=>by rw[bC]at hh;cases hh) hr
   case max=>exact plain (fun cs b hh=>by rw[bC]at hh;cases hh) hr
 |_=>rw[bC]at hr;cases hr
end
theorem acz{P:Program}{base:Nat}{m:Mp}{t:TypeId}{a a' r:Value}{h h1:H}{n n1:Nat}{L:List En}{w:World}(ha:VR m a a')(x:WR P m base h w.heap)(hr:jf P t a h n=some ⟨r,h1,n1,L⟩):
 ∃b off,a'= .pointer (some ⟨b,off,none⟩)∧h1=h∧n1=n∧∃v',VR m r v'∧((do loadVar t (<-asAddr a')):Sem Value).run P w= .ok v' w:=by
 unfold jf at hr
 split at hr
 ·rename_i b off
  obtain⟨d,hd,rfl⟩:=H9 ha
  cases hg:kI P t with
  |none=>rw[hg]at hr;cases hr
  |some g=>
   rw[hg]at hr
   cases g with
   |false=>
    simp only at hr
    obtain⟨rfl,rfl,d',v',lx,hc,hv⟩:=CD x hr
    rw[hd]at lx;cases lx
    refine⟨_,_,rfl,rfl,rfl,v',hv, ?_⟩
    simp only[asAddr,pure_bind,loadVar,eI,xZ hg w,fi,sd,if_false]
    show(Sem.load _ _ _).run P w=_
    simp[Sem.run,hc]
   |true=>
    cases hs:size? P t with
    |none=>rw[hs]at hr;cases hr
    |some k=>
     rw[hs]at hr
     simp only at hr
     obtain⟨vs,h2,n2,L1,L2,e1,e2,_⟩:=bind_some hr
     obtain⟨rfl,rfl,rfl⟩:=bD e2
     obtain⟨rfl,rfl,hl,dh,fE,eh⟩:=uN x hd e1
     refine⟨_,_,rfl,rfl,rfl,.agg dh.toArray,.agg (by simpa using fE), ?_⟩
     have hlen:dh.length=k:=by rw[<-fE.length,hl]
     have:=xX (P:=P) eh
     rw[hlen]at this
     simp only[asAddr,pure_bind,loadVar,eI,xZ hg w,fi,if_true,run_sizeOf hs,this]
     rfl
 ·cases hr
theorem results_at{P:Program}{base:Nat}{m:Mp}{nt:Nat}{s:S}{a:Act}(hs:SR m nt s a):∀(l:List ResultVar) (h h1:H) (n n1:Nat) (L:List En) (vs:List Value) (w:World),WR P m base h w.heap->jg P s l h n=some ⟨vs,h1,n1,L⟩->∃dh,ba m vs dh∧
 ((l.mapM fun| .tmp t=>pure (a.tmps.getD t undef)| .cell b t=>do loadVar t (<-asAddr (a.tmps.getD b undef)):Sem (List Value))).run P w= .ok dh w:=by
 intro l
 induction l with
 |nil=>
  intro h h1 n n1 L vs w x hr
  obtain⟨rfl,rfl,rfl⟩:=bD hr
  exact⟨[],.nil,rfl⟩
 |cons r l ih=>
  intro h h1 n n1 L vs w x hr
  cases r with
  |cell b t=>
   unfold jg at hr
   obtain⟨v,h2,n2,L1,L2,e1,e2,_⟩:=bind_some hr
   obtain⟨us,h3,n3,L3,L4,e3,e4,_⟩:=bind_some e2
   obtain⟨rfl,rfl,rfl⟩:=bD e4
   obtain⟨b0,off,hsb,rfl,rfl,v',bX,jK⟩:=acz (hs.at_ b) x e1
   obtain⟨dh,fE,acA⟩:=ih _ _ _ _ _ _ w x e3
   refine⟨v'::dh,.cons bX fE, ?_⟩
   rw[alY]
   have h1:(asAddr (a.tmps.getD b undef)).run P w= .ok ⟨b0,off,none⟩ w:=by rw[hsb];rfl
   have h2:(loadVar t ⟨b0,off,none⟩).run P w= .ok v' w:=by
    rw[eI,h1]at jK
    exact jK
   simp only[bind_assoc,pure_bind,eI,h1,fi,h2,acA,oI]
  |tmp t=>
   unfold jg at hr
   obtain⟨us,h2,n2,L1,L2,e1,e2,_⟩:=bind_some hr
   obtain⟨rfl,rfl,rfl⟩:=bD e2
   obtain⟨dh,fE,jK⟩:=ih _ _ _ _ _ _ w x e1
   refine⟨a.tmps.getD t undef::dh,.cons (hs.at_ t) fE, ?_⟩
   rw[alY]
   simp only[pure_bind,eI,jK,fi,oI]
theorem acB{P:Program}{t:TypeId}{v r:Value}{h h1:H}{n n1:Nat}{L:List En}(hr:jf P t v h n=some ⟨r,h1,n1,L⟩):h1=h∧n1=n:=by
 have Pp:∀{b k:Nat} {h h1:H} {n n1:Nat} {v:Value} {L:List En},rd b k h n=some ⟨v,h1,n1,L⟩->h1=h∧n1=n:=by
  intro b k h h1 n n1 v L hr
  unfold rd at hr
  split at hr
  ·split at hr
   ·split at hr
    ·simp only[ee,Out.mk.injEq]at hr
     exact⟨hr.2.1.symm,hr.2.2.1.symm⟩
    ·cases hr
   ·cases hr
  ·cases hr
 have acC:∀{c b k:Nat} {h h1:H} {n n1:Nat} {v:List Value} {L:List En},dj b k c h n=some ⟨v,h1,n1,L⟩->h1=h∧n1=n:=by
  intro c
  induction c with
  |zero=>
   intro b k h h1 n n1 v L hr
   obtain⟨_,rfl,rfl⟩:=bD hr
   exact⟨rfl,rfl⟩
  |succ c ih=>
   intro b k h h1 n n1 v L hr
   obtain⟨v0,h2,n2,L1,L2,e2,e3,_⟩:=bind_some (m:=rd b k) hr
   obtain⟨rfl,rfl⟩:=Pp e2
   obtain⟨ws,h4,n4,L3,L4,e4,e5,_⟩:=bind_some (m:=dj b (k+1) c) e3
   obtain⟨rfl,rfl⟩:=ih e4
   obtain⟨_,rfl,rfl⟩:=bD e5
   exact⟨rfl,rfl⟩
 unfold jf at hr
 split at hr
 ·cases hg:kI P t with
  |none=>rw[hg]at hr;cases hr
  |some g=>
   rw[hg]at hr
   cases g with
   |false=>exact Pp hr
   |true=>
    cases hs:size? P t with
    |none=>rw[hs]at hr;cases hr
    |some k=>
     rw[hs]at hr
     obtain⟨vs,h2,n2,L1,L2,e1,e2,_⟩:=bind_some hr
     obtain⟨_,rfl,rfl⟩:=bD e2
     exact acC e1
 ·cases hr
theorem acD{P:Program}{s:S}:∀(l:List ResultVar) (h h1:H) (n n1:Nat) (L:List En) (vs:List Value),jg P s l h n=some ⟨vs,h1,n1,L⟩->h1=h∧n1=n:=by
 intro l
 induction l with
 |nil=>
  intro h h1 n n1 L vs hr
  obtain⟨_,rfl,rfl⟩:=bD hr
  exact⟨rfl,rfl⟩
 |cons r l ih=>
  intro h h1 n n1 L vs hr
  cases r with
  |cell b t=>
   unfold jg at hr
   obtain⟨v,h2,n2,L1,L2,e1,e2,_⟩:=bind_some hr
   obtain⟨us,h3,n3,L3,L4,e3,e4,_⟩:=bind_some e2
   obtain⟨_,rfl,rfl⟩:=bD e4
   obtain⟨rfl,rfl⟩:=acB e1
   exact ih _ _ _ _ _ _ e3
  |tmp t=>
   unfold jg at hr
   obtain⟨us,h2,n2,L1,L2,e1,e2,_⟩:=bind_some hr
   obtain⟨_,rfl,rfl⟩:=bD e2
   exact ih _ _ _ _ _ _ e1
theorem acE{P:Program}{bad:List FuncId}(cH:qQ P bad=true){f:FuncId}{fn:Func}{c:Code}(hb:bad.contains f=false)(hf:P.funcs[f]? =some fn)(hc:fn.body=some c):lr P c=true:=by
 unfold qQ at cH
 rw[Oc]at cH
 have:=cH (fn,f) (by
  rw[List.mem_iff_getElem?]
  exact⟨f,by simp[List.getElem?_zipIdx,hf]⟩)
 simp only[hb,hc,aaL]at this
 exact this
def rf(w:World):Prop:=∀g∈KG,w.cell? ⟨g.1,g.2.1,none⟩=some g.2.2
theorem Pq{P:Program}{m:Mp}{base:Nat}{h:H}{w:World}(x:WR P m base h w.heap)(g:Gl P m):∀{l:List (Nat×Nat×Value)} {n n1:Nat} {h1:H} {u:Unit} {L:List En},mM P l h n=some ⟨u,h1,n1,L⟩->h1=h∧n1=n∧∀q∈l,w.cell? ⟨q.1,q.2.1,none⟩=some q.2.2
 |[],n,n1,h1,u,L,hr=>by
  obtain⟨_,rfl,rfl⟩:=bD hr
  exact⟨rfl,rfl,fun q hq=>by simp at hq⟩
 |q::l,n,n1,h1,u,L,hr=>by
  unfold mM at hr
  obtain⟨v,h2,n2,L1,L2,e1,e2,_⟩:=bind_some hr
  obtain⟨rfl,rfl,d,v',hd,hc,hv⟩:=CD x e1
  by_cases hz:(decide (q.1<P.globals.size)&&xU v q.2.2)=true
  ·rw[if_pos hz]at e2
   simp only[cb,decide_eq_true_eq]at hz
   obtain⟨d',lx,b1,b2⟩:=g q.1 hz.1
   rw[hd]at lx
   cases lx
   obtain⟨r1,r2,r3⟩:=Pq x g e2
   refine⟨r1,r2,fun y hy=> ?_⟩
   rcases List.mem_cons.1 hy with e|e
   ·subst e
    rw[b1,b2,iO]at hc
    rw[hc]
    have lX:=hz.2
    cases hv<;>first|(simp[xU]at lX;done)|skip
    cases hq:y.2.2<;>rw[hq]at lX<;>first|(simp[xU]at lX;done)|skip
    simp[xU]at lX
    rw[lX.1,lX.2]
   ·exact r3 y e
  ·rw[if_neg hz]at e2;cases e2
def It(P:Program):Prop:=∀f k,sG f=some k->(k=1->∀(b o n c:Nat) (xs:List Int) (cv:Int) (w:World),xs.length=n->(∀i,i<n->w.cell? ⟨b,o+i,none⟩=some (.int .u8 (xs.getD i 0)))->
 Calls P f #[.slice (some ⟨b,o,none⟩) n c,.int .u8 cv] w fun e w'=>e= .returned (.int .i64 (Lib.indexByte (Lib.bytesOf xs) cv.toNat.toUInt8))∧Below w.heap.size w w')∧
 (k=2->∀(s:ByteArray) (c:Nat) (w:World),c<=1000000->s.size<=1000000->Calls P f #[.string s,.int .i64 c] w fun e w'=>e= .returned (.string ⟨(Lib.repeatL s.data.toList c).toArray⟩)∧Below w.heap.size w w')
structure u6 (P:Program) (bad:List FuncId):Prop where
 yes:∀f,bad.contains f=true->sG f=none->xT P f=true->∀w,rf w->Calls P f #[] w fun e w'=>e= .returned (.bool true)∧Below w.heap.size w w'
 nat:It P
theorem Pr:∀{vs:List Value} {l:List Int},zT vs=some l->vs=l.map (gZ .u8)
 |[],l,h=>by cases h;rfl
 |v::r,l,h=>by
  unfold zT at h
  split at h
  ·rename_i heq;cases heq
  ·rename_i x r' heq
   cases heq
   split at h
   ·rename_i l' hl
    cases h
    rw[Pr hl];rfl
   ·cases h
  ·cases h
theorem Ps{m:Mp}{k:IntKind}:∀{l:List Int} {vs:List Value},ba m (l.map (gZ k)) vs->vs=l.map (gZ k)
 |[],_,.nil=>rfl
 |_::l,_,.cons (.int _ _) t=>by rw[Ps t];rfl
theorem Pt{a:Array Value}{l:List Value}(h:a.toList=l):a=l.toArray:=by rw[<-h]
theorem acF{P:Program}{base:Nat}(hk:It P){f:FuncId}{k:Nat}(hf:sG f=some k){args:List Value}{ej:Array Value}{h h1:H}{n n1:Nat}{v:Value}{L:List En}{m:Mp}{w:World}(hr:sH k args h n=some ⟨v,h1,n1,L⟩)(x:WR P m base h w.heap)(hb:base<=w.heap.size)(ek:ba m args ej.toList):
 Calls P f ej w fun e w'=>∃m' v',e= .returned v'∧cK P m base n n1 w h1 m' w'∧VR m' v v':=by
 have fin:∀w',Below w.heap.size w w'->cK P m base n n w h m w':=fun w' me=>by
  refine⟨Le.refl _,fun _ _=>rfl,⟨fun b B hB=> ?_,x.inj⟩,me.mono hb⟩
  obtain⟨d,cs,lo,hi,h1,h2,h3⟩:=x.live b B hB
  exact⟨d,cs,lo,hi,h1,(me.block d.dJ (Array.getElem?_eq_some_iff.1 h2).1).trans h2,h3⟩
 unfold sH at hr
 split at hr
 ·unfold HE at hr
  split at hr
  ·rename_i b off len cap c
   generalize hq:ej.toList=as at ek
   cases ek with
   |cons ha ek=>
   cases ek with
   |cons hc ek=>
   cases ek
   cases hc
   unfold HC at hr
   obtain⟨vs,h2,n2,L1,L2,e1,e2,_⟩:=bind_some hr
   cases ha with
   |@fV _ _ _ _ cG o' d hd ho _ _ _ _=>
    obtain⟨rfl,rfl,hl,dh,fE,eh⟩:=uN x hd e1
    cases hu:zT vs with
    |none=>rw[hu]at e2;cases e2
    |some l=>
     rw[hu]at e2
     obtain⟨rfl,rfl,rfl⟩:=bD e2
     have CT:=Pr hu
     rw[CT]at fE hl
     have bX:=Ps fE
     rw[bX]at eh
     simp only[List.length_map]at hl
     rw[Pt hq]
     refine((hk f 1 hf).1 rfl d.dJ o' len cG l c w hl fun i hi=> ?_).mono ?_
     ·rw[ho (.inl (by omega))]
      exact eh i _ (by rw[List.getElem?_map,aM (by omega),aF,aM (by omega)];rfl)
     ·rintro e w' ⟨rfl,me⟩
      exact⟨m,_,rfl,fin w' me,.int _ _⟩
  ·cases hr
 ·unfold HF at hr
  split at hr
  ·rename_i s c
   generalize hq:ej.toList=as at ek
   cases ek with
   |cons ha ek=>
   cases ek with
   |cons hc ek=>
   cases ek
   cases hc
   cases ha
   unfold HD at hr
   split at hr
   ·rename_i hz
    simp only[cb,decide_eq_true_eq]at hz
    obtain⟨rfl,rfl,rfl⟩:=bD hr
    rw[Pt hq]
    obtain⟨c,rfl⟩:∃k:Nat,c=k:=⟨c.toNat,by omega⟩
    refine((hk f 2 hf).2 rfl s c w (by omega) hz.2).mono ?_
    rintro e w' ⟨rfl,me⟩
    exact⟨m,_,rfl,fin w' me,by rw[Int.toNat_natCast];exact .string _⟩
   ·cases hr
  ·cases hr
 ·cases hr
theorem Pu{P:Program}{base:Nat}{bad:List FuncId}(nX:sE P=true)(cH:qQ P bad=true)(mR:P.follows .mixedOrders=true)(kp:u6 P bad):∀fuel,xY P base (cS P bad fuel):=by
 have bC:uQ P base:=acv nX
 intro fuel
 induction fuel with
 |zero=>intro f args h n v h1 n1 L m w ej hr;cases hr
 |succ fuel ih=>
  intro f args h n v h1 n1 L m w ej hr x hb ek hf g
  unfold cS at hr
  by_cases oW:bad.contains f=true
  ·rw[if_pos oW]at hr
   cases rh:sG f with
   |some k=>
    rw[rh]at hr
    exact acF kp.nat rh hr x hb ek
   |none=>
   rw[rh]at hr
   simp only at hr
   by_cases hz:(decide (args.size=0)&&xT P f)=true
   ·rw[if_pos hz]at hr
    simp only[cb,decide_eq_true_eq]at hz
    obtain⟨u,h2,n2,L1,L2,c1,c2,_⟩:=bind_some hr
    obtain⟨rfl,rfl,acG⟩:=Pq x g c1
    obtain⟨rfl,rfl,rfl⟩:=bD c2
    have hl:=ek.length
    have e1:ej=#[]:=by
     apply Array.eq_empty_of_size_eq_zero
     simp at hl
     omega
    subst e1
    refine(kp.yes f oW rh hz.2 w acG).mono ?_
    rintro e w' ⟨rfl,me⟩
    refine⟨m,_,rfl,⟨Le.refl _,fun _ _=>rfl,⟨fun b B hB=> ?_,x.inj⟩,me.mono hb⟩,.bool true⟩
    obtain⟨d,cs,lo,hi,h1,h2,h3⟩:=x.live b B hB
    exact⟨d,cs,lo,hi,h1,(me.block d.dJ (Array.getElem?_eq_some_iff.1 h2).1).trans h2,h3⟩
   ·rw[if_neg hz]at hr;cases hr
  rw[if_neg oW]at hr
  cases kN:P.funcs[f]? with
  |none=>rw[kN]at hr;cases hr
  |some fn=>
   rw[kN]at hr
   simp only at hr
   cases hc:fn.body with
   |none=>rw[hc]at hr;cases hr
   |some c=>
    rw[hc]at hr
    simp only at hr
    by_cases jm:(args.size<=fn.ntmps&&fn.ntmps<1000)=true
    ·rw[if_pos jm]at hr
     simp only[cb,decide_eq_true_eq]at jm
     obtain⟨L',hr⟩:=HO hr
     obtain⟨y,h2,n2,L1,L2,e1,e2,_⟩:=bind_some hr
     obtain⟨e,s1⟩:=y
     have acH:lr P c=true:=acE cH (Bool.eq_false_iff.2 oW) kN hc
     have fM:=fun f a=>Loc.cS P bad fuel f a
     refine calls_of_wp kN hc ?_
     have fin:∀(e':Ex) (hn:cv e'= .normal∨cv e'= .ret) (heq:e=e'),((jg P s1 fn.results.toList).bind fun vs=>M.ret (match vs with|[v]=>v|_=> .tuple vs.toArray)) h2 n2=some ⟨v,h1,n1,L2⟩->
      c.wp P (bodyPost P fn fun e w'=>∃m' v',e= .returned v'∧cK P m base n n1 w h1 m' w'∧VR m' v v') {tmps:=ej++Array.replicate (fn.ntmps-ej.size) undef,defers:=[]} w:=by
      intro e' hn heq e3
      subst heq
      obtain⟨vs,h3,n3,L3,L4,e4,e5,_⟩:=bind_some e3
      obtain⟨rfl,rfl,rfl⟩:=bD e5
      obtain⟨rfl,rfl⟩:=acD _ _ _ _ _ _ _ e4
      refine abI bC ih fM mR fuel c acH _ m _ s1 _ w h _ n _ L1 e x hb g (abJ ek jm.1 jm.2) e1 hf fun m' a' w' hp dK=> ?_
      obtain⟨dh,fE,jK⟩:=results_at dK _ _ _ _ _ _ _ w' hp.wr e4
      have sT:(results fn a'.tmps).run P w'= .ok (if h:dh.toArray.size=1 then dh.toArray[0]else .tuple dh.toArray) w':=by
       unfold results
       rw[Array.mapM_eq_mapM_toList]
       simp only[map_eq_pure_bind,bind_assoc,pure_bind,eI]
       refine Eq.trans (congrArg (fun r=>fi r _) jK) ?_
       simp only[fi,oI]
      have ye:VR m' (match vs with|[v]=>v|_=> .tuple vs.toArray) (if h:dh.toArray.size=1 then dh.toArray[0]else .tuple dh.toArray):=by
       cases fE with
       |nil=>exact .tuple .nil
       |cons hv ht=>
        cases ht with
        |nil=>exact hv
        |cons iq yf=>exact .tuple (.cons hv (.cons iq yf))
      have:bodyPost P fn (fun e w'=>∃m' v',e= .returned v'∧cK P m base n n1 w h1 m' w'∧VR m' (match vs with|[v]=>v|_=> .tuple vs.toArray) v') (cv e) a' w':=by
       rcases hn with hn|hn<;>rw[hn]<;>exact⟨dK.df,_,sT,m',_,rfl,hp,ye⟩
      exact this
     cases e with
     |normal=>exact fin .normal (.inl rfl) rfl e2
     |ret=>exact fin .ret (.inr rfl) rfl e2
     |exit id=>cases e2
    ·rw[if_neg jm]at hr;cases hr
def CU(r:Option (Out Value)):Bool:=match r with
 |some o=>(match o.val with| .bool b=>b|_=>false)
 |none=>false
end Go.Proofs.YtdagfcflbphoiaaGreatDoor.Ev
namespace Go.Proofs.YtdagfcflbphoiaaGreatDoor.Ev
open Go
abbrev Fr:=List (Nat×Value)
def Fr.at_:Fr->Nat->Option Value
 |[],_=>none
 |(u,v)::r,t=>match bK u t with
  |true=>some v
  |false=>Fr.at_ r t
def Fr.aB(s:Fr):List Nat->Fr
 |[]=>[]
 |t::r=>match s.at_ t with
  |some v=>(t,v)::Fr.aB s r
  |none=>Fr.aB s r
def Fr.keys:Fr->List Nat
 |[]=>[]
 |(u,_)::r=>u::Fr.keys r
def gu(s:Fr)(dst:Option Tmp)(v:Value):Fr:=match dst with
 |none=>s
 |some d=>(d,v)::s
def aS{α β:Type}(o:Option α)(k:α->M β):M β:=match o with
 |some v=>k v
 |none=> .fail
def bj(s:Fr):Operand->Option Value
 | .tmp t=>s.at_ t
 | .const v=>some v
 | .global g=>some (.pointer (some ⟨g,0,none⟩))
 | .func f=>some (.func (.func f) #[] #[])
def ly{β:Type}(s:Fr):List Operand->(List Value->M β)->M β
 |[],k=>k []
 |x::r,k=>aS (bj s x) fun v=>ly s r fun vs=>k (v::vs)
def ri{β:Type}(s:Fr)(x:Option Operand)(k:Option Value->M β):M β:=match x with
 |some x=>aS (bj s x) fun v=>k (some v)
 |none=>k none
def ar{β:Type}(v:Value)(x y:M β):M β:=match v with
 | .bool true=>x
 | .bool false=>y
 |_=> .fail
section
variable (P:Program)
def nY(ok:Bool)(s:Sem Value):Option Value:=
 match ok with
 |true=>match je P (do pure (.value (<-s)))with
  |some v=>match scalar v with
   |true=>some v
   |false=>none
  |none=>none
 |false=>none
def Pv(c a b:Value):Option Value:=match c with
 | .bool t=>some (if t then a else b)
 |_=>none
def Pw:Value->Option Value
 | .pointer (some a)=>some (.pointer (some a))
 | .func (.func f) a b=>some (.func (.func f) a b)
 |_=>none
def mV(t:TypeId):Bool:=match P.underlying t with
 |some (.pointer _)|some (.slice _)|some (.func _ _ _)=>true
 |_=>false
def Iu(op:BinOp)(t:TypeId)(x y:Value):Option Value:=match nG (P.underlying t) x y,op with
 |some v,.eql=>some (.bool v)
 |some v,.neq=>some (.bool (!v))
 |_,_=>none
def Iv(op:BinOp)(t:TypeId)(x y:Value):Option Value:=nY P (scalar x&&scalar y) (g8 op t x y)
def dX(op:BinOp)(t:TypeId)(x y:Value):Option Value:=match mV P t with
 |true=>Iu P op t x y
 |false=>Iv P op t x y
def Px(op:UnOp)(x:Value):Option Value:=nY P (scalar x) (Op.unary op x)
def u7:Option TypeDesc->Option TypeDesc->Option TypeId
 |some .string,some (.slice e)=>some e
 |_,_=>none
def CV(e:TypeId)(x:Value):M Value:=match x with
 | .string s=>qO e s
 |_=> .fail
def CW{β:Type}(src dst:TypeId)(x:Value)(k:Value->M β):M β:=
 match sx (P.underlying src) (P.underlying dst)with
 |some e=>match nK P e with
  |true=>(inside (nJ x)).bind k
  |false=> .fail
 |none=>match u7 (P.underlying src) (P.underlying dst)with
  |some e=>match nK P e&&size? P e==some 1 with
   |true=>(inside (CV e x)).bind k
   |false=> .fail
  |none=>aS (nY P (scalar x) (Go.convert src dst x)) k
def vd:Option Value->Bool
 |some v=>scalar v
 |none=>true
def CX(t:TypeId)(x:Value)(lo hi mx:Option Value):Option Value:=match isStr x with
 |true=>nY P (vd lo&&vd hi&&vd mx) (Cp t x lo hi mx)
 |false=>none
def ve(t:TypeId)(x:Value)(lo hi mx:Option Value):M Value:=match isStr x with
 |true=> .fail
 |false=>oN P t x lo hi mx
def oX(t:TypeId):Bool:=match P.underlying t with
 |some .string=>true
 |_=>false
def yg{β:Type}(t:TypeId)(x:Value)(lo hi mx:Option Value)(k:Value->M β):M β:=match oX P t with
 |true=>aS (CX P t x lo hi mx) k
 |false=>(inside (ve P t x lo hi mx)).bind k
def CY(t:TypeId)(x ix:Value):Option Value:=match isStr x with
 |true=>nY P (scalar ix) (Co t x ix)
 |false=>none
def CZ(t:TypeId)(x ix:Value):Option Value:=match isStr x with
 |true=>none
 |false=>xP P t x ix
def vh(t:TypeId)(x ix:Value):Option Value:=match oX P t with
 |true=>CY P t x ix
 |false=>CZ P t x ix
def Py:Value->Option Value
 | .slice _ n _=>some (.int .i64 n)
 |_=>none
def Pz:Value->Option Value
 | .string s=>some (.int .i64 s.size)
 |_=>none
def Aj(dk:Array TypeId)(vs:List Value):Option Value:=match dk[0]?,vs with
 |some t,[x]=>match P.underlying t with
  |some (.slice _)=>Py x
  |some .string=>Pz x
  |_=>none
 |_,_=>none
def min2:List Value->Option Value
 |[.int k a,.int _ b]=>some (.int k (if b<a then b else a))
 |_=>none
def max2:List Value->Option Value
 |[.int k a,.int _ b]=>some (.int k (if a<b then b else a))
 |_=>none
variable (rec:FuncId->Array Value->M Value)
def fO{β:Type}(fv:Value)(vs:List Value)(k:Value->M β):M β:=
 aS (Cz fv) fun q=>match mL P q.1 with
  |true=>(inside (rec q.1 (q.2.1.toList++vs++q.2.2.toList).toArray)).bind k
  |false=> .fail
def PA{β:Type}(dk:Array TypeId)(vs:List Value)(k:Value->M β):M β:=
 aS (xQ P dk vs) fun q=>(inside (pR P q.1 q.2.1 q.2.2)).bind k
def PB{β:Type}(dk:Array TypeId)(vs:List Value)(k:Value->M β):M β:=
 aS (xR dk vs) fun q=>(inside (pS P q.1 q.2.1 q.2.2)).bind k
def call2{β:Type}(s:Fr)(c:Call)(vs:List Value)(k:Value->M β):M β:=
 match c.callee with
 | .value f=>aS (bj s f) fun fv=>fO P rec fv vs k
 | .builtin .append=>PA P c.argTypes vs k
 | .builtin .copy=>PB P c.argTypes vs k
 | .builtin .len=>aS (Aj P c.argTypes vs) k
 | .builtin .min=>aS (min2 vs) k
 | .builtin .max=>aS (max2 vs) k
 |_=> .fail
def C0{β:Type}(s:Fr)(o:Oper)(k:Value->M β):M β:=
 match o.op with
 | .move x| .assign x=>aS (bj s x) k
 | .pick c a b=>aS (bj s c) fun c=>aS (bj s a) fun a=>aS (bj s b) fun b=>aS (Pv c a b) k
 | .alloc e=>(inside (nH P e)).bind k
 | .box e x=>aS (bj s x) fun x=>(inside (nI P e x)).bind k
 | .build t parts=>ly s (parts.toList.map (·.2)) fun vs=>(inside (mJ P t ((parts.toList.map (·.1)).zip vs))).bind k
 | .buildSlice t len parts=>ly s (parts.toList.map (·.2)) fun vs=>(inside (mK P t len ((parts.toList.map (·.1)).zip vs))).bind k
 | .load t a=>aS (bj s a) fun a=>(inside (jf P t a)).bind k
 | .store t a x=>aS (bj s a) fun a=>aS (bj s x) fun x=>(inside (oO P t a x)).bind k
 | .nilCheck x=>aS (bj s x) fun x=>aS (Pw x) k
 | .binOp op t x y _=>aS (bj s x) fun x=>aS (bj s y) fun y=>aS (dX P op t x y) k
 | .unOp op _ x=>aS (bj s x) fun x=>aS (Px P op x) k
 | .convert src dst x=>aS (bj s x) fun x=>CW P src dst x k
 | .makeFunc fn a b=>ly s a.toList fun a=>ly s b.toList fun b=>k (.func fn a.toArray b.toArray)
 | .makeSlice t l c=>aS (bj s l) fun l=>aS (bj s c) fun c=>(inside (nL P t l c)).bind k
 | .slice t x lo hi mx=>aS (bj s x) fun x=>ri s lo fun lo=>ri s hi fun hi=>ri s mx fun mx=>yg P t x lo hi mx k
 | .fieldAddr t x f=>aS (bj s x) fun x=>aS (xO P t x f) k
 | .field t x f=>aS (bj s x) fun x=>aS (sA P t x f) k
 | .indexAddr t x ix=>aS (bj s x) fun x=>aS (bj s ix) fun ix=>aS (qP P t x ix) k
 | .index t x ix=>aS (bj s x) fun x=>aS (bj s ix) fun ix=>aS (vh P t x ix) k
 | .extract t i=>aS (bj s t) fun t=>aS (sB t i) k
 | .call c=>ly s c.args.toList fun vs=>call2 P rec s c vs k
 |_=> .fail
def kind(o:Op):Nat:=match o with
 | .move _| .assign _| .pick _ _ _| .nilCheck _| .binOp _ _ _ _ _| .unOp _ _ _| .makeFunc _ _ _| .fieldAddr _ _ _| .field _ _ _| .indexAddr _ _ _| .index _ _ _| .extract _ _| .build _ _=>0
 | .load _ _| .slice _ _ _ _ _=>1
 | .alloc _| .box _ _| .buildSlice _ _ _| .makeSlice _ _ _=>2
 | .call c=>match c.callee with
   | .builtin .len| .builtin .min| .builtin .max=>0
   |_=>3
 |_=>3
def fits(i j:Nat):Bool:=i==0||j==0||(i==1&&j==1)||(i==2&&j==2)||(i==1&&j==2)
def C1(ops:Array Oper)(dc:List Nat)(j:Nat)(oj:Oper):Nat->List Oper->Bool
 |_,[]=>true
 |k,ok::r=>((dc.getD k 0).testBit j||(fits (kind oj.op) (kind ok.op)&& !(pT ops oj ok)))&&C1 ops dc j oj (k+1) r
def C4(ops:Array Oper)(dc:List Nat):Nat->List Oper->Bool
 |_,[]=>true
 |j,oj::r=>C1 ops dc j oj (j+1) r&&C4 ops dc (j+1) r
def C5(ops:Array Oper):Bool:=sC ops&&C4 ops (lS ops.toList []) 0 ops.toList
end
def dY{α:Type}(m:Nat->M α)(h:H)(n:Nat)(a:α)(h1:H)(n1:Nat)(L:List En):Prop:=∃f0,∀fuel,f0<=fuel->m fuel h n=some ⟨a,h1,n1,L⟩
theorem dY.of{α:Type}{m:M α}{h h1:H}{n n1:Nat}{a:α}{L:List En}(e:m h n=some ⟨a,h1,n1,L⟩):dY (fun _=>m) h n a h1 n1 L:=⟨0,fun _ _=>e⟩
theorem bZ{α β:Type}{m:M α}{f:α->M β}{h h1 h2:H}{n n1 n2:Nat}{a:α}{b:β}{L1 L2:List En}(e1:m h n=some ⟨a,h1,n1,L1⟩)(e2:f a h1 n1=some ⟨b,h2,n2,L2⟩):(m.bind f) h n=some ⟨b,h2,n2,L1++L2⟩:=by
 unfold M.bind
 rw[e1]
 simp only
 rw[e2]
theorem dY.bind{α β:Type}{m:Nat->M α}{f:Nat->α->M β}{h h1 h2:H}{n n1 n2:Nat}{a:α}{b:β}{L1 L2:List En}(x:dY m h n a h1 n1 L1)(y:dY (fun fuel=>f fuel a) h1 n1 b h2 n2 L2):
 dY (fun fuel=>(m fuel).bind (f fuel)) h n b h2 n2 (L1++L2):=by
 obtain⟨f0,x⟩:=x
 obtain⟨f1,y⟩:=y
 exact⟨max f0 f1,fun fuel hf=>bZ (x fuel (by omega)) (y fuel (by omega))⟩
theorem dY.map{α:Type}{m m':Nat->M α}{h h1:H}{n n1:Nat}{a:α}{L:List En}(x:dY m h n a h1 n1 L)(e:∀fuel,m' fuel=m fuel):dY m' h n a h1 n1 L:=by
 obtain⟨f0,x⟩:=x
 exact⟨f0,fun fuel hf=>by rw[e];exact x fuel hf⟩
theorem kq{α:Type}{m:M α}{h h1:H}{n n1:Nat}{a:α}{L:List En}(e:m h n=some ⟨a,h1,n1,L⟩):inside m h n=some ⟨a,h1,n1,L.filter fun e=> !(n<=e.b&&e.b<n1)⟩:=by
 unfold inside
 rw[e]
theorem dY.inside{α:Type}{m:Nat->M α}{h h1:H}{n n1:Nat}{a:α}{L:List En}(x:dY m h n a h1 n1 L):dY (fun fuel=>Ev.inside (m fuel)) h n a h1 n1 (L.filter fun e=> !(n<=e.b&&e.b<n1)):=by
 obtain⟨f0,x⟩:=x
 exact⟨f0,fun fuel hf=>kq (x fuel hf)⟩
theorem vi{α:Type}{m:M α}{h h1:H}{n n1:Nat}{a:α}{L:List En}(hr:Ev.inside m h n=some ⟨a,h1,n1,L⟩):∃L',m h n=some ⟨a,h1,n1,L'⟩∧L=L'.filter fun e=> !(n<=e.b&&e.b<n1):=by
 unfold Ev.inside at hr
 split at hr
 ·rename_i a' h' n' L' e
  simp only[ee,Out.mk.injEq]at hr
  obtain⟨rfl,rfl,rfl,rfl⟩:=hr
  exact⟨L',e,rfl⟩
 ·cases hr
def Sub(s:Fr)(s1:S):Prop:=∀t v,s.at_ t=some v->s1.get t=v
theorem Sub.bj{s:Fr}{s1:S}(hs:Sub s s1){x:Operand}{v:Value}(h:Ev.bj s x=some v):ev s1 x=v:=by
 cases x with
 |tmp t=>exact hs t v h
 |const u=>cases h;rfl
 |global g=>cases h;rfl
 |func f=>cases h;rfl
theorem cL{α β:Type}{o:Option α}{k:α->M β}{h:H}{n:Nat}{r:Out β}(hr:aS o k h n=some r):∃v,o=some v∧k v h n=some r:=by
 cases o with
 |none=>cases hr
 |some v=>exact⟨v,rfl,hr⟩
theorem yh{β:Type}{s:Fr}{s1:S}(hs:Sub s s1):∀{l:List Operand} {k:List Value->M β} {h:H} {n:Nat} {r:Out β},ly s l k h n=some r->∃vs,vs=l.map (ev s1)∧k vs h n=some r
 |[],k,h,n,r,hr=>⟨[],rfl,hr⟩
 |x::l,k,h,n,r,hr=>by
  unfold ly at hr
  obtain⟨v,hv,hr⟩:=cL hr
  obtain⟨vs,e,hr⟩:=yh hs hr
  exact⟨v::vs,by rw[List.map_cons,hs.bj hv,e],hr⟩
theorem Iw{β:Type}{s:Fr}{s1:S}(hs:Sub s s1){x:Option Operand}{k:Option Value->M β}{h:H}{n:Nat}{r:Out β}(hr:ri s x k h n=some r):k (x.map (ev s1)) h n=some r:=by
 cases x with
 |none=>exact hr
 |some x=>
  obtain⟨v,hv,hr⟩:=cL hr
  simp only[Ch,hs.bj hv]
  exact hr
def cont(P:Program)(kn:List FuncId)(fuel:Nat):Nx->M Value
 | .val v=> .ret v
 | .call f args=>cS P kn fuel f args
theorem nZ{m:M Value}{P:Program}{kn:List FuncId}{fuel:Nat}:(m.bind fun v=> .ret (.val v)).bind (cont P kn fuel)=m:=by
 funext h n
 unfold M.bind
 cases m h n with
 |none=>rfl
 |some o=>simp[M.ret,cont]
theorem lz{v:Value}{P:Program}{kn:List FuncId}{fuel:Nat}:(M.ret (Nx.val v)).bind (cont P kn fuel)=M.ret v:=by
 funext h n
 simp[M.bind,M.ret,cont]
theorem acI{f:FuncId}{args:Array Value}{P:Program}{kn:List FuncId}{fuel:Nat}:(M.ret (Nx.call f args)).bind (cont P kn fuel)=cS P kn fuel f args:=by
 funext h n
 simp only[M.bind,M.ret,cont]
 cases cS P kn fuel f args h n with
 |none=>rfl
 |some o=>simp
theorem vj{α:Type}(a:α):M.lift (some a)=M.ret a:=rfl
theorem qb{α β:Type}(a:α)(f:α->M β):(M.ret a).bind f=f a:=by
 funext h n
 simp only[M.bind,M.ret]
 cases f a h n with
 |none=>rfl
 |some o=>simp
def C6(E:Nat->M Value){β:Type}(k:Value->M β)(h:H)(n:Nat)(r:Out β):Prop:=
 ∃v h1 n1 L1 L2,dY (fun fuel=>inside (E fuel)) h n v h1 n1 L1∧k v h1 n1=some ⟨r.val,r.h,r.n,L2⟩∧r.log=L1++L2
section
variable {β:Type} {E:Nat->M Value} {k:Value->M β} {h:H} {n:Nat} {r:Out β}
theorem ob{m:M Value}(hr:((inside m).bind k) h n=some r)(hm:∀fuel,E fuel=m):C6 E k h n r:=by
 obtain⟨c,h2,n2,L⟩:=r
 obtain⟨v,h1,n1,L1,L2,e1,e2,e3⟩:=bind_some hr
 exact⟨v,h1,n1,L1,L2,⟨0,fun fuel _=>by show Ev.inside (E fuel) h n=_;rw[hm];exact e1⟩,e2,e3⟩
theorem kt{v:Value}(hr:k v h n=some r)(hm:∀fuel,E fuel=M.ret v):C6 E k h n r:=by
 obtain⟨c,h2,n2,L⟩:=r
 exact⟨v,h,n,[],L,⟨0,fun fuel _=>by show Ev.inside (E fuel) h n=_;rw[hm];rfl⟩,hr,rfl⟩
theorem acJ {P:Program} {kn:List FuncId} {rec:FuncId->Array Value->M Value} (cF:∀f args h n v h1 n1 L,rec f args h n=some ⟨v,h1,n1,L⟩->dY (fun fuel=>cS P kn fuel f args) h n v h1 n1 L) {g:FuncId} {args:Array Value}
 (hr:((inside (rec g args)).bind k) h n=some r) (hm:∀fuel,E fuel=cS P kn fuel g args):C6 E k h n r:=by
 obtain⟨c,h2,n2,L⟩:=r
 obtain⟨v,h1,n1,L1,L2,e1,e2,e3⟩:=bind_some hr
 obtain⟨L',e4,rfl⟩:=vi e1
 exact⟨v,h1,n1,_,L2,((cF _ _ _ _ _ _ _ _ e4).map hm).inside,e2,e3⟩
end
theorem Ak{P:Program}{ok:Bool}{s:Sem Value}{v:Value}(h:nY P ok s=some v):ok=true∧je P (do pure (.value (<-s)))=some v∧scalar v=true:=by
 unfold nY at h
 cases ok with
 |false=>cases h
 |true=>
  simp only at h
  split at h
  ·rename_i u hu
   split at h
   ·rename_i hs
    cases h
    exact⟨rfl,hu,hs⟩
   ·cases h
  ·cases h
theorem sU{P:Program}{ρ:Operand->Value}{o:Oper}{v:Value}(h1:(o.op.operands.all fun x=>scalar (ρ x))=true)(h2:je P (execOp ρ o)=some v)(h3:scalar v=true):fT P ρ o=M.ret (.val v):=by
 unfold fT
 rw[if_pos h1,h2,vj,qb,if_pos h3]
theorem acK{P:Program}{t:TypeId}(h:mV P t=false)(x y:Value):nG (P.underlying t) x y=none:=by
 unfold mV at h
 generalize P.underlying t=d at h
 cases d with
 |none=>rfl
 |some d=>cases d<;>first|(cases h;done)|rfl|(unfold nG;rfl)
theorem acL{op:BinOp}{t:TypeId}{x y:Operand}{a b:Value}(ha:scalar a=true)(hb:scalar b=true):eqGuard op t x y a b=pure ():=by
 cases a<;>first|(simp[scalar]at ha;done)|skip
 all_goals cases b<;>first|(simp[scalar]at hb;done)|skip
 all_goals cases op<;>rfl
theorem acM {P:Program} {s1:S} {op:BinOp} {t yt:TypeId} {x y:Operand} {v:Value} {dst:Option Tmp} {ty:TypeId} {pos:String} {after:Array Edge} {guard:Option (Nat×Bool)}
 (h:dX P op t (ev s1 x) (ev s1 y)=some v):bU P (ev s1) ⟨dst,.binOp op t x y yt,ty,pos,after,guard⟩=M.ret (.val v):=by
 unfold dX at h
 split at h
 ·unfold Iu at h
  unfold bU
  simp only
  split at h
  ·rename_i q
   cases h
   rw[q]
  ·rename_i q
   cases h
   rw[q]
  ·cases h
 ·rename_i hn
  unfold Iv at h
  obtain⟨h1,h2,h3⟩:=Ak h
  unfold bU
  simp only[acK hn]
  simp only[cb]at h1
  refine sU (by simp[dR,h1.1,h1.2]) ?_ h3
  rw[<-h2]
  simp only[execOp,acL h1.1 h1.2]
  rfl
theorem acN{a b:Option TypeDesc}{v:Value}(h:u7 a b=none):uI a b v=none:=by
 unfold u7 at h
 unfold uI
 split at h
 ·cases h
 ·rename_i hn
  split
  ·rename_i e s
   exact(hn _ rfl rfl).elim
  ·rfl
theorem PC{α β:Type}{f:α->β}{l:List α}{a b:β}(h:l.map f=[a,b]):∃x y,l=[x,y]∧f x=a∧f y=b:=by
 match l,h with
 |[x,y],h=>simp at h;exact⟨x,y,rfl,h.1,h.2⟩
theorem acO{α β:Type}{f:α->β}{l:List α}{a:β}(h:l.map f=[a]):∃x,l=[x]∧f x=a:=by
 match l,h with
 |[x],h=>simp at h;exact⟨x,rfl,h⟩
theorem C7{α:Type}{a:Array α}{l:List α}(h:a.toList=l):a=l.toArray:=by
 cases a;simp at h;rw[h]
theorem zip_map{α β γ:Type}(f:α->β)(g:α->γ)(l:List α):(l.map f).zip (l.map g)=l.map fun x=>(f x,g x):=by
 induction l with
 |nil=>rfl
 |cons a l ih=>simp[ih]
theorem acP{P:Program}{t:TypeId}{x ix v:Value}(h:CY P t x ix=some v):isStr x=true∧scalar ix=true∧je P (do pure (.value (<-Co t x ix)))=some v∧scalar v=true:=by
 unfold CY at h
 split at h
 ·rename_i hs
  obtain⟨h1,h2,h3⟩:=Ak h
  exact⟨hs,h1,h2,h3⟩
 ·cases h
theorem acQ{P:Program}{t:TypeId}{x ix v:Value}(h:CZ P t x ix=some v):isStr x=false∧xP P t x ix=some v:=by
 unfold CZ at h
 split at h
 ·cases h
 ·rename_i hs
  exact⟨hs,h⟩
theorem PD{x:Value}(h:isStr x=true):scalar x=true:=by
 cases x<;>first|rfl|(simp[isStr]at h)
theorem qc{P:Program}{t:TypeId}{d:TypeDesc}(h:P.underlying t=some d)(f:TypeDesc->Sem Next):je P (underlying t>>=f)=je P (f d):=by
 unfold underlying
 show je P ((match P.underlying t with
  |some d=>pure d
  |none=>stuck "no such type")>>=f)=_
 rw[h]
 rfl
set_option maxHeartbeats 1000000 in
theorem acR {P:Program} {kn:List FuncId} {rec:FuncId->Array Value->M Value} (cF:∀f args h n v h1 n1 L,rec f args h n=some ⟨v,h1,n1,L⟩->dY (fun fuel=>cS P kn fuel f args) h n v h1 n1 L)
 {β:Type} {s:Fr} {s1:S} {o:Oper} {k:Value->M β} {h:H} {n:Nat} {r:Out β} (hs:Sub s s1) (hr:C0 P rec s o k h n=some r):C6 (fun fuel=>(bU P (ev s1) o).bind (cont P kn fuel)) k h n r:=by
 obtain⟨dst,op,ty,pos,after,guard⟩:=o
 unfold C0 at hr
 cases op with
 |move x=>
  obtain⟨v,hv,hr⟩:=cL hr
  exact kt hr fun fuel=>by rw[<-hs.bj hv];exact lz
 |assign x=>
  obtain⟨v,hv,hr⟩:=cL hr
  exact kt hr fun fuel=>by rw[<-hs.bj hv];exact lz
 |pick c a b=>
  obtain⟨vc,hc,hr⟩:=cL hr
  obtain⟨va,ha,hr⟩:=cL hr
  obtain⟨vb,hb,hr⟩:=cL hr
  obtain⟨v,hv,hr⟩:=cL hr
  refine kt hr fun fuel=> ?_
  unfold bU
  simp only[hs.bj hc,hs.bj ha,hs.bj hb]
  unfold Pv at hv
  split at hv
  ·cases hv
   exact lz
  ·cases hv
 |alloc e=>exact ob hr fun fuel=>nZ
 |box e x=>
  obtain⟨v,hv,hr⟩:=cL hr
  exact ob hr fun fuel=>by rw[<-hs.bj hv];exact nZ
 |build t parts=>
  obtain⟨vs,hv,hr⟩:=yh hs hr
  refine ob hr fun fuel=> ?_
  rw[hv,Oi,zip_map]
  exact nZ
 |buildSlice t len parts=>
  obtain⟨vs,hv,hr⟩:=yh hs hr
  refine ob hr fun fuel=> ?_
  rw[hv,Oi,zip_map]
  exact nZ
 |load t a=>
  obtain⟨v,hv,hr⟩:=cL hr
  exact ob hr fun fuel=>by rw[<-hs.bj hv];exact nZ
 |store t a x=>
  obtain⟨va,ha,hr⟩:=cL hr
  obtain⟨v,hv,hr⟩:=cL hr
  exact ob hr fun fuel=>by rw[<-hs.bj hv,<-hs.bj ha];exact nZ
 |nilCheck x=>
  obtain⟨v,hv,hr⟩:=cL hr
  obtain⟨u,hu,hr⟩:=cL hr
  refine kt hr fun fuel=> ?_
  unfold bU
  simp only[hs.bj hv]
  unfold Pw at hu
  split at hu
  ·cases hu;exact(congrArg (fun z=>M.bind z (cont P kn fuel)) (qb _ _)).trans lz
  ·cases hu;exact(congrArg (fun z=>M.bind z (cont P kn fuel)) (qb _ _)).trans lz
  ·cases hu
 |binOp op t x y yt=>
  obtain⟨va,ha,hr⟩:=cL hr
  obtain⟨vb,hb,hr⟩:=cL hr
  obtain⟨v,hv,hr⟩:=cL hr
  rw[<-hs.bj ha,<-hs.bj hb]at hv
  exact kt hr fun fuel=>by simp only[acM hv];exact lz
 |unOp op t x=>
  obtain⟨va,ha,hr⟩:=cL hr
  obtain⟨v,hv,hr⟩:=cL hr
  rw[<-hs.bj ha]at hv
  obtain⟨h1,h2,h3⟩:=Ak hv
  refine kt hr fun fuel=> ?_
  rw[<-lz (P:=P) (fuel:=fuel),<-sU (ρ:=ev s1) (o:=⟨dst,.unOp op t x,ty,pos,after,guard⟩) (by simpa[dR]using h1) h2 h3]
  rfl
 |convert src d x=>
  obtain⟨va,ha,hr⟩:=cL hr
  have hx:=hs.bj ha
  unfold CW at hr
  cases he:sx (P.underlying src) (P.underlying d)with
  |some e=>
   simp only[he]at hr
   cases hu:nK P e with
   |true=>
    simp only[hu]at hr
    refine ob hr fun fuel=> ?_
    unfold bU
    simp only[he,hu,if_true,hx]
    exact nZ
   |false=>
    simp only[hu]at hr
    cases hr
  |none=>
   simp only[he]at hr
   cases mf:u7 (P.underlying src) (P.underlying d)with
   |some e=>
    simp only[mf]at hr
    cases hu:(nK P e&&size? P e==some 1)with
    |true=>
     simp only[hu]at hr
     cases va with
     |string s0=>
      refine ob hr fun fuel=> ?_
      unfold bU
      simp only[he,hx]
      unfold CV
      have:uI (P.underlying src) (P.underlying d) (.string s0)=some (e,s0):=by
       revert mf
       generalize P.underlying src=a
       generalize P.underlying d=b
       intro mf
       unfold u7 at mf
       split at mf
       ·cases mf;rfl
       ·cases mf
      simp only[this,hu,if_true]
      exact nZ
     |_=>
      exfalso
      obtain⟨c,h2,n2,L⟩:=r
      obtain⟨v,h1,n1,L1,L2,e1,e2,e3⟩:=bind_some hr
      obtain⟨L',e4,_⟩:=vi e1
      cases e4
    |false=>
     simp only[hu]at hr
     cases hr
   |none=>
    simp only[mf]at hr
    obtain⟨v,hv,hr⟩:=cL hr
    obtain⟨h1,h2,h3⟩:=Ak hv
    refine kt hr fun fuel=> ?_
    unfold bU
    simp only[he,acN mf]
    rw[sU (by simpa[dR,hx]using h1) (by rw[<-h2];simp only[execOp,hx]) h3]
    exact lz
 |makeFunc fn a b=>
  obtain⟨va,ha,hr⟩:=yh hs hr
  obtain⟨vb,hb,hr⟩:=yh hs hr
  refine kt hr fun fuel=> ?_
  subst ha hb
  unfold bU
  simp only[<-qK,Array.toArray_toList]
  exact lz
 |makeSlice t l c=>
  obtain⟨va,ha,hr⟩:=cL hr
  obtain⟨v,hv,hr⟩:=cL hr
  exact ob hr fun fuel=>by rw[<-hs.bj hv,<-hs.bj ha];exact nZ
 |slice t x lo hi mx=>
  obtain⟨va,ha,hr⟩:=cL hr
  have hr:=Iw hs hr
  have hr:=Iw hs hr
  have hr:=Iw hs hr
  have hx:=hs.bj ha
  unfold yg at hr
  cases eE:oX P t with
  |true=>
   simp only[eE]at hr
   obtain⟨v,hv,hr⟩:=cL hr
   unfold CX at hv
   split at hv
   ·rename_i u4
    obtain⟨h1,h2,h3⟩:=Ak hv
    refine kt hr fun fuel=> ?_
    unfold bU
    simp only[hx,u4,if_true]
    simp only[cb]at h1
    rw[sU ?_ (by rw[<-h2];simp only[execOp,hx]) h3]
    ·exact lz
    ·have q1:=h1.1.1
     have q2:=h1.1.2
     have q3:=h1.2
     simp only[dR]
     have q0:=PD u4
     cases lo<;>cases hi<;>cases mx<;>simp_all [vd]
   ·cases hv
  |false=>
   simp only[eE]at hr
   refine ob hr fun fuel=> ?_
   unfold ve
   unfold bU
   simp only[hx]
   cases u4:isStr va with
   |true=>
    exfalso
    obtain⟨c,h2,n2,L⟩:=r
    obtain⟨v,h1,n1,L1,L2,e1,e2,e3⟩:=bind_some hr
    obtain⟨L',e4,_⟩:=vi e1
    unfold ve at e4
    rw[u4]at e4
    cases e4
   |false=>
    simp only[sd,if_false]
    exact nZ
 |fieldAddr t x f=>
  obtain⟨va,ha,hr⟩:=cL hr
  obtain⟨v,hv,hr⟩:=cL hr
  refine kt hr fun fuel=> ?_
  unfold bU
  simp only[hs.bj ha,hv,vj,qb]
  rfl
 |field t x f=>
  obtain⟨va,ha,hr⟩:=cL hr
  obtain⟨v,hv,hr⟩:=cL hr
  refine kt hr fun fuel=> ?_
  unfold bU
  simp only[hs.bj ha,hv,vj,qb]
  rfl
 |indexAddr t x f=>
  obtain⟨va,ha,hr⟩:=cL hr
  obtain⟨vb,hb,hr⟩:=cL hr
  obtain⟨v,hv,hr⟩:=cL hr
  refine kt hr fun fuel=> ?_
  unfold bU
  simp only[hs.bj ha,hs.bj hb,hv,vj,qb]
  rfl
 |index t x f=>
  obtain⟨va,ha,hr⟩:=cL hr
  obtain⟨vb,hb,hr⟩:=cL hr
  obtain⟨v,hv,hr⟩:=cL hr
  refine kt hr fun fuel=> ?_
  unfold bU
  unfold vh at hv
  split at hv
  ·obtain⟨h0,h1,h2,h3⟩:=acP hv
   simp only[hs.bj ha,hs.bj hb,h0,if_true]
   rw[sU (by simp[dR,hs.bj ha,hs.bj hb,h1,PD h0]) (by rw[<-h2];simp only[execOp,hs.bj ha,hs.bj hb]) h3]
   exact lz
  ·obtain⟨h0,h1⟩:=acQ hv
   simp only[hs.bj ha,hs.bj hb,h0,h1,vj,qb,sd,if_false]
   rfl
 |extract t i=>
  obtain⟨va,ha,hr⟩:=cL hr
  obtain⟨v,hv,hr⟩:=cL hr
  refine kt hr fun fuel=> ?_
  unfold bU
  simp only[hs.bj ha,hv,vj,qb]
  rfl
 |call c=>
  obtain⟨vs,hv,hr⟩:=yh hs hr
  unfold call2 at hr
  cases hc:c.callee with
  |value f=>
   simp only[hc]at hr
   obtain⟨fv,Ah,hr⟩:=cL hr
   unfold fO at hr
   obtain⟨q,hq,hr⟩:=cL hr
   obtain⟨g,first,captured⟩:=q
   simp only at hr
   cases hb:mL P g with
   |true=>
    simp only[hb]at hr
    refine acJ cF hr fun fuel=> ?_
    unfold bU kJ
    simp only[hc,hs.bj Ah,hq,hb,if_true]
    rw[acI]
    congr 1
    subst hv
    apply C7
    simp
   |false=>
    simp only[hb]at hr
    cases hr
  |builtin b=>
   simp only[hc]at hr
   cases b with
   |append=>
    simp only at hr
    unfold PA at hr
    obtain⟨q,hq,hr⟩:=cL hr
    obtain⟨t,x,y⟩:=q
    refine ob hr fun fuel=> ?_
    unfold bU kJ
    simp only[hc,qK,<-hv,hq]
    exact nZ
   |copy=>
    simp only at hr
    unfold PB at hr
    obtain⟨q,hq,hr⟩:=cL hr
    obtain⟨t,x,y⟩:=q
    refine ob hr fun fuel=> ?_
    unfold bU kJ
    simp only[hc,qK,<-hv,hq]
    exact nZ
   |len=>
    simp only at hr
    obtain⟨v,hl,hr⟩:=cL hr
    refine kt hr fun fuel=> ?_
    unfold bU kJ
    simp only[hc,qK,<-hv]
    unfold Aj at hl
    split at hl
    ·rename_i t u ht
     split at hl
     ·rename_i e l9
      unfold Py at hl
      split at hl
      ·cases hl
       simp only[uJ,ht,l9]
       exact lz
      ·cases hl
     ·rename_i l9
      unfold Pz at hl
      split at hl
      ·rename_i s0
       cases hl
       have:uJ P c.argTypes [Value.string s0]=none:=by simp[uJ,ht]
       simp only[this]
       obtain⟨x,fU,bN⟩:=acO hv.symm
       have mW:=C7 fU
       rw[sU (v:= .int .i64 s0.size) ?_ ?_ rfl]
       ·exact lz
       ·simp[dR,zI,hc,mW,bN,scalar]
       ·simp only[execOp,resolve,hc,mW]
        simp[bN,invoke,builtin,Oj,ht]
        rw[qc l9]
        rfl
      ·cases hl
     ·cases hl
    ·cases hl
   |min=>
    simp only at hr
    obtain⟨v,hl,hr⟩:=cL hr
    refine kt hr fun fuel=> ?_
    unfold bU kJ
    simp only[hc]
    unfold min2 at hl
    split at hl
    ·rename_i kd a0 kd2 b0
     obtain⟨x,y,fU,bN,Al⟩:=PC hv.symm
     have mW:=C7 fU
     rw[sU (v:=v) ?_ ?_ (by cases hl;rfl)]
     ·exact lz
     ·simp[dR,zI,hc,mW,bN,Al,scalar]
     ·cases hl
      simp only[execOp,resolve,hc,mW]
      simp[bN,Al]
      rfl
    ·cases hl
   |max=>
    simp only at hr
    obtain⟨v,hl,hr⟩:=cL hr
    refine kt hr fun fuel=> ?_
    unfold bU kJ
    simp only[hc]
    unfold max2 at hl
    split at hl
    ·rename_i kd a0 kd2 b0
     obtain⟨x,y,fU,bN,Al⟩:=PC hv.symm
     have mW:=C7 fU
     rw[sU (v:=v) ?_ ?_ (by cases hl;rfl)]
     ·exact lz
     ·simp[dR,zI,hc,mW,bN,Al,scalar]
     ·cases hl
      simp only[execOp,resolve,hc,mW]
      simp[bN,Al]
      rfl
    ·cases hl
   |_=>cases hr
  |invoke _ _=>
   simp only[hc]at hr
   cases hr
 |_=>cases hr
def Q0{α:Type}(m:M α):Prop:=∀h n a h1 n1 L,m h n=some ⟨a,h1,n1,L⟩->L=[]∧n1=n
def Q1{α:Type}(m:M α):Prop:=∀h n a h1 n1 L,m h n=some ⟨a,h1,n1,L⟩->n1=n∧∀e∈L,e.wr=false
def Q2{α:Type}(m:M α):Prop:=∀h n a h1 n1 L,m h n=some ⟨a,h1,n1,L⟩->L=[]
theorem Q0.ret{α:Type}(a:α):Q0 (M.ret a):=fun h n b h1 n1 L e=>by simp only[M.ret,ee,Out.mk.injEq]at e;exact⟨e.2.2.2.symm,e.2.2.1.symm⟩
theorem Q0.fail{α:Type}:Q0 (M.fail:M α):=fun h n b h1 n1 L e=>by cases e
theorem Q0.lift{α:Type}(o:Option α):Q0 (M.lift o):=by cases o with|none=>exact Q0.fail|some a=>exact Q0.ret a
theorem Q0.bind{α β:Type}{m:M α}{f:α->M β}(x:Q0 m)(y:∀a,Q0 (f a)):Q0 (m.bind f):=fun h n b h2 n2 L e=>by
 obtain⟨a,h1,n1,L1,L2,e1,e2,rfl⟩:=bind_some e
 obtain⟨rfl,rfl⟩:=x _ _ _ _ _ _ e1
 obtain⟨rfl,rfl⟩:=y _ _ _ _ _ _ _ e2
 exact⟨rfl,rfl⟩
theorem Q0.q1{α:Type}{m:M α}(x:Q0 m):Q1 m:=fun h n a h1 n1 L e=>by
 obtain⟨rfl,rfl⟩:=x _ _ _ _ _ _ e
 exact⟨rfl,fun e he=>nomatch he⟩
theorem Q0.q2{α:Type}{m:M α}(x:Q0 m):Q2 m:=fun h n a h1 n1 L e=>(x _ _ _ _ _ _ e).1
theorem Q1.bind{α β:Type}{m:M α}{f:α->M β}(x:Q1 m)(y:∀a,Q1 (f a)):Q1 (m.bind f):=fun h n b h2 n2 L e=>by
 obtain⟨a,h1,n1,L1,L2,e1,e2,rfl⟩:=bind_some e
 obtain⟨rfl,g1⟩:=x _ _ _ _ _ _ e1
 obtain⟨rfl,g2⟩:=y _ _ _ _ _ _ _ e2
 refine⟨rfl,fun e he=> ?_⟩
 rcases List.mem_append.1 he with q|q
 ·exact g1 e q
 ·exact g2 e q
theorem Q2.bind{α β:Type}{m:M α}{f:α->M β}(x:Q2 m)(y:∀a,Q2 (f a)):Q2 (m.bind f):=fun h n b h2 n2 L e=>by
 obtain⟨a,h1,n1,L1,L2,e1,e2,rfl⟩:=bind_some e
 rw[x _ _ _ _ _ _ e1,y _ _ _ _ _ _ _ e2]
 rfl
theorem Q1.rd(b k:Nat):Q1 (Ev.rd b k):=fun h n a h1 n1 L e=>by
 unfold Ev.rd at e
 split at e
 ·split at e
  ·split at e
   ·simp only[ee,Out.mk.injEq]at e
    obtain⟨_,_,rfl,rfl⟩:=e
    exact⟨rfl,fun e he=>by simp at he;subst he;rfl⟩
   ·cases e
  ·cases e
 ·cases e
theorem Q1.gN(b:Nat):Q1 (Ev.gN b):=fun h n a h1 n1 L e=>by
 unfold Ev.gN at e
 split at e
 ·split at e
  ·simp only[ee,Out.mk.injEq]at e
   obtain⟨_,_,rfl,rfl⟩:=e
   exact⟨rfl,fun e he=>by simp at he;subst he;rfl⟩
  ·cases e
 ·cases e
theorem Q1.dj(b:Nat):∀n k,Q1 (Ev.dj b k n)
 |0,_=>(Q0.ret _).q1
 |n+1,k=>Q1.bind (Q1.rd _ _) fun _=>Q1.bind (Q1.dj b n _) fun _=>(Q0.ret _).q1
theorem Q2.cY(e:TypeId)(cs:List Value):Q2 (Ev.cY e cs):=fun h n a h1 n1 L hr=>by
 unfold Ev.cY at hr
 split at hr
 ·simp only[ee,Out.mk.injEq]at hr
  exact hr.2.2.2.symm
 ·cases hr
theorem Q0.fT(P:Program)(ρ:Operand->Value)(o:Oper):Q0 (Ev.fT P ρ o):=by
 unfold Ev.fT
 split
 ·refine Q0.bind (Q0.lift _) fun v=> ?_
  split
  ·exact Q0.ret _
  ·exact Q0.fail
 ·exact Q0.fail
theorem Q0.nilCheck(v:Value):Q0 (qN v):=by
 unfold qN
 split<;>first|exact Q0.ret _|exact Q0.fail
theorem Q0.build(P:Program)(t:TypeId)(ps:List (Nat×Value)):Q0 (mJ P t ps):=by
 unfold mJ
 split
 ·split
  ·split
   ·exact Q0.ret _
   ·exact Q0.fail
  ·exact Q0.fail
 ·exact Q0.fail
theorem Q1.load(P:Program)(t:TypeId)(v:Value):Q1 (jf P t v):=by
 unfold jf
 split
 ·split
  ·exact Q1.bind (Q1.dj _ _ _) fun _=>(Q0.ret _).q1
  ·exact Q1.rd _ _
  ·exact Q0.fail.q1
 ·exact Q0.fail.q1
theorem Q1.acS(P:Program)(t:TypeId)(v:Value)(lo hi mx:Option Value):Q1 (oN P t v lo hi mx):=by
 unfold oN
 split
 ·refine Q1.bind (Q1.gN _) fun _=> ?_
  split
  ·split
   ·exact(Q0.lift _).q1
   ·exact Q0.fail.q1
  ·exact Q0.fail.q1
 ·exact(Q0.lift _).q1
theorem Q2.alloc(P:Program)(e:TypeId):Q2 (nH P e):=by
 unfold nH
 split
 ·exact Q2.bind (Q2.cY _ _) fun _=>(Q0.ret _).q2
 ·exact Q0.fail.q2
theorem Q2.box(P:Program)(e:TypeId)(v:Value):Q2 (nI P e v):=by
 unfold nI
 split
 ·exact Q2.bind (Q2.cY _ _) fun _=>(Q0.ret _).q2
 ·exact Q0.fail.q2
theorem Q2.buildSlice(P:Program)(t:TypeId)(len:Nat)(ps:List (Nat×Value)):Q2 (mK P t len ps):=by
 unfold mK
 repeat' (first|exact Q0.fail.q2|exact Q2.bind (Q2.cY _ _) fun _=>(Q0.ret _).q2|split)
theorem Q2.makeSlice(P:Program)(t:TypeId)(l c:Value):Q2 (nL P t l c):=by
 unfold nL
 repeat' (first|exact Q0.fail.q2|exact Q2.bind (Q2.cY _ _) fun _=>(Q0.ret _).q2|split)
def QK(k:Nat){α:Type}(m:M α):Prop:=(k=0->Q0 m)∧(k=1->Q1 m)∧(k=2->Q2 m)
theorem QK.ku{α:Type}{m:M α}(x:Q0 m)(k:Nat):QK k m:=⟨fun _=>x,fun _=>x.q1,fun _=>x.q2⟩
theorem QK.PE{α:Type}{m:M α}(x:Q1 m):QK 1 m:=⟨fun h=>by omega,fun _=>x,fun h=>by omega⟩
theorem QK.C8{α:Type}{m:M α}(x:Q2 m):QK 2 m:=⟨fun h=>by omega,fun h=>by omega,fun _=>x⟩
theorem QK.PF{α:Type}{m:M α}:QK 3 m:=⟨fun h=>by omega,fun h=>by omega,fun h=>by omega⟩
def yi(rec:FuncId->Array Value->M Value):Nx->M Value
 | .val v=> .ret v
 | .call f args=>rec f args
theorem acT{α β:Type}(f:α->M β):(M.fail:M α).bind f=M.fail:=rfl
theorem acU(P:Program)(ρ:Operand->Value)(rec:FuncId->Array Value->M Value)(o:Oper):QK (kind o.op) ((bU P ρ o).bind (yi rec)):=by
 have v1:∀{m:M Value},(m.bind fun v=>M.ret (Nx.val v)).bind (yi rec)=m:=fun{m}=>by
  funext h n
  unfold M.bind
  cases m h n with
  |none=>rfl
  |some o=>simp[M.ret,yi]
 have v0:∀(v:Value),(M.ret (Nx.val v)).bind (yi rec)=M.ret v:=fun v=>by rw[qb];rfl
 have vp:Q0 ((fT P ρ o).bind (yi rec)):=by
  unfold fT
  split
  ·intro h n r h1 n1 L e
   obtain⟨x,h2,n2,L1,L2,e1,e2,rfl⟩:=bind_some e
   obtain⟨y,h3,n3,L3,L4,e3,e4,rfl⟩:=bind_some e1
   obtain⟨rfl,rfl⟩:=Q0.lift _ _ _ _ _ _ _ e3
   split at e4
   ·obtain⟨rfl,_,_⟩:=bD e4
    obtain⟨rfl,rfl⟩:=Q0.ret _ _ _ _ _ _ _ e4
    obtain⟨rfl,rfl⟩:=Q0.ret _ _ _ _ _ _ _ e2
    exact⟨rfl,rfl⟩
   ·cases e4
  ·intro h n r h1 n1 L e
   cases e
 obtain⟨dst,op,ty,pos,after,guard⟩:=o
 cases op with
 |move x=>exact QK.ku (by unfold bU;rw[v0];exact Q0.ret _) _
 |assign x=>exact QK.ku (by unfold bU;rw[v0];exact Q0.ret _) _
 |pick c a b=>
  refine QK.ku ?_ _
  unfold bU
  simp only
  split
  ·rw[v0];exact Q0.ret _
  ·rw[acT];exact Q0.fail
 |alloc e=>exact QK.C8 (by unfold bU;rw[v1];exact Q2.alloc _ _)
 |box e x=>exact QK.C8 (by unfold bU;rw[v1];exact Q2.box _ _ _)
 |build t ps=>exact QK.ku (by unfold bU;rw[v1];exact Q0.build _ _ _) _
 |buildSlice t len ps=>exact QK.C8 (by unfold bU;rw[v1];exact Q2.buildSlice _ _ _ _)
 |load t a=>exact QK.PE (by unfold bU;rw[v1];exact Q1.load _ _ _)
 |nilCheck x=>exact QK.ku (by unfold bU;rw[v1];exact Q0.nilCheck _) _
 |binOp op t x y yt=>
  refine QK.ku ?_ _
  unfold bU
  simp only
  split
  ·rw[v0];exact Q0.ret _
  ·rw[v0];exact Q0.ret _
  ·exact vp
  ·intro h n a h1 n1 L e;cases e
 |unOp op t x=>exact QK.ku (vp) _
 |makeFunc fn a b=>exact QK.ku (by unfold bU;rw[v0];exact Q0.ret _) _
 |makeSlice t l c=>exact QK.C8 (by unfold bU;rw[v1];exact Q2.makeSlice _ _ _ _)
 |slice t x lo hi mx=>
  refine QK.PE ?_
  unfold bU
  simp only
  split
  ·exact(vp).q1
  ·rw[v1];exact Q1.acS _ _ _ _ _ _
 |fieldAddr t x f=>exact QK.ku (by unfold bU;rw[v1];exact Q0.lift _) _
 |field t x f=>exact QK.ku (by unfold bU;rw[v1];exact Q0.lift _) _
 |indexAddr t x f=>exact QK.ku (by unfold bU;rw[v1];exact Q0.lift _) _
 |index t x ix=>
  refine QK.ku ?_ _
  unfold bU
  simp only
  split
  ·exact vp
  ·rw[v1];exact Q0.lift _
 |extract t i=>exact QK.ku (by unfold bU;rw[v1];exact Q0.lift _) _
 |call c=>
  unfold kind
  simp only
  split
  ·rename_i hc
   refine QK.ku ?_ _
   unfold bU kJ
   simp only[hc]
   split
   ·rw[v0];exact Q0.ret _
   ·exact vp
  ·rename_i hc
   refine QK.ku ?_ _
   unfold bU kJ
   simp only[hc]
   exact vp
  ·rename_i hc
   refine QK.ku ?_ _
   unfold bU kJ
   simp only[hc]
   exact vp
  ·exact QK.PF
 |_=>exact QK.PF
structure C9 (o:Oper) (t:Tk):Prop where
 le:t.n<=t.n1
 lt:∀e∈t.log,e.b<t.n1
 k0:kind o.op=0->t.log=[]∧t.n1=t.n
 k1:kind o.op=1->t.n1=t.n∧∀e∈t.log,e.wr=false
 k2:kind o.op=2->t.log=[]
inductive oY:Nat->List Oper->List Tk->Nat->Prop
 |nil (n:Nat):oY n [] [] n
 |cons {n m:Nat} {o:Oper} {t:Tk} {r:List Oper} {ts:List Tk} (h:C9 o t) (e:t.n=n) (x:oY t.n1 r ts m):oY n (o::r) (t::ts) m
theorem oY.le{n m:Nat}{l:List Oper}{ts:List Tk}(x:oY n l ts m):n<=m:=by
 induction x with
 |nil n=>exact av _
 |cons h e x ih=>have:=h.le;omega
theorem any_false{α:Type}{l:List α}{p:α->Bool}(h:∀x∈l,p x=false):l.any p=false:=by
 rw[List.any_eq_false]
 intro x hx
 rw[h x hx]
 exact Bool.false_ne_true
theorem acV{a b:Oper}{ta tb:Tk}(xa:C9 a ta)(xb:C9 b tb)(hle:ta.n1<=tb.n)(hf:fits (kind a.op) (kind b.op)=true):ta.iQ tb=false:=by
 have ale:=xa.le
 have ble:=xb.le
 unfold fits at hf
 simp only[xI,beq_iff_eq,cb]at hf
 unfold Tk.iQ
 rcases hf with (((hf|hf)|hf)|hf)|hf
 ·obtain⟨h1,h2⟩:=xa.k0 hf
  rw[h1]
  simp only[aaW,Hm,aaL,aaX,xJ]
  refine⟨any_false fun x _=>rfl,any_false fun x hx=> ?_⟩
  simp;omega
 ·obtain⟨h1,h2⟩:=xb.k0 hf
  rw[h1]
  simp only[aaW,Hm,xJ,aaL,aaX]
  refine⟨any_false fun x _=>rfl,any_false fun x hx=> ?_⟩
  simp;omega
 ·obtain⟨h1,h2⟩:=xa.k1 hf.1
  obtain⟨h3,h4⟩:=xb.k1 hf.2
  simp only[xJ]
  refine⟨⟨⟨any_false fun x hx=>by rw[h2 x hx];rfl,any_false fun x hx=>by rw[h4 x hx];rfl⟩,any_false fun x hx=> ?_⟩,any_false fun x hx=> ?_⟩
  ·simp;omega
  ·simp;omega
 ·rw[xa.k2 hf.1,xb.k2 hf.2];rfl
 ·obtain⟨h1,h2⟩:=xa.k1 hf.1
  have h3:=xb.k2 hf.2
  rw[h3]
  simp only[aaW,Hm,xJ,aaX]
  refine⟨any_false fun x _=>rfl,any_false fun x hx=> ?_⟩
  have:=xa.lt x hx
  simp;omega
theorem PG{P:Program}{rec:FuncId->Array Value->M Value}{ops:Array Oper}{o:Oper}{s:S}(h:fJ o (fZ ops s)=true):fD P rec ops o s=(bU P (ev s) o).bind (yi rec):=by
 unfold fD
 rw[if_pos h]
 rfl
theorem acW{P:Program}{rec:FuncId->Array Value->M Value}{ops:Array Oper}{o:Oper}{s:S}:QK (kind o.op) (fD P rec ops o s):=by
 by_cases h:fJ o (fZ ops s)=true
 ·rw[PG h];exact acU _ _ _ _
 ·unfold fD;rw[if_neg h];exact QK.ku (Q0.ret _) _
theorem filter_nil{α:Type}{L:List α}{p:α->Bool}(h:L=[]):L.filter p=[]:=by rw[h];rfl
theorem Ix{α:Type}{m:M α}{h h1:H}{n n1:Nat}{x:α×Tk}{L:List En}(hr:aV m h n=some ⟨x,h1,n1,L⟩):m h n=some ⟨x.1,h1,n1,L⟩∧x.2=⟨n,n1,L⟩:=by
 unfold aV at hr
 split at hr
 ·rename_i a h' n' L' e
  simp only[ee,Out.mk.injEq]at hr
  obtain⟨rfl,rfl,rfl,rfl⟩:=hr
  exact⟨e,rfl⟩
 ·cases hr
theorem PH{α:Type}{m:M α}{h h1:H}{n n1:Nat}{a:α}{L:List En}(e:m h n=some ⟨a,h1,n1,L⟩):aV m h n=some ⟨(a,⟨n,n1,L⟩),h1,n1,L⟩:=by
 unfold aV
 rw[e]
theorem acX{P:Program}{rec:FuncId->Array Value->M Value}(fM:∀f a,Loc (rec f a)){nt:Nat}{ops:Array Oper}:∀(l:List Oper) (s:S) (h h1:H) (n n1:Nat) (y:S×List Tk) (L:List En),iR P rec nt ops l s h n=some ⟨y,h1,n1,L⟩->oY n l y.2 n1:=by
 intro l
 induction l with
 |nil=>
  intro s h h1 n n1 y L hr
  obtain⟨rfl,rfl,rfl⟩:=bD hr
  exact .nil _
 |cons o l ih=>
  intro s h h1 n n1 y L hr
  unfold iR at hr
  obtain⟨x,h2,n2,L1,L2,e1,e2,_⟩:=bind_some hr
  obtain⟨s2,h3,n3,L3,L4,e3,e4,_⟩:=bind_some e2
  obtain⟨z,h5,n5,L5,L6,e5,e6,_⟩:=bind_some e4
  obtain⟨rfl,rfl,rfl⟩:=bD e6
  obtain⟨_,rfl,rfl⟩:=pW e3
  obtain⟨g1,g2⟩:=Ix e1
  obtain⟨L',g3,rfl⟩:=vi g1
  have A:=Loc.inside (Loc.fD fM ops o s) h n _ _ _ _ g1
  have K:=acW (P:=P) (rec:=rec) (ops:=ops) (o:=o) (s:=s)
  refine .cons ⟨?_, ?_,fun hk=> ?_,fun hk=> ?_,fun hk=> ?_⟩ ?_ ?_
  ·rw[g2];exact A.le
  ·rw[g2];exact A.lt
  ·obtain⟨q1,q2⟩:=K.1 hk _ _ _ _ _ _ g3
   rw[g2]
   exact⟨filter_nil q1,q2⟩
  ·obtain⟨q1,q2⟩:=K.2.1 hk _ _ _ _ _ _ g3
   rw[g2]
   exact⟨q1,fun e he=>q2 e (List.mem_filter.1 he).1⟩
  ·rw[g2]
   exact filter_nil (K.2.2 hk _ _ _ _ _ _ g3)
  ·rw[g2]
  ·rw[g2]
   exact ih _ _ _ _ _ _ _ e5
theorem acY{n m:Nat}{l:List Oper}{ts:List Tk}(x:oY n l ts m):∀(i:Nat) (ti:Tk),ts[i]? =some ti->∃oi:Oper,l[i]? =some oi∧C9 oi ti∧n<=ti.n:=by
 induction x with
 |nil n=>intro i ti hi;simp at hi
 |cons h e x ih=>
  intro i ti hi
  cases i with
  |zero=>simp at hi;subst hi;exact⟨_,rfl,h,by omega⟩
  |succ i=>
   obtain⟨oi,g1,g2,g3⟩:=ih i ti (by simpa using hi)
   exact⟨oi,by simpa using g1,g2,by have:=h.le;omega⟩
theorem PI{ops:Array Oper}{dc:List Nat}:∀(l:List Oper) (ts:List Tk) (n m j:Nat),oY n l ts m->(∀i o,l[i]? =some o->ops.getD (j+i) default=o)->
 (∀p q op oq tp tq,p<q->l[p]? =some op->l[q]? =some oq->ts[p]? =some tp->ts[q]? =some tq->(dc.getD (j+q) 0).testBit (j+p)=true∨((fits (kind op.op) (kind oq.op)=true∨tp.iQ tq=false)∧pT ops op oq=false))->pU ops dc (tagged j ts)=true:=by
 intro l
 induction l with
 |nil=>
  intro ts n m j x _ _
  cases x
  rfl
 |cons o l ih=>
  intro ts n m j x hg hp
  cases x with
  |@cons _ _ _ t _ ts h e x=>
   unfold tagged pU
   simp only[cb,Oc]
   refine⟨?_,ih ts _ m (j+1) x (fun i o' hi=>by have:=hg (i+1) o' (by simpa using hi);rw[show j+1+i=j+(i+1) by omega];exact this) (fun p q op oq tp tq oQ h1 h2 h3 h4=>by
    have:=hp (p+1) (q+1) op oq tp tq (by omega) (by simpa using h1) (by simpa using h2) (by simpa using h3) (by simpa using h4)
    rw[show j+1+q=j+(q+1) by omega,show j+1+p=j+(p+1) by omega]
    exact this)⟩
   intro z hz
   obtain⟨i,hi⟩:=List.mem_iff_getElem?.1 hz
   rw[HQ]at hi
   cases Da:ts[i]? with
   |none=>rw[Da]at hi;cases hi
   |some ti=>
    rw[Da]at hi
    simp only[Ch,ee]at hi
    subst hi
    obtain⟨oi,g1,g2,g3⟩:=acY x i ti Da
    have e1:=hg 0 o rfl
    have e2:=hg (i+1) oi (by simpa using g1)
    have hq:=hp 0 (i+1) o oi t ti (by omega) rfl (by simpa using g1) rfl (by simpa using Da)
    rw[mH]at e1 hq
    simp only[show j+1+i=j+(i+1) by omega,e1,e2,xI,cb,Om]
    rcases hq with hq|⟨hq,hs⟩
    ·exact .inl hq
    ·refine .inr ⟨?_,hs⟩
     rcases hq with hq|hq
     ·exact acV h g2 g3 hq
     ·exact hq
theorem acZ{ops:Array Oper}{dc:List Nat}{j:Nat}{oj:Oper}:∀(l:List Oper) (k:Nat),C1 ops dc j oj k l=true->∀i o,l[i]? =some o->(dc.getD (k+i) 0).testBit j=true∨(fits (kind oj.op) (kind o.op)=true∧pT ops oj o=false):=by
 intro l
 induction l with
 |nil=>intro k _ i o h;simp at h
 |cons o l ih=>
  intro k h i o' hi
  unfold C1 at h
  simp only[cb,xI,Om]at h
  cases i with
  |zero=>simp at hi;subst hi;exact h.1
  |succ i=>
   rw[show k+(i+1)=k+1+i by omega]
   exact ih (k+1) h.2 i o' (by simpa using hi)
theorem ac0{ops:Array Oper}{dc:List Nat}:∀(l:List Oper) (j:Nat),C4 ops dc j l=true->∀p q op oq,p<q->l[p]? =some op->l[q]? =some oq->(dc.getD (j+q) 0).testBit (j+p)=true∨(fits (kind op.op) (kind oq.op)=true∧pT ops op oq=false):=by
 intro l
 induction l with
 |nil=>intro k _ p q op oq _ h;simp at h
 |cons o l ih=>
  intro j h p q op oq oQ h1 h2
  unfold C4 at h
  simp only[cb]at h
  cases q with
  |zero=>omega
  |succ q=>
   cases p with
   |zero=>
    simp at h1;subst h1
    have:=acZ l (j+1) h.1 q oq (by simpa using h2)
    rw[show j+(q+1)=j+1+q by omega,mH]
    exact this
   |succ p=>
    have:=ih (j+1) h.2 p q op oq (by omega) (by simpa using h1) (by simpa using h2)
    rw[show j+(q+1)=j+1+q by omega,show j+(p+1)=j+1+p by omega]
    exact this
theorem PJ(ops:Array Oper)(i:Nat)(o:Oper)(h:ops.toList[i]? =some o):ops.getD (0+i) default=o:=by
 rw[iO]
 rw[Array.getElem?_toList]at h
 simp[Array.getD_eq_getD_getElem?,h]
theorem ac1{ops:Array Oper}{ts:List Tk}{n m:Nat}(x:oY n ops.toList ts m)(h:C5 ops=true):sC ops=true∧pU ops (lS ops.toList []) (tagged 0 ts)=true:=by
 unfold C5 at h
 simp only[cb]at h
 refine⟨h.1,PI ops.toList ts n m 0 x (PJ ops) fun p q op oq tp tq oQ h1 h2 h3 h4=> ?_⟩
 rcases ac0 ops.toList 0 h.2 p q op oq oQ h1 h2 with g|g
 ·exact .inl g
 ·exact .inr ⟨.inl g.1,g.2⟩
end Go.Proofs.YtdagfcflbphoiaaGreatDoor.Ev
namespace Go.Proofs.YtdagfcflbphoiaaGreatDoor.Ev
open Go Go.RowKit
theorem bB{x:Int}(h0:-9223372036854775808<=x)(h1:x<=9223372036854775807):IntKind.i64.wrap x=x:=IntWalk.i64_in x (by omega)
def oZ(k:IntKind)(z:Int):Int:=match k,z with
 | .i64,.ofNat m=>match bx m 9223372036854775807 with
   |true=>z
   |false=>k.wrap z
 | .i64,.negSucc m=>match bx m 9223372036854775807 with
   |true=>z
   |false=>k.wrap z
 | .u8,.ofNat m=> .ofNat (m %256)
 | .u32,.ofNat m=> .ofNat (m %4294967296)
 | .u64,.ofNat m=> .ofNat (m %18446744073709551616)
 |_,_=>k.wrap z
theorem kO(k:IntKind)(z:Int):oZ k z=k.wrap z:=by
 unfold oZ
 split
 ·rename_i m
  cases h:bx m 9223372036854775807 with
  |true=>
   have:m<=9223372036854775807:=fY h
   exact(bB (x:=((m:Nat):Int)) (by omega) (by omega)).symm
  |false=>rfl
 ·rename_i m
  cases h:bx m 9223372036854775807 with
  |true=>
   have:m<=9223372036854775807:=fY h
   exact(bB (x:=ama m) (by omega) (by omega)).symm
  |false=>rfl
 ·rename_i m
  show((m %256:Nat):Int)=IntKind.u8.wrap m
  simp[aaY,Hn,aaZ]
 ·rename_i m
  show((m %4294967296:Nat):Int)=IntKind.u32.wrap m
  simp[aaY,Hn,aaZ]
 ·rename_i m
  show((m %18446744073709551616:Nat):Int)=IntKind.u64.wrap m
  simp[aaY,Hn,aaZ]
 ·rfl
def Db(a b:Int):Int:=match a,b with
 | .ofNat x,.ofNat y=> .ofNat (fS x y)
 |_,_=>a+b
theorem PK(a b:Int):Db a b=a+b:=by unfold Db;split<;>rfl
def Dc(a b:Int):Int:=match a,b with
 | .ofNat x,.ofNat y=>match bx y x with
   |true=> .ofNat (On x y)
   |false=> .negSucc (On (On y x) 1)
 |_,_=>a-b
theorem Dd(a b:Int):Dc a b=a-b:=by
 unfold Dc
 split
 ·rename_i x y
  cases h:bx y x with
  |true=>
   have:=fY h
   show((x-y:Nat):Int)=(x:Int)-y
   omega
  |false=>
   have:¬y<=x:=fun q=>by rw[lR q]at h;cases h
   show ama (y-x-1)=(x:Int)-y
   omega
 ·rfl
def Iy(a b:Int):Int:=match a,b with
 | .ofNat x,.ofNat y=> .ofNat (Oo x y)
 |_,_=>a*b
theorem PL(a b:Int):Iy a b=a*b:=by unfold Iy;split<;>rfl
def qd(a b:Int):Bool:=match a,b with
 | .ofNat x,.ofNat y=>bK x y
 |_,_=>a==b
theorem sV(a b:Int):qd a b=(a==b):=by
 unfold qd
 split
 ·rename_i x y
  cases h:bK x y with
  |true=>rw[lk h];simp
  |false=>
   have:x≠y:=aa0 h
   symm
   rw[beq_eq_false_iff_ne]
   intro q
   exact this (anL q)
 ·rfl
def De(a b:Int):Bool:=match a,b with
 | .ofNat x,.ofNat y=>bx x y
 |_,_=>decide (a<=b)
theorem Df(a b:Int):De a b=decide (a<=b):=by
 unfold De
 split
 ·rename_i x y
  cases h:bx x y with
  |true=>
   have:=fY h
   symm
   rw[decide_eq_true_eq]
   show(x:Int)<=y
   omega
  |false=>
   have:¬x<=y:=fun q=>by rw[lR q]at h;cases h
   symm
   rw[decide_eq_false_iff_not]
   show¬((x:Int)<=y)
   omega
 ·rfl
def yj(a b:Int):Bool:=match a,b with
 | .ofNat x,.ofNat y=>bx (eT x) y
 |_,_=>decide (a<b)
theorem sW(a b:Int):yj a b=decide (a<b):=by
 unfold yj
 split
 ·rename_i x y
  cases h:bx (eT x) y with
  |true=>
   have:=fY h
   symm
   rw[decide_eq_true_eq]
   show(x:Int)<y
   omega
  |false=>
   have:¬eT x<=y:=fun q=>by rw[lR q]at h;cases h
   symm
   rw[decide_eq_false_iff_not]
   show¬((x:Int)<y)
   omega
 ·rfl
def rj:List UInt8->List UInt8->Bool
 |[],[]=>true
 |a::l,b::m=>match bK a.toNat b.toNat with
  |true=>rj l m
  |false=>false
 |_,_=>false
theorem Dg:∀a b:List UInt8,rj a b=decide (a=b)
 |[],[]=>rfl
 |a::l,b::m=>by
  unfold rj
  cases h:bK a.toNat b.toNat with
  |true=>
   have e:a=b:=UInt8.toNat_inj.1 (lk h)
   subst e
   simp only
   rw[Dg l m]
   simp
  |false=>
   have e:a≠b:=fun q=>aa0 h (by rw[q])
   symm
   rw[decide_eq_false_iff_not]
   intro q
   exact e (amb q).1
 |[],_::_=>by unfold rj;simp
 |_::_,[]=>by unfold rj;simp
def Dh:List UInt8->List UInt8->List UInt8
 |[],m=>m
 |a::l,m=>a::Dh l m
theorem Iz:∀l m:List UInt8,Dh l m=l++m
 |[],_=>rfl
 |a::l,m=>by unfold Dh;rw[Iz l m];rfl
def kP:List UInt8->Nat
 |[]=>0
 |_::l=>eT (kP l)
theorem rk:∀l:List UInt8,kP l=l.length
 |[]=>rfl
 |_::l=>by unfold kP;rw[rk l];rfl
def rn:List UInt8->Nat->Option UInt8
 |[],_=>none
 |a::l,i=>match i with
  |0=>some a
  |i+1=>rn l i
theorem IA:∀(l:List UInt8) (i:Nat) (b:UInt8),rn l i=some b->i<l.length∧l.getD i 0=b
 |[],_,_,h=>by cases h
 |a::l,0,b,h=>by
  unfold rn at h
  cases h
  exact⟨Nat.zero_lt_succ _,rfl⟩
 |a::l,i+1,b,h=>by
  unfold rn at h
  obtain⟨h1,h2⟩:=IA l i b h
  exact⟨Nat.succ_lt_succ h1,h2⟩
def qe:IntKind->IntKind->Bool
 | .i64,.i64| .u8,.u8| .u32,.u32| .u64,.u64| .i8,.i8| .i16,.i16| .i32,.i32| .u16,.u16=>true
 |_,_=>false
theorem Di(k:IntKind):qe k k=true:=by cases k<;>rfl
theorem Dj{a b:IntKind}(h:qe a b=true):a=b:=by cases a<;>cases b<;>first|rfl|cases h
def pw:IntKind->Nat
 | .i64| .u64=>18446744073709551616
 | .i32| .u32=>4294967296
 | .i16| .u16=>65536
 | .i8| .u8=>256
theorem ac2(k:IntKind):pw k=2^k.bits:=by cases k<;>rfl
theorem PM(w x:Nat):(gF w (x:Int)).toNat=x %2^w:=by
 rw[BitVec.ofInt_natCast,BitVec.toNat_ofNat]
noncomputable def yk {α:Type}:Nat->Tr α->Nat->Option α
 |0,_,_=>none
 |_+1,.nil,_=>none
 |f+1,.node l v r,i=>match bK i 0 with
  |true=>v
  |false=>match bK (j5 i 2) 1 with
   |true=>yk f l (kF i 2)
   |false=>yk f r (se (kF i 2))
theorem sX(a b:Nat):bK a b=decide (a=b):=by
 cases h:bK a b with
 |true=>rw[lk h];simp
 |false=>have:=aa0 h;simp[this]
theorem IB{α:Type}:∀(f:Nat) (t:Tr α) (i:Nat),yk f t i=Tr.get f t i
 |0,_,_=>rfl
 |_+1,.nil,_=>rfl
 |f+1,.node l v r,i=>by
  unfold yk Tr.get
  rw[sX,sX]
  by_cases h0:i=0
  ·simp[h0]
  ·by_cases h1:i %2=1
   ·have eg:j5 i 2=1:=h1
    simp only[h0,h1,eg,decide_true,decide_false,if_true,if_false]
    exact IB f l (i/2)
   ·have eg:¬j5 i 2=1:=h1
    simp only[h0,h1,eg,decide_false,if_false]
    exact IB f r (i/2-1)
noncomputable def mX {α:Type}:Nat->Tr α->Nat->Option α->Tr α
 |0,t,_,_=>t
 |f+1,.nil,i,a=>match bK i 0 with
  |true=> .node .nil a .nil
  |false=>match bK (j5 i 2) 1 with
   |true=> .node (mX f .nil (kF i 2) a) none .nil
   |false=> .node .nil none (mX f .nil (se (kF i 2)) a)
 |f+1,.node l v r,i,a=>match bK i 0 with
  |true=> .node l a r
  |false=>match bK (j5 i 2) 1 with
   |true=> .node (mX f l (kF i 2) a) v r
   |false=> .node l v (mX f r (se (kF i 2)) a)
theorem Am{α:Type}:∀(f:Nat) (t:Tr α) (i:Nat) (a:Option α),mX f t i a=Tr.set f t i a
 |0,_,_,_=>rfl
 |f+1,.nil,i,a=>by
  unfold mX Tr.set
  rw[sX,sX]
  by_cases h0:i=0
  ·simp[h0]
  ·by_cases h1:i %2=1
   ·have eg:j5 i 2=1:=h1
    simp only[h0,h1,eg,decide_true,decide_false,if_true,if_false]
    rw[Am f .nil];rfl
   ·have eg:¬j5 i 2=1:=h1
    simp only[h0,h1,eg,decide_false,if_false]
    rw[Am f .nil];rfl
 |f+1,.node l v r,i,a=>by
  unfold mX Tr.set
  rw[sX,sX]
  by_cases h0:i=0
  ·simp[h0]
  ·by_cases h1:i %2=1
   ·have eg:j5 i 2=1:=h1
    simp only[h0,h1,eg,decide_true,decide_false,if_true,if_false]
    rw[Am f l];rfl
   ·have eg:¬j5 i 2=1:=h1
    simp only[h0,h1,eg,decide_false,if_false]
    rw[Am f r];rfl
noncomputable def Dk {α:Type} (t:Tr α):Nat->Option α:=Tr.rec (motive:=fun _=>Nat->Option α) (fun _=>none) (fun _ v _ An IC i=>match bK i 0 with
 |true=>v
 |false=>match bK (j5 i 2) 1 with
  |true=>An (kF i 2)
  |false=>IC (se (kF i 2))) t
theorem ID{α:Type}:∀(t:Tr α) (f i:Nat),i<f->Dk t i=yk f t i
 | .nil,0,i,h=>by omega
 | .nil,f+1,i,h=>rfl
 | .node l v r,0,i,h=>by omega
 | .node l v r,f+1,i,h=>by
   show(match bK i 0 with
    |true=>v
    |false=>match bK (j5 i 2) 1 with
     |true=>Dk l (kF i 2)
     |false=>Dk r (se (kF i 2)))=_
   unfold yk
   cases h0:bK i 0 with
   |true=>rfl
   |false=>
    have hi:i≠0:=fun q=>by subst q;simp at h0
    have h1:i/2<f:=by omega
    have h2:kF i 2=i/2:=rfl
    have h3:se (i/2)=i/2-1:=rfl
    simp only[h2,h3]
    rw[ID l f (i/2) h1,ID r f (i/2-1) (by omega)]
noncomputable def Dl {α:Type} (t:Tr α):Nat->Option α->Tr α:=Tr.rec (motive:=fun _=>Nat->Option α->Tr α) (fun i a=>mX (eT i) .nil i a) (fun l v r An IC i a=>match bK i 0 with
 |true=> .node l a r
 |false=>match bK (j5 i 2) 1 with
  |true=> .node (An (kF i 2) a) v r
  |false=> .node l v (IC (se (kF i 2)) a)) t
theorem IE{α:Type}(a:Option α):∀(f i g:Nat),i<f->i<g->mX f .nil i a=mX g .nil i a
 |0,_,_,h,_=>by omega
 |f+1,_,0,_,h=>by omega
 |f+1,i,g+1,h,h'=>by
  unfold mX
  cases h0:bK i 0 with
  |true=>rfl
  |false=>
   have hi:i≠0:=fun q=>by subst q;simp at h0
   have h2:kF i 2=i/2:=rfl
   have h3:se (i/2)=i/2-1:=rfl
   simp only[h2,h3]
   rw[IE a f (i/2) g (by omega) (by omega),IE a f (i/2-1) g (by omega) (by omega)]
theorem IF{α:Type}(a:Option α):∀(t:Tr α) (f i:Nat),i<f->Dl t i a=mX f t i a
 | .nil,f,i,h=>IE a _ _ _ (fp i) h
 | .node l v r,0,i,h=>by omega
 | .node l v r,f+1,i,h=>by
   show(match bK i 0 with
    |true=>Tr.node l a r
    |false=>match bK (j5 i 2) 1 with
     |true=>Tr.node (Dl l (kF i 2) a) v r
     |false=>Tr.node l v (Dl r (se (kF i 2)) a))=_
   unfold mX
   cases h0:bK i 0 with
   |true=>rfl
   |false=>
    have hi:i≠0:=fun q=>by subst q;simp at h0
    have h2:kF i 2=i/2:=rfl
    have h3:se (i/2)=i/2-1:=rfl
    simp only[h2,h3]
    rw[IF a l f (i/2) (by omega),IF a r f (i/2-1) (by omega)]
noncomputable def kQ (h:H) (b:Nat):Option AB:=Dk h b
theorem sY(h:H)(b:Nat):kQ h b=h.get b:=(ID h (b+1) b (fp b)).trans (IB _ _ _)
noncomputable def jj (h:H) (b:Nat) (x:Option AB):H:=Dl h b x
theorem IG(h:H)(b:Nat)(x:Option AB):jj h b x=h.set b x:=(IF x h (b+1) b (fp b)).trans (Am _ _ _ _)
theorem rp(a b:Nat):bx a b=decide (a<=b):=by
 cases h:bx a b with
 |true=>have:=fY h;simp[this]
 |false=>
  have:¬a<=b:=fun q=>by rw[lR q]at h;cases h
  simp[this]
noncomputable def s7 (l:List Value):Nat->Option Value:=Cq (motive:=fun _=>Nat->Option Value) (fun _=>none) (fun a _ ih i=>aa1 (motive:=fun _=>Option Value) (some a) (fun j _=>ih j) i) l
theorem Dm:∀(l:List Value) (i:Nat),s7 l i=l[i]?
 |[],_=>rfl
 |_::_,0=>rfl
 |a::l,i+1=>by
  show s7 l i=_
  rw[Dm l i];rfl
noncomputable def IH (l:List Value):Nat->Value->Option (List Value):=Cq (motive:=fun _=>Nat->Value->Option (List Value)) (fun _ _=>none) (fun a l ih i v=>aa1 (motive:=fun _=>Option (List Value)) (some (v::l)) (fun j _=>match ih j v with
 |some l'=>some (a::l')
 |none=>none) i) l
theorem PN:∀(l:List Value) (i:Nat) (v:Value),IH l i v=if i<l.length then some (l.set i v)else none
 |[],i,v=>by show none=_;simp
 |a::l,0,v=>by show some (v::l)=_;simp
 |a::l,i+1,v=>by
  show(match IH l i v with
   |some l'=>some (a::l')
   |none=>none)=_
  rw[PN l i v]
  by_cases h:i<l.length
  ·simp[h]
  ·simp[h]
noncomputable def yl (b k:Nat):M Value:=fun h n=>match bx (eT b) n with
 |true=>match kQ h b with
  |some B=>match s7 B.cells k with
   |some v=>some ⟨v,h,n,[⟨false,b,some k⟩]⟩
   |none=>none
  |none=>none
 |false=>none
theorem Dp:yl=rd:=by
 funext b k h n
 unfold yl rd
 rw[rp,sY]
 by_cases hb:b<n
 ·have:b.succ<=n:=hb
  simp only[hb,this,decide_true,if_true]
  cases h.get b with
  |none=>rfl
  |some B=>simp only[Dm];rfl
 ·have:¬b.succ<=n:=hb
  simp only[hb,this,decide_false,if_false]
noncomputable def vk (b k:Nat) (v:Value):M Unit:=fun h n=>match bx (eT b) n with
 |true=>match kQ h b with
  |some B=>match B.own with
   |true=>match one v with
    |true=>match IH B.cells k v with
     |some cs=>some ⟨(),jj h b (some ⟨B.elem,true,cs⟩),n,[⟨false,b,some k⟩,⟨true,b,some k⟩]⟩
     |none=>none
    |false=>none
   |false=>none
  |none=>none
 |false=>none
theorem Dq:vk=wr:=by
 funext b k v h n
 unfold vk wr
 rw[rp,sY]
 by_cases hb:b<n
 ·have:b.succ<=n:=hb
  simp only[hb,this,decide_true,if_true]
  cases h.get b with
  |none=>rfl
  |some B=>
   obtain⟨e,o,cs⟩:=B
   simp only[PN,IG]
   cases o with
   |false=>simp
   |true=>
    cases h1:one v with
    |false=>simp
    |true=>
     by_cases hk:k<cs.length
     ·simp[hk]
     ·simp[hk]
 ·have:¬b.succ<=n:=hb
  simp only[hb,this,decide_false,if_false]
noncomputable def kv (e:TypeId) (cs:List Value):M Nat:=fun h n=>some ⟨n,jj h n (some ⟨e,true,cs⟩),eT n,[]⟩
theorem mg:kv=cY:=by
 funext e cs h n
 unfold kv cY
 rw[if_pos (fp n),IG]
noncomputable def Ao (b:Nat):M TypeId:=fun h n=>match bx (eT b) n with
 |true=>match kQ h b with
  |some B=>some ⟨B.elem,h,n,[⟨false,b,some 1099511627776⟩]⟩
  |none=>none
 |false=>none
theorem ym:Ao=gN:=by
 funext b h n
 unfold Ao gN
 rw[rp,sY]
 by_cases hb:b<n
 ·have:b.succ<=n:=hb
  simp only[hb,this,decide_true,if_true]
  rfl
 ·have:¬b.succ<=n:=hb
  simp only[hb,this,decide_false,if_false]
noncomputable def II (b:Nat):M Unit:=fun h n=>match bx (eT b) n with
 |true=>match kQ h b with
  |some B=>match B.own with
   |true=>some ⟨(),jj h b none,n,[⟨false,b,none⟩,⟨true,b,none⟩]⟩
   |false=>none
  |none=>none
 |false=>none
theorem IJ:II=kill:=by
 funext b h n
 unfold II kill
 rw[rp,sY]
 by_cases hb:b<n
 ·have:b.succ<=n:=hb
  simp only[hb,this,decide_true,if_true]
  cases h.get b with
  |none=>rfl
  |some B=>
   simp only[IG]
   cases B.own<;>simp
 ·have:¬b.succ<=n:=hb
  simp only[hb,this,decide_false,if_false]
noncomputable def qf (b k:Nat):List Value->M Unit
 |[]=> .ret ()
 |v::vs=>(vk b k v).bind fun _=>qf b (eT k) vs
theorem PO(b:Nat):∀(vs:List Value) (k:Nat),qf b k vs=ez b k vs
 |[],_=>rfl
 |v::vs,k=>by
  unfold qf ez
  rw[Dq,PO b vs (eT k)]
theorem Dr:qf=ez:=by funext b k vs;exact PO b vs k
noncomputable def eW (l:List Value):Nat:=Cq (motive:=fun _=>Nat) 0 (fun _ _ ih=>eT ih) l
theorem mh:∀l:List Value,eW l=l.length
 |[]=>rfl
 |a::l=>by
  show eT (eW l)=_
  rw[mh l];rfl
noncomputable def Dt (b k:Nat):Nat->List En
 |0=>[]
 |c+1=>⟨false,b,some k⟩::Dt b (k+1) c
noncomputable def jr (b k c:Nat):M (List Value):=fun h n=>match c with
 |0=>some ⟨[],h,n,[]⟩
 |c+1=>match bx (eT b) n with
  |true=>match kQ h b with
   |some B=>match bx (fS k (c+1)) (eW B.cells)with
    |true=>some ⟨(B.cells.drop k).take (c+1),h,n,Dt b k (c+1)⟩
    |false=>none
   |none=>none
  |false=>none
theorem PQ(b:Nat)(h:H)(n:Nat):∀c k:Nat,jr b k c h n=dj b k c h n
 |0,_=>rfl
 |c+1,k=>by
  have ih:=PQ b h n c (k+1)
  have e0:dj b k (c+1) h n=((rd b k).bind fun v=>(dj b (k+1) c).bind fun vs=>M.ret (v::vs)) h n:=rfl
  rw[e0]
  unfold M.bind
  cases hb:bx (eT b) n with
  |false=>
   have bf:¬b<n:=fun q=>by rw[lR q]at hb;cases hb
   have vl:rd b k h n=none:=by unfold rd;rw[if_neg bf]
   have hl:jr b k (c+1) h n=none:=by unfold jr;simp only[hb]
   rw[hl];simp only[vl]
  |true=>
   have bf:b<n:=fY hb
   cases hg:h.get b with
   |none=>
    have vl:rd b k h n=none:=by unfold rd;rw[if_pos bf,hg]
    have hl:jr b k (c+1) h n=none:=by unfold jr;simp only[hb,sY,hg]
    rw[hl];simp only[vl]
   |some B=>
    cases hv:B.cells[k]? with
    |none=>
     have hle:B.cells.length<=k:=List.getElem?_eq_none_iff.1 hv
     have hq:bx (fS k (c+1)) (eW B.cells)=false:=by
      rw[mh]
      cases hq:bx (fS k (c+1)) B.cells.length with
      |false=>rfl
      |true=>
       have:=fY hq
       have e:fS k (c+1)=k+(c+1):=rfl
       omega
     have vl:rd b k h n=none:=by unfold rd;rw[if_pos bf,hg];simp only[hv]
     have hl:jr b k (c+1) h n=none:=by unfold jr;simp only[hb,sY,hg,hq]
     rw[hl];simp only[vl]
    |some v=>
     have PR:k<B.cells.length:=(List.getElem?_eq_some_iff.1 hv).1
     have hd:B.cells.drop k=v::B.cells.drop (k+1):=by
      rw[List.drop_eq_getElem_cons PR]
      rw[aM PR]at hv
      cases hv
      rfl
     have vl:rd b k h n=some ⟨v,h,n,[⟨false,b,some k⟩]⟩:=by
      unfold rd
      rw[if_pos bf,hg]
      simp only[hv]
     simp only[vl,<-ih]
     match c with
     |0=>
      have hq:bx (fS k (0+1)) (eW B.cells)=true:=by
       rw[mh]
       exact lR (by show k+1<=_;omega)
      unfold jr
      simp only[hb,sY,hg,hq,hd]
      simp[Dt,M.ret]
     |c+1=>
      have e:fS k (c+1+1)=fS (k+1) (c+1):=by
       show k+(c+1+1)=k+1+(c+1)
       omega
      unfold jr
      simp only[hb,sY,hg,e]
      cases bx (fS (k+1) (c+1)) (eW B.cells)with
      |false=>rfl
      |true=>
       simp only[M.ret,hd,List.take_succ_cons]
       simp[Dt]
theorem rq:jr=dj:=by funext b k c h n;exact PQ b h n c k
noncomputable def oc:List Value->Option (List UInt8)
 |[]=>some []
 | .int .u8 n::r=>match oc r with
   |some l=>some (nB n.toNat::l)
   |none=>none
 |_=>none
theorem ac3:∀(vs:List Value) (acc:List UInt8),bytesOf vs ⟨⟨acc⟩⟩=(oc vs).map fun l=>⟨⟨acc++l⟩⟩:=by
 intro vs
 induction vs with
 |nil=>intro acc;simp[bytesOf,oc]
 |cons v r ih=>
  intro acc
  cases v<;>try rfl
  rename_i k n
  cases k<;>try rfl
  show bytesOf r (aa2 ⟨⟨acc⟩⟩ (nB n.toNat))=Option.map _ (match oc r with
   |some l=>some (nB n.toNat::l)
   |none=>none)
  have e:(aa2 ⟨⟨acc⟩⟩ (nB n.toNat))=⟨⟨acc++[nB n.toNat]⟩⟩:=by
   apply ByteArray.ext
   simp[aa2]
  rw[e,ih]
  cases oc r with
  |none=>rfl
  |some l=>simp
noncomputable def PS:Value->M Value
 | .slice (some ⟨b,off,none⟩) len _=>(jr b off len).bind fun vs=>match oc vs with
   |some l=> .ret (.string ⟨⟨l⟩⟩)
   |none=> .fail
 |x=>nJ x
theorem ac4:PS=nJ:=by
 funext x
 unfold PS
 split
 ·rename_i b off len c
  unfold nJ
  rw[rq]
  congr 1
  funext vs
  have:=ac3 vs []
  have e:(anM)=⟨⟨[]⟩⟩:=rfl
  rw[e,this]
  cases oc vs with
  |none=>rfl
  |some l=>simp
 ·rfl
noncomputable def yn (sz:Nat) (n:Nat):Value->M (List Value)
 | .slice (some ⟨b,off,none⟩) _ _=>jr b off (n*sz)
 | .string ⟨⟨l⟩⟩=> .ret ((l.take n).map fun b=>gZ .u8 (.ofNat b.toNat))
 |_=> .fail
theorem vm:yn=j8:=by
 funext sz n x
 cases x<;>try rfl
 ·rename_i s
  obtain⟨⟨l⟩⟩:=s
  unfold yn j8
  simp only
  congr 1
  simp[aaS]
 ·rename_i a len cap
  cases a with
  |none=>rfl
  |some a=>
   obtain⟨b,off,p⟩:=a
   cases p with
   |none=>unfold yn j8;rw[rq]
   |some p=>rfl
noncomputable def over:List Value->List Value->List Value
 |[],cs=>cs
 |x::l,cs=>match cs with
  |[]=>[]
  |_::cs=>x::over l cs
noncomputable def qg:List Value->Nat->List Value->List Value
 |cs,0,l=>over l cs
 |[],_+1,_=>[]
 |a::cs,off+1,l=>a::qg cs off l
noncomputable def o0:List Value->Nat->List Value->List Value
 |cs,_,[]=>cs
 |cs,off,x::l=>o0 (cs.set off x) (off+1) l
theorem IK(a:Value):∀(l cs:List Value) (off:Nat),o0 (a::cs) (off+1) l=a::o0 cs off l
 |[],_,_=>rfl
 |x::l,cs,off=>by
  show o0 ((a::cs).set (off+1) x) (off+1+1) l=a::o0 (cs.set off x) (off+1) l
  rw[List.set_cons_succ]
  exact IK a l _ _
theorem IL:∀(l:List Value) (off:Nat),o0 [] off l=[]
 |[],_=>rfl
 |x::l,off=>by
  show o0 (([]:List Value).set off x) (off+1) l=[]
  rw[List.set_nil]
  exact IL l _
theorem IM:∀(l cs:List Value),over l cs=o0 cs 0 l
 |[],_=>rfl
 |x::l,[]=>by rw[IL];rfl
 |x::l,c::cs=>by
  show x::over l cs=o0 ((c::cs).set 0 x) (0+1) l
  rw[List.set_cons_zero,IK,IM l cs]
theorem IP:∀(off:Nat) (cs l:List Value),qg cs off l=o0 cs off l
 |0,cs,l=>by
  have:qg cs 0 l=over l cs:=by cases cs<;>rfl
  rw[this];exact IM l cs
 |off+1,[],l=>by rw[IL];rfl
 |off+1,a::cs,l=>by
  rw[IK]
  show a::qg cs off l=_
  rw[IP off cs l]
theorem PT(off:Nat):∀(l:List Value) (j:Nat) (cells:Array Value),((l.zipIdx j).foldl (fun cs (x:Value×Nat)=>cs.setIfInBounds (off+x.2) x.1) cells).toList=o0 cells.toList (off+j) l
 |[],_,_=>rfl
 |x::l,j,cells=>by
  rw[List.zipIdx_cons,List.foldl_cons,PT off l (j+1)]
  rw[Array.toList_setIfInBounds]
  rfl
noncomputable def dC:Value->List Value
 | .agg ⟨l⟩=>l
 |v=>[v]
theorem o4(v:Value):dC v=v.cells.toList:=by
 cases v<;>rfl
noncomputable def tc (place:Nat->Option (Nat×Nat)) (cells:List Value):List (Nat×Value)->Option (List Value)
 |[]=>some cells
 |(i,v)::rest=>match place i with
  |none=>none
  |some (off,size)=>match bK (eW (dC v)) size&&bx (fS off (eW (dC v))) (eW cells)with
   |true=>tc place (qg cells off (dC v)) rest
   |false=>none
theorem Du(place:Nat->Option (Nat×Nat)):∀(parts:List (Nat×Value)) (cells:Array Value),tc place cells.toList parts=(lQ place cells parts).map (·.toList)
 |[],_=>rfl
 |(i,v)::rest,cells=>by
  unfold tc lQ
  cases place i with
  |none=>rfl
  |some q=>
   obtain⟨off,size⟩:=q
   simp only
   rw[mh,mh,o4,sX,rp]
   have e1:v.cells.toList.length=v.cells.size:=by simp
   have e2:cells.toList.length=cells.size:=by simp
   rw[e1,e2]
   by_cases h1:v.cells.size=size
   ·by_cases h2:off+v.cells.size<=cells.size
    ·have lu:fS off v.cells.size<=cells.size:=h2
     have h3:¬off+v.cells.size>cells.size:=by omega
     rw[if_neg (by simp[h1];omega)]
     simp only[h1,lu,decide_true,Bool.and_true]
     rw[<-h1]
     simp only[lu,decide_true,Bool.true_and]
     rw[<-Du place rest]
     congr 1
     rw[IP]
     have:=PT off v.cells.toList 0 cells
     rw[mH]at this
     rw[<-this]
     congr 1
     rw[<-Array.foldl_toList,Array.toList_zipIdx]
    ·have lu:¬fS off v.cells.size<=cells.size:=h2
     rw[if_pos (by simp[h1];omega)]
     simp[h2,lu]
   ·rw[if_pos (by simp[h1])]
    simp[h1]
noncomputable def ac5 (v:Value) (n:Nat):List Value:=aa1 (motive:=fun _=>List Value) [] (fun _ ih=>v::ih) n
noncomputable def Dv (a b:List Value):List Value:=Cq (motive:=fun _=>List Value) b (fun v _ ih=>v::ih) a
noncomputable def Ap (n n1:Nat) (L L2:List En):List En:=Cq (motive:=fun _=>List En) L2 (fun e _ ih=>match bx n e.b with
 |true=>(match bx (eT e.b) n1 with
  |true=>ih
  |false=>e::ih)
 |false=>e::ih) L
theorem PU(n n1:Nat)(L2:List En):∀L:List En,Ap n n1 L L2=(L.filter fun e=> !(decide (n<=e.b)&&decide (e.b<n1)))++L2
 |[]=>rfl
 |e::L=>by
  show(match bx n e.b with
   |true=>(match bx (eT e.b) n1 with
    |true=>Ap n n1 L L2
    |false=>e::Ap n n1 L L2)
   |false=>e::Ap n n1 L L2)=_
  rw[PU n n1 L2 L,List.filter_cons,rp,rp]
  by_cases h1:n<=e.b
  ·by_cases h2:e.b<n1
   ·have h3:e.b.succ<=n1:=h2
    simp[h1,h2,h3]
   ·have h3:¬e.b.succ<=n1:=h2
    simp[h1,h2,h3]
  ·simp[h1]
noncomputable def eO {α β:Type} (m:M α) (k:α->M β):M β:=fun h n=>match m h n with
 |some ⟨a,h1,n1,L⟩=>(match k a h1 n1 with
  |some ⟨b,h2,n2,L2⟩=>some ⟨b,h2,n2,Ap n n1 L L2⟩
  |none=>none)
 |none=>none
theorem pc{α β:Type}(m:M α)(k:α->M β):eO m k=(inside m).bind k:=by
 funext h n
 unfold eO M.bind inside
 cases hm:m h n with
 |none=>simp only[hm]
 |some o=>
  obtain⟨a,h1,n1,L⟩:=o
  simp only[hm,PU]
  rfl
noncomputable def ru (p:En->Bool) (L:List En):Bool:=Cq (motive:=fun _=>Bool) false (fun e _ ih=>match p e with
 |true=>true
 |false=>ih) L
theorem IQ(p:En->Bool):∀L:List En,ru p L=L.any p
 |[]=>rfl
 |e::L=>by
  show(match p e with
   |true=>true
   |false=>ru p L)=_
  rw[IQ p L,List.any_cons]
  cases p e<;>rfl
noncomputable def yo (a b:Bool):Bool:=match a with
 |true=>b
 |false=>false
theorem PV(a b:Bool):yo a b=(a&&b):=by cases a<;>rfl
noncomputable def Dw (x y:En):Bool:=match bK x.b y.b with
 |true=>(x.k==y.k||x.k.isNone||y.k.isNone)
 |false=>false
theorem ac6(x y:En):Dw x y=x.meets y:=by
 unfold Dw En.meets
 rw[sX]
 by_cases h:x.b=y.b
 ·simp[h]
 ·have:(x.b==y.b)=false:=by simpa using h
  simp[h]
noncomputable def fH (a b:Tk):Bool:=
 match ru (fun x=>yo x.wr (ru (fun y=>Dw x y) b.log)) a.log with
 |true=>true
 |false=>match ru (fun x=>yo x.wr (ru (fun y=>Dw x y) a.log)) b.log with
  |true=>true
  |false=>match ru (fun x=>yo (bx b.n x.b) (bx (eT x.b) b.n1)) a.log with
   |true=>true
   |false=>ru (fun x=>yo (bx a.n x.b) (bx (eT x.b) a.n1)) b.log
theorem Aq(a b:Tk):fH a b=a.iQ b:=by
 have key:∀(n n1:Nat) (L:List En),(ru (fun x=>yo (bx n x.b) (bx (eT x.b) n1)) L)=L.any fun x=>decide (n<=x.b)&&decide (x.b<n1):=fun n n1 L=>by
  rw[IQ]
  congr 1
  funext x
  rw[PV,rp,rp]
  rfl
 unfold fH Tk.iQ
 rw[key,key]
 simp only[IQ,PV,ac6]
 cases (a.log.any fun x=>x.wr&&b.log.any fun y=>x.meets y)<;>cases (b.log.any fun x=>x.wr&&a.log.any fun y=>x.meets y)<;>cases (a.log.any fun x=>decide (b.n<=x.b)&&decide (x.b<b.n1))<;>simp
noncomputable section
variable {β:Type}
def kR(f:IntKind->Int->Int->Value)(x y:Value)(k:Value->M β):M β:=match x with
 | .int a p=>match y with
   | .int b q=>match qe a b with
     |true=>k (f a p q)
     |false=> .fail
   |_=> .fail
 |_=> .fail
def vn(f:Nat->Nat->Nat)(x y:Value)(k:Value->M β):M β:=match x with
 | .int a (.ofNat p)=>match y with
   | .int b (.ofNat q)=>match qe a b with
     |true=>k (.int a (oZ a (.ofNat (f (j5 p (pw a)) (j5 q (pw a))))))
     |false=> .fail
   |_=> .fail
 |_=> .fail
def aC(x y:Value)(k:Value->M β):M β:=match x with
 | .string ⟨⟨a⟩⟩=>match y with
   | .string ⟨⟨b⟩⟩=>match bx (fS (kP a) (kP b)) 9223372036854775807 with
     |true=>k (.string ⟨⟨Dh a b⟩⟩)
     |false=> .fail
   |_=> .fail
 |x=>kR (fun k a b=> .int k (oZ k (Db a b))) x y k
def bW(x y:Value)(k:Value->M β):M β:=kR (fun k a b=> .int k (oZ k (Dc a b))) x y k
def jO(x y:Value)(k:Value->M β):M β:=kR (fun k a b=> .int k (oZ k (Iy a b))) x y k
def bJ(x y:Value)(k:Value->M β):M β:=match x with
 | .string ⟨⟨a⟩⟩=>match y with
   | .string ⟨⟨b⟩⟩=>k (.bool (rj a b))
   |_=> .fail
 |x=>kR (fun _ a b=> .bool (qd a b)) x y k
def dO(x y:Value)(k:Value->M β):M β:=match x with
 | .string ⟨⟨a⟩⟩=>match y with
   | .string ⟨⟨b⟩⟩=>k (.bool (!rj a b))
   |_=> .fail
 |x=>kR (fun _ a b=> .bool (!qd a b)) x y k
def aH(x y:Value)(k:Value->M β):M β:=kR (fun _ a b=> .bool (yj a b)) x y k
def jP(x y:Value)(k:Value->M β):M β:=kR (fun _ a b=> .bool (De a b)) x y k
def ft(x y:Value)(k:Value->M β):M β:=kR (fun _ a b=> .bool (yj b a)) x y k
def gH(x y:Value)(k:Value->M β):M β:=kR (fun _ a b=> .bool (De b a)) x y k
def Ar(x y:Value)(k:Value->M β):M β:=vn Nat.land x y k
def Dx(x y:Value)(k:Value->M β):M β:=vn Nat.lor x y k
def PW(x y:Value)(k:Value->M β):M β:=vn Nat.xor x y k
def td(x y:Value)(k:Value->M β):M β:=match x with
 | .int a (.ofNat p)=>match y with
   | .int _ (.ofNat q)=>k (.int a (oZ a (.ofNat (Oo p (ame 2 (Nat.min q a.bits))))))
   |_=> .fail
 |_=> .fail
def od(x y:Value)(k:Value->M β):M β:=match x with
 | .int a (.ofNat p)=>match y with
   | .int _ (.ofNat q)=>k (.int a (.ofNat (kF p (ame 2 (Nat.min q a.bits)))))
   |_=> .fail
 |_=> .fail
def mi(x y:Value)(k:Value->M β):M β:=match x with
 | .int a p=>match y with
   | .int b q=>match qe a b with
     |true=>match qd q 0 with
      |true=> .fail
      |false=>k (.int a (oZ a (Int.tdiv p q)))
     |false=> .fail
   |_=> .fail
 |_=> .fail
def pd(x y:Value)(k:Value->M β):M β:=match x with
 | .int a p=>match y with
   | .int b q=>match qe a b with
     |true=>match qd q 0 with
      |true=> .fail
      |false=>k (.int a (Int.tmod p q))
     |false=> .fail
   |_=> .fail
 |_=> .fail
def IU(x y:Value)(k:Value->M β):M β:=match x with
 | .bool a=>match y with
   | .bool b=>k (.bool (match a with
     |true=>b
     |false=> !b))
   |_=> .fail
 |_=> .fail
def As(x y:Value)(k:Value->M β):M β:=match x with
 | .bool a=>match y with
   | .bool b=>k (.bool (match a with
     |true=> !b
     |false=>b))
   |_=> .fail
 |_=> .fail
def Dy(f:Bool->Bool)(x y:Value)(k:Value->M β):M β:=match x with
 | .pointer none=>match y with
   | .pointer b=>k (.bool (f b.isNone))
   |_=> .fail
 | .pointer (some _)=>match y with
   | .pointer none=>k (.bool (f false))
   |_=> .fail
 |_=> .fail
def Dz(f:Bool->Bool)(x y:Value)(k:Value->M β):M β:=match x with
 | .slice none _ _=>match y with
   | .slice b _ _=>k (.bool (f b.isNone))
   |_=> .fail
 | .slice (some _) _ _=>match y with
   | .slice none _ _=>k (.bool (f false))
   |_=> .fail
 |_=> .fail
def DA(f:Bool->Bool)(x y:Value)(k:Value->M β):M β:=match x with
 | .nilFunc=>match y with
   | .nilFunc=>k (.bool (f true))
   | .func _ _ _=>k (.bool (f false))
   |_=> .fail
 | .func _ _ _=>match y with
   | .nilFunc=>k (.bool (f false))
   |_=> .fail
 |_=> .fail
def fw(x y:Value)(k:Value->M β):M β:=Dy (fun b=>b) x y k
def vo(x y:Value)(k:Value->M β):M β:=Dy (fun b=> !b) x y k
def Au(x y:Value)(k:Value->M β):M β:=Dz (fun b=>b) x y k
def DB(x y:Value)(k:Value->M β):M β:=Dz (fun b=> !b) x y k
def IV(x y:Value)(k:Value->M β):M β:=DA (fun b=>b) x y k
def IW(x y:Value)(k:Value->M β):M β:=DA (fun b=> !b) x y k
def dZ(x:Value)(k:Value->M β):M β:=match x with
 | .bool b=>k (.bool (!b))
 |_=> .fail
def DC(x:Value)(k:Value->M β):M β:=match x with
 | .int a p=>k (.int a (oZ a (Dc 0 p)))
 |_=> .fail
def eZ(kd:IntKind)(x:Value)(k:Value->M β):M β:=match x with
 | .int _ p=>k (.int kd (oZ kd p))
 |_=> .fail
def PX(x:Value)(k:Value->M β):M β:=match x with
 | .string s=>k (.string s)
 |_=> .fail
def aN(x:Value)(k:Value->M β):M β:=match x with
 | .slice _ n _=>k (.int .i64 (.ofNat n))
 |_=> .fail
def lA(x:Value)(k:Value->M β):M β:=match x with
 | .string ⟨⟨l⟩⟩=>k (.int .i64 (.ofNat (kP l)))
 |_=> .fail
def te(x y:Value)(k:Value->M β):M β:=match x with
 | .int a p=>match y with
   | .int _ q=>k (.int a (match yj q p with
     |true=>q
     |false=>p))
   |_=> .fail
 |_=> .fail
def vq(x y:Value)(k:Value->M β):M β:=match x with
 | .int a p=>match y with
   | .int _ q=>k (.int a (match yj p q with
     |true=>q
     |false=>p))
   |_=> .fail
 |_=> .fail
def IX(c a b:Value)(k:Value->M β):M β:=match c with
 | .bool true=>k a
 | .bool false=>k b
 |_=> .fail
def aI(x:Value)(k:Value->M β):M β:=match x with
 | .pointer (some a)=>k (.pointer (some a))
 | .func (.func f) a b=>k (.func (.func f) a b)
 |_=> .fail
def aE(K:Nat)(x:Value)(k:Value->M β):M β:=match x with
 | .pointer (some ⟨b,off,none⟩)=>k (.pointer (some ⟨b,fS off K,none⟩))
 |_=> .fail
def IY(K:Nat)(x:Value)(k:Value->M β):M β:=match x with
 | .agg ⟨l⟩=>match s7 l K with
   |some v=>k v
   |none=> .fail
 |_=> .fail
def IZ(K m:Nat)(x:Value)(k:Value->M β):M β:=match x with
 | .agg ⟨l⟩=>k (.agg ⟨(l.drop K).take m⟩)
 |_=> .fail
def aL(x ix:Value)(k:Value->M β):M β:=match x with
 | .slice (some ⟨b,off,none⟩) n _=>match ix with
   | .int _ (.ofNat i)=>match bx (eT i) n with
     |true=>k (.pointer (some ⟨b,fS off i,none⟩))
     |false=> .fail
   |_=> .fail
 |_=> .fail
def qh(sz:Nat)(x ix:Value)(k:Value->M β):M β:=match x with
 | .slice (some ⟨b,off,none⟩) n _=>match ix with
   | .int _ (.ofNat i)=>match bx (eT i) n with
     |true=>k (.pointer (some ⟨b,fS off (Oo i sz),none⟩))
     |false=> .fail
   |_=> .fail
 |_=> .fail
def gx(n:Nat)(x ix:Value)(k:Value->M β):M β:=match x with
 | .pointer (some ⟨b,off,none⟩)=>match ix with
   | .int _ (.ofNat i)=>match bx (eT i) n with
     |true=>k (.pointer (some ⟨b,fS off i,none⟩))
     |false=> .fail
   |_=> .fail
 |_=> .fail
def DD(n sz:Nat)(x ix:Value)(k:Value->M β):M β:=match x with
 | .pointer (some ⟨b,off,none⟩)=>match ix with
   | .int _ (.ofNat i)=>match bx (eT i) n with
     |true=>k (.pointer (some ⟨b,fS off (Oo i sz),none⟩))
     |false=> .fail
   |_=> .fail
 |_=> .fail
def pf(x ix:Value)(k:Value->M β):M β:=match x with
 | .string ⟨⟨l⟩⟩=>match ix with
   | .int _ (.ofNat i)=>match rn l i with
     |some c=>k (.int .u8 (.ofNat c.toNat))
     |none=> .fail
   |_=> .fail
 |_=> .fail
def Av(n:Nat)(x ix:Value)(k:Value->M β):M β:=match x with
 | .agg ⟨l⟩=>match ix with
   | .int _ (.ofNat i)=>match bx (eT i) n with
     |true=>match s7 l i with
      |some v=>k v
      |none=> .fail
     |false=> .fail
   |_=> .fail
 |_=> .fail
def bm(x:Value)(i:Nat)(k:Value->M β):M β:=match x with
 | .tuple ⟨l⟩=>match s7 l i with
   |some v=>k v
   |none=> .fail
 |_=> .fail
def ry(o:Option Value)(d:Nat):Option Nat:=match o with
 |none=>some d
 |some (.int _ (.ofNat i))=>some i
 |_=>none
def kx(x:Value)(lo hi:Option Value)(k:Value->M β):M β:=match x with
 | .string ⟨⟨l⟩⟩=>match ry lo 0 with
   |some a=>match ry hi (kP l)with
    |some b=>match bx a b with
     |true=>match bx b (kP l)with
      |true=>k (.string ⟨⟨(l.drop a).take (On b a)⟩⟩)
      |false=> .fail
     |false=> .fail
    |none=> .fail
   |none=> .fail
 |_=> .fail
def ay(x:Value)(k:Value->M β):M β:=match x with
 | .pointer (some ⟨b,off,none⟩)=>eO (yl b off) k
 |_=> .fail
def fa(sz:Nat)(x:Value)(k:Value->M β):M β:=match x with
 | .pointer (some ⟨b,off,none⟩)=>eO ((jr b off sz).bind fun vs=> .ret (.agg ⟨vs⟩)) k
 |_=> .fail
def bG(a x:Value)(k:Value->M β):M β:=match a with
 | .pointer (some ⟨b,off,none⟩)=>match one x with
   |true=>eO ((vk b off x).bind fun _=> .ret undef) k
   |false=> .fail
 |_=> .fail
def fb(sz:Nat)(a x:Value)(k:Value->M β):M β:=match a with
 | .pointer (some ⟨b,off,none⟩)=>match x with
   | .agg ⟨l⟩=>match bK (eW l) sz with
     |true=>eO ((qf b off l).bind fun _=> .ret undef) k
     |false=> .fail
   |_=> .fail
 |_=> .fail
def iW(e:TypeId)(z:List Value)(k:Value->M β):M β:=eO ((kv e z).bind fun id=> .ret (.pointer (some ⟨id,0,none⟩))) k
def jt(e:TypeId)(v:Value)(k:Value->M β):M β:=eO ((kv e (dC v)).bind fun id=> .ret (.pointer (some ⟨id,0,none⟩))) k
def fx:List Value->List (Nat×Nat×Value)->Option (List Value)
 |cs,[]=>some cs
 |cs,q::r=>match bK (eW (dC q.2.2)) q.2.1 with
  |true=>match bx (fS q.1 (eW (dC q.2.2))) (eW cs)with
   |true=>fx (qg cs q.1 (dC q.2.2)) r
   |false=>none
  |false=>none
def gS(z:List Value)(ps:List (Nat×Nat×Value))(k:Value->M β):M β:=match fx z ps with
 |some cs=>k (.agg ⟨cs⟩)
 |none=> .fail
def cZ(e:TypeId)(sz:Nat)(v:Value)(k:Value->M β):M β:=match bK (eW (dC v)) sz with
 |true=>eO ((kv e (dC v)).bind fun id=> .ret (.slice (some ⟨id,0,none⟩) 1 1)) k
 |false=> .fail
def rz(e:TypeId)(z:List Value)(len:Nat)(ps:List (Nat×Nat×Value))(k:Value->M β):M β:=match fx z ps with
 |some cs=>eO ((kv e cs).bind fun id=> .ret (.slice (some ⟨id,0,none⟩) len len)) k
 |none=> .fail
def ju(z:List Value):Nat->List Value
 |0=>[]
 |n+1=>Dv z (ju z n)
def jx(e:TypeId)(z:List Value)(l c:Value)(k:Value->M β):M β:=match l with
 | .int _ (.ofNat l)=>match c with
   | .int _ (.ofNat c)=>match bx l c with
     |true=>match bx c 1099511627776 with
      |true=>eO ((kv e (ju z c)).bind fun id=> .ret (.slice (some ⟨id,0,none⟩) l c)) k
      |false=> .fail
     |false=> .fail
   |_=> .fail
 |_=> .fail
def vr(sz:Nat)(a:Option Addr)(len cap:Nat)(lo hi:Option Value):Option Value:=match er hi len,er lo 0 with
 |some h,some l=>
  if l<=h&&h<=cap&&cap<=cap&&(cap<bc||((none:Option Value).isNone&&h<=len))then
   match a with
   |none=>some (.slice none (h-l) (cap-l))
   |some ⟨b,off,none⟩=>some (.slice (some ⟨b,if cap=l then off else off+l*sz,none⟩) (h-l) (cap-l))
   |_=>none
  else none
 |_,_=>none
def rA(e:TypeId)(sz:Nat)(x:Value)(lo hi:Option Value)(k:Value->M β):M β:=match x with
 | .slice none len cap=>match vr sz none len cap lo hi with
   |some v=>k v
   |none=> .fail
 | .slice (some ⟨b,off,none⟩) len cap=>eO ((Ao b).bind fun e'=>match bK e' e with
   |true=>M.lift (vr sz (some ⟨b,off,none⟩) len cap lo hi)
   |false=> .fail) k
 |_=> .fail
def Aw(e:TypeId)(n sz b off l cap:Nat)(new:List Value):M Value:=
 if cap<bc then
  if l+n<=cap then(qf b (off+l*sz) new).bind fun _=> .ret (.slice (some ⟨b,off,none⟩) (l+n) cap)
  else(jr b off (l*sz)).bind fun old=>(kv e (old++new)).bind fun id=> .ret (.slice (some ⟨id,0,none⟩) (l+n) (bc+(l+n)))
 else(jr b off (l*sz)).bind fun old=>(II b).bind fun _=>(kv e (old++new)).bind fun id=> .ret (.slice (some ⟨id,0,none⟩) (l+n) (bc+(l+n)))
def mY(e:TypeId)(sz:Nat)(s x:Value):M Value:=match gO x with
 |some n=>
  if n=0 then(match s with| .slice _ _ _=> .ret s|_=> .fail)else
  match s with
  | .slice none 0 0=>if n<=1099511627776 then(yn sz n x).bind fun new=>if new.length=n*sz&&new.all one then(kv e ([]++new)).bind fun id=> .ret (.slice (some ⟨id,0,none⟩) (0+n) (bc+(0+n)))else .fail else .fail
  | .slice (some ⟨b,off,none⟩) l cap=>
    if l+n<=1099511627776 then
    (Ao b).bind fun e'=>if e'=e then
      (yn sz n x).bind fun new=>if new.length=n*sz&&new.all one then Aw e n sz b off l cap new else .fail
    else .fail
    else .fail
  |_=> .fail
 |none=> .fail
def cO(e:TypeId)(sz:Nat)(s x:Value)(k:Value->M β):M β:=eO (mY e sz s x) k
def PY(sz:Nat)(d s:Value):M Value:=match d,gO s with
 | .slice a dl _,some sl=>
   if 0<Nat.min sl dl then(match a with
    |some ⟨b,off,none⟩=>(yn sz (Nat.min sl dl) s).bind fun vs=>(qf b off vs).bind fun _=> .ret (.int .i64 (Nat.min sl dl))
    |_=> .fail)
   else .ret (.int .i64 0)
 |_,_=> .fail
def kcp(sz:Nat)(d s:Value)(k:Value->M β):M β:=eO (PY sz d s) k
def vt(x:Value)(k:Value->M β):M β:=match x with
 | .slice (some ⟨b,off,none⟩) len _=>eO ((jr b off len).bind fun vs=>match oc vs with
   |some l=> .ret (.string ⟨⟨l⟩⟩)
   |none=> .fail) k
 | .slice none _ _=>k (.string ⟨⟨[]⟩⟩)
 |_=> .fail
def I0(e:TypeId)(x:Value)(k:Value->M β):M β:=match x with
 | .string ⟨⟨l⟩⟩=>match bx (kP l) 1099511627776 with
   |true=>eO ((kv e (l.map fun b=>gZ .u8 (.ofNat b.toNat))).bind fun id=> .ret (.slice (some ⟨id,0,none⟩) (kP l) (bc+kP l))) k
   |false=> .fail
 |_=> .fail
def az(R:FuncId->Array Value->M Value)(f:FuncId)(vs:List Value)(k:Value->M β):M β:=eO (R f ⟨vs⟩) k
end
theorem iw{P:Program}{op:BinOp}{t:TypeId}{x y v:Value}(hn:mV P t=false)(hs:(scalar x&&scalar y)=true)(hr:je P (do pure (.value (<-g8 op t x y)))=some v)(hv:scalar v=true):dX P op t x y=some v:=by
 unfold dX Iv nY
 rw[hn,hs]
 simp only
 rw[hr]
 simp only[hv]
section
variable {P:Program} {t:TypeId} {k:IntKind} (hn:mV P t=false) (a b:Int)
include hn
theorem ac7:dX P .add t (.int k a) (.int k b)=some (.int k (k.wrap (a+b))):=iw hn rfl (by unfold g8;simp only[ne_eq,not_true_eq_false,if_false];rfl) rfl
theorem ac8:dX P .sub t (.int k a) (.int k b)=some (.int k (k.wrap (a-b))):=iw hn rfl (by unfold g8;simp only[ne_eq,not_true_eq_false,if_false];rfl) rfl
theorem ac9:dX P .mul t (.int k a) (.int k b)=some (.int k (k.wrap (a*b))):=iw hn rfl (by unfold g8;simp only[ne_eq,not_true_eq_false,if_false];rfl) rfl
theorem ac'(h0:b≠0):dX P .quo t (.int k a) (.int k b)=some (.int k (k.wrap (a.tdiv b))):=iw hn rfl (by unfold g8 amf;simp only[ne_eq,not_true_eq_false,if_false,h0];rfl) rfl
theorem ac_(h0:b≠0):dX P .rem t (.int k a) (.int k b)=some (.int k (a.tmod b)):=iw hn rfl (by unfold g8 amf;simp only[ne_eq,not_true_eq_false,if_false,h0];rfl) rfl
theorem adb:dX P .eql t (.int k a) (.int k b)=some (.bool (a==b)):=iw hn rfl (by unfold g8;simp only[ne_eq,not_true_eq_false,if_false];rfl) rfl
theorem ade:dX P .neq t (.int k a) (.int k b)=some (.bool (a !=b)):=iw hn rfl (by unfold g8;simp only[ne_eq,not_true_eq_false,if_false];rfl) rfl
theorem adf:dX P .lss t (.int k a) (.int k b)=some (.bool (decide (a<b))):=iw hn rfl (by unfold g8;simp only[ne_eq,not_true_eq_false,if_false];rfl) rfl
theorem adg:dX P .leq t (.int k a) (.int k b)=some (.bool (decide (a<=b))):=iw hn rfl (by unfold g8;simp only[ne_eq,not_true_eq_false,if_false];rfl) rfl
theorem adh:dX P .gtr t (.int k a) (.int k b)=some (.bool (decide (b<a))):=iw hn rfl (by unfold g8;simp only[ne_eq,not_true_eq_false,if_false];rfl) rfl
theorem adi:dX P .geq t (.int k a) (.int k b)=some (.bool (decide (b<=a))):=iw hn rfl (by unfold g8;simp only[ne_eq,not_true_eq_false,if_false];rfl) rfl
theorem adj{k':IntKind}(h0:0<=b):dX P .shl t (.int k a) (.int k' b)=some (.int k (k.wrap (a*2^(min b.toNat k.bits)))):=iw hn rfl (by unfold g8 amg;simp only[show¬b<0 by omega,if_false];rfl) rfl
theorem adk{k':IntKind}(h0:0<=b):dX P .shr t (.int k a) (.int k' b)=some (.int k (a.fdiv (2^(min b.toNat k.bits)))):=iw hn rfl (by unfold g8 amg;simp only[show¬b<0 by omega,if_false];rfl) rfl
theorem adm:dX P .and t (.int k a) (.int k b)=some (.int k (k.wrap (gF k.bits a&&&gF k.bits b).toNat)):=iw hn rfl (by unfold g8;simp only[ne_eq,not_true_eq_false,if_false];rfl) rfl
theorem adn:dX P .or t (.int k a) (.int k b)=some (.int k (k.wrap (gF k.bits a|||gF k.bits b).toNat)):=iw hn rfl (by unfold g8;simp only[ne_eq,not_true_eq_false,if_false];rfl) rfl
theorem ado:dX P .xor t (.int k a) (.int k b)=some (.int k (k.wrap (gF k.bits a^^^gF k.bits b).toNat)):=iw hn rfl (by unfold g8;simp only[ne_eq,not_true_eq_false,if_false];rfl) rfl
end
theorem I1(l:List UInt8):(⟨l.toArray⟩:ByteArray).size=l.length:=by simp[anN]
theorem PZ(l:List UInt8):(⟨l.toArray⟩:ByteArray).toList=l:=by rw[anO]
theorem adp(a b:List UInt8):(⟨a.toArray⟩:ByteArray)++⟨b.toArray⟩=⟨(a++b).toArray⟩:=by
 apply ByteArray.ext
 simp
theorem DE(l:List UInt8)(i j:Nat):(⟨l.toArray⟩:ByteArray).extract i j=⟨((l.drop i).take (j-i)).toArray⟩:=by
 apply ByteArray.ext
 simp[aaS,al4]
section
variable {P:Program} {t:TypeId}
theorem adq(hn:mV P t=false)(a b:List UInt8):dX P .eql t (.string ⟨a.toArray⟩) (.string ⟨b.toArray⟩)=some (.bool (decide (a=b))):=by
 refine iw hn rfl ?_ rfl
 unfold g8 aa3
 simp only[PZ]
 have:(a==b)=decide (a=b):=by
  by_cases h:a=b
  ·subst h;simp
  ·simp[h]
 rw[this]
 rfl
theorem adr(hn:mV P t=false)(a b:List UInt8):dX P .neq t (.string ⟨a.toArray⟩) (.string ⟨b.toArray⟩)=some (.bool (!decide (a=b))):=by
 refine iw hn rfl ?_ rfl
 unfold g8 aa3
 simp only[PZ]
 have:(a==b)=decide (a=b):=by
  by_cases h:a=b
  ·subst h;simp
  ·simp[h]
 rw[this]
 rfl
theorem ads(hn:mV P t=false)(a b:List UInt8)(h:a.length+b.length<=9223372036854775807):dX P .add t (.string ⟨a.toArray⟩) (.string ⟨b.toArray⟩)=some (.string ⟨(a++b).toArray⟩):=by
 refine iw hn rfl ?_ rfl
 unfold g8 aa3
 simp only[I1,adp]
 have h2:¬(((a.length+b.length:Nat):Int)>IntKind.i64.max):=by
  have:IntKind.i64.max=9223372036854775807:=by decide
  rw[this];omega
 rw[if_neg h2]
 rfl
end
section
variable {P:Program} {t:TypeId}
theorem adt(h:P.underlying t=some .string)(l:List UInt8)(k:IntKind)(i:Int)(h0:0<=i)(h1:i<l.length):vh P t (.string ⟨l.toArray⟩) (.int k i)=some (.int .u8 (l.getD i.toNat 0).toNat):=by
 have hi:i.toNat<l.length:=by omega
 have hs:oX P t=true:=by unfold oX;rw[h]
 unfold vh CY nY
 rw[hs]
 simp only[isStr,scalar]
 have hg:(⟨l.toArray⟩:ByteArray)[i.toNat]? =some (l.getD i.toNat 0):=by
  have bf:i.toNat<(⟨l.toArray⟩:ByteArray).size:=by rw[I1];exact hi
  rw[getElem?_pos (⟨l.toArray⟩:ByteArray) i.toNat bf]
  rw[aF,aM hi]
  rfl
 have:je P (do pure (Oq (<-Co t (.string ⟨l.toArray⟩) (.int k i))))=some (.int .u8 (l.getD i.toNat 0).toNat):=by
  unfold Co
  simp only[asIntOf,pure_bind,bind_assoc]
  rw[qc h]
  simp only[h0,if_true,hg]
  rfl
 rw[this]
theorem adu(h:P.underlying t=some .string){β:Type}(l:List UInt8)(lo hi:Option Value){a b:Nat}(ha:er lo 0=some a)(hb:er hi l.length=some b)(h1:a<=b)(h2:b<=l.length)(k:Value->M β):yg P t (.string ⟨l.toArray⟩) lo hi none k=k (.string ⟨((l.drop a).take (b-a)).toArray⟩):=by
 have hs:oX P t=true:=by unfold oX;rw[h]
 have bd:∀(o:Option Value) (d m:Nat),er o d=some m->(o=none∧m=d)∨∃kd i,o=some (.int kd i)∧0<=i∧m=i.toNat:=by
  intro o d m hm
  unfold er at hm
  split at hm
  ·cases hm;exact .inl ⟨rfl,rfl⟩
  ·rename_i kd i
   split at hm
   ·rename_i h0;cases hm;exact .inr ⟨kd,i,rfl,h0,rfl⟩
   ·cases hm
  ·cases hm
 have Ip:(vd lo&&vd hi&&vd none)=true:=by
  rcases bd lo _ _ ha with ⟨rfl,_⟩|⟨_,_,rfl,_⟩<;>rcases bd hi _ _ hb with ⟨rfl,_⟩|⟨_,_,rfl,_⟩<;>rfl
 have nT:∀(kd:IntKind) (i:Int) (y:Nat) (c:BoundsCode),0<=i->i.toNat<=y->Of (.int kd i) y c=pure i.toNat:=by
  intro kd i y c h0 h1
  unfold Of asIntOf
  simp only[pure_bind]
  rw[if_pos ⟨h0,by omega⟩]
 have key:je P (do pure (Oq (<-Cp t (.string ⟨l.toArray⟩) lo hi none)))=some (.string ⟨((l.drop a).take (b-a)).toArray⟩):=by
  unfold Cp
  simp only[bind_assoc]
  rw[qc h]
  simp only
  unfold Instr.slice
  simp only[bind_assoc]
  rw[qc h]
  simp only[Option.isSome_none,sd,if_false,pure_bind,bind_assoc,I1]
  unfold Instr.sliceBounds
  rcases bd lo _ _ ha with ⟨rfl,rfl⟩|⟨_,i,rfl,i0,rfl⟩<;>rcases bd hi _ _ hb with ⟨rfl,rfl⟩|⟨_,j,rfl,j0,rfl⟩
  ·simp only[pure_bind,bind_assoc,DE];rfl
  ·simp only[nT _ j l.length _ j0 h2,pure_bind,bind_assoc,DE];rfl
  ·simp only[nT _ i l.length _ i0 h1,pure_bind,bind_assoc,DE];rfl
  ·simp only[nT _ j l.length _ j0 h2,nT _ i j.toNat _ i0 h1,pure_bind,bind_assoc,DE];rfl
 unfold yg
 rw[hs]
 simp only
 have:CX P t (.string ⟨l.toArray⟩) lo hi none=some (.string ⟨((l.drop a).take (b-a)).toArray⟩):=by
  unfold CX nY
  simp only[isStr,Ip]
  rw[key]
  rfl
 rw[this]
 rfl
end
section
variable {β:Type} {P:Program} {t:TypeId} {x y:Value} {k:Value->M β} {h:H} {n:Nat} {r:Out β}
theorem eP{o:Option Value}{v:Value}(e:o=some v)(hr:k v h n=some r):aS o k h n=some r:=by subst e;exact hr
theorem rB{op:BinOp}{f:IntKind->Int->Int->Value}(hb:∀j a b,dX P op t (.int j a) (.int j b)=some (f j a b))(hr:kR f x y k h n=some r):aS (dX P op t x y) k h n=some r:=by
 unfold kR at hr
 split at hr
 ·split at hr
  ·rename_i a p _ b q
   cases hk:qe a b with
   |false=>simp only[hk]at hr;cases hr
   |true=>
    obtain rfl:=Dj hk
    simp only[hk]at hr
    exact eP (hb _ _ _) hr
  ·cases hr
 ·cases hr
theorem I2{op:BinOp}{f:Nat->Nat->Nat}(hb:∀(j:IntKind) (a b:Nat),dX P op t (.int j (.ofNat a)) (.int j (.ofNat b))=some (.int j (j.wrap (.ofNat (f (j5 a (pw j)) (j5 b (pw j)))))))(hr:vn f x y k h n=some r):aS (dX P op t x y) k h n=some r:=by
 unfold vn at hr
 split at hr
 ·split at hr
  ·rename_i a p _ b q
   cases hk:qe a b with
   |false=>simp only[hk]at hr;cases hr
   |true=>
    obtain rfl:=Dj hk
    simp only[hk]at hr
    exact eP (hb _ _ _) (by rw[<-kO];exact hr)
  ·cases hr
 ·cases hr
theorem tf{j:IntKind}(a b:Nat):(gF j.bits (g9 a)).toNat=j5 a (pw j)∧(gF j.bits (g9 b)).toNat=j5 b (pw j):=by
 rw[ac2]
 exact⟨PM _ _,PM _ _⟩
end
noncomputable def I3 {β:Type} (op:BinOp) (x y:Value) (k:Value->M β):M β:=match op with
 | .add=>aC x y k
 | .sub=>bW x y k
 | .mul=>jO x y k
 | .quo=>mi x y k
 | .rem=>pd x y k
 | .eql=>bJ x y k
 | .neq=>dO x y k
 | .lss=>aH x y k
 | .leq=>jP x y k
 | .gtr=>ft x y k
 | .geq=>gH x y k
 | .and=>Ar x y k
 | .or=>Dx x y k
 | .xor=>PW x y k
 | .shl=>td x y k
 | .shr=>od x y k
 | .andNot=> .fail
noncomputable def I4 {β:Type} (d:Option TypeDesc) (op:BinOp) (x y:Value) (k:Value->M β):M β:=match d,op with
 |some (.pointer _),.eql=>fw x y k
 |some (.pointer _),.neq=>vo x y k
 |some (.slice _),.eql=>Au x y k
 |some (.slice _),.neq=>DB x y k
 |some (.func _ _ _),.eql=>IV x y k
 |some (.func _ _ _),.neq=>IW x y k
 |_,_=> .fail
def I5:Option TypeDesc->Bool
 |some .bool=>true
 |_=>false
noncomputable def P0 {β:Type} (op:BinOp) (x y:Value) (k:Value->M β):M β:=match op with
 | .eql=>IU x y k
 | .neq=>As x y k
 |_=> .fail
noncomputable def I6 {β:Type} (P:Program) (op:BinOp) (t:TypeId) (x y:Value) (k:Value->M β):M β:=match mV P t with
 |true=>I4 (P.underlying t) op x y k
 |false=>match I5 (P.underlying t)with
  |true=>P0 op x y k
  |false=>I3 op x y k
section
variable {β:Type} {P:Program} {t:TypeId} {x y:Value} {k:Value->M β} {h:H} {n:Nat} {r:Out β}
theorem P2(a b:List UInt8)(hn:mV P t=false):dX P .eql t (.string ⟨⟨a⟩⟩) (.string ⟨⟨b⟩⟩)=some (.bool (rj a b))∧dX P .neq t (.string ⟨⟨a⟩⟩) (.string ⟨⟨b⟩⟩)=some (.bool (!rj a b)):=by
 rw[Dg]
 exact⟨adq hn a b,adr hn a b⟩
theorem adv{op:BinOp}(hn:mV P t=false)(hr:I3 op x y k h n=some r):aS (dX P op t x y) k h n=some r:=by
 cases op<;>simp only[I3]at hr
 case add=>
  unfold aC at hr
  split at hr
  ·split at hr
   ·rename_i a _ b
    cases hl:bx (fS (kP a) (kP b)) 9223372036854775807 with
    |false=>simp only[hl]at hr;cases hr
    |true=>
     simp only[hl]at hr
     have:=fY hl
     rw[rk,rk]at this
     exact eP (ads (P:=P) hn _ _ this) (by rw[<-Iz];exact hr)
   ·cases hr
  ·exact rB (fun j a b=>by rw[ac7 hn,kO,PK]) hr
 case sub=>exact rB (fun j a b=>by rw[ac8 hn,kO,Dd]) hr
 case mul=>exact rB (fun j a b=>by rw[ac9 hn,kO,PL]) hr
 case quo=>
  unfold mi at hr
  split at hr
  ·split at hr
   ·rename_i a p _ b q
    cases hk:qe a b with
    |false=>simp only[hk]at hr;cases hr
    |true=>
     obtain rfl:=Dj hk
     cases hz:qd q 0 with
     |true=>simp only[hk,hz]at hr;cases hr
     |false=>
      simp only[hk,hz]at hr
      rw[sV]at hz
      exact eP (ac' hn _ _ (beq_eq_false_iff_ne.1 hz)) (by rw[<-kO];exact hr)
   ·cases hr
  ·cases hr
 case rem=>
  unfold pd at hr
  split at hr
  ·split at hr
   ·rename_i a p _ b q
    cases hk:qe a b with
    |false=>simp only[hk]at hr;cases hr
    |true=>
     obtain rfl:=Dj hk
     cases hz:qd q 0 with
     |true=>simp only[hk,hz]at hr;cases hr
     |false=>
      simp only[hk,hz]at hr
      rw[sV]at hz
      exact eP (ac_ hn _ _ (beq_eq_false_iff_ne.1 hz)) hr
   ·cases hr
  ·cases hr
 case and=>exact I2 (fun j a b=>by rw[adm hn,BitVec.toNat_and,(tf a b).1,(tf a b).2];rfl) hr
 case or=>exact I2 (fun j a b=>by rw[adn hn,BitVec.toNat_or,(tf a b).1,(tf a b).2];rfl) hr
 case xor=>exact I2 (fun j a b=>by rw[ado hn,BitVec.toNat_xor,(tf a b).1,(tf a b).2];rfl) hr
 case shl=>
  unfold td at hr
  split at hr
  ·rename_i a p
   split at hr
   ·rename_i j q
    exact eP (adj hn _ _ (aa q)) (by rw[<-kO];exact hr)
   ·cases hr
  ·cases hr
 case shr=>
  unfold od at hr
  split at hr
  ·rename_i a p
   split at hr
   ·rename_i j q
    refine eP (adk hn _ _ (aa q)) ?_
    have e2:(g9 p).fdiv (2^min (g9 q).toNat a.bits)=g9 (p/2^min q a.bits):=by
     show((p:Nat):Int).fdiv (2^min q a.bits)=((p/2^(min q a.bits):Nat):Int)
     have e2:(2:Int)^(min q a.bits)=((2^(min q a.bits):Nat):Int):=by simp
     rw[e2,Int.fdiv_eq_ediv_of_nonneg _ (aa _),<-Int.natCast_ediv]
    exact e2▸hr
   ·cases hr
  ·cases hr
 case andNot=>cases hr
 case eql=>
  unfold bJ at hr
  split at hr
  ·split at hr
   ·exact eP (P2 _ _ hn).1 hr
   ·cases hr
  ·exact rB (fun j a b=>by rw[adb hn,sV]) hr
 case neq=>
  unfold dO at hr
  split at hr
  ·split at hr
   ·exact eP (P2 _ _ hn).2 hr
   ·cases hr
  ·exact rB (fun j a b=>by rw[ade hn,sV];rfl) hr
 case lss=>exact rB (fun j a b=>by rw[adf hn,sW]) hr
 case leq=>exact rB (fun j a b=>by rw[adg hn,Df]) hr
 case gtr=>exact rB (fun j a b=>by rw[adh hn,sW]) hr
 case geq=>exact rB (fun j a b=>by rw[adi hn,Df]) hr
end
section
variable {β:Type} {P:Program} {t:TypeId} {x y a:Value} {k:Value->M β} {h:H} {n:Nat} {r:Out β}
theorem lB{m m':M Value}(e:m=m')(hr:eO m k h n=some r):((inside m').bind k) h n=some r:=by
 subst e
 rw[<-pc]
 exact hr
theorem adw{op:BinOp}(hn:mV P t=true)(hr:I4 (P.underlying t) op x y k h n=some r):aS (dX P op t x y) k h n=some r:=by
 have key:∀(b:Bool) (v:Value),nG (P.underlying t) x y=some b->((op= .eql∧v= .bool b)∨(op= .neq∧v= .bool (!b)))->k v h n=some r->aS (dX P op t x y) k h n=some r:=by
  intro b v e hv hk
  refine eP (v:=v) ?_ hk
  unfold dX Iu
  rw[hn,e]
  rcases hv with ⟨rfl,rfl⟩|⟨rfl,rfl⟩<;>rfl
 generalize hd:P.underlying t=d at hr key
 unfold I4 at hr
 split at hr
 ·unfold fw Dy at hr
  split at hr<;>first|(split at hr<;>first|exact key _ _ rfl (.inl ⟨rfl,rfl⟩) hr|cases hr)|cases hr
 ·unfold vo Dy at hr
  split at hr<;>first|(split at hr<;>first|exact key _ _ rfl (.inr ⟨rfl,rfl⟩) hr|cases hr)|cases hr
 ·unfold Au Dz at hr
  split at hr<;>first|(split at hr<;>first|exact key _ _ rfl (.inl ⟨rfl,rfl⟩) hr|cases hr)|cases hr
 ·unfold DB Dz at hr
  split at hr<;>first|(split at hr<;>first|exact key _ _ rfl (.inr ⟨rfl,rfl⟩) hr|cases hr)|cases hr
 ·unfold IV DA at hr
  split at hr<;>first|(split at hr<;>first|exact key _ _ rfl (.inl ⟨rfl,rfl⟩) hr|cases hr)|cases hr
 ·unfold IW DA at hr
  split at hr<;>first|(split at hr<;>first|exact key _ _ rfl (.inr ⟨rfl,rfl⟩) hr|cases hr)|cases hr
 ·cases hr
theorem adx{b c:Bool}(e:P.underlying t=some .bool):je P (do pure (.value (.bool (<-zL t (.bool b) (.bool c)))))=some (.bool (b==c)):=by
 unfold zL aaT aaU
 simp only[bind_assoc]
 rw[qc e]
 rfl
theorem ady{op:BinOp}(hr:I6 P op t x y k h n=some r):aS (dX P op t x y) k h n=some r:=by
 unfold I6 at hr
 cases hn:mV P t with
 |true=>simp only[hn]at hr;exact adw hn hr
 |false=>
  simp only[hn]at hr
  cases hb:I5 (P.underlying t)with
  |false=>simp only[hb]at hr;exact adv hn hr
  |true=>
   simp only[hb]at hr
   have e:P.underlying t=some .bool:=by
    revert hb
    generalize P.underlying t=d
    intro hb
    unfold I5 at hb
    split at hb
    ·rfl
    ·cases hb
   unfold P0 at hr
   split at hr
   ·unfold IU at hr
    split at hr
    ·split at hr
     ·rename_i b _ c
      refine eP (v:= .bool (b==c)) (iw hn rfl ?_ rfl) (by cases b<;>cases c<;>exact hr)
      unfold g8
      simp only[bind_assoc,pure_bind]
      exact adx e
     ·cases hr
    ·cases hr
   ·unfold As at hr
    split at hr
    ·split at hr
     ·rename_i b _ c
      refine eP (v:= .bool (!(b==c))) (iw hn rfl ?_ rfl) (by cases b<;>cases c<;>exact hr)
      unfold g8
      simp only[bind_assoc,pure_bind]
      unfold zL aaT aaU
      simp only[bind_assoc]
      rw[qc e]
      rfl
     ·cases hr
    ·cases hr
   ·cases hr
end
end Go.Proofs.YtdagfcflbphoiaaGreatDoor.Ev
