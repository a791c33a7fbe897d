import Derived.Test.YtdagfcflbphoiaaGreatDoorMaa
open Int renaming natCast_nonneg→aa, ofNat→gY, negSucc→ahw
open Nat renaming le_refl→ak, ble→bh, beq→bN, succ→fa, add→fR, le_of_ble_eq_true→gx, zero_add→gU, lt_succ_self→gX, mod→jE, div→jY, add_mul→kF, eq_of_beq_eq_true→kG, ble_eq_true_of_le→lF, lt_of_lt_of_le→mL, add_zero→mN, pred→ru, sub→Lk, mul→Ll, ne_of_beq_eq_false→W5, rec→W7, eq_zero_or_pos→ahh, pow→ahy
open List renaming getD_eq_getElem?_getD→aC, length_append→aM, getElem?_eq_getElem→aR, rec→AE, all_eq_true→K8, map_map→Ld, any_nil→W1, mapM_cons→ahg, extract_eq_take_drop→ahm
open Bool renaming and_eq_true→bZ, false_eq_true→qg, or_eq_true→vF, or_eq_false_iff→vH, and_false→E4, not_eq_true'→Lj, false_or→WM, or_false→W2
open BitVec renaming ofInt→di
open Go.Op renaming operands→dL, equal→xQ, maxDepth→WX, equalIn→WY, stringOp→Xa, intDiv→ahz, shift→ahA
open Option.some renaming injEq→dV
open Go.Sem renaming run_bind→eO, run_pure→nN, bind→xL
open Go.Result renaming andThen→fc
open Go.Region renaming wanted→fK
open Go renaming binOp→gW
open Go.Value renaming int→iy
open Go.Builtin renaming firstCells→jX, append_→xP, zeroCells→E2, copy_→E3, len_→Lg, lenOf→WV
open Go.Instr renaming fill→lB, index→Az, sliceAt→AA, sliceBound→La
open UInt8 renaming ofNat→nM
open Array renaming toList_map→qf, ext'→K9, mem_append→aht
open Go.RowKit.Below renaming refl→rp
open Go.Call renaming operands→xN
open Option renaming map_some→Au, mem_def→WZ
open Go.IntKind renaming bits→E5, wrap→W3, signed→W4
open Function renaming comp_def→Lb
open Go.Next renaming value→Lp
open Go.Question renaming cut→WQ, forced→ahl
open ByteArray renaming data_extract→WW, push→W8, empty→ai9, size→ai'
open List.cons renaming inj→W6
open Go.World renaming cell?→ag4
open Go.Deferred renaming ofValue→ai7
open Int.ofNat renaming inj→ai8
open Go.ByteArray renaming toList_eq→ai_
set_option linter.unusedVariables false
set_option linter.unusedSimpArgs false
namespace Go.Proofs.YtdagfcflbphoiaaGreatDoor.Ev
open Go Go.RowKit
section
variable {P:Program} {base:Nat} {m:Mp} {w:World} {h h1:H} {n n1:Nat} {r:Value} {L:List En}
theorem qy{x x':Value}{k:Nat}(hx:VR m x x')(hl:iQ x=some k)(w:World):(WV x').run P w= .ok k w:=by
 cases hx<;>simp[iQ]at hl<;>subst hl<;>rfl
theorem FP{sz k j0:Nat}{x x':Value}{vs:List Value}(hx:VR m x x')(hl:iQ x=some k)(h0:0<k)(wr:WR P m base h w.heap)(hr:kI sz j0 x h n=some ⟨vs,h1,n1,L⟩):
 h1=h∧n1=n∧∃cZ,aQ m vs cZ∧∀w2:World,w2.heap=w.heap->(jX sz j0 x').run P w2= .ok cZ.toArray w2:=by
 unfold kI at hr
 split at hr
 ·rename_i b off l c
  simp[iQ]at hl
  subst hl
  cases hx with
  |@fT _ _ _ _ cK o' d hd ho c1 c2 c3 c4=>
   obtain⟨rfl,rfl,hlen,cZ,fE,eJ⟩:=tC wr hd hr
   refine⟨rfl,rfl,cZ,fE,fun w2 kL=> ?_⟩
   have nh:cZ.length=j0*sz:=by rw[<-fE.length,hlen]
   have:=vX (P:=P) (w:=w2) (c:=d.dy) (o:=d.sh+off) (vs:=cZ) (fun j v hj=>by
    have:=eJ j v hj
    unfold ag4 at this⊢
    rw[kL];exact this)
   rw[nh]at this
   simp only[jX,ho (.inl h0)]
   exact this
 ·rename_i s
  simp[iQ]at hl
  subst hl
  cases hx
  obtain⟨rfl,rfl,rfl⟩:=bI hr
  refine⟨rfl,rfl,_,aQ.mj rfl (fun j v hj=>⟨v,hj, ?_⟩),fun w2 _=>by
   simp[jX]
   apply K9
   simp⟩
  have hm:=List.mem_of_getElem? hj
  simp only[WW,Array.map_extract,Array.toList_extract,ahm,List.drop_zero,qf]at hm
  have hm:=List.mem_of_mem_take hm
  simp at hm
  obtain⟨b,_,rfl⟩:=hm
  exact .int _ _
 ·cases hr
theorem Yp{c o:Nat}{e:TypeId}{lo hi:Nat}:∀(vs:List Value) (i:Nat) (w:World) (cs:Array Value),w.heap[c]? =some (.cells cs e (lo,hi))->(∀j,j<vs.length->o+i+j<cs.size∧¬(lo<=o+i+j∧o+i+j<hi))->(∀v∈vs,Ev.one v=true)->base<=c->
 ∃w' cs',(storeCells ⟨c,o,none⟩ vs i).run P w= .ok () w'∧w'.heap[c]? =some (.cells cs' e (lo,hi))∧cs'.size=cs.size∧(∀j,cs'[j]? =if o+i<=j∧j<o+i+vs.length then vs[j-(o+i)]? else cs[j]?)∧(∀b,b≠c->w'.heap[b]? =w.heap[b]?)∧Below base w w':=by
 intro vs
 induction vs with
 |nil=>intro i w cs hg _ _ _;exact⟨w,cs,rfl,hg,rfl,fun j=>by rw[if_neg (by simp)],fun _ _=>rfl,rp _ _⟩
 |cons v vs ih=>
  intro i w cs hg bW h1 hb
  obtain⟨bf,fF⟩:=bW 0 (by simp)
  have j5:(w.setCell ⟨c,o+i,none⟩ v).heap[c]? =some (.cells (cs.setIfInBounds (o+i) v) e (lo,hi)):=by
   simp only[World.setCell,Array.getElem?_modify,if_true,hg]
   simp
  obtain⟨w',cs',a1,a2,a3,a4,a5,a6⟩:=ih (i+1) (w.setCell ⟨c,o+i,none⟩ v) _ j5 (fun j hj=>by
   have:=bW (j+1) (by simpa using hj)
   rw[show o+(i+1)+j=o+i+(j+1) by omega]
   simpa using this) (fun u hu=>h1 u (by simp[hu])) hb
  refine⟨w',cs', ?_,a2,by rw[a3];simp,fun j=> ?_,fun b FQ=> ?_,((rp base w).setCell (p:=⟨c,o+i,none⟩) hb _).trans a6⟩
  ·unfold storeCells
   rw[m6]
   show(xL (store _ _) _).run P w=_
   unfold store
   simp only[xL]
   rw[LQ (by rw[tB w _ _ hg];simpa using bf) (by
    unfold World.frozen?
    simp only[hg,Bool.and_eq_false_iff,decide_eq_false_iff_not]
    omega) (h1 v (by simp))]
   exact a1
  ·rw[a4 j]
   simp only[List.length_cons]
   by_cases hj:o+(i+1)<=j∧j<o+(i+1)+vs.length
   ·rw[if_pos hj,if_pos (by omega)]
    rw[show j-(o+i)=(j-(o+(i+1)))+1 by omega]
    simp
   ·rw[if_neg hj]
    by_cases e2:j=o+i
    ·subst e2
     rw[if_pos (by omega)]
     simp at bf
     simp[bf]
    ·rw[if_neg (by omega),Array.getElem?_setIfInBounds_ne (by omega)]
  ·rw[a5 b FQ,Below.heap_setCell w _ _ _ FQ]
theorem FU {dc:Array TypeId} {t u ty e:TypeId} {i:TypeInfo} {x:Value} {k:Nat} {news:List Value} {b off l cap:Nat} {w':World} (jJ:dc[0]? =some t) (jr:dc[1]? =some u) (ht:P.underlying t=some (.slice e)) (hu:(∃e',P.underlying u=some (.slice e'))∨P.underlying u=some .string) (hi:P.info? e=some i)
 (hl:(WV x).run P w= .ok k w) (oc:l+k<=cap) (hx:(jX i.size k x).run P w= .ok news.toArray w) (cS:(storeCells ⟨b,off+l*i.size,none⟩ news).run P w= .ok () w'):
 (xP dc ty #[.slice (some ⟨b,off,none⟩) l cap,x]).run P w= .ok (.slice (some ⟨b,off,none⟩) (l+k) cap) w':=by
 rcases hu with ⟨e',hk⟩|hk<;>simp[xP,jJ,jr,run_underlying ht,run_underlying hk,sizeOf,typeInfo,hi,hl,oc,hx,m6,cS]
theorem FV {dc:Array TypeId} {t u ty e:TypeId} {i:TypeInfo} {z:Value} {x:Value} {k:Nat} {olds news:List Value} {bo:Option Addr} {l cap:Nat} (jJ:dc[0]? =some t) (jr:dc[1]? =some u) (ht:P.underlying t=some (.slice e)) (hu:(∃e',P.underlying u=some (.slice e'))∨P.underlying u=some .string) (hi:P.info? e=some i) (hz:i.zero=some z)
 (hl:(WV x).run P w= .ok k w) (oc:cap<l+k) (Yq:l+k<=1099511627776) (yg:i.bytes<=64) (hx:(jX i.size k x).run P w.drew= .ok news.toArray w.drew) (ho:(jX i.size l (.slice bo l cap)).run P w.drew= .ok olds.toArray w.drew):
 (xP dc ty #[.slice bo l cap,x]).run P w= .ok (.slice (some ⟨w.heap.size,0,none⟩) (l+k) (grownCap w (l+k) cap e))
   (w.drew.alloc (.cells ((olds++news).toArray++E2 z.cells (grownCap w (l+k) cap e-(l+k))) e)):=by
 have hn:¬(l+k<=cap):=by omega
 have Yr:¬(9223372036854775807<((l:Int)+(k:Int))):=by omega
 have Ms:=growslice_fits (need:=l+k) (old:=cap) (bytes:=i.bytes) oc (by
  have:=Nat.mul_le_mul Yq yg
  omega)
 have Ys:¬(281474976710656<Builtin.nextslicecap (l+k) cap*i.bytes):=by omega
 rcases hu with ⟨e',hk⟩|hk<;>
  (simp[xP,jJ,jr,run_underlying ht,run_underlying hk,sizeOf,typeInfo,zeroValue,hi,hz,hl,hn,Yr,Ys,ahl,hx,ho,newRow,grownCap]
   congr 2
   apply K9
   simp[List.append_assoc])
theorem size_zeroCells(z:Array Value)(k:Nat):(E2 z k).size=k*z.size:=by simp[E2]
theorem Yt(w:World)(need old:Nat)(e:TypeId):need<=grownCap w need old e:=by unfold grownCap WQ;exact Nat.le_add_right _ _
theorem FW {e:TypeId} {i:TypeInfo} {z:Value} {l k cap:Nat} {old new old' od:List Value} (x:WR P m base h w.heap) (hb:base<=w.heap.size) (hf:g9 m n n1) (hi:P.info? e=some i) (pt:z.cells.size=i.size) (ho:aQ m old old') (hn:aQ m new od) (iY:old.length=l*i.size) (wc:new.length=k*i.size)
 (hr:mT e l k old new h n=some ⟨r,h1,n1,L⟩):∃m',cF P m base n n1 w h1 m' (w.drew.alloc (.cells ((old'++od).toArray++E2 z.cells (grownCap w (l+k) cap e-(l+k))) e))∧
   VR m' r (.slice (some ⟨w.heap.size,0,none⟩) (l+k) (grownCap w (l+k) cap e)):=by
 unfold mT at hr
 obtain⟨id,h2,n2,L1,L2,e1,e2,_⟩:=bind_some hr
 obtain⟨rfl,rfl,rfl⟩:=bI e2
 have hc:=Yt w (l+k) cap e
 have rT:=ho.append hn
 have hlen:=rT.length
 obtain⟨rfl,rfl,m',dM,hp⟩:=tD (w:=w.drew) (P:=P) (m:=m) (base:=base) x e1 hf hb (cs':=(old'++od).toArray++E2 z.cells (grownCap w (l+k) cap e-(l+k))) (by simp at hlen⊢;omega) (fun j v hj=>by
  obtain⟨v',ct,nZ⟩:=rT.get j v hj
  refine⟨v', ?_,nZ⟩
  have:j<(old'++od).length:=by
   rcases Nat.lt_or_ge j (old'++od).length with q|q
   ·exact q
   ·rw[List.getElem?_eq_none q]at ct;cases ct
  rw[Array.getElem?_append_left (by simpa using this)]
  simpa using ct) (esz:=i.size) (by simp[size?,hi])
 refine⟨m',⟨hp.le,hp.out,hp.wr,(Below.drew (rp base w)).trans hp.below⟩,VR.fT dM (fun _=>rfl) (fun q=>by unfold ba at q;omega) (fun _=>⟨ak _,by omega⟩) hc ?_⟩
 simp only[Array.size_append,size_zeroCells,pt,List.size_toArray,<-hlen,aM,iY,wc]
 rw[<-kF,<-kF,gU]
 exact Nat.le_of_eq (by congr 1;omega)
theorem Yu {dc:Array TypeId} {t u ty:TypeId} {s s' x x':Value} (jJ:dc[0]? =some t) (jr:dc[1]? =some u) (hu:(∃e',P.underlying u=some (.slice e'))∨P.underlying u=some .string) (hs:VR m s s') (hx:VR m x x') (wr:WR P m base h w.heap) (hb:base<=w.heap.size) (hf:g9 m n n1)
 (hr:o6 P t s x h n=some ⟨r,h1,n1,L⟩):Sound P base m w h n (xP dc ty #[s',x']) r h1 n1:=by
 unfold o6 at hr
 cases ht:P.underlying t with
 |none=>rw[ht]at hr;cases hr
 |some dt=>
  rw[ht]at hr
  cases dt<;>try(cases hr;done)
  rename_i e
  simp only at hr
  cases hi:P.info? e with
  |none=>rw[hi]at hr;cases hr
  |some ie=>
   cases hz:fL P e with
   |none=>rw[hi,hz]at hr;cases hr
   |some z=>
    cases hl:iQ x with
    |none=>rw[hi,hz,hl]at hr;cases hr
    |some k=>
     rw[hi,hz,hl]at hr
     simp only at hr
     obtain⟨i2,gL,lK⟩:=A5 hz
     rw[hi]at gL;cases gL
     split at hr
     ·rename_i iW
      simp only[bZ,decide_eq_true_eq]at iW
      obtain⟨⟨pt,Mo⟩,yg⟩:=iW
      by_cases hk:k=0
      ·rw[if_pos hk]at hr
       subst hk
       cases hs<;>try(cases hr;done)
       case ml l cap fV=>
        obtain⟨rfl,rfl,rfl⟩:=bI hr
        refine⟨m,w,.slice none l cap, ?_,cF.refl wr,.ml _ _ fV⟩
        have yh:(jX ie.size 0 x').run P w= .ok #[] w:=by
         cases hx<;>simp[iQ]at hl<;>simp[jX,loadCells,loadCellsFrom]
        have:=qy (P:=P) hx hl w
        rcases hu with ⟨e',hk⟩|hk<;>simp[xP,jJ,jr,run_underlying ht,run_underlying hk,sizeOf,typeInfo,hi,this,fV.1,yh]
       case pe b off s a'=>
        obtain⟨rfl,rfl,rfl⟩:=bI hr
        refine⟨m,w,.slice (some a') 0 0, ?_,cF.refl wr,.pe _ _ _ _⟩
        have yh:(jX ie.size 0 x').run P w= .ok #[] w:=by
         cases hx<;>simp[iQ]at hl<;>simp[jX,loadCells,loadCellsFrom]
        have:=qy (P:=P) hx hl w
        rcases hu with ⟨e',hk⟩|hk<;>simp[xP,jJ,jr,run_underlying ht,run_underlying hk,sizeOf,typeInfo,hi,this,yh,storeCells]
       case fT b off l cap cK o' d hd ho c1 c2 c3 c4=>
        obtain⟨rfl,rfl,rfl⟩:=bI hr
        refine⟨m,w,_, ?_,cF.refl wr,.fT hd ho c1 c2 c3 c4⟩
        have yh:(jX ie.size 0 x').run P w= .ok ([]:List Value).toArray w:=by
         cases hx<;>simp[iQ]at hl<;>simp[jX,loadCells,loadCellsFrom]
        have:=FU (P:=P) (ty:=ty) jJ jr ht hu hi (qy (P:=P) hx hl w) (b:=d.dy) (off:=o') (l:=l) (cap:=cK) (by omega) yh (w':=w) rfl
        simpa using this
      ·rw[if_neg hk]at hr
       have Mu:0<k:=by omega
       cases hs<;>try(cases hr;done)
       case ml l cap fV=>
        cases l<;>try(cases hr;done)
        cases cap<;>try(cases hr;done)
        simp only at hr
        split at hr
        ·rename_i FX
         obtain⟨new,h2,n2,L1,L2,e1,e2,_⟩:=bind_some hr
         obtain⟨rfl,rfl,od,hn,rU⟩:=FP hx hl Mu wr e1
         split at e2
         ·rename_i hc
          simp only[bZ,decide_eq_true_eq]at hc
          obtain⟨m',hp,hv⟩:=FW (cap:=0) (old:=[]) (old':=[]) (l:=0) wr hb hf hi pt .nil hn (by simp) hc.1 e2
          refine⟨m',_,_, ?_,hp,hv⟩
          exact FV (P:=P) jJ jr ht hu hi lK (qy (P:=P) hx hl w) (by omega) (by omega) yg (rU _ rfl) (by simp[jX])
         ·cases e2
        ·cases hr
       case fT b off l cap cK o' d hd ho c1 c2 c3 c4=>
        simp only at hr
        split at hr
        ·rename_i FX
         obtain⟨e',h2,n2,L1,L2,e1,e2,_⟩:=bind_some hr
         obtain⟨rfl,rfl,d2,ng,ob,B0,Mv,Yv⟩:=LP wr e1
         rw[hd]at ng;cases ng
         split at e2
         ·rename_i he
          subst he
          have FY:ie.size=d.esz:=by simpa[size?,hi]using ob
          obtain⟨new,h3,n3,L3,L4,e3,e4,_⟩:=bind_some e2
          obtain⟨rfl,rfl,od,hn,rU⟩:=FP hx hl Mu wr e3
          split at e4
          ·rename_i hc
           simp only[bZ,decide_eq_true_eq]at hc
           obtain⟨wc,Yw⟩:=hc
           have Yx:od.length=k*ie.size:=by rw[<-hn.length];exact wc
           have Yy:∀v∈od,Ev.one v=true:=by
            intro v hv
            obtain⟨j,hj⟩:=List.mem_iff_getElem?.1 hv
            have eQ:j<new.length:=by
             rw[hn.length]
             exact(List.getElem?_eq_some_iff.1 hj).1
            obtain⟨v2,j7,jK⟩:=hn.get j new[j] (by simp[eQ])
            rw[hj]at j7;cases j7
            rw[jK.one]
            exact K8.1 Yw _ (List.getElem_mem eQ)
           unfold tt at e4
           by_cases fV:cap<ba
           ·rw[if_pos fV]at e4
            have vW:=c1 fV
            subst vW
            have qq:=ho (.inr fV)
            subst qq
            by_cases oc:l+k<=cK
            ·rw[if_pos oc]at e4
             obtain⟨uu,h5,n5,L5,L6,e5,e6,_⟩:=bind_some e4
             obtain⟨rfl,rfl,rfl⟩:=bI e6
             cases uu
             obtain⟨rfl,w',cS,x2,eL⟩:=Fp hd hn (i:=0) (d.sh+off+l*ie.size) (by omega) wr e5
             refine⟨m,w',_, ?_,⟨Le.refl _,fun _ _=>rfl,x2,eL⟩,.fT hd (fun _=>rfl) (fun _=>rfl) (fun q=>by omega) (by omega) c4⟩
             exact FU (P:=P) jJ jr ht hu hi (qy (P:=P) hx hl w) oc (rU w rfl) cS
            ·rw[if_neg oc]at e4
             obtain⟨old,h5,n5,L5,L6,e5,e6,_⟩:=bind_some e4
             obtain⟨rfl,rfl,iY,old',iG,Bb⟩:=tC wr hd e5
             obtain⟨m',hp,hv⟩:=FW (cap:=cK) wr hb hf hi pt iG hn iY wc e6
             refine⟨m',_,_, ?_,hp,hv⟩
             refine FV (P:=P) jJ jr ht hu hi lK (qy (P:=P) hx hl w) (by omega) FX yg (rU _ rfl) ?_
             have:=vX (P:=P) (w:=w.drew) (c:=d.dy) (o:=d.sh+off) (vs:=old') Bb
             rw[<-iG.length,iY]at this
             simpa[jX]using this
           ·rw[if_neg fV]at e4
            obtain⟨old,h5,n5,L5,L6,e5,e6,_⟩:=bind_some e4
            obtain⟨rfl,rfl,iY,old',iG,Bb⟩:=tC wr hd e5
            obtain⟨uu,h7,n7,L7,L8,e7,e8,_⟩:=bind_some e6
            unfold kill at e7
            split at e7
            ·split at e7
             ·rename_i pz _ B hB
              split at e7
              ·rename_i nX
               simp only[dV,Out.mk.injEq]at e7
               obtain⟨_,rfl,rfl,_⟩:=e7
               have xk:=wr.kill hB
               have Yz:∀(w2:World),w2.heap=w.heap->(jX ie.size l (.slice (some ⟨d.dy,o',none⟩) l cK)).run P w2= .ok old'.toArray w2:=by
                intro w2 kL
                have hq:∀j v,old'[j]? =some v->w2.cell? ⟨d.dy,o'+j,none⟩=some v:=by
                 intro j v hj
                 have eQ:j<old'.length:=(List.getElem?_eq_some_iff.1 hj).1
                 have oh:0<l:=by
                  rcases ahh l with q|q
                  ·rw[<-iG.length,iY,q]at eQ;simp at eQ
                  ·exact q
                 rw[ho (.inl oh)]
                 have:=Bb j v hj
                 unfold ag4 at this⊢
                 rw[kL];exact this
                have:=vX (P:=P) hq
                rw[<-iG.length,iY]at this
                simpa[jX]using this
               by_cases oc:l+k<=cK
               ·
                obtain⟨dB,cs,lo,gL,b1,b2,b3,b4,b5,b6,b7⟩:=wr.live b B hB
                rw[hd]at b1;cases b1
                obtain⟨m7,rL,fF⟩:=b6 nX
                have hmul:l*d.esz+k*d.esz<=cK*d.esz:=by rw[<-kF];exact Nat.mul_le_mul_right _ oc
                obtain⟨w',cs',s1,s2,s3,s4,s5,s6⟩:=Yp (P:=P) (base:=base) (o:=o'+l*ie.size) od 0 w cs b2 (fun j hj=>by
                 rw[Yx,FY]at hj
                 rw[FY]
                 exact⟨by omega,fF _ (by omega)⟩) Yy rL
                unfold mT at e8
                obtain⟨id,h9,n9,L9,L10,e9,YA,_⟩:=bind_some e8
                obtain⟨rfl,rfl,rfl⟩:=bI YA
                unfold cR at e9
                split at e9
                ·rename_i aiz
                 simp only[dV,Out.mk.injEq]at e9
                 obtain⟨rfl,rfl,rfl,_⟩:=e9
                 have YB:B.elem=e':=by rw[hB]at Mv;cases Mv;exact Yv
                 rw[m7,YB]at s2
                 have eE:m n5=none:=hf n5 (ak _) (by omega)
                 obtain⟨m',dM⟩:∃m':Mp,m'=fun q=>if q=n5 then some ⟨d.dy,o',d.tA,d.esz,e'⟩else m q:=⟨_,rfl⟩
                 have tP:m' n5=some ⟨d.dy,o',d.tA,d.esz,e'⟩:=by rw[dM];simp
                 have yi:∀q,q≠n5->m' q=m q:=fun q hq=>by rw[dM];simp[hq]
                 have hle:Le m m':=fun q dd hq=>by
                  by_cases e:q=n5
                  ·subst e;rw[eE]at hq;cases hq
                  ·rw[yi q e];exact hq
                 refine⟨m',w',.slice (some ⟨d.dy,o',none⟩) (l+k) cK, ?_,⟨hle,fun q hq=>yi q (by omega),⟨?_, ?_⟩,s6⟩,VR.fT (d:=⟨d.dy,o',d.tA,d.esz,e'⟩) tP (fun _=>rfl) (fun q=>by unfold ba at*;omega) (fun _=>⟨ak _,by omega⟩) oc c4⟩
                 ·exact FU (P:=P) jJ jr ht hu hi (qy (P:=P) hx hl w) oc (rU w rfl) s1
                 ·intro q B2 hq
                  rw[H.iT _ _]at hq
                  by_cases e:q=n5
                  ·subst e
                   rw[if_pos rfl]at hq
                   cases hq
                   refine⟨_,cs',lo,gL,tP,s2,by rw[s3,b3], ?_,ob,fun _=>⟨rfl,rL,fF⟩,fun j v hj=> ?_⟩
                   ·simp only[aM,iY,wc,FY];omega
                   ·obtain⟨v',ct,nZ⟩:=(iG.append hn).get j v hj
                    refine⟨v', ?_,nZ.mono hle⟩
                    show cs'[o'+j]? =_
                    rw[s4]
                    have FZ:old'.length=l*ie.size:=by rw[<-iG.length,iY]
                    by_cases eQ:j<old'.length
                    ·rw[if_neg (by rw[FZ]at eQ;omega)]
                     rw[List.getElem?_append_left eQ]at ct
                     have oh:0<l:=by
                      rcases ahh l with q|q
                      ·rw[FZ,q]at eQ;simp at eQ
                      ·exact q
                     have:=Bb j v' ct
                     rw[tB w _ _ b2]at this
                     rw[ho (.inl oh)]
                     exact this
                    ·have YC:j<(old'++od).length:=(List.getElem?_eq_some_iff.1 ct).1
                     rw[List.getElem?_append_right (by omega)]at ct
                     simp only[aM]at YC
                     rw[if_pos (by omega)]
                     rw[<-ct,FZ]
                     congr 1
                     omega
                  ·rw[if_neg e]at hq
                   obtain⟨d3,YD,YE,F1,g1,g2,g3,g4,g5,g6,g7⟩:=xk.live q B2 hq
                   have Mw:q≠b∧h5.get q=some B2:=by
                    rw[H.iT _ _]at hq
                    by_cases e3:q=b
                    ·rw[if_pos e3]at hq;cases hq
                    ·rw[if_neg e3]at hq;exact⟨e3,hq⟩
                   have cd:d3.dy≠d.dy:=fun e3=>Mw.1 (wr.inj q b B2 B d3 d Mw.2 hB (.inr nX) g1 hd e3)
                   refine⟨d3,YD,YE,F1,hle _ _ g1,by rw[s5 _ cd];exact g2,g3,g4,g5,g6,fun j v hj=> ?_⟩
                   obtain⟨v',ct,nZ⟩:=g7 j v hj
                   exact⟨v',ct,nZ.mono hle⟩
                 ·intro q q' B2 B3 d2 d3 hq yj qq gB yk yl
                  rw[H.iT _ _]at hq yj
                  have key:∀q B2 d2,q≠n5->(h5.set b none).get q=some B2->m' q=some d2->d2.dy≠d.dy:=by
                   intro q B2 d2 YF hq gB yl
                   rw[H.iT _ _]at hq
                   by_cases e3:q=b
                   ·rw[if_pos e3]at hq;cases hq
                   ·rw[if_neg e3]at hq
                    rw[yi q YF]at gB
                    exact e3 (wr.inj q b B2 B d2 d hq hB (.inr nX) gB hd yl)
                  by_cases e1:q=n5
                  ·by_cases e2:q'=n5
                   ·rw[e1,e2]
                   ·rw[if_neg e2]at yj
                    subst e1
                    rw[tP]at gB;cases gB
                    exact absurd yl.symm (key q' B3 d3 e2 yj yk)
                  ·rw[if_neg e1]at hq
                   by_cases e2:q'=n5
                   ·subst e2
                    rw[tP]at yk;cases yk
                    exact absurd yl (key q B2 d2 e1 hq gB)
                   ·rw[if_neg e2]at yj
                    rw[yi q e1]at gB
                    rw[yi q' e2]at yk
                    exact xk.inj q q' B2 B3 d2 d3 hq yj qq gB yk yl
                ·cases e9
               ·
                obtain⟨m',hp,hv⟩:=FW (cap:=cK) xk hb hf hi pt iG hn iY wc e8
                refine⟨m',_,_, ?_,hp,hv⟩
                exact FV (P:=P) jJ jr ht hu hi lK (qy (P:=P) hx hl w) (by omega) FX yg (rU _ rfl) (Yz _ rfl)
              ·cases e7
             ·cases e7
            ·cases e7
          ·cases e4
         ·cases e2
        ·cases hr
     ·cases hr
theorem YG{dc:Array TypeId}{t ty:TypeId}{d d' s s':Value}(jJ:dc[0]? =some t)(hd:VR m d d')(hs:VR m s s')(wr:WR P m base h w.heap)(hr:o7 P t d s h n=some ⟨r,h1,n1,L⟩):
 Sound P base m w h n (E3 dc ty #[d',s']) r h1 n1:=by
 unfold o7 at hr
 cases lM:P.underlying t with
 |none=>rw[lM]at hr;cases hr
 |some du=>
  rw[lM]at hr
  cases du<;>try(cases hr;done)
  rename_i e
  simp only at hr
  cases fN:size? P e with
  |none=>rw[fN]at hr;cases hr
  |some sz=>
   cases fO:iQ s with
   |none=>rw[fN,fO]at hr;cases hd<;>cases hr
   |some sl=>
    rw[fN,fO]at hr
    have hlen:=qy (P:=P) hs fO w
    have zero:∀dl,¬0<Nat.min sl dl->Nat.min sl dl=0∧(jX sz (Nat.min sl dl) s').run P w= .ok #[] w:=by
     intro dl h0
     have qz:Nat.min sl dl=0:=by omega
     refine⟨qz, ?_⟩
     rw[qz]
     cases hs<;>simp[iQ]at fO<;>simp[jX,loadCells,loadCellsFrom]
    cases hd with
    |ml dl cap hc=>
     simp only at hr
     by_cases h0:0<Nat.min sl dl
     ·rw[if_pos h0]at hr;cases hr
     ·rw[if_neg h0]at hr
      obtain⟨rfl,rfl,rfl⟩:=bI hr
      obtain⟨z1,z2⟩:=zero dl h0
      refine⟨m,w,_, ?_,cF.refl wr,.int _ _⟩
      rw[z1]at z2
      simp[E3,jJ,run_underlying lM,run_sizeOf fN,hlen,z1,z2,goInt]
    |pe b off sp a'=>
     simp only at hr
     by_cases h0:0<Nat.min sl 0
     ·rw[if_pos h0]at hr;cases hr
     ·rw[if_neg h0]at hr
      obtain⟨rfl,rfl,rfl⟩:=bI hr
      obtain⟨z1,z2⟩:=zero 0 h0
      refine⟨m,w,_, ?_,cF.refl wr,.int _ _⟩
      rw[z1]at z2
      simp[E3,jJ,run_underlying lM,run_sizeOf fN,hlen,z1,z2,goInt,storeCells]
    |@fT b off dl cap cK o' dd Bc ho c1 c2 c3 c4=>
     simp only at hr
     by_cases h0:0<Nat.min sl dl
     ·rw[if_pos h0]at hr
      obtain⟨vs,h2,n2,L1,L2,e1,e2,_⟩:=bind_some hr
      have YH:0<sl:=mL h0 (Nat.min_le_left _ _)
      have YI:0<dl:=mL h0 (Nat.min_le_right _ _)
      obtain⟨rfl,rfl,cZ,fE,rU⟩:=FP hs fO YH wr e1
      obtain⟨u,h3,n3,L3,L4,e3,e4,_⟩:=bind_some e2
      obtain⟨rfl,rfl,rfl⟩:=bI e4
      cases u
      obtain⟨rfl,w',cS,x2,eL⟩:=Fp Bc fE (i:=0) (dd.sh+off) (by omega) wr e3
      refine⟨m,w',_, ?_,⟨Le.refl _,fun _ _=>rfl,x2,eL⟩,.int _ _⟩
      have hf:=rU w rfl
      rw[<-ho (.inl YI)]at cS
      simp[E3,jJ,run_underlying lM,run_sizeOf fN,hlen,hf,cS,goInt]
     ·rw[if_neg h0]at hr
      obtain⟨rfl,rfl,rfl⟩:=bI hr
      obtain⟨z1,z2⟩:=zero dl h0
      refine⟨m,w,_, ?_,cF.refl wr,.int _ _⟩
      rw[z1]at z2
      simp[E3,jJ,run_underlying lM,run_sizeOf fN,hlen,z1,z2,goInt,storeCells]
    |_=>cases hr
end
theorem aQ.maps{m:Mp}{ρ ρ':Operand->Value}:∀(l:List Operand),(∀y∈l,VR m (ρ y) (ρ' y))->aQ m (l.map ρ) (l.map ρ')
 |[],_=> .nil
 |x::l,h=> .cons (h x (by simp)) (aQ.maps l fun y hy=>h y (by simp[hy]))
theorem Bd{P:Program}{w:World}{s:Sem Value}{v:Value}{w':World}(h:s.run P w= .ok v w'):((do pure (.value (<-s)):Sem Next)).run P w= .ok (.value v) w':=by
 simp only[eO,h,fc,nN]
section
variable {P:Program} {base:Nat}
def Goal(P:Program)(base:Nat)(m:Mp)(w:World)(n n1:Nat)(h1:H)(r:Nx)(s:Sem Next):Prop:=∃m' w' R,s.run P w= .ok R w'∧cF P m base n n1 w h1 m' w'∧NR m' r R
theorem Goal.of{m:Mp}{w:World}{h h1:H}{n n1:Nat}{v:Value}{s:Sem Value}(x:Sound P base m w h n s v h1 n1):Goal P base m w n n1 h1 (.val v) (do pure (.value (<-s))):=by
 obtain⟨m',w',v',hr,hp,hv⟩:=x
 exact⟨m',w',.value v',Bd hr,hp,.val hv⟩
theorem jt{m:M Value}{h h2:H}{n n2:Nat}{r:Nx}{L:List En}(hr:(m.bind fun v=>M.ret (Nx.val v)) h n=some ⟨r,h2,n2,L⟩):∃v L',r= .val v∧m h n=some ⟨v,h2,n2,L'⟩:=by
 obtain⟨v,h1,n1,L1,L2,e1,e2,_⟩:=bind_some hr
 obtain⟨rfl,rfl,rfl⟩:=bI e2
 exact⟨v,L1,rfl,e1⟩
theorem YJ{ρ ρ':Operand->Value}{o:Oper}{m:Mp}{w:World}{h h1:H}{n n1:Nat}{r:Nx}{L:List En}(hs:∀cs b,o.op≠ .select cs b)(cX:∀y∈o.op.operands,VR m (ρ y) (ρ' y))(x:WR P m base h w.heap)(hr:fS P ρ o h n=some ⟨r,h1,n1,L⟩):
 Goal P base m w n n1 h1 r (execOp ρ' o):=by
 unfold fS at hr
 split at hr
 ·rename_i gM
  obtain⟨v,h2,n2,L1,L2,e1,e2,_⟩:=bind_some hr
  obtain⟨hp,rfl,rfl⟩:=pd e1
  split at e2
  ·rename_i F2
   obtain⟨rfl,rfl,rfl⟩:=bI e2
   have:execOp ρ' o=execOp ρ o:=execOp_congr o hs fun y hy=>(cX y hy).scalar ((Array.all_eq_true_iff_forall_mem.1 gM) y hy)
   rw[this]
   exact⟨m,w,.value v,XX _ _ hp w,cF.refl x,.val (VR.self F2)⟩
  ·cases e2
 ·cases hr
theorem ni{m:Mp}{w:World}{h:H}{n:Nat}{v v':Value}{s:Sem Value}(x:WR P m base h w.heap)(hr:s.run P w= .ok v' w)(hv:VR m v v'):Goal P base m w n n h (.val v) (do pure (.value (<-s))):=
 ⟨m,w,.value v',Bd hr,cF.refl x,.val hv⟩
theorem F3{m:Mp}{ρ ρ':Operand->Value}{o:Option Operand}(h:∀y∈o,VR m (ρ y) (ρ' y)):rR m (o.map ρ) (o.map ρ'):=by
 cases o with
 |none=>trivial
 |some y=>exact h y rfl
theorem YK{m:Mp}{t:TypeId}{v v' u u':Value}{b:Bool}(hv:VR m v v')(hu:VR m u u')(h:mU (P.underlying t) v u=some b)(w:World):
 (xQ t v' u').run P w= .ok b w∧(∀op x y,(eqGuard op t x y v' u').run P w= .ok () w)∧(∀op:BinOp,op= .eql∨op= .neq->binOp op t v' u'=(if op= .eql then do pure (.bool (<-xQ t v' u'))else do pure (.bool (!(<-xQ t v' u'))))):=by
 cases hd:P.underlying t with
 |none=>rw[hd]at h;simp[mU]at h
 |some d=>
  rw[hd]at h
  have YL:WX=9999+1:=rfl
  unfold xQ
  rw[YL]
  cases d<;>try(simp[mU]at h;done)
  all_goals (cases hv<;>try(simp[mU]at h;done))
  all_goals (cases hu<;>try(simp[mU]at h;done))
  all_goals (
   simp[mU]at h
   subst h
   refine⟨?_,fun op x y=> ?_,fun op bD=> ?_⟩
   ·rw[WY]
    simp only[eO,run_underlying hd,fc]
    rfl
   ·unfold eqGuard
    split<;>rfl
   ·rcases bD with rfl|rfl<;>rfl)
theorem YM{a b:Option TypeDesc}{e:TypeId}(h:rD a b=some e):a=some (.slice e)∧b=some .string:=by
 unfold rD at h
 split at h
 ·cases h;exact⟨rfl,rfl⟩
 ·cases h
theorem YN{a b:Option TypeDesc}{v:Value}{e:TypeId}{s:ByteArray}(h:tu a b v=some (e,s)):a=some .string∧b=some (.slice e)∧v= .string s:=by
 unfold tu at h
 split at h
 ·cases h;exact⟨rfl,rfl,rfl⟩
 ·cases h
theorem Mx{e:TypeId}(h:mY P e=true):P.underlying e=some (.int .u8):=by
 unfold mY at h
 split at h
 ·assumption
 ·cases h
theorem YO{dc:Array TypeId}{args:List Value}{t:TypeId}{d y:Value}(h:vR dc args=some (t,d,y)):dc[0]? =some t∧args=[d,y]:=by
 unfold vR at h
 split at h
 ·rename_i t' d' y' h0
  cases h
  exact⟨h0,rfl⟩
 ·cases h
theorem YP{dc:Array TypeId}{args:List Value}{t:TypeId}{s y:Value}(h:vQ P dc args=some (t,s,y)):∃u,dc[0]? =some t∧dc[1]? =some u∧args=[s,y]∧((∃e',P.underlying u=some (.slice e'))∨P.underlying u=some .string):=by
 unfold vQ at h
 split at h
 ·rename_i t' u s' y' h0 h1
  split at h
  ·rename_i hk
   cases h
   refine⟨u,h0,h1,rfl, ?_⟩
   unfold LF at hk
   split at hk
   ·rename_i e hh;exact .inl ⟨e,hh⟩
   ·rename_i hh;exact .inr hh
   ·cases hk
  ·cases h
 ·cases h
theorem YQ{dc:Array TypeId}{args:List Value}{k:Nat}(h:tw P dc args=some k):∃t e a cp rest,dc[0]? =some t∧P.underlying t=some (.slice e)∧args= .slice a k cp::rest:=by
 unfold tw at h
 split at h
 ·rename_i t a n cp rest h0
  split at h
  ·rename_i e hh
   cases h
   exact⟨t,e,a,cp,rest,h0,hh,rfl⟩
  ·cases h
 ·cases h
theorem YR(nj:rH P=true):tE P base:=by
 intro ρ ρ' o h n r h1 n1 L m w hr cX x hb hf
 show Goal P base m w n n1 h1 r (execOp ρ' o)
 have plain:(∀cs b,o.op≠ .select cs b)->fS P ρ o h n=some ⟨r,h1,n1,L⟩->Goal P base m w n n1 h1 r (execOp ρ' o):=fun hs hr=>YJ hs cX x hr
 unfold bU at hr
 cases bD:o.op with
 |move y=>
  rw[bD]at hr cX
  unfold execOp
  rw[bD]
  obtain⟨rfl,rfl,rfl⟩:=bI hr
  exact⟨m,w,.value (ρ' y),rfl,cF.refl x,.val (cX y (by simp[dL]))⟩
 |assign y=>
  rw[bD]at hr cX
  unfold execOp
  rw[bD]
  obtain⟨rfl,rfl,rfl⟩:=bI hr
  exact⟨m,w,.value (ρ' y),rfl,cF.refl x,.val (cX y (by simp[dL]))⟩
 |pick c a b=>
  rw[bD]at hr cX
  unfold execOp
  rw[bD]
  simp only at hr
  dsimp only
  have hc:=cX c (by simp[dL])
  have ha:=cX a (by simp[dL])
  have bM:=cX b (by simp[dL])
  generalize ρ c=vc at hr hc
  generalize ρ' c=vc' at hc⊢
  cases hc<;>try(cases hr;done)
  rename_i t
  obtain⟨rfl,rfl,rfl⟩:=bI hr
  refine⟨m,w,.value (if t then ρ' a else ρ' b),by cases t<;>rfl,cF.refl x,.val ?_⟩
  cases t
  ·exact bM
  ·exact ha
 |alloc e=>
  rw[bD]at hr cX
  unfold execOp
  rw[bD]
  obtain⟨v,L',rfl,e1⟩:=jt hr
  exact Goal.of (X0 x hb hf e1)
 |box e y=>
  rw[bD]at hr cX
  unfold execOp
  rw[bD]
  obtain⟨v,L',rfl,e1⟩:=jt hr
  exact Goal.of (X3 (cX y (by simp[dL])) x hb hf e1)
 |build t ps=>
  rw[bD]at hr cX
  unfold execOp
  rw[bD]
  obtain⟨v,L',rfl,e1⟩:=jt hr
  have rQ:(ps.toList.map fun(i,x)=>(i,ρ x)).map (·.1)=(ps.toList.map fun(i,x)=>(i,ρ' x)).map (·.1):=by simp[Lb]
  have tJ:aQ m ((ps.toList.map fun(i,x)=>(i,ρ x)).map (·.2)) ((ps.toList.map fun(i,x)=>(i,ρ' x)).map (·.2)):=by
   have:=aQ.maps (m:=m) (ρ:=ρ) (ρ':=ρ') (ps.toList.map (·.2)) fun y hy=>cX y (by simp only[dL];simpa using hy)
   simpa[Ld,Lb]using this
  have rV:(ps.map fun(i,x)=>(i,ρ' x))=(ps.toList.map fun(i,x)=>(i,ρ' x)).toArray:=by
   apply K9
   simp
  dsimp only
  rw[rV]
  exact Goal.of (X6 rQ tJ x e1)
 |buildSlice t len ps=>
  rw[bD]at hr cX
  unfold execOp
  rw[bD]
  obtain⟨v,L',rfl,e1⟩:=jt hr
  have rQ:(ps.toList.map fun(i,x)=>(i,ρ x)).map (·.1)=(ps.toList.map fun(i,x)=>(i,ρ' x)).map (·.1):=by simp[Lb]
  have tJ:aQ m ((ps.toList.map fun(i,x)=>(i,ρ x)).map (·.2)) ((ps.toList.map fun(i,x)=>(i,ρ' x)).map (·.2)):=by
   have:=aQ.maps (m:=m) (ρ:=ρ) (ρ':=ρ') (ps.toList.map (·.2)) fun y hy=>cX y (by simp only[dL];simpa using hy)
   simpa[Ld,Lb]using this
  have rV:(ps.map fun(i,x)=>(i,ρ' x))=(ps.toList.map fun(i,x)=>(i,ρ' x)).toArray:=by
   apply K9
   simp
  dsimp only
  rw[rV]
  exact Goal.of (X9 rQ tJ x hb hf e1)
 |load t a=>
  rw[bD]at hr cX
  unfold execOp
  rw[bD]
  obtain⟨v,L',rfl,e1⟩:=jt hr
  exact Goal.of (X' (cX a (by simp[dL])) x e1)
 |store t a y=>
  rw[bD]at hr cX
  unfold execOp
  rw[bD]
  obtain⟨v,L',rfl,e1⟩:=jt hr
  obtain⟨rfl,w',cS,hp⟩:=Ya (cX a (by simp[dL])) (cX y (by simp[dL])) x e1
  refine⟨m,w',.skip, ?_,hp,.skip⟩
  simp only[eO,cS,fc,nN]
 |nilCheck y=>
  rw[bD]at hr cX
  unfold execOp
  rw[bD]
  obtain⟨v,L',rfl,e1⟩:=jt hr
  obtain⟨rfl,rfl,hv,YS⟩:=Yb (cX y (by simp[dL])) x e1
  dsimp only
  rcases YS with ⟨a,ha⟩|⟨f,a,b,ha⟩<;>rw[ha]at hv⊢<;>exact⟨m,w,_,rfl,cF.refl x,.val hv⟩
 |binOp op t y z yt=>
  rw[bD]at hr
  simp only at hr
  have ic:=cX
  rw[bD]at ic
  have hy:=ic y (by simp[dL])
  have hz:=ic z (by simp[dL])
  cases hq:mU (P.underlying t) (ρ y) (ρ z)with
  |none=>
   rw[hq]at hr
   exact plain (fun cs b hh=>by rw[bD]at hh;cases hh) hr
  |some b=>
   rw[hq]at hr
   unfold execOp
   rw[bD]
   obtain⟨q1,q2,q3⟩:=YK hy hz hq w
   cases op<;>try(cases hr;done)
   case eql=>
    obtain⟨rfl,rfl,rfl⟩:=bI hr
    refine ni x ?_ (.bool b)
    rw[eO,q2]
    simp only[fc]
    rw[q3 .eql (.inl rfl),if_pos rfl,eO,q1]
    rfl
   case neq=>
    obtain⟨rfl,rfl,rfl⟩:=bI hr
    refine ni x ?_ (.bool !b)
    rw[eO,q2]
    simp only[fc]
    rw[q3 .neq (.inr rfl),if_neg (by decide),eO,q1]
    rfl
 |unOp op t y=>
  rw[bD]at hr
  exact plain (fun cs b hh=>by rw[bD]at hh;cases hh) hr
 |convert src dst y=>
  rw[bD]at hr
  simp only at hr
  have ic:=cX
  rw[bD]at ic
  have hy:=ic y (by simp[dL])
  have om:∀cs b,o.op≠ .select cs b:=fun cs b hh=>by rw[bD]at hh;cases hh
  cases fy:rD (P.underlying src) (P.underlying dst)with
  |some e=>
   rw[fy]at hr
   obtain⟨hs,hd⟩:=YM fy
   simp only at hr
   split at hr
   ·rename_i ym
    obtain⟨v,L',rfl,e1⟩:=jt hr
    obtain⟨a,l,c,fO,My⟩:=Yd hy x e1
    unfold execOp
    rw[bD]
    simp only[fO]at My⊢
    obtain⟨m',w',v',iD,hp,hv⟩:=My
    exact⟨m',w',.value v',Bd (by rw[run_convert_bytes_string w src dst e a l c hs (Mx ym) hd];exact iD),hp,.val hv⟩
   ·cases hr
  |none=>
   rw[fy]at hr
   simp only at hr
   cases F4:tu (P.underlying src) (P.underlying dst) (ρ y)with
   |none=>rw[F4]at hr;exact plain om hr
   |some es=>
    obtain⟨e,s⟩:=es
    rw[F4]at hr
    simp only at hr
    obtain⟨hs,hd,YT⟩:=YN F4
    split at hr
    ·rename_i ym
     simp only[bZ,beq_iff_eq]at ym
     obtain⟨v,L',rfl,e1⟩:=jt hr
     rw[YT]at hy
     have kP:ρ' y= .string s:=by generalize ρ' y=q at hy;cases hy;rfl
     obtain⟨m',w',v',iD,hp,hv⟩:=Ye ym.2 x hb hf e1
     unfold execOp
     rw[bD]
     simp only[kP]
     refine⟨m',w',.value v',Bd ?_,hp,.val hv⟩
     rw[<-iD]
     simp[convert,run_underlying hs,run_underlying hd,run_underlying (Mx ym.1)]
    ·cases hr
 |makeFunc fn a b=>
  rw[bD]at hr cX
  unfold execOp
  rw[bD]
  obtain⟨rfl,rfl,rfl⟩:=bI hr
  refine⟨m,w,.value (.func fn (a.map ρ') (b.map ρ')),rfl,cF.refl x,.val (.func fn ?_ ?_)⟩
  ·rw[qf,qf]
   exact aQ.maps _ fun y hy=>cX y (by simp only[dL,aht];exact .inl (by simpa using hy))
  ·rw[qf,qf]
   exact aQ.maps _ fun y hy=>cX y (by simp only[dL,aht];exact .inr (by simpa using hy))
 |makeSlice t l c=>
  rw[bD]at hr cX
  unfold execOp
  rw[bD]
  obtain⟨v,L',rfl,e1⟩:=jt hr
  exact Goal.of (Yi (cX l (by simp[dL])) (cX c (by simp[dL])) x hb hf e1)
 |slice t y lo hi mx=>
  rw[bD]at hr
  simp only at hr
  have ic:=cX
  rw[bD]at ic
  have hy:=ic y (by simp[dL])
  by_cases tQ:isStr (ρ y)=true
  ·rw[if_pos tQ]at hr
   exact plain (fun cs b hh=>by rw[bD]at hh;cases hh) hr
  ·rw[if_neg tQ]at hr
   obtain⟨v,L',rfl,e1⟩:=jt hr
   unfold execOp
   rw[bD]
   have j8:rR m (lo.map ρ) (lo.map ρ'):=F3 fun q hq=>ic q (by rw[WZ]at hq;subst hq;simp[dL])
   have Be:rR m (hi.map ρ) (hi.map ρ'):=F3 fun q hq=>ic q (by rw[WZ]at hq;subst hq;simp[dL])
   have rS:rR m (mx.map ρ) (mx.map ρ'):=F3 fun q hq=>ic q (by rw[WZ]at hq;subst hq;simp[dL])
   generalize ρ y=vy at e1 hy
   unfold nV at e1
   split at e1
   ·rename_i b off l c
    obtain⟨e',h2,n2,L1,L2,e2,e3,_⟩:=bind_some e1
    obtain⟨rfl,rfl,d2,ng,ob,_⟩:=LP x e2
    cases hu:P.underlying t with
    |none=>rw[hu]at e3;cases e3
    |some du=>
     rw[hu]at e3
     cases du<;>try(cases e3;done)
     rename_i e
     simp only at e3
     split at e3
     ·rename_i fN
      obtain⟨mo,rfl,rfl⟩:=pd e3
      obtain⟨u,qw,iX⟩:=Mr (fun b' lO l' c' YU ct qp=>by
       cases ct
       rw[hu]at qp;cases qp
       exact⟨d2,ng,by rw[<-fN];exact ob⟩) hy j8 Be rS mo w
      exact ni x qw iX
     ·cases e3
   ·rename_i qv
    obtain⟨mo,rfl,rfl⟩:=pd e1
    obtain⟨u,qw,iX⟩:=Mr (fun b' lO l' c' YU ct qp=>absurd ct (qv b' lO l' c')) hy j8 Be rS mo w
    exact ni x qw iX
 |fieldAddr t y f=>
  rw[bD]at hr cX
  unfold execOp
  rw[bD]
  obtain⟨v,L',rfl,e1⟩:=jt hr
  obtain⟨mo,rfl,rfl⟩:=pd e1
  obtain⟨u,hu,iX⟩:=Yk (cX y (by simp[dL])) mo w
  exact ni x hu iX
 |field t y f=>
  rw[bD]at hr cX
  unfold execOp
  rw[bD]
  obtain⟨v,L',rfl,e1⟩:=jt hr
  obtain⟨mo,rfl,rfl⟩:=pd e1
  obtain⟨u,hu,iX⟩:=A8 (cX y (by simp[dL])) mo w
  exact ni x hu iX
 |indexAddr t y i=>
  rw[bD]at hr cX
  unfold execOp
  rw[bD]
  obtain⟨v,L',rfl,e1⟩:=jt hr
  obtain⟨mo,rfl,rfl⟩:=pd e1
  obtain⟨u,hu,iX⟩:=Yl (cX y (by simp[dL])) (cX i (by simp[dL])) mo w
  exact ni x hu iX
 |index t y i=>
  rw[bD]at hr
  simp only at hr
  have ic:=cX
  rw[bD]at ic
  split at hr
  ·exact plain (fun cs b hh=>by rw[bD]at hh;cases hh) hr
  ·unfold execOp
   rw[bD]
   obtain⟨v,L',rfl,e1⟩:=jt hr
   obtain⟨mo,rfl,rfl⟩:=pd e1
   obtain⟨u,hu,iX⟩:=Ym (ic y (by simp[dL])) (ic i (by simp[dL])) mo w
   exact ni x hu iX
 |extract y i=>
  rw[bD]at hr cX
  unfold execOp
  rw[bD]
  obtain⟨v,L',rfl,e1⟩:=jt hr
  obtain⟨mo,rfl,rfl⟩:=pd e1
  obtain⟨u,hu,iX⟩:=Yn (cX y (by simp[dL])) mo w
  exact ni x hu iX
 |call c=>
  rw[bD]at hr
  simp only at hr
  have ic:=cX
  rw[bD]at ic
  simp only[dL]at ic
  have ed:aQ m (c.args.map ρ).toList (c.args.map ρ').toList:=by
   rw[qf,qf]
   exact aQ.maps _ fun y hy=>ic y (by unfold xN;exact aht.2 (.inr (by simpa using hy)))
  have hex:execOp ρ' o=(do let d<-resolve ρ' c o.type;invoke d.target d.args):=by unfold execOp;rw[bD]
  unfold j2 at hr
  cases we:c.callee with
  |invoke a b=>rw[we]at hr;cases hr
  |value f=>
   rw[we]at hr
   simp only at hr
   have yn:=ic f (by unfold xN;rw[we];simp)
   cases tR:AR (ρ f)with
   |none=>rw[tR]at hr;cases hr
   |some YV=>
    obtain⟨g,first,cap⟩:=YV
    rw[tR]at hr
    simp only at hr
    obtain⟨Bf,cK,YW,YX,fV⟩:∃Bf cK,ρ' f= .func (.func g) Bf cK∧aQ m first.toList Bf.toList∧aQ m cap.toList cK.toList:=by
     generalize ρ f=p at tR yn
     generalize ρ' f=q at yn
     unfold AR at tR
     split at tR
     ·cases tR
      cases yn with
      |func fn h1 h2=>exact⟨_,_,rfl,h1,h2⟩
     ·cases tR
    split at hr
    ·rename_i rW
     obtain⟨rfl,rfl,rfl⟩:=bI hr
     rw[hex]
     unfold j1 at rW
     cases j9:P.funcs[g]? with
     |none=>rw[j9]at rW;cases rW
     |some fn=>
      rw[j9]at rW
      have rW:fn.body.isSome=true:=rW
      refine⟨m,w,.enter g (Bf++c.args.map ρ'++cK), ?_,cF.refl x,.call ?_⟩
      ·have YY:(fn.name== "runtime.NumGoroutine")=false:=by
        unfold rH at nj
        have:=(Array.all_eq_true_iff_forall_mem.1 nj) fn (Array.mem_of_getElem? j9)
        simpa using this
       have cW:fn.body.isNone=false:=by
        cases hq:fn.body with
        |none=>rw[hq]at rW;cases rW
        |some _=>rfl
       unfold resolve
       rw[we]
       simp only[YW,ai7,pure_bind,invoke]
       unfold callFunc
       simp only[eO]
       show fc (.ok P w) _=_
       simp only[fc,j9,YY,qg,if_false,cW]
       rfl
      ·simp only[Array.toList_append]
       exact(YX.append ed).append fV
    ·cases hr
  |builtin b=>
   rw[we]at hr
   have F5:execOp ρ' o=builtin b c.argTypes o.type (c.args.map fun| .const _=>true|_=>false) (c.args.map ρ'):=by
    rw[hex]
    unfold resolve
    rw[we]
    rfl
   cases b<;>simp only at hr<;>try(cases hr;done)
   case append=>
    cases F6:vQ P c.argTypes (c.args.map ρ).toList with
    |none=>rw[F6]at hr;cases hr
    |some YZ=>
     obtain⟨t,s,y⟩:=YZ
     rw[F6]at hr
     simp only at hr
     obtain⟨u,ht,hu,hl,hk⟩:=YP F6
     rw[hl]at ed
     rw[F5]
     obtain⟨s',y',F7,hs,hy⟩:∃s' y',c.args.map ρ'=#[s',y']∧VR m s s'∧VR m y y':=by
      generalize c.args.map ρ'=q at ed
      obtain⟨q⟩:=q
      simp only at ed
      cases ed with
      |cons h1 t1=>cases t1 with
       |cons h2 t2=>cases t2 with
        |nil=>exact⟨_,_,rfl,h1,h2⟩
     rw[F7]
     obtain⟨v,L',rfl,e1⟩:=jt hr
     exact Goal.of (Yu ht hu hk hs hy x hb hf e1)
   case copy=>
    cases tO:vR c.argTypes (c.args.map ρ).toList with
    |none=>rw[tO]at hr;cases hr
    |some Y0=>
     obtain⟨t,d,y⟩:=Y0
     rw[tO]at hr
     simp only at hr
     obtain⟨ht,hl⟩:=YO tO
     rw[hl]at ed
     rw[F5]
     obtain⟨d',y',F7,hd,hy⟩:∃d' y',c.args.map ρ'=#[d',y']∧VR m d d'∧VR m y y':=by
      generalize c.args.map ρ'=q at ed
      obtain⟨q⟩:=q
      simp only at ed
      cases ed with
      |cons h1 t1=>cases t1 with
       |cons h2 t2=>cases t2 with
        |nil=>exact⟨_,_,rfl,h1,h2⟩
     rw[F7]
     obtain⟨v,L',rfl,e1⟩:=jt hr
     exact Goal.of (YG ht hd hy x e1)
   case len=>
    cases fO:tw P c.argTypes (c.args.map ρ).toList with
    |none=>rw[fO]at hr;exact plain (fun cs b hh=>by rw[bD]at hh;cases hh) hr
    |some k=>
     rw[fO]at hr
     obtain⟨t,e,a,cp,rest,ht,lM,hl⟩:=YQ fO
     rw[hl]at ed
     obtain⟨rfl,rfl,rfl⟩:=bI hr
     rw[F5]
     generalize c.args.map ρ'=q at ed
     obtain⟨q⟩:=q
     simp only at ed
     cases ed with
     |cons h1 t1=>
      cases h1 with
      |ml _ _ hc=>
       refine ni x ?_ (.int _ _)
       unfold Lg
       simp[ht,run_underlying lM,goInt]
      |pe _ _ _ _=>
       refine ni x ?_ (.int _ _)
       unfold Lg
       simp[ht,run_underlying lM,goInt]
      |fT=>
       refine ni x ?_ (.int _ _)
       unfold Lg
       simp[ht,run_underlying lM,goInt]
   case min=>exact plain (fun cs b hh=>by rw[bD]at hh;cases hh) hr
   case max=>exact plain (fun cs b hh=>by rw[bD]at hh;cases hh) hr
 |_=>rw[bD]at hr;cases hr
end
theorem Y3{P:Program}{base:Nat}{m:Mp}{t:TypeId}{a a' r:Value}{h h1:H}{n n1:Nat}{L:List En}{w:World}(ha:VR m a a')(x:WR P m base h w.heap)(hr:iR P t a h n=some ⟨r,h1,n1,L⟩):
 ∃b off,a'= .pointer (some ⟨b,off,none⟩)∧h1=h∧n1=n∧∃v',VR m r v'∧((do loadVar t (<-asAddr a')):Sem Value).run P w= .ok v' w:=by
 unfold iR at hr
 split at hr
 ·rename_i b off
  obtain⟨d,hd,rfl⟩:=FM ha
  cases hg:jZ P t with
  |none=>rw[hg]at hr;cases hr
  |some g=>
   rw[hg]at hr
   cases g with
   |false=>
    simp only at hr
    obtain⟨rfl,rfl,d',v',kN,hc,hv⟩:=AX x hr
    rw[hd]at kN;cases kN
    refine⟨_,_,rfl,rfl,rfl,v',hv, ?_⟩
    simp only[asAddr,pure_bind,loadVar,eO,vZ hg w,fc,qg,if_false]
    show(Sem.load _ _ _).run P w=_
    simp[Sem.run,hc]
   |true=>
    cases hs:size? P t with
    |none=>rw[hs]at hr;cases hr
    |some k=>
     rw[hs]at hr
     simp only at hr
     obtain⟨vs,h2,n2,L1,L2,e1,e2,_⟩:=bind_some hr
     obtain⟨rfl,rfl,rfl⟩:=bI e2
     obtain⟨rfl,rfl,hl,cZ,fE,eJ⟩:=tC x hd e1
     refine⟨_,_,rfl,rfl,rfl,.agg cZ.toArray,.agg (by simpa using fE), ?_⟩
     have hlen:cZ.length=k:=by rw[<-fE.length,hl]
     have:=vX (P:=P) eJ
     rw[hlen]at this
     simp only[asAddr,pure_bind,loadVar,eO,vZ hg w,fc,if_true,run_sizeOf hs,this]
     rfl
 ·cases hr
theorem results_at{P:Program}{base:Nat}{m:Mp}{nt:Nat}{s:S}{a:Act}(hs:SR m nt s a):∀(l:List ResultVar) (h h1:H) (n n1:Nat) (L:List En) (vs:List Value) (w:World),WR P m base h w.heap->iS P s l h n=some ⟨vs,h1,n1,L⟩->∃cZ,aQ m vs cZ∧
 ((l.mapM fun| .tmp t=>pure (a.tmps.getD t undef)| .cell b t=>do loadVar t (<-asAddr (a.tmps.getD b undef)):Sem (List Value))).run P w= .ok cZ w:=by
 intro l
 induction l with
 |nil=>
  intro h h1 n n1 L vs w x hr
  obtain⟨rfl,rfl,rfl⟩:=bI hr
  exact⟨[],.nil,rfl⟩
 |cons r l ih=>
  intro h h1 n n1 L vs w x hr
  cases r with
  |cell b t=>
   unfold iS at hr
   obtain⟨v,h2,n2,L1,L2,e1,e2,_⟩:=bind_some hr
   obtain⟨us,h3,n3,L3,L4,e3,e4,_⟩:=bind_some e2
   obtain⟨rfl,rfl,rfl⟩:=bI e4
   obtain⟨b0,off,Y4,rfl,rfl,v',ct,iD⟩:=Y3 (hs.at_ b) x e1
   obtain⟨cZ,fE,Y5⟩:=ih _ _ _ _ _ _ w x e3
   refine⟨v'::cZ,.cons ct fE, ?_⟩
   rw[ahg]
   have h1:(asAddr (a.tmps.getD b undef)).run P w= .ok ⟨b0,off,none⟩ w:=by rw[Y4];rfl
   have h2:(loadVar t ⟨b0,off,none⟩).run P w= .ok v' w:=by
    rw[eO,h1]at iD
    exact iD
   simp only[bind_assoc,pure_bind,eO,h1,fc,h2,Y5,nN]
  |tmp t=>
   unfold iS at hr
   obtain⟨us,h2,n2,L1,L2,e1,e2,_⟩:=bind_some hr
   obtain⟨rfl,rfl,rfl⟩:=bI e2
   obtain⟨cZ,fE,iD⟩:=ih _ _ _ _ _ _ w x e1
   refine⟨a.tmps.getD t undef::cZ,.cons (hs.at_ t) fE, ?_⟩
   rw[ahg]
   simp only[pure_bind,eO,iD,fc,nN]
theorem Y6{P:Program}{t:TypeId}{v r:Value}{h h1:H}{n n1:Nat}{L:List En}(hr:iR P t v h n=some ⟨r,h1,n1,L⟩):h1=h∧n1=n:=by
 have Mz:∀{b k:Nat} {h h1:H} {n n1:Nat} {v:Value} {L:List En},rd b k h n=some ⟨v,h1,n1,L⟩->h1=h∧n1=n:=by
  intro b k h h1 n n1 v L hr
  unfold rd at hr
  split at hr
  ·split at hr
   ·split at hr
    ·simp only[dV,Out.mk.injEq]at hr
     exact⟨hr.2.1.symm,hr.2.2.1.symm⟩
    ·cases hr
   ·cases hr
  ·cases hr
 have Y7:∀{c b k:Nat} {h h1:H} {n n1:Nat} {v:List Value} {L:List En},db b k c h n=some ⟨v,h1,n1,L⟩->h1=h∧n1=n:=by
  intro c
  induction c with
  |zero=>
   intro b k h h1 n n1 v L hr
   obtain⟨_,rfl,rfl⟩:=bI hr
   exact⟨rfl,rfl⟩
  |succ c ih=>
   intro b k h h1 n n1 v L hr
   obtain⟨v0,h2,n2,L1,L2,e2,e3,_⟩:=bind_some (m:=rd b k) hr
   obtain⟨rfl,rfl⟩:=Mz e2
   obtain⟨ws,h4,n4,L3,L4,e4,e5,_⟩:=bind_some (m:=db b (k+1) c) e3
   obtain⟨rfl,rfl⟩:=ih e4
   obtain⟨_,rfl,rfl⟩:=bI e5
   exact⟨rfl,rfl⟩
 unfold iR at hr
 split at hr
 ·cases hg:jZ P t with
  |none=>rw[hg]at hr;cases hr
  |some g=>
   rw[hg]at hr
   cases g with
   |false=>exact Mz hr
   |true=>
    cases hs:size? P t with
    |none=>rw[hs]at hr;cases hr
    |some k=>
     rw[hs]at hr
     obtain⟨vs,h2,n2,L1,L2,e1,e2,_⟩:=bind_some hr
     obtain⟨_,rfl,rfl⟩:=bI e2
     exact Y7 e1
 ·cases hr
theorem Y8{P:Program}{s:S}:∀(l:List ResultVar) (h h1:H) (n n1:Nat) (L:List En) (vs:List Value),iS P s l h n=some ⟨vs,h1,n1,L⟩->h1=h∧n1=n:=by
 intro l
 induction l with
 |nil=>
  intro h h1 n n1 L vs hr
  obtain⟨_,rfl,rfl⟩:=bI hr
  exact⟨rfl,rfl⟩
 |cons r l ih=>
  intro h h1 n n1 L vs hr
  cases r with
  |cell b t=>
   unfold iS at hr
   obtain⟨v,h2,n2,L1,L2,e1,e2,_⟩:=bind_some hr
   obtain⟨us,h3,n3,L3,L4,e3,e4,_⟩:=bind_some e2
   obtain⟨_,rfl,rfl⟩:=bI e4
   obtain⟨rfl,rfl⟩:=Y6 e1
   exact ih _ _ _ _ _ _ e3
  |tmp t=>
   unfold iS at hr
   obtain⟨us,h2,n2,L1,L2,e1,e2,_⟩:=bind_some hr
   obtain⟨_,rfl,rfl⟩:=bI e2
   exact ih _ _ _ _ _ _ e1
theorem Y9{P:Program}{bad:List FuncId}(b9:qn P bad=true){f:FuncId}{fn:Func}{c:Code}(hb:bad.contains f=false)(hf:P.funcs[f]? =some fn)(hc:fn.body=some c):kJ P c=true:=by
 unfold qn at b9
 rw[K8]at b9
 have:=b9 (fn,f) (by
  rw[List.mem_iff_getElem?]
  exact⟨f,by simp[List.getElem?_zipIdx,hf]⟩)
 simp only[hb,hc,WM]at this
 exact this
def qA(w:World):Prop:=∀g∈KG,w.cell? ⟨g.1,g.2.1,none⟩=some g.2.2
theorem MA{P:Program}{m:Mp}{base:Nat}{h:H}{w:World}(x:WR P m base h w.heap)(g:Gl P m):∀{l:List (Nat×Nat×Value)} {n n1:Nat} {h1:H} {u:Unit} {L:List En},mi P l h n=some ⟨u,h1,n1,L⟩->h1=h∧n1=n∧∀q∈l,w.cell? ⟨q.1,q.2.1,none⟩=some q.2.2
 |[],n,n1,h1,u,L,hr=>by
  obtain⟨_,rfl,rfl⟩:=bI hr
  exact⟨rfl,rfl,fun q hq=>by simp at hq⟩
 |q::l,n,n1,h1,u,L,hr=>by
  unfold mi at hr
  obtain⟨v,h2,n2,L1,L2,e1,e2,_⟩:=bind_some hr
  obtain⟨rfl,rfl,d,v',hd,hc,hv⟩:=AX x e1
  by_cases hz:(decide (q.1<P.globals.size)&&vU v q.2.2)=true
  ·rw[if_pos hz]at e2
   simp only[bZ,decide_eq_true_eq]at hz
   obtain⟨d',kN,b1,b2⟩:=g q.1 hz.1
   rw[hd]at kN
   cases kN
   obtain⟨r1,r2,r3⟩:=MA x g e2
   refine⟨r1,r2,fun y hy=> ?_⟩
   rcases List.mem_cons.1 hy with e|e
   ·subst e
    rw[b1,b2,gU]at hc
    rw[hc]
    have lK:=hz.2
    cases hv<;>first|(simp[vU]at lK;done)|skip
    cases hq:y.2.2<;>rw[hq]at lK<;>first|(simp[vU]at lK;done)|skip
    simp[vU]at lK
    rw[lK.1,lK.2]
   ·exact r3 y e
  ·rw[if_neg hz]at e2;cases e2
def F8(P:Program):Prop:=∀f k,rJ f=some k->(k=1->∀(b o n c:Nat) (xs:List Int) (cv:Int) (w:World),xs.length=n->(∀i,i<n->w.cell? ⟨b,o+i,none⟩=some (.int .u8 (xs.getD i 0)))->
 Calls P f #[.slice (some ⟨b,o,none⟩) n c,.int .u8 cv] w fun e w'=>e= .returned (.int .i64 (Lib.indexByte (Lib.bytesOf xs) cv.toNat.toUInt8))∧Below w.heap.size w w')∧
 (k=2->∀(s:ByteArray) (c:Nat) (w:World),c<=1000000->s.size<=1000000->Calls P f #[.string s,.int .i64 c] w fun e w'=>e= .returned (.string ⟨(Lib.repeatL s.data.toList c).toArray⟩)∧Below w.heap.size w w')
structure tS (P:Program) (bad:List FuncId):Prop where
 yes:∀f,bad.contains f=true->rJ f=none->vT P f=true->∀w,qA w->Calls P f #[] w fun e w'=>e= .returned (.bool true)∧Below w.heap.size w w'
 nat:F8 P
theorem MB:∀{vs:List Value} {l:List Int},xV vs=some l->vs=l.map (iy .u8)
 |[],l,h=>by cases h;rfl
 |v::r,l,h=>by
  unfold xV at h
  split at h
  ·rename_i heq;cases heq
  ·rename_i x r' heq
   cases heq
   split at h
   ·rename_i l' hl
    cases h
    rw[MB hl];rfl
   ·cases h
  ·cases h
theorem MC{m:Mp}{k:IntKind}:∀{l:List Int} {vs:List Value},aQ m (l.map (iy k)) vs->vs=l.map (iy k)
 |[],_,.nil=>rfl
 |_::l,_,.cons (.int _ _) t=>by rw[MC t];rfl
theorem MD{a:Array Value}{l:List Value}(h:a.toList=l):a=l.toArray:=by rw[<-h]
theorem Y'{P:Program}{base:Nat}(hk:F8 P){f:FuncId}{k:Nat}(hf:rJ f=some k){args:List Value}{dY:Array Value}{h h1:H}{n n1:Nat}{v:Value}{L:List En}{m:Mp}{w:World}(hr:rK k args h n=some ⟨v,h1,n1,L⟩)(x:WR P m base h w.heap)(hb:base<=w.heap.size)(ed:aQ m args dY.toList):
 Calls P f dY w fun e w'=>∃m' v',e= .returned v'∧cF P m base n n1 w h1 m' w'∧VR m' v v':=by
 have fin:∀w',Below w.heap.size w w'->cF P m base n n w h m w':=fun w' lP=>by
  refine⟨Le.refl _,fun _ _=>rfl,⟨fun b B hB=> ?_,x.inj⟩,lP.mono hb⟩
  obtain⟨d,cs,lo,hi,h1,h2,h3⟩:=x.live b B hB
  exact⟨d,cs,lo,hi,h1,(lP.block d.dy (Array.getElem?_eq_some_iff.1 h2).1).trans h2,h3⟩
 unfold rK at hr
 split at hr
 ·unfold Fi at hr
  split at hr
  ·rename_i b off len cap c
   generalize hq:dY.toList=as at ed
   cases ed with
   |cons ha ed=>
   cases ed with
   |cons hc ed=>
   cases ed
   cases hc
   unfold Fg at hr
   obtain⟨vs,h2,n2,L1,L2,e1,e2,_⟩:=bind_some hr
   cases ha with
   |@fT _ _ _ _ cK o' d hd ho _ _ _ _=>
    obtain⟨rfl,rfl,hl,cZ,fE,eJ⟩:=tC x hd e1
    cases hu:xV vs with
    |none=>rw[hu]at e2;cases e2
    |some l=>
     rw[hu]at e2
     obtain⟨rfl,rfl,rfl⟩:=bI e2
     have Bg:=MB hu
     rw[Bg]at fE hl
     have ct:=MC fE
     rw[ct]at eJ
     simp only[List.length_map]at hl
     rw[MD hq]
     refine((hk f 1 hf).1 rfl d.dy o' len cK l c w hl fun i hi=> ?_).mono ?_
     ·rw[ho (.inl (by omega))]
      exact eJ i _ (by rw[List.getElem?_map,aR (by omega),aC,aR (by omega)];rfl)
     ·rintro e w' ⟨rfl,lP⟩
      exact⟨m,_,rfl,fin w' lP,.int _ _⟩
  ·cases hr
 ·unfold Fj at hr
  split at hr
  ·rename_i s c
   generalize hq:dY.toList=as at ed
   cases ed with
   |cons ha ed=>
   cases ed with
   |cons hc ed=>
   cases ed
   cases hc
   cases ha
   unfold Fh at hr
   split at hr
   ·rename_i hz
    simp only[bZ,decide_eq_true_eq]at hz
    obtain⟨rfl,rfl,rfl⟩:=bI hr
    rw[MD hq]
    obtain⟨c,rfl⟩:∃k:Nat,c=k:=⟨c.toNat,by omega⟩
    refine((hk f 2 hf).2 rfl s c w (by omega) hz.2).mono ?_
    rintro e w' ⟨rfl,lP⟩
    exact⟨m,_,rfl,fin w' lP,by rw[Int.toNat_natCast];exact .string _⟩
   ·cases hr
  ·cases hr
 ·cases hr
theorem ME{P:Program}{base:Nat}{bad:List FuncId}(nj:rH P=true)(b9:qn P bad=true)(mn:P.follows .mixedOrders=true)(jL:tS P bad):∀fuel,vY P base (cM P bad fuel):=by
 have bD:tE P base:=YR nj
 intro fuel
 induction fuel with
 |zero=>intro f args h n v h1 n1 L m w dY hr;cases hr
 |succ fuel ih=>
  intro f args h n v h1 n1 L m w dY hr x hb ed hf g
  unfold cM at hr
  by_cases ot:bad.contains f=true
  ·rw[if_pos ot]at hr
   cases qB:rJ f with
   |some k=>
    rw[qB]at hr
    exact Y' jL.nat qB hr x hb ed
   |none=>
   rw[qB]at hr
   simp only at hr
   by_cases hz:(decide (args.size=0)&&vT P f)=true
   ·rw[if_pos hz]at hr
    simp only[bZ,decide_eq_true_eq]at hz
    obtain⟨u,h2,n2,L1,L2,c1,c2,_⟩:=bind_some hr
    obtain⟨rfl,rfl,Za⟩:=MA x g c1
    obtain⟨rfl,rfl,rfl⟩:=bI c2
    have hl:=ed.length
    have e1:dY=#[]:=by
     apply Array.eq_empty_of_size_eq_zero
     simp at hl
     omega
    subst e1
    refine(jL.yes f ot qB hz.2 w Za).mono ?_
    rintro e w' ⟨rfl,lP⟩
    refine⟨m,_,rfl,⟨Le.refl _,fun _ _=>rfl,⟨fun b B hB=> ?_,x.inj⟩,lP.mono hb⟩,.bool true⟩
    obtain⟨d,cs,lo,hi,h1,h2,h3⟩:=x.live b B hB
    exact⟨d,cs,lo,hi,h1,(lP.block d.dy (Array.getElem?_eq_some_iff.1 h2).1).trans h2,h3⟩
   ·rw[if_neg hz]at hr;cases hr
  rw[if_neg ot]at hr
  cases j9:P.funcs[f]? with
  |none=>rw[j9]at hr;cases hr
  |some fn=>
   rw[j9]at hr
   simp only at hr
   cases hc:fn.body with
   |none=>rw[hc]at hr;cases hr
   |some c=>
    rw[hc]at hr
    simp only at hr
    by_cases iW:(args.size<=fn.ntmps&&fn.ntmps<1000)=true
    ·rw[if_pos iW]at hr
     simp only[bZ,decide_eq_true_eq]at iW
     obtain⟨L',hr⟩:=Ft hr
     obtain⟨y,h2,n2,L1,L2,e1,e2,_⟩:=bind_some hr
     obtain⟨e,s1⟩:=y
     have Zb:kJ P c=true:=Y9 b9 (Bool.eq_false_iff.2 ot) j9 hc
     have fH:=fun f a=>Loc.cM P bad fuel f a
     refine calls_of_wp j9 hc ?_
     have fin:∀(e':Ex) (hn:cv e'= .normal∨cv e'= .ret) (heq:e=e'),((iS P s1 fn.results.toList).bind fun vs=>M.ret (match vs with|[v]=>v|_=> .tuple vs.toArray)) h2 n2=some ⟨v,h1,n1,L2⟩->
      c.wp P (bodyPost P fn fun e w'=>∃m' v',e= .returned v'∧cF P m base n n1 w h1 m' w'∧VR m' v v') {tmps:=dY++Array.replicate (fn.ntmps-dY.size) undef,defers:=[]} w:=by
      intro e' hn heq e3
      subst heq
      obtain⟨vs,h3,n3,L3,L4,e4,e5,_⟩:=bind_some e3
      obtain⟨rfl,rfl,rfl⟩:=bI e5
      obtain⟨rfl,rfl⟩:=Y8 _ _ _ _ _ _ _ e4
      refine XV bD ih fH mn fuel c Zb _ m _ s1 _ w h _ n _ L1 e x hb g (XW ed iW.1 iW.2) e1 hf fun m' a' w' hp dz=> ?_
      obtain⟨cZ,fE,iD⟩:=results_at dz _ _ _ _ _ _ _ w' hp.wr e4
      have rX:(results fn a'.tmps).run P w'= .ok (if h:cZ.toArray.size=1 then cZ.toArray[0]else .tuple cZ.toArray) w':=by
       unfold results
       rw[Array.mapM_eq_mapM_toList]
       simp only[map_eq_pure_bind,bind_assoc,pure_bind,eO]
       refine Eq.trans (congrArg (fun r=>fc r _) iD) ?_
       simp only[fc,nN]
      have wg:VR m' (match vs with|[v]=>v|_=> .tuple vs.toArray) (if h:cZ.toArray.size=1 then cZ.toArray[0]else .tuple cZ.toArray):=by
       cases fE with
       |nil=>exact .tuple .nil
       |cons hv ht=>
        cases ht with
        |nil=>exact hv
        |cons j7 Bh=>exact .tuple (.cons hv (.cons j7 Bh))
      have:bodyPost P fn (fun e w'=>∃m' v',e= .returned v'∧cF P m base n n1 w h1 m' w'∧VR m' (match vs with|[v]=>v|_=> .tuple vs.toArray) v') (cv e) a' w':=by
       rcases hn with hn|hn<;>rw[hn]<;>exact⟨dz.df,_,rX,m',_,rfl,hp,wg⟩
      exact this
     cases e with
     |normal=>exact fin .normal (.inl rfl) rfl e2
     |ret=>exact fin .ret (.inr rfl) rfl e2
     |exit id=>cases e2
    ·rw[if_neg iW]at hr;cases hr
def Bi(r:Option (Out Value)):Bool:=match r with
 |some o=>(match o.val with| .bool b=>b|_=>false)
 |none=>false
end Go.Proofs.YtdagfcflbphoiaaGreatDoor.Ev
namespace Go.Proofs.YtdagfcflbphoiaaGreatDoor.Ev
open Go
abbrev Fr:=List (Nat×Value)
def Fr.at_:Fr->Nat->Option Value
 |[],_=>none
 |(u,v)::r,t=>match bN u t with
  |true=>some v
  |false=>Fr.at_ r t
def Fr.ax(s:Fr):List Nat->Fr
 |[]=>[]
 |t::r=>match s.at_ t with
  |some v=>(t,v)::Fr.ax s r
  |none=>Fr.ax s r
def Fr.keys:Fr->List Nat
 |[]=>[]
 |(u,_)::r=>u::Fr.keys r
def gC(s:Fr)(dst:Option Tmp)(v:Value):Fr:=match dst with
 |none=>s
 |some d=>(d,v)::s
def aG{α β:Type}(o:Option α)(k:α->M β):M β:=match o with
 |some v=>k v
 |none=> .fail
def aZ(s:Fr):Operand->Option Value
 | .tmp t=>s.at_ t
 | .const v=>some v
 | .global g=>some (.pointer (some ⟨g,0,none⟩))
 | .func f=>some (.func (.func f) #[] #[])
def kQ{β:Type}(s:Fr):List Operand->(List Value->M β)->M β
 |[],k=>k []
 |x::r,k=>aG (aZ s x) fun v=>kQ s r fun vs=>k (v::vs)
def qC{β:Type}(s:Fr)(x:Option Operand)(k:Option Value->M β):M β:=match x with
 |some x=>aG (aZ s x) fun v=>k (some v)
 |none=>k none
def an{β:Type}(v:Value)(x y:M β):M β:=match v with
 | .bool true=>x
 | .bool false=>y
 |_=> .fail
section
variable (P:Program)
def nk(ok:Bool)(s:Sem Value):Option Value:=
 match ok with
 |true=>match iP P (do pure (.value (<-s)))with
  |some v=>match scalar v with
   |true=>some v
   |false=>none
  |none=>none
 |false=>none
def MF(c a b:Value):Option Value:=match c with
 | .bool t=>some (if t then a else b)
 |_=>none
def MG:Value->Option Value
 | .pointer (some a)=>some (.pointer (some a))
 | .func (.func f) a b=>some (.func (.func f) a b)
 |_=>none
def mq(t:TypeId):Bool:=match P.underlying t with
 |some (.pointer _)|some (.slice _)|some (.func _ _ _)=>true
 |_=>false
def F9(op:BinOp)(t:TypeId)(x y:Value):Option Value:=match mU (P.underlying t) x y,op with
 |some v,.eql=>some (.bool v)
 |some v,.neq=>some (.bool (!v))
 |_,_=>none
def F'(op:BinOp)(t:TypeId)(x y:Value):Option Value:=nk P (scalar x&&scalar y) (gW op t x y)
def ee(op:BinOp)(t:TypeId)(x y:Value):Option Value:=match mq P t with
 |true=>F9 P op t x y
 |false=>F' P op t x y
def MH(op:UnOp)(x:Value):Option Value:=nk P (scalar x) (Op.unary op x)
def tT:Option TypeDesc->Option TypeDesc->Option TypeId
 |some .string,some (.slice e)=>some e
 |_,_=>none
def Bj(e:TypeId)(x:Value):M Value:=match x with
 | .string s=>qk e s
 |_=> .fail
def Bk{β:Type}(src dst:TypeId)(x:Value)(k:Value->M β):M β:=
 match rD (P.underlying src) (P.underlying dst)with
 |some e=>match mY P e with
  |true=>(inside (mX x)).bind k
  |false=> .fail
 |none=>match tT (P.underlying src) (P.underlying dst)with
  |some e=>match mY P e&&size? P e==some 1 with
   |true=>(inside (Bj e x)).bind k
   |false=> .fail
  |none=>aG (nk P (scalar x) (Go.convert src dst x)) k
def tU:Option Value->Bool
 |some v=>scalar v
 |none=>true
def Bl(t:TypeId)(x:Value)(lo hi mx:Option Value):Option Value:=match isStr x with
 |true=>nk P (tU lo&&tU hi&&tU mx) (AA t x lo hi mx)
 |false=>none
def tV(t:TypeId)(x:Value)(lo hi mx:Option Value):M Value:=match isStr x with
 |true=> .fail
 |false=>nV P t x lo hi mx
def ou(t:TypeId):Bool:=match P.underlying t with
 |some .string=>true
 |_=>false
def wi{β:Type}(t:TypeId)(x:Value)(lo hi mx:Option Value)(k:Value->M β):M β:=match ou P t with
 |true=>aG (Bl P t x lo hi mx) k
 |false=>(inside (tV P t x lo hi mx)).bind k
def Bm(t:TypeId)(x ix:Value):Option Value:=match isStr x with
 |true=>nk P (scalar ix) (Az t x ix)
 |false=>none
def Bn(t:TypeId)(x ix:Value):Option Value:=match isStr x with
 |true=>none
 |false=>vP P t x ix
def tW(t:TypeId)(x ix:Value):Option Value:=match ou P t with
 |true=>Bm P t x ix
 |false=>Bn P t x ix
def MI:Value->Option Value
 | .slice _ n _=>some (.int .i64 n)
 |_=>none
def MJ:Value->Option Value
 | .string s=>some (.int .i64 s.size)
 |_=>none
def yo(dc:Array TypeId)(vs:List Value):Option Value:=match dc[0]?,vs with
 |some t,[x]=>match P.underlying t with
  |some (.slice _)=>MI x
  |some .string=>MJ x
  |_=>none
 |_,_=>none
def min2:List Value->Option Value
 |[.int k a,.int _ b]=>some (.int k (if b<a then b else a))
 |_=>none
def max2:List Value->Option Value
 |[.int k a,.int _ b]=>some (.int k (if a<b then b else a))
 |_=>none
variable (rec:FuncId->Array Value->M Value)
def eM{β:Type}(fv:Value)(vs:List Value)(k:Value->M β):M β:=
 aG (AR fv) fun q=>match j1 P q.1 with
  |true=>(inside (rec q.1 (q.2.1.toList++vs++q.2.2.toList).toArray)).bind k
  |false=> .fail
def MK{β:Type}(dc:Array TypeId)(vs:List Value)(k:Value->M β):M β:=
 aG (vQ P dc vs) fun q=>(inside (o6 P q.1 q.2.1 q.2.2)).bind k
def ML{β:Type}(dc:Array TypeId)(vs:List Value)(k:Value->M β):M β:=
 aG (vR dc vs) fun q=>(inside (o7 P q.1 q.2.1 q.2.2)).bind k
def call2{β:Type}(s:Fr)(c:Call)(vs:List Value)(k:Value->M β):M β:=
 match c.callee with
 | .value f=>aG (aZ s f) fun fv=>eM P rec fv vs k
 | .builtin .append=>MK P c.argTypes vs k
 | .builtin .copy=>ML P c.argTypes vs k
 | .builtin .len=>aG (yo P c.argTypes vs) k
 | .builtin .min=>aG (min2 vs) k
 | .builtin .max=>aG (max2 vs) k
 |_=> .fail
def Bo{β:Type}(s:Fr)(o:Oper)(k:Value->M β):M β:=
 match o.op with
 | .move x| .assign x=>aG (aZ s x) k
 | .pick c a b=>aG (aZ s c) fun c=>aG (aZ s a) fun a=>aG (aZ s b) fun b=>aG (MF c a b) k
 | .alloc e=>(inside (mV P e)).bind k
 | .box e x=>aG (aZ s x) fun x=>(inside (mW P e x)).bind k
 | .build t parts=>kQ s (parts.toList.map (·.2)) fun vs=>(inside (mg P t ((parts.toList.map (·.1)).zip vs))).bind k
 | .buildSlice t len parts=>kQ s (parts.toList.map (·.2)) fun vs=>(inside (mh P t len ((parts.toList.map (·.1)).zip vs))).bind k
 | .load t a=>aG (aZ s a) fun a=>(inside (iR P t a)).bind k
 | .store t a x=>aG (aZ s a) fun a=>aG (aZ s x) fun x=>(inside (nW P t a x)).bind k
 | .nilCheck x=>aG (aZ s x) fun x=>aG (MG x) k
 | .binOp op t x y _=>aG (aZ s x) fun x=>aG (aZ s y) fun y=>aG (ee P op t x y) k
 | .unOp op _ x=>aG (aZ s x) fun x=>aG (MH P op x) k
 | .convert src dst x=>aG (aZ s x) fun x=>Bk P src dst x k
 | .makeFunc fn a b=>kQ s a.toList fun a=>kQ s b.toList fun b=>k (.func fn a.toArray b.toArray)
 | .makeSlice t l c=>aG (aZ s l) fun l=>aG (aZ s c) fun c=>(inside (mZ P t l c)).bind k
 | .slice t x lo hi mx=>aG (aZ s x) fun x=>qC s lo fun lo=>qC s hi fun hi=>qC s mx fun mx=>wi P t x lo hi mx k
 | .fieldAddr t x f=>aG (aZ s x) fun x=>aG (vO P t x f) k
 | .field t x f=>aG (aZ s x) fun x=>aG (rE P t x f) k
 | .indexAddr t x ix=>aG (aZ s x) fun x=>aG (aZ s ix) fun ix=>aG (qm P t x ix) k
 | .index t x ix=>aG (aZ s x) fun x=>aG (aZ s ix) fun ix=>aG (tW P t x ix) k
 | .extract t i=>aG (aZ s t) fun t=>aG (rF t i) k
 | .call c=>kQ s c.args.toList fun vs=>call2 P rec s c vs k
 |_=> .fail
def kind(o:Op):Nat:=match o with
 | .move _| .assign _| .pick _ _ _| .nilCheck _| .binOp _ _ _ _ _| .unOp _ _ _| .makeFunc _ _ _| .fieldAddr _ _ _| .field _ _ _| .indexAddr _ _ _| .index _ _ _| .extract _ _| .build _ _=>0
 | .load _ _| .slice _ _ _ _ _=>1
 | .alloc _| .box _ _| .buildSlice _ _ _| .makeSlice _ _ _=>2
 | .call c=>match c.callee with
   | .builtin .len| .builtin .min| .builtin .max=>0
   |_=>3
 |_=>3
def fits(i j:Nat):Bool:=i==0||j==0||(i==1&&j==1)||(i==2&&j==2)||(i==1&&j==2)
def Bp(ops:Array Oper)(cU:List Nat)(j:Nat)(oj:Oper):Nat->List Oper->Bool
 |_,[]=>true
 |k,ok::r=>((cU.getD k 0).testBit j||(fits (kind oj.op) (kind ok.op)&& !(o8 ops oj ok)))&&Bp ops cU j oj (k+1) r
def Bq(ops:Array Oper)(cU:List Nat):Nat->List Oper->Bool
 |_,[]=>true
 |j,oj::r=>Bp ops cU j oj (j+1) r&&Bq ops cU (j+1) r
def Br(ops:Array Oper):Bool:=rG ops&&Bq ops (lH ops.toList []) 0 ops.toList
end
def dR{α:Type}(m:Nat->M α)(h:H)(n:Nat)(a:α)(h1:H)(n1:Nat)(L:List En):Prop:=∃f0,∀fuel,f0<=fuel->m fuel h n=some ⟨a,h1,n1,L⟩
theorem dR.of{α:Type}{m:M α}{h h1:H}{n n1:Nat}{a:α}{L:List En}(e:m h n=some ⟨a,h1,n1,L⟩):dR (fun _=>m) h n a h1 n1 L:=⟨0,fun _ _=>e⟩
theorem cD{α β:Type}{m:M α}{f:α->M β}{h h1 h2:H}{n n1 n2:Nat}{a:α}{b:β}{L1 L2:List En}(e1:m h n=some ⟨a,h1,n1,L1⟩)(e2:f a h1 n1=some ⟨b,h2,n2,L2⟩):(m.bind f) h n=some ⟨b,h2,n2,L1++L2⟩:=by
 unfold M.bind
 rw[e1]
 simp only
 rw[e2]
theorem dR.bind{α β:Type}{m:Nat->M α}{f:Nat->α->M β}{h h1 h2:H}{n n1 n2:Nat}{a:α}{b:β}{L1 L2:List En}(x:dR m h n a h1 n1 L1)(y:dR (fun fuel=>f fuel a) h1 n1 b h2 n2 L2):
 dR (fun fuel=>(m fuel).bind (f fuel)) h n b h2 n2 (L1++L2):=by
 obtain⟨f0,x⟩:=x
 obtain⟨f1,y⟩:=y
 exact⟨max f0 f1,fun fuel hf=>cD (x fuel (by omega)) (y fuel (by omega))⟩
theorem dR.map{α:Type}{m m':Nat->M α}{h h1:H}{n n1:Nat}{a:α}{L:List En}(x:dR m h n a h1 n1 L)(e:∀fuel,m' fuel=m fuel):dR m' h n a h1 n1 L:=by
 obtain⟨f0,x⟩:=x
 exact⟨f0,fun fuel hf=>by rw[e];exact x fuel hf⟩
theorem kR{α:Type}{m:M α}{h h1:H}{n n1:Nat}{a:α}{L:List En}(e:m h n=some ⟨a,h1,n1,L⟩):inside m h n=some ⟨a,h1,n1,L.filter fun e=> !(n<=e.b&&e.b<n1)⟩:=by
 unfold inside
 rw[e]
theorem dR.inside{α:Type}{m:Nat->M α}{h h1:H}{n n1:Nat}{a:α}{L:List En}(x:dR m h n a h1 n1 L):dR (fun fuel=>Ev.inside (m fuel)) h n a h1 n1 (L.filter fun e=> !(n<=e.b&&e.b<n1)):=by
 obtain⟨f0,x⟩:=x
 exact⟨f0,fun fuel hf=>kR (x fuel hf)⟩
theorem tX{α:Type}{m:M α}{h h1:H}{n n1:Nat}{a:α}{L:List En}(hr:Ev.inside m h n=some ⟨a,h1,n1,L⟩):∃L',m h n=some ⟨a,h1,n1,L'⟩∧L=L'.filter fun e=> !(n<=e.b&&e.b<n1):=by
 unfold Ev.inside at hr
 split at hr
 ·rename_i a' h' n' L' e
  simp only[dV,Out.mk.injEq]at hr
  obtain⟨rfl,rfl,rfl,rfl⟩:=hr
  exact⟨L',e,rfl⟩
 ·cases hr
def Sub(s:Fr)(s1:S):Prop:=∀t v,s.at_ t=some v->s1.get t=v
theorem Sub.aZ{s:Fr}{s1:S}(hs:Sub s s1){x:Operand}{v:Value}(h:Ev.aZ s x=some v):ev s1 x=v:=by
 cases x with
 |tmp t=>exact hs t v h
 |const u=>cases h;rfl
 |global g=>cases h;rfl
 |func f=>cases h;rfl
theorem cG{α β:Type}{o:Option α}{k:α->M β}{h:H}{n:Nat}{r:Out β}(hr:aG o k h n=some r):∃v,o=some v∧k v h n=some r:=by
 cases o with
 |none=>cases hr
 |some v=>exact⟨v,rfl,hr⟩
theorem wj{β:Type}{s:Fr}{s1:S}(hs:Sub s s1):∀{l:List Operand} {k:List Value->M β} {h:H} {n:Nat} {r:Out β},kQ s l k h n=some r->∃vs,vs=l.map (ev s1)∧k vs h n=some r
 |[],k,h,n,r,hr=>⟨[],rfl,hr⟩
 |x::l,k,h,n,r,hr=>by
  unfold kQ at hr
  obtain⟨v,hv,hr⟩:=cG hr
  obtain⟨vs,e,hr⟩:=wj hs hr
  exact⟨v::vs,by rw[List.map_cons,hs.aZ hv,e],hr⟩
theorem Ga{β:Type}{s:Fr}{s1:S}(hs:Sub s s1){x:Option Operand}{k:Option Value->M β}{h:H}{n:Nat}{r:Out β}(hr:qC s x k h n=some r):k (x.map (ev s1)) h n=some r:=by
 cases x with
 |none=>exact hr
 |some x=>
  obtain⟨v,hv,hr⟩:=cG hr
  simp only[Au,hs.aZ hv]
  exact hr
def cont(P:Program)(kn:List FuncId)(fuel:Nat):Nx->M Value
 | .val v=> .ret v
 | .call f args=>cM P kn fuel f args
theorem np{m:M Value}{P:Program}{kn:List FuncId}{fuel:Nat}:(m.bind fun v=> .ret (.val v)).bind (cont P kn fuel)=m:=by
 funext h n
 unfold M.bind
 cases m h n with
 |none=>rfl
 |some o=>simp[M.ret,cont]
theorem kS{v:Value}{P:Program}{kn:List FuncId}{fuel:Nat}:(M.ret (Nx.val v)).bind (cont P kn fuel)=M.ret v:=by
 funext h n
 simp[M.bind,M.ret,cont]
theorem Zc{f:FuncId}{args:Array Value}{P:Program}{kn:List FuncId}{fuel:Nat}:(M.ret (Nx.call f args)).bind (cont P kn fuel)=cM P kn fuel f args:=by
 funext h n
 simp only[M.bind,M.ret,cont]
 cases cM P kn fuel f args h n with
 |none=>rfl
 |some o=>simp
theorem tY{α:Type}(a:α):M.lift (some a)=M.ret a:=rfl
theorem pA{α β:Type}(a:α)(f:α->M β):(M.ret a).bind f=f a:=by
 funext h n
 simp only[M.bind,M.ret]
 cases f a h n with
 |none=>rfl
 |some o=>simp
def Bs(E:Nat->M Value){β:Type}(k:Value->M β)(h:H)(n:Nat)(r:Out β):Prop:=
 ∃v h1 n1 L1 L2,dR (fun fuel=>inside (E fuel)) h n v h1 n1 L1∧k v h1 n1=some ⟨r.val,r.h,r.n,L2⟩∧r.log=L1++L2
section
variable {β:Type} {E:Nat->M Value} {k:Value->M β} {h:H} {n:Nat} {r:Out β}
theorem nq{m:M Value}(hr:((inside m).bind k) h n=some r)(hm:∀fuel,E fuel=m):Bs E k h n r:=by
 obtain⟨c,h2,n2,L⟩:=r
 obtain⟨v,h1,n1,L1,L2,e1,e2,e3⟩:=bind_some hr
 exact⟨v,h1,n1,L1,L2,⟨0,fun fuel _=>by show Ev.inside (E fuel) h n=_;rw[hm];exact e1⟩,e2,e3⟩
theorem jM{v:Value}(hr:k v h n=some r)(hm:∀fuel,E fuel=M.ret v):Bs E k h n r:=by
 obtain⟨c,h2,n2,L⟩:=r
 exact⟨v,h,n,[],L,⟨0,fun fuel _=>by show Ev.inside (E fuel) h n=_;rw[hm];rfl⟩,hr,rfl⟩
theorem Zd {P:Program} {kn:List FuncId} {rec:FuncId->Array Value->M Value} (cB:∀f args h n v h1 n1 L,rec f args h n=some ⟨v,h1,n1,L⟩->dR (fun fuel=>cM P kn fuel f args) h n v h1 n1 L) {g:FuncId} {args:Array Value}
 (hr:((inside (rec g args)).bind k) h n=some r) (hm:∀fuel,E fuel=cM P kn fuel g args):Bs E k h n r:=by
 obtain⟨c,h2,n2,L⟩:=r
 obtain⟨v,h1,n1,L1,L2,e1,e2,e3⟩:=bind_some hr
 obtain⟨L',e4,rfl⟩:=tX e1
 exact⟨v,h1,n1,_,L2,((cB _ _ _ _ _ _ _ _ e4).map hm).inside,e2,e3⟩
end
theorem yp{P:Program}{ok:Bool}{s:Sem Value}{v:Value}(h:nk P ok s=some v):ok=true∧iP P (do pure (.value (<-s)))=some v∧scalar v=true:=by
 unfold nk at h
 cases ok with
 |false=>cases h
 |true=>
  simp only at h
  split at h
  ·rename_i u hu
   split at h
   ·rename_i hs
    cases h
    exact⟨rfl,hu,hs⟩
   ·cases h
  ·cases h
theorem rY{P:Program}{ρ:Operand->Value}{o:Oper}{v:Value}(h1:(o.op.operands.all fun x=>scalar (ρ x))=true)(h2:iP P (execOp ρ o)=some v)(h3:scalar v=true):fS P ρ o=M.ret (.val v):=by
 unfold fS
 rw[if_pos h1,h2,tY,pA,if_pos h3]
theorem Ze{P:Program}{t:TypeId}(h:mq P t=false)(x y:Value):mU (P.underlying t) x y=none:=by
 unfold mq at h
 generalize P.underlying t=d at h
 cases d with
 |none=>rfl
 |some d=>cases d<;>first|(cases h;done)|rfl|(unfold mU;rfl)
theorem Zf{op:BinOp}{t:TypeId}{x y:Operand}{a b:Value}(ha:scalar a=true)(hb:scalar b=true):eqGuard op t x y a b=pure ():=by
 cases a<;>first|(simp[scalar]at ha;done)|skip
 all_goals cases b<;>first|(simp[scalar]at hb;done)|skip
 all_goals cases op<;>rfl
theorem Zg {P:Program} {s1:S} {op:BinOp} {t yt:TypeId} {x y:Operand} {v:Value} {dst:Option Tmp} {ty:TypeId} {pos:String} {after:Array Edge} {guard:Option (Nat×Bool)}
 (h:ee P op t (ev s1 x) (ev s1 y)=some v):bU P (ev s1) ⟨dst,.binOp op t x y yt,ty,pos,after,guard⟩=M.ret (.val v):=by
 unfold ee at h
 split at h
 ·unfold F9 at h
  unfold bU
  simp only
  split at h
  ·rename_i q
   cases h
   rw[q]
  ·rename_i q
   cases h
   rw[q]
  ·cases h
 ·rename_i hn
  unfold F' at h
  obtain⟨h1,h2,h3⟩:=yp h
  unfold bU
  simp only[Ze hn]
  simp only[bZ]at h1
  refine rY (by simp[dL,h1.1,h1.2]) ?_ h3
  rw[<-h2]
  simp only[execOp,Zf h1.1 h1.2]
  rfl
theorem Zh{a b:Option TypeDesc}{v:Value}(h:tT a b=none):tu a b v=none:=by
 unfold tT at h
 unfold tu
 split at h
 ·cases h
 ·rename_i hn
  split
  ·rename_i e s
   exact(hn _ rfl rfl).elim
  ·rfl
theorem MM{α β:Type}{f:α->β}{l:List α}{a b:β}(h:l.map f=[a,b]):∃x y,l=[x,y]∧f x=a∧f y=b:=by
 match l,h with
 |[x,y],h=>simp at h;exact⟨x,y,rfl,h.1,h.2⟩
theorem Zi{α β:Type}{f:α->β}{l:List α}{a:β}(h:l.map f=[a]):∃x,l=[x]∧f x=a:=by
 match l,h with
 |[x],h=>simp at h;exact⟨x,rfl,h⟩
theorem Bt{α:Type}{a:Array α}{l:List α}(h:a.toList=l):a=l.toArray:=by
 cases a;simp at h;rw[h]
theorem zip_map{α β γ:Type}(f:α->β)(g:α->γ)(l:List α):(l.map f).zip (l.map g)=l.map fun x=>(f x,g x):=by
 induction l with
 |nil=>rfl
 |cons a l ih=>simp[ih]
theorem Zj{P:Program}{t:TypeId}{x ix v:Value}(h:Bm P t x ix=some v):isStr x=true∧scalar ix=true∧iP P (do pure (.value (<-Az t x ix)))=some v∧scalar v=true:=by
 unfold Bm at h
 split at h
 ·rename_i hs
  obtain⟨h1,h2,h3⟩:=yp h
  exact⟨hs,h1,h2,h3⟩
 ·cases h
theorem Zk{P:Program}{t:TypeId}{x ix v:Value}(h:Bn P t x ix=some v):isStr x=false∧vP P t x ix=some v:=by
 unfold Bn at h
 split at h
 ·cases h
 ·rename_i hs
  exact⟨hs,h⟩
theorem MN{x:Value}(h:isStr x=true):scalar x=true:=by
 cases x<;>first|rfl|(simp[isStr]at h)
theorem pB{P:Program}{t:TypeId}{d:TypeDesc}(h:P.underlying t=some d)(f:TypeDesc->Sem Next):iP P (underlying t>>=f)=iP P (f d):=by
 unfold underlying
 show iP P ((match P.underlying t with
  |some d=>pure d
  |none=>stuck "no such type")>>=f)=_
 rw[h]
 rfl
set_option maxHeartbeats 1000000 in
theorem Zl {P:Program} {kn:List FuncId} {rec:FuncId->Array Value->M Value} (cB:∀f args h n v h1 n1 L,rec f args h n=some ⟨v,h1,n1,L⟩->dR (fun fuel=>cM P kn fuel f args) h n v h1 n1 L)
 {β:Type} {s:Fr} {s1:S} {o:Oper} {k:Value->M β} {h:H} {n:Nat} {r:Out β} (hs:Sub s s1) (hr:Bo P rec s o k h n=some r):Bs (fun fuel=>(bU P (ev s1) o).bind (cont P kn fuel)) k h n r:=by
 obtain⟨dst,op,ty,pos,after,guard⟩:=o
 unfold Bo at hr
 cases op with
 |move x=>
  obtain⟨v,hv,hr⟩:=cG hr
  exact jM hr fun fuel=>by rw[<-hs.aZ hv];exact kS
 |assign x=>
  obtain⟨v,hv,hr⟩:=cG hr
  exact jM hr fun fuel=>by rw[<-hs.aZ hv];exact kS
 |pick c a b=>
  obtain⟨vc,hc,hr⟩:=cG hr
  obtain⟨va,ha,hr⟩:=cG hr
  obtain⟨vb,hb,hr⟩:=cG hr
  obtain⟨v,hv,hr⟩:=cG hr
  refine jM hr fun fuel=> ?_
  unfold bU
  simp only[hs.aZ hc,hs.aZ ha,hs.aZ hb]
  unfold MF at hv
  split at hv
  ·cases hv
   exact kS
  ·cases hv
 |alloc e=>exact nq hr fun fuel=>np
 |box e x=>
  obtain⟨v,hv,hr⟩:=cG hr
  exact nq hr fun fuel=>by rw[<-hs.aZ hv];exact np
 |build t parts=>
  obtain⟨vs,hv,hr⟩:=wj hs hr
  refine nq hr fun fuel=> ?_
  rw[hv,Ld,zip_map]
  exact np
 |buildSlice t len parts=>
  obtain⟨vs,hv,hr⟩:=wj hs hr
  refine nq hr fun fuel=> ?_
  rw[hv,Ld,zip_map]
  exact np
 |load t a=>
  obtain⟨v,hv,hr⟩:=cG hr
  exact nq hr fun fuel=>by rw[<-hs.aZ hv];exact np
 |store t a x=>
  obtain⟨va,ha,hr⟩:=cG hr
  obtain⟨v,hv,hr⟩:=cG hr
  exact nq hr fun fuel=>by rw[<-hs.aZ hv,<-hs.aZ ha];exact np
 |nilCheck x=>
  obtain⟨v,hv,hr⟩:=cG hr
  obtain⟨u,hu,hr⟩:=cG hr
  refine jM hr fun fuel=> ?_
  unfold bU
  simp only[hs.aZ hv]
  unfold MG at hu
  split at hu
  ·cases hu;exact(congrArg (fun z=>M.bind z (cont P kn fuel)) (pA _ _)).trans kS
  ·cases hu;exact(congrArg (fun z=>M.bind z (cont P kn fuel)) (pA _ _)).trans kS
  ·cases hu
 |binOp op t x y yt=>
  obtain⟨va,ha,hr⟩:=cG hr
  obtain⟨vb,hb,hr⟩:=cG hr
  obtain⟨v,hv,hr⟩:=cG hr
  rw[<-hs.aZ ha,<-hs.aZ hb]at hv
  exact jM hr fun fuel=>by simp only[Zg hv];exact kS
 |unOp op t x=>
  obtain⟨va,ha,hr⟩:=cG hr
  obtain⟨v,hv,hr⟩:=cG hr
  rw[<-hs.aZ ha]at hv
  obtain⟨h1,h2,h3⟩:=yp hv
  refine jM hr fun fuel=> ?_
  rw[<-kS (P:=P) (fuel:=fuel),<-rY (ρ:=ev s1) (o:=⟨dst,.unOp op t x,ty,pos,after,guard⟩) (by simpa[dL]using h1) h2 h3]
  rfl
 |convert src d x=>
  obtain⟨va,ha,hr⟩:=cG hr
  have hx:=hs.aZ ha
  unfold Bk at hr
  cases he:rD (P.underlying src) (P.underlying d)with
  |some e=>
   simp only[he]at hr
   cases hu:mY P e with
   |true=>
    simp only[hu]at hr
    refine nq hr fun fuel=> ?_
    unfold bU
    simp only[he,hu,if_true,hx]
    exact np
   |false=>
    simp only[hu]at hr
    cases hr
  |none=>
   simp only[he]at hr
   cases kT:tT (P.underlying src) (P.underlying d)with
   |some e=>
    simp only[kT]at hr
    cases hu:(mY P e&&size? P e==some 1)with
    |true=>
     simp only[hu]at hr
     cases va with
     |string s0=>
      refine nq hr fun fuel=> ?_
      unfold bU
      simp only[he,hx]
      unfold Bj
      have:tu (P.underlying src) (P.underlying d) (.string s0)=some (e,s0):=by
       revert kT
       generalize P.underlying src=a
       generalize P.underlying d=b
       intro kT
       unfold tT at kT
       split at kT
       ·cases kT;rfl
       ·cases kT
      simp only[this,hu,if_true]
      exact np
     |_=>
      exfalso
      obtain⟨c,h2,n2,L⟩:=r
      obtain⟨v,h1,n1,L1,L2,e1,e2,e3⟩:=bind_some hr
      obtain⟨L',e4,_⟩:=tX e1
      cases e4
    |false=>
     simp only[hu]at hr
     cases hr
   |none=>
    simp only[kT]at hr
    obtain⟨v,hv,hr⟩:=cG hr
    obtain⟨h1,h2,h3⟩:=yp hv
    refine jM hr fun fuel=> ?_
    unfold bU
    simp only[he,Zh kT]
    rw[rY (by simpa[dL,hx]using h1) (by rw[<-h2];simp only[execOp,hx]) h3]
    exact kS
 |makeFunc fn a b=>
  obtain⟨va,ha,hr⟩:=wj hs hr
  obtain⟨vb,hb,hr⟩:=wj hs hr
  refine jM hr fun fuel=> ?_
  subst ha hb
  unfold bU
  simp only[<-qf,Array.toArray_toList]
  exact kS
 |makeSlice t l c=>
  obtain⟨va,ha,hr⟩:=cG hr
  obtain⟨v,hv,hr⟩:=cG hr
  exact nq hr fun fuel=>by rw[<-hs.aZ hv,<-hs.aZ ha];exact np
 |slice t x lo hi mx=>
  obtain⟨va,ha,hr⟩:=cG hr
  have hr:=Ga hs hr
  have hr:=Ga hs hr
  have hr:=Ga hs hr
  have hx:=hs.aZ ha
  unfold wi at hr
  cases cS:ou P t with
  |true=>
   simp only[cS]at hr
   obtain⟨v,hv,hr⟩:=cG hr
   unfold Bl at hv
   split at hv
   ·rename_i tQ
    obtain⟨h1,h2,h3⟩:=yp hv
    refine jM hr fun fuel=> ?_
    unfold bU
    simp only[hx,tQ,if_true]
    simp only[bZ]at h1
    rw[rY ?_ (by rw[<-h2];simp only[execOp,hx]) h3]
    ·exact kS
    ·have q1:=h1.1.1
     have q2:=h1.1.2
     have q3:=h1.2
     simp only[dL]
     have q0:=MN tQ
     cases lo<;>cases hi<;>cases mx<;>simp_all [tU]
   ·cases hv
  |false=>
   simp only[cS]at hr
   refine nq hr fun fuel=> ?_
   unfold tV
   unfold bU
   simp only[hx]
   cases tQ:isStr va with
   |true=>
    exfalso
    obtain⟨c,h2,n2,L⟩:=r
    obtain⟨v,h1,n1,L1,L2,e1,e2,e3⟩:=bind_some hr
    obtain⟨L',e4,_⟩:=tX e1
    unfold tV at e4
    rw[tQ]at e4
    cases e4
   |false=>
    simp only[qg,if_false]
    exact np
 |fieldAddr t x f=>
  obtain⟨va,ha,hr⟩:=cG hr
  obtain⟨v,hv,hr⟩:=cG hr
  refine jM hr fun fuel=> ?_
  unfold bU
  simp only[hs.aZ ha,hv,tY,pA]
  rfl
 |field t x f=>
  obtain⟨va,ha,hr⟩:=cG hr
  obtain⟨v,hv,hr⟩:=cG hr
  refine jM hr fun fuel=> ?_
  unfold bU
  simp only[hs.aZ ha,hv,tY,pA]
  rfl
 |indexAddr t x f=>
  obtain⟨va,ha,hr⟩:=cG hr
  obtain⟨vb,hb,hr⟩:=cG hr
  obtain⟨v,hv,hr⟩:=cG hr
  refine jM hr fun fuel=> ?_
  unfold bU
  simp only[hs.aZ ha,hs.aZ hb,hv,tY,pA]
  rfl
 |index t x f=>
  obtain⟨va,ha,hr⟩:=cG hr
  obtain⟨vb,hb,hr⟩:=cG hr
  obtain⟨v,hv,hr⟩:=cG hr
  refine jM hr fun fuel=> ?_
  unfold bU
  unfold tW at hv
  split at hv
  ·obtain⟨h0,h1,h2,h3⟩:=Zj hv
   simp only[hs.aZ ha,hs.aZ hb,h0,if_true]
   rw[rY (by simp[dL,hs.aZ ha,hs.aZ hb,h1,MN h0]) (by rw[<-h2];simp only[execOp,hs.aZ ha,hs.aZ hb]) h3]
   exact kS
  ·obtain⟨h0,h1⟩:=Zk hv
   simp only[hs.aZ ha,hs.aZ hb,h0,h1,tY,pA,qg,if_false]
   rfl
 |extract t i=>
  obtain⟨va,ha,hr⟩:=cG hr
  obtain⟨v,hv,hr⟩:=cG hr
  refine jM hr fun fuel=> ?_
  unfold bU
  simp only[hs.aZ ha,hv,tY,pA]
  rfl
 |call c=>
  obtain⟨vs,hv,hr⟩:=wj hs hr
  unfold call2 at hr
  cases hc:c.callee with
  |value f=>
   simp only[hc]at hr
   obtain⟨fv,yn,hr⟩:=cG hr
   unfold eM at hr
   obtain⟨q,hq,hr⟩:=cG hr
   obtain⟨g,first,captured⟩:=q
   simp only at hr
   cases hb:j1 P g with
   |true=>
    simp only[hb]at hr
    refine Zd cB hr fun fuel=> ?_
    unfold bU j2
    simp only[hc,hs.aZ yn,hq,hb,if_true]
    rw[Zc]
    congr 1
    subst hv
    apply Bt
    simp
   |false=>
    simp only[hb]at hr
    cases hr
  |builtin b=>
   simp only[hc]at hr
   cases b with
   |append=>
    simp only at hr
    unfold MK at hr
    obtain⟨q,hq,hr⟩:=cG hr
    obtain⟨t,x,y⟩:=q
    refine nq hr fun fuel=> ?_
    unfold bU j2
    simp only[hc,qf,<-hv,hq]
    exact np
   |copy=>
    simp only at hr
    unfold ML at hr
    obtain⟨q,hq,hr⟩:=cG hr
    obtain⟨t,x,y⟩:=q
    refine nq hr fun fuel=> ?_
    unfold bU j2
    simp only[hc,qf,<-hv,hq]
    exact np
   |len=>
    simp only at hr
    obtain⟨v,hl,hr⟩:=cG hr
    refine jM hr fun fuel=> ?_
    unfold bU j2
    simp only[hc,qf,<-hv]
    unfold yo at hl
    split at hl
    ·rename_i t u ht
     split at hl
     ·rename_i e lM
      unfold MI at hl
      split at hl
      ·cases hl
       simp only[tw,ht,lM]
       exact kS
      ·cases hl
     ·rename_i lM
      unfold MJ at hl
      split at hl
      ·rename_i s0
       cases hl
       have:tw P c.argTypes [Value.string s0]=none:=by simp[tw,ht]
       simp only[this]
       obtain⟨x,jH,cA⟩:=Zi hv.symm
       have pC:=Bt jH
       rw[rY (v:= .int .i64 s0.size) ?_ ?_ rfl]
       ·exact kS
       ·simp[dL,xN,hc,pC,cA,scalar]
       ·simp only[execOp,resolve,hc,pC]
        simp[cA,invoke,builtin,Lg,ht]
        rw[pB lM]
        rfl
      ·cases hl
     ·cases hl
    ·cases hl
   |min=>
    simp only at hr
    obtain⟨v,hl,hr⟩:=cG hr
    refine jM hr fun fuel=> ?_
    unfold bU j2
    simp only[hc]
    unfold min2 at hl
    split at hl
    ·rename_i kd a0 Zm b0
     obtain⟨x,y,jH,cA,yq⟩:=MM hv.symm
     have pC:=Bt jH
     rw[rY (v:=v) ?_ ?_ (by cases hl;rfl)]
     ·exact kS
     ·simp[dL,xN,hc,pC,cA,yq,scalar]
     ·cases hl
      simp only[execOp,resolve,hc,pC]
      simp[cA,yq]
      rfl
    ·cases hl
   |max=>
    simp only at hr
    obtain⟨v,hl,hr⟩:=cG hr
    refine jM hr fun fuel=> ?_
    unfold bU j2
    simp only[hc]
    unfold max2 at hl
    split at hl
    ·rename_i kd a0 Zm b0
     obtain⟨x,y,jH,cA,yq⟩:=MM hv.symm
     have pC:=Bt jH
     rw[rY (v:=v) ?_ ?_ (by cases hl;rfl)]
     ·exact kS
     ·simp[dL,xN,hc,pC,cA,yq,scalar]
     ·cases hl
      simp only[execOp,resolve,hc,pC]
      simp[cA,yq]
      rfl
    ·cases hl
   |_=>cases hr
  |invoke _ _=>
   simp only[hc]at hr
   cases hr
 |_=>cases hr
def Q0{α:Type}(m:M α):Prop:=∀h n a h1 n1 L,m h n=some ⟨a,h1,n1,L⟩->L=[]∧n1=n
def Q1{α:Type}(m:M α):Prop:=∀h n a h1 n1 L,m h n=some ⟨a,h1,n1,L⟩->n1=n∧∀e∈L,e.wr=false
def Q2{α:Type}(m:M α):Prop:=∀h n a h1 n1 L,m h n=some ⟨a,h1,n1,L⟩->L=[]
theorem Q0.ret{α:Type}(a:α):Q0 (M.ret a):=fun h n b h1 n1 L e=>by simp only[M.ret,dV,Out.mk.injEq]at e;exact⟨e.2.2.2.symm,e.2.2.1.symm⟩
theorem Q0.fail{α:Type}:Q0 (M.fail:M α):=fun h n b h1 n1 L e=>by cases e
theorem Q0.lift{α:Type}(o:Option α):Q0 (M.lift o):=by cases o with|none=>exact Q0.fail|some a=>exact Q0.ret a
theorem Q0.bind{α β:Type}{m:M α}{f:α->M β}(x:Q0 m)(y:∀a,Q0 (f a)):Q0 (m.bind f):=fun h n b h2 n2 L e=>by
 obtain⟨a,h1,n1,L1,L2,e1,e2,rfl⟩:=bind_some e
 obtain⟨rfl,rfl⟩:=x _ _ _ _ _ _ e1
 obtain⟨rfl,rfl⟩:=y _ _ _ _ _ _ _ e2
 exact⟨rfl,rfl⟩
theorem Q0.q1{α:Type}{m:M α}(x:Q0 m):Q1 m:=fun h n a h1 n1 L e=>by
 obtain⟨rfl,rfl⟩:=x _ _ _ _ _ _ e
 exact⟨rfl,fun e he=>nomatch he⟩
theorem Q0.q2{α:Type}{m:M α}(x:Q0 m):Q2 m:=fun h n a h1 n1 L e=>(x _ _ _ _ _ _ e).1
theorem Q1.bind{α β:Type}{m:M α}{f:α->M β}(x:Q1 m)(y:∀a,Q1 (f a)):Q1 (m.bind f):=fun h n b h2 n2 L e=>by
 obtain⟨a,h1,n1,L1,L2,e1,e2,rfl⟩:=bind_some e
 obtain⟨rfl,g1⟩:=x _ _ _ _ _ _ e1
 obtain⟨rfl,g2⟩:=y _ _ _ _ _ _ _ e2
 refine⟨rfl,fun e he=> ?_⟩
 rcases List.mem_append.1 he with q|q
 ·exact g1 e q
 ·exact g2 e q
theorem Q2.bind{α β:Type}{m:M α}{f:α->M β}(x:Q2 m)(y:∀a,Q2 (f a)):Q2 (m.bind f):=fun h n b h2 n2 L e=>by
 obtain⟨a,h1,n1,L1,L2,e1,e2,rfl⟩:=bind_some e
 rw[x _ _ _ _ _ _ e1,y _ _ _ _ _ _ _ e2]
 rfl
theorem Q1.rd(b k:Nat):Q1 (Ev.rd b k):=fun h n a h1 n1 L e=>by
 unfold Ev.rd at e
 split at e
 ·split at e
  ·split at e
   ·simp only[dV,Out.mk.injEq]at e
    obtain⟨_,_,rfl,rfl⟩:=e
    exact⟨rfl,fun e he=>by simp at he;subst he;rfl⟩
   ·cases e
  ·cases e
 ·cases e
theorem Q1.iA(b:Nat):Q1 (Ev.iA b):=fun h n a h1 n1 L e=>by
 unfold Ev.iA at e
 split at e
 ·split at e
  ·simp only[dV,Out.mk.injEq]at e
   obtain⟨_,_,rfl,rfl⟩:=e
   exact⟨rfl,fun e he=>by simp at he;subst he;rfl⟩
  ·cases e
 ·cases e
theorem Q1.db(b:Nat):∀n k,Q1 (Ev.db b k n)
 |0,_=>(Q0.ret _).q1
 |n+1,k=>Q1.bind (Q1.rd _ _) fun _=>Q1.bind (Q1.db b n _) fun _=>(Q0.ret _).q1
theorem Q2.cR(e:TypeId)(cs:List Value):Q2 (Ev.cR e cs):=fun h n a h1 n1 L hr=>by
 unfold Ev.cR at hr
 split at hr
 ·simp only[dV,Out.mk.injEq]at hr
  exact hr.2.2.2.symm
 ·cases hr
theorem Q0.fS(P:Program)(ρ:Operand->Value)(o:Oper):Q0 (Ev.fS P ρ o):=by
 unfold Ev.fS
 split
 ·refine Q0.bind (Q0.lift _) fun v=> ?_
  split
  ·exact Q0.ret _
  ·exact Q0.fail
 ·exact Q0.fail
theorem Q0.nilCheck(v:Value):Q0 (qj v):=by
 unfold qj
 split<;>first|exact Q0.ret _|exact Q0.fail
theorem Q0.build(P:Program)(t:TypeId)(ps:List (Nat×Value)):Q0 (mg P t ps):=by
 unfold mg
 split
 ·split
  ·split
   ·exact Q0.ret _
   ·exact Q0.fail
  ·exact Q0.fail
 ·exact Q0.fail
theorem Q1.load(P:Program)(t:TypeId)(v:Value):Q1 (iR P t v):=by
 unfold iR
 split
 ·split
  ·exact Q1.bind (Q1.db _ _ _) fun _=>(Q0.ret _).q1
  ·exact Q1.rd _ _
  ·exact Q0.fail.q1
 ·exact Q0.fail.q1
theorem Q1.Zn(P:Program)(t:TypeId)(v:Value)(lo hi mx:Option Value):Q1 (nV P t v lo hi mx):=by
 unfold nV
 split
 ·refine Q1.bind (Q1.iA _) fun _=> ?_
  split
  ·split
   ·exact(Q0.lift _).q1
   ·exact Q0.fail.q1
  ·exact Q0.fail.q1
 ·exact(Q0.lift _).q1
theorem Q2.alloc(P:Program)(e:TypeId):Q2 (mV P e):=by
 unfold mV
 split
 ·exact Q2.bind (Q2.cR _ _) fun _=>(Q0.ret _).q2
 ·exact Q0.fail.q2
theorem Q2.box(P:Program)(e:TypeId)(v:Value):Q2 (mW P e v):=by
 unfold mW
 split
 ·exact Q2.bind (Q2.cR _ _) fun _=>(Q0.ret _).q2
 ·exact Q0.fail.q2
theorem Q2.buildSlice(P:Program)(t:TypeId)(len:Nat)(ps:List (Nat×Value)):Q2 (mh P t len ps):=by
 unfold mh
 repeat' (first|exact Q0.fail.q2|exact Q2.bind (Q2.cR _ _) fun _=>(Q0.ret _).q2|split)
theorem Q2.makeSlice(P:Program)(t:TypeId)(l c:Value):Q2 (mZ P t l c):=by
 unfold mZ
 repeat' (first|exact Q0.fail.q2|exact Q2.bind (Q2.cR _ _) fun _=>(Q0.ret _).q2|split)
def QK(k:Nat){α:Type}(m:M α):Prop:=(k=0->Q0 m)∧(k=1->Q1 m)∧(k=2->Q2 m)
theorem QK.jN{α:Type}{m:M α}(x:Q0 m)(k:Nat):QK k m:=⟨fun _=>x,fun _=>x.q1,fun _=>x.q2⟩
theorem QK.MO{α:Type}{m:M α}(x:Q1 m):QK 1 m:=⟨fun h=>by omega,fun _=>x,fun h=>by omega⟩
theorem QK.Bu{α:Type}{m:M α}(x:Q2 m):QK 2 m:=⟨fun h=>by omega,fun h=>by omega,fun _=>x⟩
theorem QK.MP{α:Type}{m:M α}:QK 3 m:=⟨fun h=>by omega,fun h=>by omega,fun h=>by omega⟩
def wm(rec:FuncId->Array Value->M Value):Nx->M Value
 | .val v=> .ret v
 | .call f args=>rec f args
theorem Zo{α β:Type}(f:α->M β):(M.fail:M α).bind f=M.fail:=rfl
theorem Zp(P:Program)(ρ:Operand->Value)(rec:FuncId->Array Value->M Value)(o:Oper):QK (kind o.op) ((bU P ρ o).bind (wm rec)):=by
 have v1:∀{m:M Value},(m.bind fun v=>M.ret (Nx.val v)).bind (wm rec)=m:=fun{m}=>by
  funext h n
  unfold M.bind
  cases m h n with
  |none=>rfl
  |some o=>simp[M.ret,wm]
 have v0:∀(v:Value),(M.ret (Nx.val v)).bind (wm rec)=M.ret v:=fun v=>by rw[pA];rfl
 have vp:Q0 ((fS P ρ o).bind (wm rec)):=by
  unfold fS
  split
  ·intro h n r h1 n1 L e
   obtain⟨x,h2,n2,L1,L2,e1,e2,rfl⟩:=bind_some e
   obtain⟨y,h3,n3,L3,L4,e3,e4,rfl⟩:=bind_some e1
   obtain⟨rfl,rfl⟩:=Q0.lift _ _ _ _ _ _ _ e3
   split at e4
   ·obtain⟨rfl,_,_⟩:=bI e4
    obtain⟨rfl,rfl⟩:=Q0.ret _ _ _ _ _ _ _ e4
    obtain⟨rfl,rfl⟩:=Q0.ret _ _ _ _ _ _ _ e2
    exact⟨rfl,rfl⟩
   ·cases e4
  ·intro h n r h1 n1 L e
   cases e
 obtain⟨dst,op,ty,pos,after,guard⟩:=o
 cases op with
 |move x=>exact QK.jN (by unfold bU;rw[v0];exact Q0.ret _) _
 |assign x=>exact QK.jN (by unfold bU;rw[v0];exact Q0.ret _) _
 |pick c a b=>
  refine QK.jN ?_ _
  unfold bU
  simp only
  split
  ·rw[v0];exact Q0.ret _
  ·rw[Zo];exact Q0.fail
 |alloc e=>exact QK.Bu (by unfold bU;rw[v1];exact Q2.alloc _ _)
 |box e x=>exact QK.Bu (by unfold bU;rw[v1];exact Q2.box _ _ _)
 |build t ps=>exact QK.jN (by unfold bU;rw[v1];exact Q0.build _ _ _) _
 |buildSlice t len ps=>exact QK.Bu (by unfold bU;rw[v1];exact Q2.buildSlice _ _ _ _)
 |load t a=>exact QK.MO (by unfold bU;rw[v1];exact Q1.load _ _ _)
 |nilCheck x=>exact QK.jN (by unfold bU;rw[v1];exact Q0.nilCheck _) _
 |binOp op t x y yt=>
  refine QK.jN ?_ _
  unfold bU
  simp only
  split
  ·rw[v0];exact Q0.ret _
  ·rw[v0];exact Q0.ret _
  ·exact vp
  ·intro h n a h1 n1 L e;cases e
 |unOp op t x=>exact QK.jN (vp) _
 |makeFunc fn a b=>exact QK.jN (by unfold bU;rw[v0];exact Q0.ret _) _
 |makeSlice t l c=>exact QK.Bu (by unfold bU;rw[v1];exact Q2.makeSlice _ _ _ _)
 |slice t x lo hi mx=>
  refine QK.MO ?_
  unfold bU
  simp only
  split
  ·exact(vp).q1
  ·rw[v1];exact Q1.Zn _ _ _ _ _ _
 |fieldAddr t x f=>exact QK.jN (by unfold bU;rw[v1];exact Q0.lift _) _
 |field t x f=>exact QK.jN (by unfold bU;rw[v1];exact Q0.lift _) _
 |indexAddr t x f=>exact QK.jN (by unfold bU;rw[v1];exact Q0.lift _) _
 |index t x ix=>
  refine QK.jN ?_ _
  unfold bU
  simp only
  split
  ·exact vp
  ·rw[v1];exact Q0.lift _
 |extract t i=>exact QK.jN (by unfold bU;rw[v1];exact Q0.lift _) _
 |call c=>
  unfold kind
  simp only
  split
  ·rename_i hc
   refine QK.jN ?_ _
   unfold bU j2
   simp only[hc]
   split
   ·rw[v0];exact Q0.ret _
   ·exact vp
  ·rename_i hc
   refine QK.jN ?_ _
   unfold bU j2
   simp only[hc]
   exact vp
  ·rename_i hc
   refine QK.jN ?_ _
   unfold bU j2
   simp only[hc]
   exact vp
  ·exact QK.MP
 |_=>exact QK.MP
structure Bv (o:Oper) (t:Tk):Prop where
 le:t.n<=t.n1
 lt:∀e∈t.log,e.b<t.n1
 k0:kind o.op=0->t.log=[]∧t.n1=t.n
 k1:kind o.op=1->t.n1=t.n∧∀e∈t.log,e.wr=false
 k2:kind o.op=2->t.log=[]
inductive ox:Nat->List Oper->List Tk->Nat->Prop
 |nil (n:Nat):ox n [] [] n
 |cons {n m:Nat} {o:Oper} {t:Tk} {r:List Oper} {ts:List Tk} (h:Bv o t) (e:t.n=n) (x:ox t.n1 r ts m):ox n (o::r) (t::ts) m
theorem ox.le{n m:Nat}{l:List Oper}{ts:List Tk}(x:ox n l ts m):n<=m:=by
 induction x with
 |nil n=>exact ak _
 |cons h e x ih=>have:=h.le;omega
theorem any_false{α:Type}{l:List α}{p:α->Bool}(h:∀x∈l,p x=false):l.any p=false:=by
 rw[List.any_eq_false]
 intro x hx
 rw[h x hx]
 exact Bool.false_ne_true
theorem Zq{a b:Oper}{ta tb:Tk}(xa:Bv a ta)(xb:Bv b tb)(hle:ta.n1<=tb.n)(hf:fits (kind a.op) (kind b.op)=true):ta.g8 tb=false:=by
 have ale:=xa.le
 have ble:=xb.le
 unfold fits at hf
 simp only[vF,beq_iff_eq,bZ]at hf
 unfold Tk.g8
 rcases hf with (((hf|hf)|hf)|hf)|hf
 ·obtain⟨h1,h2⟩:=xa.k0 hf
  rw[h1]
  simp only[W1,E4,WM,W2,vH]
  refine⟨any_false fun x _=>rfl,any_false fun x hx=> ?_⟩
  simp;omega
 ·obtain⟨h1,h2⟩:=xb.k0 hf
  rw[h1]
  simp only[W1,E4,vH,WM,W2]
  refine⟨any_false fun x _=>rfl,any_false fun x hx=> ?_⟩
  simp;omega
 ·obtain⟨h1,h2⟩:=xa.k1 hf.1
  obtain⟨h3,h4⟩:=xb.k1 hf.2
  simp only[vH]
  refine⟨⟨⟨any_false fun x hx=>by rw[h2 x hx];rfl,any_false fun x hx=>by rw[h4 x hx];rfl⟩,any_false fun x hx=> ?_⟩,any_false fun x hx=> ?_⟩
  ·simp;omega
  ·simp;omega
 ·rw[xa.k2 hf.1,xb.k2 hf.2];rfl
 ·obtain⟨h1,h2⟩:=xa.k1 hf.1
  have h3:=xb.k2 hf.2
  rw[h3]
  simp only[W1,E4,vH,W2]
  refine⟨any_false fun x _=>rfl,any_false fun x hx=> ?_⟩
  have:=xa.lt x hx
  simp;omega
theorem MQ{P:Program}{rec:FuncId->Array Value->M Value}{ops:Array Oper}{o:Oper}{s:S}(h:fK o (gy ops s)=true):fD P rec ops o s=(bU P (ev s) o).bind (wm rec):=by
 unfold fD
 rw[if_pos h]
 rfl
theorem Zr{P:Program}{rec:FuncId->Array Value->M Value}{ops:Array Oper}{o:Oper}{s:S}:QK (kind o.op) (fD P rec ops o s):=by
 by_cases h:fK o (gy ops s)=true
 ·rw[MQ h];exact Zp _ _ _ _
 ·unfold fD;rw[if_neg h];exact QK.jN (Q0.ret _) _
theorem filter_nil{α:Type}{L:List α}{p:α->Bool}(h:L=[]):L.filter p=[]:=by rw[h];rfl
theorem Gb{α:Type}{m:M α}{h h1:H}{n n1:Nat}{x:α×Tk}{L:List En}(hr:cz m h n=some ⟨x,h1,n1,L⟩):m h n=some ⟨x.1,h1,n1,L⟩∧x.2=⟨n,n1,L⟩:=by
 unfold cz at hr
 split at hr
 ·rename_i a h' n' L' e
  simp only[dV,Out.mk.injEq]at hr
  obtain⟨rfl,rfl,rfl,rfl⟩:=hr
  exact⟨e,rfl⟩
 ·cases hr
theorem yr{α:Type}{m:M α}{h h1:H}{n n1:Nat}{a:α}{L:List En}(e:m h n=some ⟨a,h1,n1,L⟩):cz m h n=some ⟨(a,⟨n,n1,L⟩),h1,n1,L⟩:=by
 unfold cz
 rw[e]
theorem Zs{P:Program}{rec:FuncId->Array Value->M Value}(fH:∀f a,Loc (rec f a)){nt:Nat}{ops:Array Oper}:∀(l:List Oper) (s:S) (h h1:H) (n n1:Nat) (y:S×List Tk) (L:List En),iB P rec nt ops l s h n=some ⟨y,h1,n1,L⟩->ox n l y.2 n1:=by
 intro l
 induction l with
 |nil=>
  intro s h h1 n n1 y L hr
  obtain⟨rfl,rfl,rfl⟩:=bI hr
  exact .nil _
 |cons o l ih=>
  intro s h h1 n n1 y L hr
  unfold iB at hr
  obtain⟨x,h2,n2,L1,L2,e1,e2,_⟩:=bind_some hr
  obtain⟨s2,h3,n3,L3,L4,e3,e4,_⟩:=bind_some e2
  obtain⟨z,h5,n5,L5,L6,e5,e6,_⟩:=bind_some e4
  obtain⟨rfl,rfl,rfl⟩:=bI e6
  obtain⟨_,rfl,rfl⟩:=pd e3
  obtain⟨g1,g2⟩:=Gb e1
  obtain⟨L',g3,rfl⟩:=tX g1
  have A:=Loc.inside (Loc.fD fH ops o s) h n _ _ _ _ g1
  have K:=Zr (P:=P) (rec:=rec) (ops:=ops) (o:=o) (s:=s)
  refine .cons ⟨?_, ?_,fun hk=> ?_,fun hk=> ?_,fun hk=> ?_⟩ ?_ ?_
  ·rw[g2];exact A.le
  ·rw[g2];exact A.lt
  ·obtain⟨q1,q2⟩:=K.1 hk _ _ _ _ _ _ g3
   rw[g2]
   exact⟨filter_nil q1,q2⟩
  ·obtain⟨q1,q2⟩:=K.2.1 hk _ _ _ _ _ _ g3
   rw[g2]
   exact⟨q1,fun e he=>q2 e (List.mem_filter.1 he).1⟩
  ·rw[g2]
   exact filter_nil (K.2.2 hk _ _ _ _ _ _ g3)
  ·rw[g2]
  ·rw[g2]
   exact ih _ _ _ _ _ _ _ e5
theorem Zt{n m:Nat}{l:List Oper}{ts:List Tk}(x:ox n l ts m):∀(i:Nat) (ti:Tk),ts[i]? =some ti->∃oi:Oper,l[i]? =some oi∧Bv oi ti∧n<=ti.n:=by
 induction x with
 |nil n=>intro i ti hi;simp at hi
 |cons h e x ih=>
  intro i ti hi
  cases i with
  |zero=>simp at hi;subst hi;exact⟨_,rfl,h,by omega⟩
  |succ i=>
   obtain⟨oi,g1,g2,g3⟩:=ih i ti (by simpa using hi)
   exact⟨oi,by simpa using g1,g2,by have:=h.le;omega⟩
theorem MR{ops:Array Oper}{cU:List Nat}:∀(l:List Oper) (ts:List Tk) (n m j:Nat),ox n l ts m->(∀i o,l[i]? =some o->ops.getD (j+i) default=o)->
 (∀p q op oq tp tq,p<q->l[p]? =some op->l[q]? =some oq->ts[p]? =some tp->ts[q]? =some tq->(cU.getD (j+q) 0).testBit (j+p)=true∨((fits (kind op.op) (kind oq.op)=true∨tp.g8 tq=false)∧o8 ops op oq=false))->o9 ops cU (tagged j ts)=true:=by
 intro l
 induction l with
 |nil=>
  intro ts n m j x _ _
  cases x
  rfl
 |cons o l ih=>
  intro ts n m j x hg hp
  cases x with
  |@cons _ _ _ t _ ts h e x=>
   unfold tagged o9
   simp only[bZ,K8]
   refine⟨?_,ih ts _ m (j+1) x (fun i o' hi=>by have:=hg (i+1) o' (by simpa using hi);rw[show j+1+i=j+(i+1) by omega];exact this) (fun p q op oq tp tq dO h1 h2 h3 h4=>by
    have:=hp (p+1) (q+1) op oq tp tq (by omega) (by simpa using h1) (by simpa using h2) (by simpa using h3) (by simpa using h4)
    rw[show j+1+q=j+(q+1) by omega,show j+1+p=j+(p+1) by omega]
    exact this)⟩
   intro z hz
   obtain⟨i,hi⟩:=List.mem_iff_getElem?.1 hz
   rw[Fv]at hi
   cases yu:ts[i]? with
   |none=>rw[yu]at hi;cases hi
   |some ti=>
    rw[yu]at hi
    simp only[Au,dV]at hi
    subst hi
    obtain⟨oi,g1,g2,g3⟩:=Zt x i ti yu
    have e1:=hg 0 o rfl
    have e2:=hg (i+1) oi (by simpa using g1)
    have hq:=hp 0 (i+1) o oi t ti (by omega) rfl (by simpa using g1) rfl (by simpa using yu)
    rw[mN]at e1 hq
    simp only[show j+1+i=j+(i+1) by omega,e1,e2,vF,bZ,Lj]
    rcases hq with hq|⟨hq,hs⟩
    ·exact .inl hq
    ·refine .inr ⟨?_,hs⟩
     rcases hq with hq|hq
     ·exact Zq h g2 g3 hq
     ·exact hq
theorem Zu{ops:Array Oper}{cU:List Nat}{j:Nat}{oj:Oper}:∀(l:List Oper) (k:Nat),Bp ops cU j oj k l=true->∀i o,l[i]? =some o->(cU.getD (k+i) 0).testBit j=true∨(fits (kind oj.op) (kind o.op)=true∧o8 ops oj o=false):=by
 intro l
 induction l with
 |nil=>intro k _ i o h;simp at h
 |cons o l ih=>
  intro k h i o' hi
  unfold Bp at h
  simp only[bZ,vF,Lj]at h
  cases i with
  |zero=>simp at hi;subst hi;exact h.1
  |succ i=>
   rw[show k+(i+1)=k+1+i by omega]
   exact ih (k+1) h.2 i o' (by simpa using hi)
theorem Zv{ops:Array Oper}{cU:List Nat}:∀(l:List Oper) (j:Nat),Bq ops cU j l=true->∀p q op oq,p<q->l[p]? =some op->l[q]? =some oq->(cU.getD (j+q) 0).testBit (j+p)=true∨(fits (kind op.op) (kind oq.op)=true∧o8 ops op oq=false):=by
 intro l
 induction l with
 |nil=>intro k _ p q op oq _ h;simp at h
 |cons o l ih=>
  intro j h p q op oq dO h1 h2
  unfold Bq at h
  simp only[bZ]at h
  cases q with
  |zero=>omega
  |succ q=>
   cases p with
   |zero=>
    simp at h1;subst h1
    have:=Zu l (j+1) h.1 q oq (by simpa using h2)
    rw[show j+(q+1)=j+1+q by omega,mN]
    exact this
   |succ p=>
    have:=ih (j+1) h.2 p q op oq (by omega) (by simpa using h1) (by simpa using h2)
    rw[show j+(q+1)=j+1+q by omega,show j+(p+1)=j+1+p by omega]
    exact this
theorem MS(ops:Array Oper)(i:Nat)(o:Oper)(h:ops.toList[i]? =some o):ops.getD (0+i) default=o:=by
 rw[gU]
 rw[Array.getElem?_toList]at h
 simp[Array.getD_eq_getD_getElem?,h]
theorem Zw{ops:Array Oper}{ts:List Tk}{n m:Nat}(x:ox n ops.toList ts m)(h:Br ops=true):rG ops=true∧o9 ops (lH ops.toList []) (tagged 0 ts)=true:=by
 unfold Br at h
 simp only[bZ]at h
 refine⟨h.1,MR ops.toList ts n m 0 x (MS ops) fun p q op oq tp tq dO h1 h2 h3 h4=> ?_⟩
 rcases Zv ops.toList 0 h.2 p q op oq dO h1 h2 with g|g
 ·exact .inl g
 ·exact .inr ⟨.inl g.1,g.2⟩
end Go.Proofs.YtdagfcflbphoiaaGreatDoor.Ev
namespace Go.Proofs.YtdagfcflbphoiaaGreatDoor.Ev
open Go Go.RowKit
theorem aV{x:Int}(h0:-9223372036854775808<=x)(h1:x<=9223372036854775807):IntKind.i64.wrap x=x:=IntWalk.i64_in x (by omega)
def oy(k:IntKind)(z:Int):Int:=match k,z with
 | .i64,.ofNat m=>match bh m 9223372036854775807 with
   |true=>z
   |false=>k.wrap z
 | .i64,.negSucc m=>match bh m 9223372036854775807 with
   |true=>z
   |false=>k.wrap z
 | .u8,.ofNat m=> .ofNat (m %256)
 | .u32,.ofNat m=> .ofNat (m %4294967296)
 | .u64,.ofNat m=> .ofNat (m %18446744073709551616)
 |_,_=>k.wrap z
theorem ke(k:IntKind)(z:Int):oy k z=k.wrap z:=by
 unfold oy
 split
 ·rename_i m
  cases h:bh m 9223372036854775807 with
  |true=>
   have:m<=9223372036854775807:=gx h
   exact(aV (x:=((m:Nat):Int)) (by omega) (by omega)).symm
  |false=>rfl
 ·rename_i m
  cases h:bh m 9223372036854775807 with
  |true=>
   have:m<=9223372036854775807:=gx h
   exact(aV (x:=ahw m) (by omega) (by omega)).symm
  |false=>rfl
 ·rename_i m
  show((m %256:Nat):Int)=IntKind.u8.wrap m
  simp[W3,E5,W4]
 ·rename_i m
  show((m %4294967296:Nat):Int)=IntKind.u32.wrap m
  simp[W3,E5,W4]
 ·rename_i m
  show((m %18446744073709551616:Nat):Int)=IntKind.u64.wrap m
  simp[W3,E5,W4]
 ·rfl
def Bw(a b:Int):Int:=match a,b with
 | .ofNat x,.ofNat y=> .ofNat (fR x y)
 |_,_=>a+b
theorem MT(a b:Int):Bw a b=a+b:=by unfold Bw;split<;>rfl
def Bx(a b:Int):Int:=match a,b with
 | .ofNat x,.ofNat y=>match bh y x with
   |true=> .ofNat (Lk x y)
   |false=> .negSucc (Lk (Lk y x) 1)
 |_,_=>a-b
theorem Bz(a b:Int):Bx a b=a-b:=by
 unfold Bx
 split
 ·rename_i x y
  cases h:bh y x with
  |true=>
   have:=gx h
   show((x-y:Nat):Int)=(x:Int)-y
   omega
  |false=>
   have:¬y<=x:=fun q=>by rw[lF q]at h;cases h
   show ahw (y-x-1)=(x:Int)-y
   omega
 ·rfl
def Gc(a b:Int):Int:=match a,b with
 | .ofNat x,.ofNat y=> .ofNat (Ll x y)
 |_,_=>a*b
theorem MU(a b:Int):Gc a b=a*b:=by unfold Gc;split<;>rfl
def pD(a b:Int):Bool:=match a,b with
 | .ofNat x,.ofNat y=>bN x y
 |_,_=>a==b
theorem rZ(a b:Int):pD a b=(a==b):=by
 unfold pD
 split
 ·rename_i x y
  cases h:bN x y with
  |true=>rw[kG h];simp
  |false=>
   have:x≠y:=W5 h
   symm
   rw[beq_eq_false_iff_ne]
   intro q
   exact this (ai8 q)
 ·rfl
def BA(a b:Int):Bool:=match a,b with
 | .ofNat x,.ofNat y=>bh x y
 |_,_=>decide (a<=b)
theorem BB(a b:Int):BA a b=decide (a<=b):=by
 unfold BA
 split
 ·rename_i x y
  cases h:bh x y with
  |true=>
   have:=gx h
   symm
   rw[decide_eq_true_eq]
   show(x:Int)<=y
   omega
  |false=>
   have:¬x<=y:=fun q=>by rw[lF q]at h;cases h
   symm
   rw[decide_eq_false_iff_not]
   show¬((x:Int)<=y)
   omega
 ·rfl
def wo(a b:Int):Bool:=match a,b with
 | .ofNat x,.ofNat y=>bh (fa x) y
 |_,_=>decide (a<b)
theorem r4(a b:Int):wo a b=decide (a<b):=by
 unfold wo
 split
 ·rename_i x y
  cases h:bh (fa x) y with
  |true=>
   have:=gx h
   symm
   rw[decide_eq_true_eq]
   show(x:Int)<y
   omega
  |false=>
   have:¬fa x<=y:=fun q=>by rw[lF q]at h;cases h
   symm
   rw[decide_eq_false_iff_not]
   show¬((x:Int)<y)
   omega
 ·rfl
def qD:List UInt8->List UInt8->Bool
 |[],[]=>true
 |a::l,b::m=>match bN a.toNat b.toNat with
  |true=>qD l m
  |false=>false
 |_,_=>false
theorem BC:∀a b:List UInt8,qD a b=decide (a=b)
 |[],[]=>rfl
 |a::l,b::m=>by
  unfold qD
  cases h:bN a.toNat b.toNat with
  |true=>
   have e:a=b:=UInt8.toNat_inj.1 (kG h)
   subst e
   simp only
   rw[BC l m]
   simp
  |false=>
   have e:a≠b:=fun q=>W5 h (by rw[q])
   symm
   rw[decide_eq_false_iff_not]
   intro q
   exact e (W6 q).1
 |[],_::_=>by unfold qD;simp
 |_::_,[]=>by unfold qD;simp
def BD:List UInt8->List UInt8->List UInt8
 |[],m=>m
 |a::l,m=>a::BD l m
theorem Ge:∀l m:List UInt8,BD l m=l++m
 |[],_=>rfl
 |a::l,m=>by unfold BD;rw[Ge l m];rfl
def kf:List UInt8->Nat
 |[]=>0
 |_::l=>fa (kf l)
theorem qE:∀l:List UInt8,kf l=l.length
 |[]=>rfl
 |_::l=>by unfold kf;rw[qE l];rfl
def qF:List UInt8->Nat->Option UInt8
 |[],_=>none
 |a::l,i=>match i with
  |0=>some a
  |i+1=>qF l i
theorem Gf:∀(l:List UInt8) (i:Nat) (b:UInt8),qF l i=some b->i<l.length∧l.getD i 0=b
 |[],_,_,h=>by cases h
 |a::l,0,b,h=>by
  unfold qF at h
  cases h
  exact⟨Nat.zero_lt_succ _,rfl⟩
 |a::l,i+1,b,h=>by
  unfold qF at h
  obtain⟨h1,h2⟩:=Gf l i b h
  exact⟨Nat.succ_lt_succ h1,h2⟩
def pE:IntKind->IntKind->Bool
 | .i64,.i64| .u8,.u8| .u32,.u32| .u64,.u64| .i8,.i8| .i16,.i16| .i32,.i32| .u16,.u16=>true
 |_,_=>false
theorem BE(k:IntKind):pE k k=true:=by cases k<;>rfl
theorem BF{a b:IntKind}(h:pE a b=true):a=b:=by cases a<;>cases b<;>first|rfl|cases h
def pw:IntKind->Nat
 | .i64| .u64=>18446744073709551616
 | .i32| .u32=>4294967296
 | .i16| .u16=>65536
 | .i8| .u8=>256
theorem Zx(k:IntKind):pw k=2^k.bits:=by cases k<;>rfl
theorem MV(w x:Nat):(di w (x:Int)).toNat=x %2^w:=by
 rw[BitVec.ofInt_natCast,BitVec.toNat_ofNat]
noncomputable def wq {α:Type}:Nat->Tr α->Nat->Option α
 |0,_,_=>none
 |_+1,.nil,_=>none
 |f+1,.node l v r,i=>match bN i 0 with
  |true=>v
  |false=>match bN (jE i 2) 1 with
   |true=>wq f l (jY i 2)
   |false=>wq f r (ru (jY i 2))
theorem r5(a b:Nat):bN a b=decide (a=b):=by
 cases h:bN a b with
 |true=>rw[kG h];simp
 |false=>have:=W5 h;simp[this]
theorem Gg{α:Type}:∀(f:Nat) (t:Tr α) (i:Nat),wq f t i=Tr.get f t i
 |0,_,_=>rfl
 |_+1,.nil,_=>rfl
 |f+1,.node l v r,i=>by
  unfold wq Tr.get
  rw[r5,r5]
  by_cases h0:i=0
  ·simp[h0]
  ·by_cases h1:i %2=1
   ·have dX:jE i 2=1:=h1
    simp only[h0,h1,dX,decide_true,decide_false,if_true,if_false]
    exact Gg f l (i/2)
   ·have dX:¬jE i 2=1:=h1
    simp only[h0,h1,dX,decide_false,if_false]
    exact Gg f r (i/2-1)
noncomputable def mr {α:Type}:Nat->Tr α->Nat->Option α->Tr α
 |0,t,_,_=>t
 |f+1,.nil,i,a=>match bN i 0 with
  |true=> .node .nil a .nil
  |false=>match bN (jE i 2) 1 with
   |true=> .node (mr f .nil (jY i 2) a) none .nil
   |false=> .node .nil none (mr f .nil (ru (jY i 2)) a)
 |f+1,.node l v r,i,a=>match bN i 0 with
  |true=> .node l a r
  |false=>match bN (jE i 2) 1 with
   |true=> .node (mr f l (jY i 2) a) v r
   |false=> .node l v (mr f r (ru (jY i 2)) a)
theorem yv{α:Type}:∀(f:Nat) (t:Tr α) (i:Nat) (a:Option α),mr f t i a=Tr.set f t i a
 |0,_,_,_=>rfl
 |f+1,.nil,i,a=>by
  unfold mr Tr.set
  rw[r5,r5]
  by_cases h0:i=0
  ·simp[h0]
  ·by_cases h1:i %2=1
   ·have dX:jE i 2=1:=h1
    simp only[h0,h1,dX,decide_true,decide_false,if_true,if_false]
    rw[yv f .nil];rfl
   ·have dX:¬jE i 2=1:=h1
    simp only[h0,h1,dX,decide_false,if_false]
    rw[yv f .nil];rfl
 |f+1,.node l v r,i,a=>by
  unfold mr Tr.set
  rw[r5,r5]
  by_cases h0:i=0
  ·simp[h0]
  ·by_cases h1:i %2=1
   ·have dX:jE i 2=1:=h1
    simp only[h0,h1,dX,decide_true,decide_false,if_true,if_false]
    rw[yv f l];rfl
   ·have dX:¬jE i 2=1:=h1
    simp only[h0,h1,dX,decide_false,if_false]
    rw[yv f r];rfl
noncomputable def BG {α:Type} (t:Tr α):Nat->Option α:=Tr.rec (motive:=fun _=>Nat->Option α) (fun _=>none) (fun _ v _ yw Gh i=>match bN i 0 with
 |true=>v
 |false=>match bN (jE i 2) 1 with
  |true=>yw (jY i 2)
  |false=>Gh (ru (jY i 2))) t
theorem Gi{α:Type}:∀(t:Tr α) (f i:Nat),i<f->BG t i=wq f t i
 | .nil,0,i,h=>by omega
 | .nil,f+1,i,h=>rfl
 | .node l v r,0,i,h=>by omega
 | .node l v r,f+1,i,h=>by
   show(match bN i 0 with
    |true=>v
    |false=>match bN (jE i 2) 1 with
     |true=>BG l (jY i 2)
     |false=>BG r (ru (jY i 2)))=_
   unfold wq
   cases h0:bN i 0 with
   |true=>rfl
   |false=>
    have hi:i≠0:=fun q=>by subst q;simp at h0
    have h1:i/2<f:=by omega
    have h2:jY i 2=i/2:=rfl
    have h3:ru (i/2)=i/2-1:=rfl
    simp only[h2,h3]
    rw[Gi l f (i/2) h1,Gi r f (i/2-1) (by omega)]
noncomputable def BH {α:Type} (t:Tr α):Nat->Option α->Tr α:=Tr.rec (motive:=fun _=>Nat->Option α->Tr α) (fun i a=>mr (fa i) .nil i a) (fun l v r yw Gh i a=>match bN i 0 with
 |true=> .node l a r
 |false=>match bN (jE i 2) 1 with
  |true=> .node (yw (jY i 2) a) v r
  |false=> .node l v (Gh (ru (jY i 2)) a)) t
theorem Gj{α:Type}(a:Option α):∀(f i g:Nat),i<f->i<g->mr f .nil i a=mr g .nil i a
 |0,_,_,h,_=>by omega
 |f+1,_,0,_,h=>by omega
 |f+1,i,g+1,h,h'=>by
  unfold mr
  cases h0:bN i 0 with
  |true=>rfl
  |false=>
   have hi:i≠0:=fun q=>by subst q;simp at h0
   have h2:jY i 2=i/2:=rfl
   have h3:ru (i/2)=i/2-1:=rfl
   simp only[h2,h3]
   rw[Gj a f (i/2) g (by omega) (by omega),Gj a f (i/2-1) g (by omega) (by omega)]
theorem Gk{α:Type}(a:Option α):∀(t:Tr α) (f i:Nat),i<f->BH t i a=mr f t i a
 | .nil,f,i,h=>Gj a _ _ _ (gX i) h
 | .node l v r,0,i,h=>by omega
 | .node l v r,f+1,i,h=>by
   show(match bN i 0 with
    |true=>Tr.node l a r
    |false=>match bN (jE i 2) 1 with
     |true=>Tr.node (BH l (jY i 2) a) v r
     |false=>Tr.node l v (BH r (ru (jY i 2)) a))=_
   unfold mr
   cases h0:bN i 0 with
   |true=>rfl
   |false=>
    have hi:i≠0:=fun q=>by subst q;simp at h0
    have h2:jY i 2=i/2:=rfl
    have h3:ru (i/2)=i/2-1:=rfl
    simp only[h2,h3]
    rw[Gk a l f (i/2) (by omega),Gk a r f (i/2-1) (by omega)]
noncomputable def lQ (h:H) (b:Nat):Option AB:=BG h b
theorem r7(h:H)(b:Nat):lQ h b=h.get b:=(Gi h (b+1) b (gX b)).trans (Gg _ _ _)
noncomputable def j5 (h:H) (b:Nat) (x:Option AB):H:=BH h b x
theorem Gm(h:H)(b:Nat)(x:Option AB):j5 h b x=h.set b x:=(Gk x h (b+1) b (gX b)).trans (yv _ _ _ _)
theorem qG(a b:Nat):bh a b=decide (a<=b):=by
 cases h:bh a b with
 |true=>have:=gx h;simp[this]
 |false=>
  have:¬a<=b:=fun q=>by rw[lF q]at h;cases h
  simp[this]
noncomputable def r8 (l:List Value):Nat->Option Value:=AE (motive:=fun _=>Nat->Option Value) (fun _=>none) (fun a _ ih i=>W7 (motive:=fun _=>Option Value) (some a) (fun j _=>ih j) i) l
theorem BI:∀(l:List Value) (i:Nat),r8 l i=l[i]?
 |[],_=>rfl
 |_::_,0=>rfl
 |a::l,i+1=>by
  show r8 l i=_
  rw[BI l i];rfl
noncomputable def Gn (l:List Value):Nat->Value->Option (List Value):=AE (motive:=fun _=>Nat->Value->Option (List Value)) (fun _ _=>none) (fun a l ih i v=>W7 (motive:=fun _=>Option (List Value)) (some (v::l)) (fun j _=>match ih j v with
 |some l'=>some (a::l')
 |none=>none) i) l
theorem MW:∀(l:List Value) (i:Nat) (v:Value),Gn l i v=if i<l.length then some (l.set i v)else none
 |[],i,v=>by show none=_;simp
 |a::l,0,v=>by show some (v::l)=_;simp
 |a::l,i+1,v=>by
  show(match Gn l i v with
   |some l'=>some (a::l')
   |none=>none)=_
  rw[MW l i v]
  by_cases h:i<l.length
  ·simp[h]
  ·simp[h]
noncomputable def wu (b k:Nat):M Value:=fun h n=>match bh (fa b) n with
 |true=>match lQ h b with
  |some B=>match r8 B.cells k with
   |some v=>some ⟨v,h,n,[⟨false,b,some k⟩]⟩
   |none=>none
  |none=>none
 |false=>none
theorem BJ:wu=rd:=by
 funext b k h n
 unfold wu rd
 rw[qG,r7]
 by_cases hb:b<n
 ·have:b.succ<=n:=hb
  simp only[hb,this,decide_true,if_true]
  cases h.get b with
  |none=>rfl
  |some B=>simp only[BI];rfl
 ·have:¬b.succ<=n:=hb
  simp only[hb,this,decide_false,if_false]
noncomputable def tZ (b k:Nat) (v:Value):M Unit:=fun h n=>match bh (fa b) n with
 |true=>match lQ h b with
  |some B=>match B.own with
   |true=>match one v with
    |true=>match Gn B.cells k v with
     |some cs=>some ⟨(),j5 h b (some ⟨B.elem,true,cs⟩),n,[⟨false,b,some k⟩,⟨true,b,some k⟩]⟩
     |none=>none
    |false=>none
   |false=>none
  |none=>none
 |false=>none
theorem BK:tZ=wr:=by
 funext b k v h n
 unfold tZ wr
 rw[qG,r7]
 by_cases hb:b<n
 ·have:b.succ<=n:=hb
  simp only[hb,this,decide_true,if_true]
  cases h.get b with
  |none=>rfl
  |some B=>
   obtain⟨e,o,cs⟩:=B
   simp only[MW,Gm]
   cases o with
   |false=>simp
   |true=>
    cases h1:one v with
    |false=>simp
    |true=>
     by_cases hk:k<cs.length
     ·simp[hk]
     ·simp[hk]
 ·have:¬b.succ<=n:=hb
  simp only[hb,this,decide_false,if_false]
noncomputable def kg (e:TypeId) (cs:List Value):M Nat:=fun h n=>some ⟨n,j5 h n (some ⟨e,true,cs⟩),fa n,[]⟩
theorem nu:kg=cR:=by
 funext e cs h n
 unfold kg cR
 rw[if_pos (gX n),Gm]
noncomputable def yx (b:Nat):M TypeId:=fun h n=>match bh (fa b) n with
 |true=>match lQ h b with
  |some B=>some ⟨B.elem,h,n,[⟨false,b,some 1099511627776⟩]⟩
  |none=>none
 |false=>none
theorem yy:yx=iA:=by
 funext b h n
 unfold yx iA
 rw[qG,r7]
 by_cases hb:b<n
 ·have:b.succ<=n:=hb
  simp only[hb,this,decide_true,if_true]
  rfl
 ·have:¬b.succ<=n:=hb
  simp only[hb,this,decide_false,if_false]
noncomputable def Gp (b:Nat):M Unit:=fun h n=>match bh (fa b) n with
 |true=>match lQ h b with
  |some B=>match B.own with
   |true=>some ⟨(),j5 h b none,n,[⟨false,b,none⟩,⟨true,b,none⟩]⟩
   |false=>none
  |none=>none
 |false=>none
theorem MX:Gp=kill:=by
 funext b h n
 unfold Gp kill
 rw[qG,r7]
 by_cases hb:b<n
 ·have:b.succ<=n:=hb
  simp only[hb,this,decide_true,if_true]
  cases h.get b with
  |none=>rfl
  |some B=>
   simp only[Gm]
   cases B.own<;>simp
 ·have:¬b.succ<=n:=hb
  simp only[hb,this,decide_false,if_false]
noncomputable def pF (b k:Nat):List Value->M Unit
 |[]=> .ret ()
 |v::vs=>(tZ b k v).bind fun _=>pF b (fa k) vs
theorem MY(b:Nat):∀(vs:List Value) (k:Nat),pF b k vs=eD b k vs
 |[],_=>rfl
 |v::vs,k=>by
  unfold pF eD
  rw[BK,MY b vs (fa k)]
theorem BL:pF=eD:=by funext b k vs;exact MY b vs k
noncomputable def fi (l:List Value):Nat:=AE (motive:=fun _=>Nat) 0 (fun _ _ ih=>fa ih) l
theorem mu:∀l:List Value,fi l=l.length
 |[]=>rfl
 |a::l=>by
  show fa (fi l)=_
  rw[mu l];rfl
noncomputable def BM (b k:Nat):Nat->List En
 |0=>[]
 |c+1=>⟨false,b,some k⟩::BM b (k+1) c
noncomputable def iZ (b k c:Nat):M (List Value):=fun h n=>match c with
 |0=>some ⟨[],h,n,[]⟩
 |c+1=>match bh (fa b) n with
  |true=>match lQ h b with
   |some B=>match bh (fR k (c+1)) (fi B.cells)with
    |true=>some ⟨(B.cells.drop k).take (c+1),h,n,BM b k (c+1)⟩
    |false=>none
   |none=>none
  |false=>none
theorem MZ(b:Nat)(h:H)(n:Nat):∀c k:Nat,iZ b k c h n=db b k c h n
 |0,_=>rfl
 |c+1,k=>by
  have ih:=MZ b h n c (k+1)
  have e0:db b k (c+1) h n=((rd b k).bind fun v=>(db b (k+1) c).bind fun vs=>M.ret (v::vs)) h n:=rfl
  rw[e0]
  unfold M.bind
  cases hb:bh (fa b) n with
  |false=>
   have bf:¬b<n:=fun q=>by rw[lF q]at hb;cases hb
   have ua:rd b k h n=none:=by unfold rd;rw[if_neg bf]
   have hl:iZ b k (c+1) h n=none:=by unfold iZ;simp only[hb]
   rw[hl];simp only[ua]
  |true=>
   have bf:b<n:=gx hb
   cases hg:h.get b with
   |none=>
    have ua:rd b k h n=none:=by unfold rd;rw[if_pos bf,hg]
    have hl:iZ b k (c+1) h n=none:=by unfold iZ;simp only[hb,r7,hg]
    rw[hl];simp only[ua]
   |some B=>
    cases hv:B.cells[k]? with
    |none=>
     have hle:B.cells.length<=k:=List.getElem?_eq_none_iff.1 hv
     have hq:bh (fR k (c+1)) (fi B.cells)=false:=by
      rw[mu]
      cases hq:bh (fR k (c+1)) B.cells.length with
      |false=>rfl
      |true=>
       have:=gx hq
       have e:fR k (c+1)=k+(c+1):=rfl
       omega
     have ua:rd b k h n=none:=by unfold rd;rw[if_pos bf,hg];simp only[hv]
     have hl:iZ b k (c+1) h n=none:=by unfold iZ;simp only[hb,r7,hg,hq]
     rw[hl];simp only[ua]
    |some v=>
     have M0:k<B.cells.length:=(List.getElem?_eq_some_iff.1 hv).1
     have hd:B.cells.drop k=v::B.cells.drop (k+1):=by
      rw[List.drop_eq_getElem_cons M0]
      rw[aR M0]at hv
      cases hv
      rfl
     have ua:rd b k h n=some ⟨v,h,n,[⟨false,b,some k⟩]⟩:=by
      unfold rd
      rw[if_pos bf,hg]
      simp only[hv]
     simp only[ua,<-ih]
     match c with
     |0=>
      have hq:bh (fR k (0+1)) (fi B.cells)=true:=by
       rw[mu]
       exact lF (by show k+1<=_;omega)
      unfold iZ
      simp only[hb,r7,hg,hq,hd]
      simp[BM,M.ret]
     |c+1=>
      have e:fR k (c+1+1)=fR (k+1) (c+1):=by
       show k+(c+1+1)=k+1+(c+1)
       omega
      unfold iZ
      simp only[hb,r7,hg,e]
      cases bh (fR (k+1) (c+1)) (fi B.cells)with
      |false=>rfl
      |true=>
       simp only[M.ret,hd,List.take_succ_cons]
       simp[BM]
theorem r9:iZ=db:=by funext b k c h n;exact MZ b h n c k
noncomputable def nv:List Value->Option (List UInt8)
 |[]=>some []
 | .int .u8 n::r=>match nv r with
   |some l=>some (nM n.toNat::l)
   |none=>none
 |_=>none
theorem Zy:∀(vs:List Value) (acc:List UInt8),bytesOf vs ⟨⟨acc⟩⟩=(nv vs).map fun l=>⟨⟨acc++l⟩⟩:=by
 intro vs
 induction vs with
 |nil=>intro acc;simp[bytesOf,nv]
 |cons v r ih=>
  intro acc
  cases v<;>try rfl
  rename_i k n
  cases k<;>try rfl
  show bytesOf r (W8 ⟨⟨acc⟩⟩ (nM n.toNat))=Option.map _ (match nv r with
   |some l=>some (nM n.toNat::l)
   |none=>none)
  have e:(W8 ⟨⟨acc⟩⟩ (nM n.toNat))=⟨⟨acc++[nM n.toNat]⟩⟩:=by
   apply ByteArray.ext
   simp[W8]
  rw[e,ih]
  cases nv r with
  |none=>rfl
  |some l=>simp
noncomputable def M1:Value->M Value
 | .slice (some ⟨b,off,none⟩) len _=>(iZ b off len).bind fun vs=>match nv vs with
   |some l=> .ret (.string ⟨⟨l⟩⟩)
   |none=> .fail
 |x=>mX x
theorem Zz:M1=mX:=by
 funext x
 unfold M1
 split
 ·rename_i b off len c
  unfold mX
  rw[r9]
  congr 1
  funext vs
  have:=Zy vs []
  have e:(ai9)=⟨⟨[]⟩⟩:=rfl
  rw[e,this]
  cases nv vs with
  |none=>rfl
  |some l=>simp
 ·rfl
noncomputable def wx (sz:Nat) (n:Nat):Value->M (List Value)
 | .slice (some ⟨b,off,none⟩) _ _=>iZ b off (n*sz)
 | .string ⟨⟨l⟩⟩=> .ret ((l.take n).map fun b=>iy .u8 (.ofNat b.toNat))
 |_=> .fail
theorem yz:wx=kI:=by
 funext sz n x
 cases x<;>try rfl
 ·rename_i s
  obtain⟨⟨l⟩⟩:=s
  unfold wx kI
  simp only
  congr 1
  simp[WW]
 ·rename_i a len cap
  cases a with
  |none=>rfl
  |some a=>
   obtain⟨b,off,p⟩:=a
   cases p with
   |none=>unfold wx kI;rw[r9]
   |some p=>rfl
noncomputable def over:List Value->List Value->List Value
 |[],cs=>cs
 |x::l,cs=>match cs with
  |[]=>[]
  |_::cs=>x::over l cs
noncomputable def pG:List Value->Nat->List Value->List Value
 |cs,0,l=>over l cs
 |[],_+1,_=>[]
 |a::cs,off+1,l=>a::pG cs off l
noncomputable def oz:List Value->Nat->List Value->List Value
 |cs,_,[]=>cs
 |cs,off,x::l=>oz (cs.set off x) (off+1) l
theorem Gq(a:Value):∀(l cs:List Value) (off:Nat),oz (a::cs) (off+1) l=a::oz cs off l
 |[],_,_=>rfl
 |x::l,cs,off=>by
  show oz ((a::cs).set (off+1) x) (off+1+1) l=a::oz (cs.set off x) (off+1) l
  rw[List.set_cons_succ]
  exact Gq a l _ _
theorem Gr:∀(l:List Value) (off:Nat),oz [] off l=[]
 |[],_=>rfl
 |x::l,off=>by
  show oz (([]:List Value).set off x) (off+1) l=[]
  rw[List.set_nil]
  exact Gr l _
theorem Gs:∀(l cs:List Value),over l cs=oz cs 0 l
 |[],_=>rfl
 |x::l,[]=>by rw[Gr];rfl
 |x::l,c::cs=>by
  show x::over l cs=oz ((c::cs).set 0 x) (0+1) l
  rw[List.set_cons_zero,Gq,Gs l cs]
theorem Gt:∀(off:Nat) (cs l:List Value),pG cs off l=oz cs off l
 |0,cs,l=>by
  have:pG cs 0 l=over l cs:=by cases cs<;>rfl
  rw[this];exact Gs l cs
 |off+1,[],l=>by rw[Gr];rfl
 |off+1,a::cs,l=>by
  rw[Gq]
  show a::pG cs off l=_
  rw[Gt off cs l]
theorem M3(off:Nat):∀(l:List Value) (j:Nat) (cells:Array Value),((l.zipIdx j).foldl (fun cs (x:Value×Nat)=>cs.setIfInBounds (off+x.2) x.1) cells).toList=oz cells.toList (off+j) l
 |[],_,_=>rfl
 |x::l,j,cells=>by
  rw[List.zipIdx_cons,List.foldl_cons,M3 off l (j+1)]
  rw[Array.toList_setIfInBounds]
  rfl
noncomputable def dj:Value->List Value
 | .agg ⟨l⟩=>l
 |v=>[v]
theorem oA(v:Value):dj v=v.cells.toList:=by
 cases v<;>rfl
noncomputable def sd (place:Nat->Option (Nat×Nat)) (cells:List Value):List (Nat×Value)->Option (List Value)
 |[]=>some cells
 |(i,v)::rest=>match place i with
  |none=>none
  |some (off,size)=>match bN (fi (dj v)) size&&bh (fR off (fi (dj v))) (fi cells)with
   |true=>sd place (pG cells off (dj v)) rest
   |false=>none
theorem BN(place:Nat->Option (Nat×Nat)):∀(parts:List (Nat×Value)) (cells:Array Value),sd place cells.toList parts=(lB place cells parts).map (·.toList)
 |[],_=>rfl
 |(i,v)::rest,cells=>by
  unfold sd lB
  cases place i with
  |none=>rfl
  |some q=>
   obtain⟨off,size⟩:=q
   simp only
   rw[mu,mu,oA,r5,qG]
   have e1:v.cells.toList.length=v.cells.size:=by simp
   have e2:cells.toList.length=cells.size:=by simp
   rw[e1,e2]
   by_cases h1:v.cells.size=size
   ·by_cases h2:off+v.cells.size<=cells.size
    ·have kK:fR off v.cells.size<=cells.size:=h2
     have h3:¬off+v.cells.size>cells.size:=by omega
     rw[if_neg (by simp[h1];omega)]
     simp only[h1,kK,decide_true,Bool.and_true]
     rw[<-h1]
     simp only[kK,decide_true,Bool.true_and]
     rw[<-BN place rest]
     congr 1
     rw[Gt]
     have:=M3 off v.cells.toList 0 cells
     rw[mN]at this
     rw[<-this]
     congr 1
     rw[<-Array.foldl_toList,Array.toList_zipIdx]
    ·have kK:¬fR off v.cells.size<=cells.size:=h2
     rw[if_pos (by simp[h1];omega)]
     simp[h2,kK]
   ·rw[if_pos (by simp[h1])]
    simp[h1]
noncomputable def ZA (v:Value) (n:Nat):List Value:=W7 (motive:=fun _=>List Value) [] (fun _ ih=>v::ih) n
noncomputable def BO (a b:List Value):List Value:=AE (motive:=fun _=>List Value) b (fun v _ ih=>v::ih) a
noncomputable def ub (n n1:Nat) (L L2:List En):List En:=AE (motive:=fun _=>List En) L2 (fun e _ ih=>match bh n e.b with
 |true=>(match bh (fa e.b) n1 with
  |true=>ih
  |false=>e::ih)
 |false=>e::ih) L
theorem M4(n n1:Nat)(L2:List En):∀L:List En,ub n n1 L L2=(L.filter fun e=> !(decide (n<=e.b)&&decide (e.b<n1)))++L2
 |[]=>rfl
 |e::L=>by
  show(match bh n e.b with
   |true=>(match bh (fa e.b) n1 with
    |true=>ub n n1 L L2
    |false=>e::ub n n1 L L2)
   |false=>e::ub n n1 L L2)=_
  rw[M4 n n1 L2 L,List.filter_cons,qG,qG]
  by_cases h1:n<=e.b
  ·by_cases h2:e.b<n1
   ·have h3:e.b.succ<=n1:=h2
    simp[h1,h2,h3]
   ·have h3:¬e.b.succ<=n1:=h2
    simp[h1,h2,h3]
  ·simp[h1]
noncomputable def eN {α β:Type} (m:M α) (k:α->M β):M β:=fun h n=>match m h n with
 |some ⟨a,h1,n1,L⟩=>(match k a h1 n1 with
  |some ⟨b,h2,n2,L2⟩=>some ⟨b,h2,n2,ub n n1 L L2⟩
  |none=>none)
 |none=>none
theorem ki{α β:Type}(m:M α)(k:α->M β):eN m k=(inside m).bind k:=by
 funext h n
 unfold eN M.bind inside
 cases hm:m h n with
 |none=>simp only[hm]
 |some o=>
  obtain⟨a,h1,n1,L⟩:=o
  simp only[hm,M4]
  rfl
noncomputable def qH (p:En->Bool) (L:List En):Bool:=AE (motive:=fun _=>Bool) false (fun e _ ih=>match p e with
 |true=>true
 |false=>ih) L
theorem Gu(p:En->Bool):∀L:List En,qH p L=L.any p
 |[]=>rfl
 |e::L=>by
  show(match p e with
   |true=>true
   |false=>qH p L)=_
  rw[Gu p L,List.any_cons]
  cases p e<;>rfl
noncomputable def wy (a b:Bool):Bool:=match a with
 |true=>b
 |false=>false
theorem M5(a b:Bool):wy a b=(a&&b):=by cases a<;>rfl
noncomputable def BP (x y:En):Bool:=match bN x.b y.b with
 |true=>(x.k==y.k||x.k.isNone||y.k.isNone)
 |false=>false
theorem ZB(x y:En):BP x y=x.meets y:=by
 unfold BP En.meets
 rw[r5]
 by_cases h:x.b=y.b
 ·simp[h]
 ·have:(x.b==y.b)=false:=by simpa using h
  simp[h]
noncomputable def mv (a b:Tk):Bool:=
 match qH (fun x=>wy x.wr (qH (fun y=>BP x y) b.log)) a.log with
 |true=>true
 |false=>match qH (fun x=>wy x.wr (qH (fun y=>BP x y) a.log)) b.log with
  |true=>true
  |false=>match qH (fun x=>wy (bh b.n x.b) (bh (fa x.b) b.n1)) a.log with
   |true=>true
   |false=>qH (fun x=>wy (bh a.n x.b) (bh (fa x.b) a.n1)) b.log
theorem yA(a b:Tk):mv a b=a.g8 b:=by
 have key:∀(n n1:Nat) (L:List En),(qH (fun x=>wy (bh n x.b) (bh (fa x.b) n1)) L)=L.any fun x=>decide (n<=x.b)&&decide (x.b<n1):=fun n n1 L=>by
  rw[Gu]
  congr 1
  funext x
  rw[M5,qG,qG]
  rfl
 unfold mv Tk.g8
 rw[key,key]
 simp only[Gu,M5,ZB]
 cases (a.log.any fun x=>x.wr&&b.log.any fun y=>x.meets y)<;>cases (b.log.any fun x=>x.wr&&a.log.any fun y=>x.meets y)<;>cases (a.log.any fun x=>decide (b.n<=x.b)&&decide (x.b<b.n1))<;>simp
noncomputable section
variable {β:Type}
def kj(f:IntKind->Int->Int->Value)(x y:Value)(k:Value->M β):M β:=match x with
 | .int a p=>match y with
   | .int b q=>match pE a b with
     |true=>k (f a p q)
     |false=> .fail
   |_=> .fail
 |_=> .fail
def uc(f:Nat->Nat->Nat)(x y:Value)(k:Value->M β):M β:=match x with
 | .int a (.ofNat p)=>match y with
   | .int b (.ofNat q)=>match pE a b with
     |true=>k (.int a (oy a (.ofNat (f (jE p (pw a)) (jE q (pw a))))))
     |false=> .fail
   |_=> .fail
 |_=> .fail
def aN(x y:Value)(k:Value->M β):M β:=match x with
 | .string ⟨⟨a⟩⟩=>match y with
   | .string ⟨⟨b⟩⟩=>match bh (fR (kf a) (kf b)) 9223372036854775807 with
     |true=>k (.string ⟨⟨BD a b⟩⟩)
     |false=> .fail
   |_=> .fail
 |x=>kj (fun k a b=> .int k (oy k (Bw a b))) x y k
def cH(x y:Value)(k:Value->M β):M β:=kj (fun k a b=> .int k (oy k (Bx a b))) x y k
def kU(x y:Value)(k:Value->M β):M β:=kj (fun k a b=> .int k (oy k (Gc a b))) x y k
def dg(x y:Value)(k:Value->M β):M β:=match x with
 | .string ⟨⟨a⟩⟩=>match y with
   | .string ⟨⟨b⟩⟩=>k (.bool (qD a b))
   |_=> .fail
 |x=>kj (fun _ a b=> .bool (pD a b)) x y k
def dh(x y:Value)(k:Value->M β):M β:=match x with
 | .string ⟨⟨a⟩⟩=>match y with
   | .string ⟨⟨b⟩⟩=>k (.bool (!qD a b))
   |_=> .fail
 |x=>kj (fun _ a b=> .bool (!pD a b)) x y k
def aO(x y:Value)(k:Value->M β):M β:=kj (fun _ a b=> .bool (wo a b)) x y k
def ko(x y:Value)(k:Value->M β):M β:=kj (fun _ a b=> .bool (BA a b)) x y k
def gF(x y:Value)(k:Value->M β):M β:=kj (fun _ a b=> .bool (wo b a)) x y k
def ig(x y:Value)(k:Value->M β):M β:=kj (fun _ a b=> .bool (BA b a)) x y k
def yB(x y:Value)(k:Value->M β):M β:=uc Nat.land x y k
def BQ(x y:Value)(k:Value->M β):M β:=uc Nat.lor x y k
def M6(x y:Value)(k:Value->M β):M β:=uc Nat.xor x y k
def se(x y:Value)(k:Value->M β):M β:=match x with
 | .int a (.ofNat p)=>match y with
   | .int _ (.ofNat q)=>k (.int a (oy a (.ofNat (Ll p (ahy 2 (Nat.min q a.bits))))))
   |_=> .fail
 |_=> .fail
def ny(x y:Value)(k:Value->M β):M β:=match x with
 | .int a (.ofNat p)=>match y with
   | .int _ (.ofNat q)=>k (.int a (.ofNat (jY p (ahy 2 (Nat.min q a.bits)))))
   |_=> .fail
 |_=> .fail
def pH(x y:Value)(k:Value->M β):M β:=match x with
 | .int a p=>match y with
   | .int b q=>match pE a b with
     |true=>match pD q 0 with
      |true=> .fail
      |false=>k (.int a (oy a (Int.tdiv p q)))
     |false=> .fail
   |_=> .fail
 |_=> .fail
def ud(x y:Value)(k:Value->M β):M β:=match x with
 | .int a p=>match y with
   | .int b q=>match pE a b with
     |true=>match pD q 0 with
      |true=> .fail
      |false=>k (.int a (Int.tmod p q))
     |false=> .fail
   |_=> .fail
 |_=> .fail
def Gv(x y:Value)(k:Value->M β):M β:=match x with
 | .bool a=>match y with
   | .bool b=>k (.bool (match a with
     |true=>b
     |false=> !b))
   |_=> .fail
 |_=> .fail
def BR(x y:Value)(k:Value->M β):M β:=match x with
 | .bool a=>match y with
   | .bool b=>k (.bool (match a with
     |true=> !b
     |false=>b))
   |_=> .fail
 |_=> .fail
def BT(f:Bool->Bool)(x y:Value)(k:Value->M β):M β:=match x with
 | .pointer none=>match y with
   | .pointer b=>k (.bool (f b.isNone))
   |_=> .fail
 | .pointer (some _)=>match y with
   | .pointer none=>k (.bool (f false))
   |_=> .fail
 |_=> .fail
def BU(f:Bool->Bool)(x y:Value)(k:Value->M β):M β:=match x with
 | .slice none _ _=>match y with
   | .slice b _ _=>k (.bool (f b.isNone))
   |_=> .fail
 | .slice (some _) _ _=>match y with
   | .slice none _ _=>k (.bool (f false))
   |_=> .fail
 |_=> .fail
def BV(f:Bool->Bool)(x y:Value)(k:Value->M β):M β:=match x with
 | .nilFunc=>match y with
   | .nilFunc=>k (.bool (f true))
   | .func _ _ _=>k (.bool (f false))
   |_=> .fail
 | .func _ _ _=>match y with
   | .nilFunc=>k (.bool (f false))
   |_=> .fail
 |_=> .fail
def fz(x y:Value)(k:Value->M β):M β:=BT (fun b=>b) x y k
def ue(x y:Value)(k:Value->M β):M β:=BT (fun b=> !b) x y k
def yC(x y:Value)(k:Value->M β):M β:=BU (fun b=>b) x y k
def BW(x y:Value)(k:Value->M β):M β:=BU (fun b=> !b) x y k
def Gw(x y:Value)(k:Value->M β):M β:=BV (fun b=>b) x y k
def Gx(x y:Value)(k:Value->M β):M β:=BV (fun b=> !b) x y k
def et(x:Value)(k:Value->M β):M β:=match x with
 | .bool b=>k (.bool (!b))
 |_=> .fail
def BX(x:Value)(k:Value->M β):M β:=match x with
 | .int a p=>k (.int a (oy a (Bx 0 p)))
 |_=> .fail
def gG(kd:IntKind)(x:Value)(k:Value->M β):M β:=match x with
 | .int _ p=>k (.int kd (oy kd p))
 |_=> .fail
def M7(x:Value)(k:Value->M β):M β:=match x with
 | .string s=>k (.string s)
 |_=> .fail
def aW(x:Value)(k:Value->M β):M β:=match x with
 | .slice _ n _=>k (.int .i64 (.ofNat n))
 |_=> .fail
def wz(x:Value)(k:Value->M β):M β:=match x with
 | .string ⟨⟨l⟩⟩=>k (.int .i64 (.ofNat (kf l)))
 |_=> .fail
def sq(x y:Value)(k:Value->M β):M β:=match x with
 | .int a p=>match y with
   | .int _ q=>k (.int a (match wo q p with
     |true=>q
     |false=>p))
   |_=> .fail
 |_=> .fail
def uf(x y:Value)(k:Value->M β):M β:=match x with
 | .int a p=>match y with
   | .int _ q=>k (.int a (match wo p q with
     |true=>q
     |false=>p))
   |_=> .fail
 |_=> .fail
def Gy(c a b:Value)(k:Value->M β):M β:=match c with
 | .bool true=>k a
 | .bool false=>k b
 |_=> .fail
def az(x:Value)(k:Value->M β):M β:=match x with
 | .pointer (some a)=>k (.pointer (some a))
 | .func (.func f) a b=>k (.func (.func f) a b)
 |_=> .fail
def ay(K:Nat)(x:Value)(k:Value->M β):M β:=match x with
 | .pointer (some ⟨b,off,none⟩)=>k (.pointer (some ⟨b,fR off K,none⟩))
 |_=> .fail
def Gz(K:Nat)(x:Value)(k:Value->M β):M β:=match x with
 | .agg ⟨l⟩=>match r8 l K with
   |some v=>k v
   |none=> .fail
 |_=> .fail
def GA(K m:Nat)(x:Value)(k:Value->M β):M β:=match x with
 | .agg ⟨l⟩=>k (.agg ⟨(l.drop K).take m⟩)
 |_=> .fail
def aT(x ix:Value)(k:Value->M β):M β:=match x with
 | .slice (some ⟨b,off,none⟩) n _=>match ix with
   | .int _ (.ofNat i)=>match bh (fa i) n with
     |true=>k (.pointer (some ⟨b,fR off i,none⟩))
     |false=> .fail
   |_=> .fail
 |_=> .fail
def BZ(sz:Nat)(x ix:Value)(k:Value->M β):M β:=match x with
 | .slice (some ⟨b,off,none⟩) n _=>match ix with
   | .int _ (.ofNat i)=>match bh (fa i) n with
     |true=>k (.pointer (some ⟨b,fR off (Ll i sz),none⟩))
     |false=> .fail
   |_=> .fail
 |_=> .fail
def jO(n:Nat)(x ix:Value)(k:Value->M β):M β:=match x with
 | .pointer (some ⟨b,off,none⟩)=>match ix with
   | .int _ (.ofNat i)=>match bh (fa i) n with
     |true=>k (.pointer (some ⟨b,fR off i,none⟩))
     |false=> .fail
   |_=> .fail
 |_=> .fail
def B1(n sz:Nat)(x ix:Value)(k:Value->M β):M β:=match x with
 | .pointer (some ⟨b,off,none⟩)=>match ix with
   | .int _ (.ofNat i)=>match bh (fa i) n with
     |true=>k (.pointer (some ⟨b,fR off (Ll i sz),none⟩))
     |false=> .fail
   |_=> .fail
 |_=> .fail
def yD(x ix:Value)(k:Value->M β):M β:=match x with
 | .string ⟨⟨l⟩⟩=>match ix with
   | .int _ (.ofNat i)=>match qF l i with
     |some c=>k (.int .u8 (.ofNat c.toNat))
     |none=> .fail
   |_=> .fail
 |_=> .fail
def yE(n:Nat)(x ix:Value)(k:Value->M β):M β:=match x with
 | .agg ⟨l⟩=>match ix with
   | .int _ (.ofNat i)=>match bh (fa i) n with
     |true=>match r8 l i with
      |some v=>k v
      |none=> .fail
     |false=> .fail
   |_=> .fail
 |_=> .fail
def aY(x:Value)(i:Nat)(k:Value->M β):M β:=match x with
 | .tuple ⟨l⟩=>match r8 l i with
   |some v=>k v
   |none=> .fail
 |_=> .fail
def qI(o:Option Value)(d:Nat):Option Nat:=match o with
 |none=>some d
 |some (.int _ (.ofNat i))=>some i
 |_=>none
def ug(x:Value)(lo hi:Option Value)(k:Value->M β):M β:=match x with
 | .string ⟨⟨l⟩⟩=>match qI lo 0 with
   |some a=>match qI hi (kf l)with
    |some b=>match bh a b with
     |true=>match bh b (kf l)with
      |true=>k (.string ⟨⟨(l.drop a).take (Lk b a)⟩⟩)
      |false=> .fail
     |false=> .fail
    |none=> .fail
   |none=> .fail
 |_=> .fail
def av(x:Value)(k:Value->M β):M β:=match x with
 | .pointer (some ⟨b,off,none⟩)=>eN (wu b off) k
 |_=> .fail
def jb(sz:Nat)(x:Value)(k:Value->M β):M β:=match x with
 | .pointer (some ⟨b,off,none⟩)=>eN ((iZ b off sz).bind fun vs=> .ret (.agg ⟨vs⟩)) k
 |_=> .fail
def bE(a x:Value)(k:Value->M β):M β:=match a with
 | .pointer (some ⟨b,off,none⟩)=>match one x with
   |true=>eN ((tZ b off x).bind fun _=> .ret undef) k
   |false=> .fail
 |_=> .fail
def iH(sz:Nat)(a x:Value)(k:Value->M β):M β:=match a with
 | .pointer (some ⟨b,off,none⟩)=>match x with
   | .agg ⟨l⟩=>match bN (fi l) sz with
     |true=>eN ((pF b off l).bind fun _=> .ret undef) k
     |false=> .fail
   |_=> .fail
 |_=> .fail
def oB(e:TypeId)(z:List Value)(k:Value->M β):M β:=eN ((kg e z).bind fun id=> .ret (.pointer (some ⟨id,0,none⟩))) k
def kp(e:TypeId)(v:Value)(k:Value->M β):M β:=eN ((kg e (dj v)).bind fun id=> .ret (.pointer (some ⟨id,0,none⟩))) k
def fA:List Value->List (Nat×Nat×Value)->Option (List Value)
 |cs,[]=>some cs
 |cs,q::r=>match bN (fi (dj q.2.2)) q.2.1 with
  |true=>match bh (fR q.1 (fi (dj q.2.2))) (fi cs)with
   |true=>fA (pG cs q.1 (dj q.2.2)) r
   |false=>none
  |false=>none
def jc(z:List Value)(ps:List (Nat×Nat×Value))(k:Value->M β):M β:=match fA z ps with
 |some cs=>k (.agg ⟨cs⟩)
 |none=> .fail
def fI(e:TypeId)(sz:Nat)(v:Value)(k:Value->M β):M β:=match bN (fi (dj v)) sz with
 |true=>eN ((kg e (dj v)).bind fun id=> .ret (.slice (some ⟨id,0,none⟩) 1 1)) k
 |false=> .fail
def qJ(e:TypeId)(z:List Value)(len:Nat)(ps:List (Nat×Nat×Value))(k:Value->M β):M β:=match fA z ps with
 |some cs=>eN ((kg e cs).bind fun id=> .ret (.slice (some ⟨id,0,none⟩) len len)) k
 |none=> .fail
def jd(z:List Value):Nat->List Value
 |0=>[]
 |n+1=>BO z (jd z n)
def jP(e:TypeId)(z:List Value)(l c:Value)(k:Value->M β):M β:=match l with
 | .int _ (.ofNat l)=>match c with
   | .int _ (.ofNat c)=>match bh l c with
     |true=>match bh c 1099511627776 with
      |true=>eN ((kg e (jd z c)).bind fun id=> .ret (.slice (some ⟨id,0,none⟩) l c)) k
      |false=> .fail
     |false=> .fail
   |_=> .fail
 |_=> .fail
def uh(sz:Nat)(a:Option Addr)(len cap:Nat)(lo hi:Option Value):Option Value:=match er hi len,er lo 0 with
 |some h,some l=>
  if l<=h&&h<=cap&&cap<=cap&&(cap<ba||((none:Option Value).isNone&&h<=len))then
   match a with
   |none=>some (.slice none (h-l) (cap-l))
   |some ⟨b,off,none⟩=>some (.slice (some ⟨b,if cap=l then off else off+l*sz,none⟩) (h-l) (cap-l))
   |_=>none
  else none
 |_,_=>none
def qK(e:TypeId)(sz:Nat)(x:Value)(lo hi:Option Value)(k:Value->M β):M β:=match x with
 | .slice none len cap=>match uh sz none len cap lo hi with
   |some v=>k v
   |none=> .fail
 | .slice (some ⟨b,off,none⟩) len cap=>eN ((yx b).bind fun e'=>match bN e' e with
   |true=>M.lift (uh sz (some ⟨b,off,none⟩) len cap lo hi)
   |false=> .fail) k
 |_=> .fail
def B4(e:TypeId)(n sz b off l cap:Nat)(new:List Value):M Value:=
 if cap<ba then
  if l+n<=cap then(pF b (off+l*sz) new).bind fun _=> .ret (.slice (some ⟨b,off,none⟩) (l+n) cap)
  else(iZ b off (l*sz)).bind fun old=>(kg e (old++new)).bind fun id=> .ret (.slice (some ⟨id,0,none⟩) (l+n) (ba+(l+n)))
 else(iZ b off (l*sz)).bind fun old=>(Gp b).bind fun _=>(kg e (old++new)).bind fun id=> .ret (.slice (some ⟨id,0,none⟩) (l+n) (ba+(l+n)))
def qL(e:TypeId)(sz:Nat)(s x:Value):M Value:=match iQ x with
 |some n=>
  if n=0 then(match s with| .slice _ _ _=> .ret s|_=> .fail)else
  match s with
  | .slice none 0 0=>if n<=1099511627776 then(wx sz n x).bind fun new=>if new.length=n*sz&&new.all one then(kg e ([]++new)).bind fun id=> .ret (.slice (some ⟨id,0,none⟩) (0+n) (ba+(0+n)))else .fail else .fail
  | .slice (some ⟨b,off,none⟩) l cap=>
    if l+n<=1099511627776 then
    (yx b).bind fun e'=>if e'=e then
      (wx sz n x).bind fun new=>if new.length=n*sz&&new.all one then B4 e n sz b off l cap new else .fail
    else .fail
    else .fail
  |_=> .fail
 |none=> .fail
def fB(e:TypeId)(sz:Nat)(s x:Value)(k:Value->M β):M β:=eN (qL e sz s x) k
def M8(sz:Nat)(d s:Value):M Value:=match d,iQ s with
 | .slice a dl _,some sl=>
   if 0<Nat.min sl dl then(match a with
    |some ⟨b,off,none⟩=>(wx sz (Nat.min sl dl) s).bind fun vs=>(pF b off vs).bind fun _=> .ret (.int .i64 (Nat.min sl dl))
    |_=> .fail)
   else .ret (.int .i64 0)
 |_,_=> .fail
def ZC(sz:Nat)(d s:Value)(k:Value->M β):M β:=eN (M8 sz d s) k
def wA(x:Value)(k:Value->M β):M β:=match x with
 | .slice (some ⟨b,off,none⟩) len _=>eN ((iZ b off len).bind fun vs=>match nv vs with
   |some l=> .ret (.string ⟨⟨l⟩⟩)
   |none=> .fail) k
 | .slice none _ _=>k (.string ⟨⟨[]⟩⟩)
 |_=> .fail
def GB(e:TypeId)(x:Value)(k:Value->M β):M β:=match x with
 | .string ⟨⟨l⟩⟩=>match bh (kf l) 1099511627776 with
   |true=>eN ((kg e (l.map fun b=>iy .u8 (.ofNat b.toNat))).bind fun id=> .ret (.slice (some ⟨id,0,none⟩) (kf l) (ba+kf l))) k
   |false=> .fail
 |_=> .fail
def au(R:FuncId->Array Value->M Value)(f:FuncId)(vs:List Value)(k:Value->M β):M β:=eN (R f ⟨vs⟩) k
end
theorem ij{P:Program}{op:BinOp}{t:TypeId}{x y v:Value}(hn:mq P t=false)(hs:(scalar x&&scalar y)=true)(hr:iP P (do pure (.value (<-gW op t x y)))=some v)(hv:scalar v=true):ee P op t x y=some v:=by
 unfold ee F' nk
 rw[hn,hs]
 simp only
 rw[hr]
 simp only[hv]
section
variable {P:Program} {t:TypeId} {k:IntKind} (hn:mq P t=false) (a b:Int)
include hn
theorem ZD:ee P .add t (.int k a) (.int k b)=some (.int k (k.wrap (a+b))):=ij hn rfl (by unfold gW;simp only[ne_eq,not_true_eq_false,if_false];rfl) rfl
theorem ZE:ee P .sub t (.int k a) (.int k b)=some (.int k (k.wrap (a-b))):=ij hn rfl (by unfold gW;simp only[ne_eq,not_true_eq_false,if_false];rfl) rfl
theorem ZF:ee P .mul t (.int k a) (.int k b)=some (.int k (k.wrap (a*b))):=ij hn rfl (by unfold gW;simp only[ne_eq,not_true_eq_false,if_false];rfl) rfl
theorem ZG(h0:b≠0):ee P .quo t (.int k a) (.int k b)=some (.int k (k.wrap (a.tdiv b))):=ij hn rfl (by unfold gW ahz;simp only[ne_eq,not_true_eq_false,if_false,h0];rfl) rfl
theorem ZH(h0:b≠0):ee P .rem t (.int k a) (.int k b)=some (.int k (a.tmod b)):=ij hn rfl (by unfold gW ahz;simp only[ne_eq,not_true_eq_false,if_false,h0];rfl) rfl
theorem ZI:ee P .eql t (.int k a) (.int k b)=some (.bool (a==b)):=ij hn rfl (by unfold gW;simp only[ne_eq,not_true_eq_false,if_false];rfl) rfl
theorem ZJ:ee P .neq t (.int k a) (.int k b)=some (.bool (a !=b)):=ij hn rfl (by unfold gW;simp only[ne_eq,not_true_eq_false,if_false];rfl) rfl
theorem ZK:ee P .lss t (.int k a) (.int k b)=some (.bool (decide (a<b))):=ij hn rfl (by unfold gW;simp only[ne_eq,not_true_eq_false,if_false];rfl) rfl
theorem ZL:ee P .leq t (.int k a) (.int k b)=some (.bool (decide (a<=b))):=ij hn rfl (by unfold gW;simp only[ne_eq,not_true_eq_false,if_false];rfl) rfl
theorem ZM:ee P .gtr t (.int k a) (.int k b)=some (.bool (decide (b<a))):=ij hn rfl (by unfold gW;simp only[ne_eq,not_true_eq_false,if_false];rfl) rfl
theorem ZN:ee P .geq t (.int k a) (.int k b)=some (.bool (decide (b<=a))):=ij hn rfl (by unfold gW;simp only[ne_eq,not_true_eq_false,if_false];rfl) rfl
theorem ZO{k':IntKind}(h0:0<=b):ee P .shl t (.int k a) (.int k' b)=some (.int k (k.wrap (a*2^(min b.toNat k.bits)))):=ij hn rfl (by unfold gW ahA;simp only[show¬b<0 by omega,if_false];rfl) rfl
theorem ZP{k':IntKind}(h0:0<=b):ee P .shr t (.int k a) (.int k' b)=some (.int k (a.fdiv (2^(min b.toNat k.bits)))):=ij hn rfl (by unfold gW ahA;simp only[show¬b<0 by omega,if_false];rfl) rfl
theorem ZQ:ee P .and t (.int k a) (.int k b)=some (.int k (k.wrap (di k.bits a&&&di k.bits b).toNat)):=ij hn rfl (by unfold gW;simp only[ne_eq,not_true_eq_false,if_false];rfl) rfl
theorem ZR:ee P .or t (.int k a) (.int k b)=some (.int k (k.wrap (di k.bits a|||di k.bits b).toNat)):=ij hn rfl (by unfold gW;simp only[ne_eq,not_true_eq_false,if_false];rfl) rfl
theorem ZS:ee P .xor t (.int k a) (.int k b)=some (.int k (k.wrap (di k.bits a^^^di k.bits b).toNat)):=ij hn rfl (by unfold gW;simp only[ne_eq,not_true_eq_false,if_false];rfl) rfl
end
theorem B5(l:List UInt8):(⟨l.toArray⟩:ByteArray).size=l.length:=by simp[ai']
theorem M9(l:List UInt8):(⟨l.toArray⟩:ByteArray).toList=l:=by rw[ai_]
theorem ZT(s:ByteArray):s=⟨s.data.toList.toArray⟩:=by cases s;simp
theorem ZU(a b:List UInt8):(⟨a.toArray⟩:ByteArray)++⟨b.toArray⟩=⟨(a++b).toArray⟩:=by
 apply ByteArray.ext
 simp
theorem B6(l:List UInt8)(i j:Nat):(⟨l.toArray⟩:ByteArray).extract i j=⟨((l.drop i).take (j-i)).toArray⟩:=by
 apply ByteArray.ext
 simp[WW,ahm]
section
variable {P:Program} {t:TypeId}
theorem ZV(hn:mq P t=false)(a b:List UInt8):ee P .eql t (.string ⟨a.toArray⟩) (.string ⟨b.toArray⟩)=some (.bool (decide (a=b))):=by
 refine ij hn rfl ?_ rfl
 unfold gW Xa
 simp only[M9]
 have:(a==b)=decide (a=b):=by
  by_cases h:a=b
  ·subst h;simp
  ·simp[h]
 rw[this]
 rfl
theorem ZW(hn:mq P t=false)(a b:List UInt8):ee P .neq t (.string ⟨a.toArray⟩) (.string ⟨b.toArray⟩)=some (.bool (!decide (a=b))):=by
 refine ij hn rfl ?_ rfl
 unfold gW Xa
 simp only[M9]
 have:(a==b)=decide (a=b):=by
  by_cases h:a=b
  ·subst h;simp
  ·simp[h]
 rw[this]
 rfl
theorem ZX(hn:mq P t=false)(a b:List UInt8)(h:a.length+b.length<=9223372036854775807):ee P .add t (.string ⟨a.toArray⟩) (.string ⟨b.toArray⟩)=some (.string ⟨(a++b).toArray⟩):=by
 refine ij hn rfl ?_ rfl
 unfold gW Xa
 simp only[B5,ZU]
 have h2:¬(((a.length+b.length:Nat):Int)>IntKind.i64.max):=by
  have:IntKind.i64.max=9223372036854775807:=by decide
  rw[this];omega
 rw[if_neg h2]
 rfl
end
section
variable {P:Program} {t:TypeId}
theorem ZY(h:P.underlying t=some .string)(l:List UInt8)(k:IntKind)(i:Int)(h0:0<=i)(h1:i<l.length):tW P t (.string ⟨l.toArray⟩) (.int k i)=some (.int .u8 (l.getD i.toNat 0).toNat):=by
 have hi:i.toNat<l.length:=by omega
 have hs:ou P t=true:=by unfold ou;rw[h]
 unfold tW Bm nk
 rw[hs]
 simp only[isStr,scalar]
 have hg:(⟨l.toArray⟩:ByteArray)[i.toNat]? =some (l.getD i.toNat 0):=by
  have bf:i.toNat<(⟨l.toArray⟩:ByteArray).size:=by rw[B5];exact hi
  rw[getElem?_pos (⟨l.toArray⟩:ByteArray) i.toNat bf]
  rw[aC,aR hi]
  rfl
 have:iP P (do pure (Lp (<-Az t (.string ⟨l.toArray⟩) (.int k i))))=some (.int .u8 (l.getD i.toNat 0).toNat):=by
  unfold Az
  simp only[asIntOf,pure_bind,bind_assoc]
  rw[pB h]
  simp only[h0,if_true,hg]
  rfl
 rw[this]
theorem ZZ(h:P.underlying t=some .string){β:Type}(l:List UInt8)(lo hi:Option Value){a b:Nat}(ha:er lo 0=some a)(hb:er hi l.length=some b)(h1:a<=b)(h2:b<=l.length)(k:Value->M β):wi P t (.string ⟨l.toArray⟩) lo hi none k=k (.string ⟨((l.drop a).take (b-a)).toArray⟩):=by
 have hs:ou P t=true:=by unfold ou;rw[h]
 have bd:∀(o:Option Value) (d m:Nat),er o d=some m->(o=none∧m=d)∨∃kd i,o=some (.int kd i)∧0<=i∧m=i.toNat:=by
  intro o d m hm
  unfold er at hm
  split at hm
  ·cases hm;exact .inl ⟨rfl,rfl⟩
  ·rename_i kd i
   split at hm
   ·rename_i h0;cases hm;exact .inr ⟨kd,i,rfl,h0,rfl⟩
   ·cases hm
  ·cases hm
 have F2:(tU lo&&tU hi&&tU none)=true:=by
  rcases bd lo _ _ ha with ⟨rfl,_⟩|⟨_,_,rfl,_⟩<;>rcases bd hi _ _ hb with ⟨rfl,_⟩|⟨_,_,rfl,_⟩<;>rfl
 have nY:∀(kd:IntKind) (i:Int) (y:Nat) (c:BoundsCode),0<=i->i.toNat<=y->La (.int kd i) y c=pure i.toNat:=by
  intro kd i y c h0 h1
  unfold La asIntOf
  simp only[pure_bind]
  rw[if_pos ⟨h0,by omega⟩]
 have key:iP P (do pure (Lp (<-AA t (.string ⟨l.toArray⟩) lo hi none)))=some (.string ⟨((l.drop a).take (b-a)).toArray⟩):=by
  unfold AA
  simp only[bind_assoc]
  rw[pB h]
  simp only
  unfold Instr.slice
  simp only[bind_assoc]
  rw[pB h]
  simp only[Option.isSome_none,qg,if_false,pure_bind,bind_assoc,B5]
  unfold Instr.sliceBounds
  rcases bd lo _ _ ha with ⟨rfl,rfl⟩|⟨_,i,rfl,i0,rfl⟩<;>rcases bd hi _ _ hb with ⟨rfl,rfl⟩|⟨_,j,rfl,j0,rfl⟩
  ·simp only[pure_bind,bind_assoc,B6];rfl
  ·simp only[nY _ j l.length _ j0 h2,pure_bind,bind_assoc,B6];rfl
  ·simp only[nY _ i l.length _ i0 h1,pure_bind,bind_assoc,B6];rfl
  ·simp only[nY _ j l.length _ j0 h2,nY _ i j.toNat _ i0 h1,pure_bind,bind_assoc,B6];rfl
 unfold wi
 rw[hs]
 simp only
 have:Bl P t (.string ⟨l.toArray⟩) lo hi none=some (.string ⟨((l.drop a).take (b-a)).toArray⟩):=by
  unfold Bl nk
  simp only[isStr,F2]
  rw[key]
  rfl
 rw[this]
 rfl
end
section
variable {β:Type} {P:Program} {t:TypeId} {x y:Value} {k:Value->M β} {h:H} {n:Nat} {r:Out β}
theorem eR{o:Option Value}{v:Value}(e:o=some v)(hr:k v h n=some r):aG o k h n=some r:=by subst e;exact hr
theorem qM{op:BinOp}{f:IntKind->Int->Int->Value}(hb:∀j a b,ee P op t (.int j a) (.int j b)=some (f j a b))(hr:kj f x y k h n=some r):aG (ee P op t x y) k h n=some r:=by
 unfold kj at hr
 split at hr
 ·split at hr
  ·rename_i a p _ b q
   cases hk:pE a b with
   |false=>simp only[hk]at hr;cases hr
   |true=>
    obtain rfl:=BF hk
    simp only[hk]at hr
    exact eR (hb _ _ _) hr
  ·cases hr
 ·cases hr
theorem GC{op:BinOp}{f:Nat->Nat->Nat}(hb:∀(j:IntKind) (a b:Nat),ee P op t (.int j (.ofNat a)) (.int j (.ofNat b))=some (.int j (j.wrap (.ofNat (f (jE a (pw j)) (jE b (pw j)))))))(hr:uc f x y k h n=some r):aG (ee P op t x y) k h n=some r:=by
 unfold uc at hr
 split at hr
 ·split at hr
  ·rename_i a p _ b q
   cases hk:pE a b with
   |false=>simp only[hk]at hr;cases hr
   |true=>
    obtain rfl:=BF hk
    simp only[hk]at hr
    exact eR (hb _ _ _) (by rw[<-ke];exact hr)
  ·cases hr
 ·cases hr
theorem su{j:IntKind}(a b:Nat):(di j.bits (gY a)).toNat=jE a (pw j)∧(di j.bits (gY b)).toNat=jE b (pw j):=by
 rw[Zx]
 exact⟨MV _ _,MV _ _⟩
end
noncomputable def GD {β:Type} (op:BinOp) (x y:Value) (k:Value->M β):M β:=match op with
 | .add=>aN x y k
 | .sub=>cH x y k
 | .mul=>kU x y k
 | .quo=>pH x y k
 | .rem=>ud x y k
 | .eql=>dg x y k
 | .neq=>dh x y k
 | .lss=>aO x y k
 | .leq=>ko x y k
 | .gtr=>gF x y k
 | .geq=>ig x y k
 | .and=>yB x y k
 | .or=>BQ x y k
 | .xor=>M6 x y k
 | .shl=>se x y k
 | .shr=>ny x y k
 | .andNot=> .fail
noncomputable def GF {β:Type} (d:Option TypeDesc) (op:BinOp) (x y:Value) (k:Value->M β):M β:=match d,op with
 |some (.pointer _),.eql=>fz x y k
 |some (.pointer _),.neq=>ue x y k
 |some (.slice _),.eql=>yC x y k
 |some (.slice _),.neq=>BW x y k
 |some (.func _ _ _),.eql=>Gw x y k
 |some (.func _ _ _),.neq=>Gx x y k
 |_,_=> .fail
def GG:Option TypeDesc->Bool
 |some .bool=>true
 |_=>false
noncomputable def M' {β:Type} (op:BinOp) (x y:Value) (k:Value->M β):M β:=match op with
 | .eql=>Gv x y k
 | .neq=>BR x y k
 |_=> .fail
noncomputable def GH {β:Type} (P:Program) (op:BinOp) (t:TypeId) (x y:Value) (k:Value->M β):M β:=match mq P t with
 |true=>GF (P.underlying t) op x y k
 |false=>match GG (P.underlying t)with
  |true=>M' op x y k
  |false=>GD op x y k
section
variable {β:Type} {P:Program} {t:TypeId} {x y:Value} {k:Value->M β} {h:H} {n:Nat} {r:Out β}
theorem Na(a b:List UInt8)(hn:mq P t=false):ee P .eql t (.string ⟨⟨a⟩⟩) (.string ⟨⟨b⟩⟩)=some (.bool (qD a b))∧ee P .neq t (.string ⟨⟨a⟩⟩) (.string ⟨⟨b⟩⟩)=some (.bool (!qD a b)):=by
 rw[BC]
 exact⟨ZV hn a b,ZW hn a b⟩
theorem Z0{op:BinOp}(hn:mq P t=false)(hr:GD op x y k h n=some r):aG (ee P op t x y) k h n=some r:=by
 cases op<;>simp only[GD]at hr
 case add=>
  unfold aN at hr
  split at hr
  ·split at hr
   ·rename_i a _ b
    cases hl:bh (fR (kf a) (kf b)) 9223372036854775807 with
    |false=>simp only[hl]at hr;cases hr
    |true=>
     simp only[hl]at hr
     have:=gx hl
     rw[qE,qE]at this
     exact eR (ZX (P:=P) hn _ _ this) (by rw[<-Ge];exact hr)
   ·cases hr
  ·exact qM (fun j a b=>by rw[ZD hn,ke,MT]) hr
 case sub=>exact qM (fun j a b=>by rw[ZE hn,ke,Bz]) hr
 case mul=>exact qM (fun j a b=>by rw[ZF hn,ke,MU]) hr
 case quo=>
  unfold pH at hr
  split at hr
  ·split at hr
   ·rename_i a p _ b q
    cases hk:pE a b with
    |false=>simp only[hk]at hr;cases hr
    |true=>
     obtain rfl:=BF hk
     cases hz:pD q 0 with
     |true=>simp only[hk,hz]at hr;cases hr
     |false=>
      simp only[hk,hz]at hr
      rw[rZ]at hz
      exact eR (ZG hn _ _ (beq_eq_false_iff_ne.1 hz)) (by rw[<-ke];exact hr)
   ·cases hr
  ·cases hr
 case rem=>
  unfold ud at hr
  split at hr
  ·split at hr
   ·rename_i a p _ b q
    cases hk:pE a b with
    |false=>simp only[hk]at hr;cases hr
    |true=>
     obtain rfl:=BF hk
     cases hz:pD q 0 with
     |true=>simp only[hk,hz]at hr;cases hr
     |false=>
      simp only[hk,hz]at hr
      rw[rZ]at hz
      exact eR (ZH hn _ _ (beq_eq_false_iff_ne.1 hz)) hr
   ·cases hr
  ·cases hr
 case and=>exact GC (fun j a b=>by rw[ZQ hn,BitVec.toNat_and,(su a b).1,(su a b).2];rfl) hr
 case or=>exact GC (fun j a b=>by rw[ZR hn,BitVec.toNat_or,(su a b).1,(su a b).2];rfl) hr
 case xor=>exact GC (fun j a b=>by rw[ZS hn,BitVec.toNat_xor,(su a b).1,(su a b).2];rfl) hr
 case shl=>
  unfold se at hr
  split at hr
  ·rename_i a p
   split at hr
   ·rename_i j q
    exact eR (ZO hn _ _ (aa q)) (by rw[<-ke];exact hr)
   ·cases hr
  ·cases hr
 case shr=>
  unfold ny at hr
  split at hr
  ·rename_i a p
   split at hr
   ·rename_i j q
    refine eR (ZP hn _ _ (aa q)) ?_
    have e2:(gY p).fdiv (2^min (gY q).toNat a.bits)=gY (p/2^min q a.bits):=by
     show((p:Nat):Int).fdiv (2^min q a.bits)=((p/2^(min q a.bits):Nat):Int)
     have e2:(2:Int)^(min q a.bits)=((2^(min q a.bits):Nat):Int):=by simp
     rw[e2,Int.fdiv_eq_ediv_of_nonneg _ (aa _),<-Int.natCast_ediv]
    exact e2▸hr
   ·cases hr
  ·cases hr
 case andNot=>cases hr
 case eql=>
  unfold dg at hr
  split at hr
  ·split at hr
   ·exact eR (Na _ _ hn).1 hr
   ·cases hr
  ·exact qM (fun j a b=>by rw[ZI hn,rZ]) hr
 case neq=>
  unfold dh at hr
  split at hr
  ·split at hr
   ·exact eR (Na _ _ hn).2 hr
   ·cases hr
  ·exact qM (fun j a b=>by rw[ZJ hn,rZ];rfl) hr
 case lss=>exact qM (fun j a b=>by rw[ZK hn,r4]) hr
 case leq=>exact qM (fun j a b=>by rw[ZL hn,BB]) hr
 case gtr=>exact qM (fun j a b=>by rw[ZM hn,r4]) hr
 case geq=>exact qM (fun j a b=>by rw[ZN hn,BB]) hr
end
section
variable {β:Type} {P:Program} {t:TypeId} {x y a:Value} {k:Value->M β} {h:H} {n:Nat} {r:Out β}
theorem kV{m m':M Value}(e:m=m')(hr:eN m k h n=some r):((inside m').bind k) h n=some r:=by
 subst e
 rw[<-ki]
 exact hr
theorem Z3{op:BinOp}(hn:mq P t=true)(hr:GF (P.underlying t) op x y k h n=some r):aG (ee P op t x y) k h n=some r:=by
 have key:∀(b:Bool) (v:Value),mU (P.underlying t) x y=some b->((op= .eql∧v= .bool b)∨(op= .neq∧v= .bool (!b)))->k v h n=some r->aG (ee P op t x y) k h n=some r:=by
  intro b v e hv hk
  refine eR (v:=v) ?_ hk
  unfold ee F9
  rw[hn,e]
  rcases hv with ⟨rfl,rfl⟩|⟨rfl,rfl⟩<;>rfl
 generalize hd:P.underlying t=d at hr key
 unfold GF at hr
 split at hr
 ·unfold fz BT at hr
  split at hr<;>first|(split at hr<;>first|exact key _ _ rfl (.inl ⟨rfl,rfl⟩) hr|cases hr)|cases hr
 ·unfold ue BT at hr
  split at hr<;>first|(split at hr<;>first|exact key _ _ rfl (.inr ⟨rfl,rfl⟩) hr|cases hr)|cases hr
 ·unfold yC BU at hr
  split at hr<;>first|(split at hr<;>first|exact key _ _ rfl (.inl ⟨rfl,rfl⟩) hr|cases hr)|cases hr
 ·unfold BW BU at hr
  split at hr<;>first|(split at hr<;>first|exact key _ _ rfl (.inr ⟨rfl,rfl⟩) hr|cases hr)|cases hr
 ·unfold Gw BV at hr
  split at hr<;>first|(split at hr<;>first|exact key _ _ rfl (.inl ⟨rfl,rfl⟩) hr|cases hr)|cases hr
 ·unfold Gx BV at hr
  split at hr<;>first|(split at hr<;>first|exact key _ _ rfl (.inr ⟨rfl,rfl⟩) hr|cases hr)|cases hr
 ·cases hr
theorem Z4{b c:Bool}(e:P.underlying t=some .bool):iP P (do pure (.value (.bool (<-xQ t (.bool b) (.bool c)))))=some (.bool (b==c)):=by
 unfold xQ WX WY
 simp only[bind_assoc]
 rw[pB e]
 rfl
theorem Z5{op:BinOp}(hr:GH P op t x y k h n=some r):aG (ee P op t x y) k h n=some r:=by
 unfold GH at hr
 cases hn:mq P t with
 |true=>simp only[hn]at hr;exact Z3 hn hr
 |false=>
  simp only[hn]at hr
  cases hb:GG (P.underlying t)with
  |false=>simp only[hb]at hr;exact Z0 hn hr
  |true=>
   simp only[hb]at hr
   have e:P.underlying t=some .bool:=by
    revert hb
    generalize P.underlying t=d
    intro hb
    unfold GG at hb
    split at hb
    ·rfl
    ·cases hb
   unfold M' at hr
   split at hr
   ·unfold Gv at hr
    split at hr
    ·split at hr
     ·rename_i b _ c
      refine eR (v:= .bool (b==c)) (ij hn rfl ?_ rfl) (by cases b<;>cases c<;>exact hr)
      unfold gW
      simp only[bind_assoc,pure_bind]
      exact Z4 e
     ·cases hr
    ·cases hr
   ·unfold BR at hr
    split at hr
    ·split at hr
     ·rename_i b _ c
      refine eR (v:= .bool (!(b==c))) (ij hn rfl ?_ rfl) (by cases b<;>cases c<;>exact hr)
      unfold gW
      simp only[bind_assoc,pure_bind]
      unfold xQ WX WY
      simp only[bind_assoc]
      rw[pB e]
      rfl
     ·cases hr
    ·cases hr
   ·cases hr
end
end Go.Proofs.YtdagfcflbphoiaaGreatDoor.Ev
