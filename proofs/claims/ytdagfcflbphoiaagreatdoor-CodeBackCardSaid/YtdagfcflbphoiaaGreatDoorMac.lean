import Derived.Test.YtdagfcflbphoiaaGreatDoorMab
import Derived.ProofKit
import Derived.OpenShut
open Int renaming natCast_nonneg→aa, ofNat→gY, toNat_of_nonneg→mf, toNat_natCast→o0, toNat_zero→ahK
open Nat renaming le_refl→ak, ble→bh, beq→bN, succ→fa, le_succ→fg, add→fR, le_of_ble_eq_true→gx, zero_add→gU, lt_succ_self→gX, add_mul→kF, eq_of_beq_eq_true→kG, ble_eq_true_of_le→lF, add_zero→mN, mul_one→vJ, beq_refl→xR, mul_le_mul_right→AD, one_mul→AG, mod_lt→E7, succ_mul→Lr
open List renaming length_append→aM, getElem?_eq_getElem→aR, replicate→cq, length_cons→cu, append_assoc→cE, append_nil→dF, drop_zero→gT, take_of_length_le→kH, mem_cons_of_mem→lG, getElem?_append_left→me, getElem?_append_right→nO, take_length→nQ, getElem?_eq_none→vG, nil_append→vK, mem_cons_self→AK, mem_cons→E8, not_mem_nil→E9, all_eq_true→K8, reverse_cons→Xc, mem_append→Xd, getElem?_eq_none_iff→ahH
open Bool renaming and_eq_true→bZ, not_true→gu, not_false→gZ, false_eq_true→qg, or_eq_true→vF, or_eq_false_iff→vH, true_and→EZ, and_false→E4, not_eq_true'→Lj, and_true→W9, false_ne_true→ahu, true_eq_false→ahL, false_and→ahM
open BitVec renaming ofInt→di
open Option.some renaming injEq→dV
open Go.Region renaming wanted→fK
open Go.Value renaming slice→jF, pointer→mP, agg→Xb, okWide→ahJ
open Go.Instr renaming fill→lB
open Array renaming all_eq_true_iff_forall_mem→tr, length_toList→E6, getElem?_toList→ahv
open Go.Lit renaming int→AL
open Go renaming convert→Lh
open Go.Next renaming value→Lp
open Go.DataW renaming trod→Lq, trod_int→ahD, trod_string→ahE, trod_bool→ahF, trod_slice→ahG
open Go.Addr renaming add→ag3
set_option linter.unusedVariables false
set_option linter.unusedSimpArgs false
set_option linter.unusedSectionVars false
namespace Go.Proofs.YtdagfcflbphoiaaGreatDoor.Ev
open Go Go.RowKit
noncomputable section
variable {β:Type} (P:Program)
def GI(op:UnOp)(x:Value)(k:Value->M β):M β:=match op with
 | .not=>et x k
 | .neg=>BX x k
 |_=> .fail
def GJ(src dst:TypeId)(x:Value)(k:Value->M β):M β:=match rD (P.underlying src) (P.underlying dst)with
 |some e=>match mY P e with
  |true=>wA x k
  |false=> .fail
 |none=>match tT (P.underlying src) (P.underlying dst)with
  |some e=>match mY P e&&size? P e==some 1 with
   |true=>GB e x k
   |false=> .fail
  |none=>match P.underlying src with
   |some _=>match P.underlying dst with
    |some (.int kd)=>gG kd x k
    |some .string=>M7 x k
    |_=> .fail
   |none=> .fail
def B7(t:TypeId)(a:Value)(k:Value->M β):M β:=match jZ P t with
 |some true=>match size? P t with
  |some sz=>jb sz a k
  |none=> .fail
 |some false=>av a k
 |none=> .fail
def GK(t:TypeId)(a x:Value)(k:Value->M β):M β:=match size? P t with
 |some sz=>match jZ P t with
  |some true=>iH sz a x k
  |some false=>match bN sz 1 with
   |true=>bE a x k
   |false=> .fail
  |none=> .fail
 |none=> .fail
def GL(e:TypeId)(k:Value->M β):M β:=match fL P e with
 |some z=>oB e (dj z) k
 |none=> .fail
def GM(e:TypeId)(x:Value)(k:Value->M β):M β:=match size? P e with
 |some _=>kp e x k
 |none=> .fail
def wB(pl:Nat->Option (Nat×Nat)):List (Nat×Value)->Option (List (Nat×Nat×Value))
 |[]=>some []
 |q::r=>match pl q.1 with
  |some p=>match wB pl r with
   |some l=>some ((p.1,p.2,q.2)::l)
   |none=>none
  |none=>none
def GN(t:TypeId)(ps:List (Nat×Value))(k:Value->M β):M β:=match fL P t with
 |some z=>match P.underlying t with
  |some (.struct fs)=>match fs.all fun f=>(size? P f.type).isSome with
   |true=>aG (wB (placeOf P fs) ps) fun qs=>jc (dj z) qs k
   |false=> .fail
  |_=> .fail
 |none=> .fail
def lone:Nat->List (Nat×Value)->Option Value
 |1,[(0,v)]=>some v
 |_,_=>none
def GO(t:TypeId)(len:Nat)(ps:List (Nat×Value))(k:Value->M β):M β:=match P.underlying t with
 |some (.slice e)=>match size? P e with
  |some sz=>match fL P e with
   |some z=>match bN len 0&&ps.isEmpty with
    |true=>qJ e [] 0 [] k
    |false=>match bh 1 (len*sz)&&bh (len*sz) 65536&&bN (fi (dj z)) sz with
     |true=>match lone len ps with
      |some v=>fI e sz v k
      |none=>aG (wB (fun i=>some (i*sz,sz)) ps) fun qs=>qJ e (jd (dj z) len) len qs k
     |false=> .fail
   |none=> .fail
  |none=> .fail
 |_=> .fail
def GP(t:TypeId)(l c:Value)(k:Value->M β):M β:=match P.underlying t with
 |some (.slice e)=>match P.info? e with
  |some ie=>match fL P e with
   |some z=>match bh ie.bytes 64&&bN (fi (dj z)) ie.size&&bh 1 ie.size with
    |true=>jP e (dj z) l c k
    |false=> .fail
   |none=> .fail
  |none=> .fail
 |_=> .fail
def GQ(t:TypeId)(x:Value)(lo hi mx:Option Value)(k:Value->M β):M β:=match mx with
 |some _=> .fail
 |none=>match P.underlying t with
  |some .string=>ug x lo hi k
  |some (.slice e)=>match size? P e with
   |some sz=>qK e sz x lo hi k
   |none=> .fail
  |_=> .fail
def GR(t:TypeId)(x:Value)(f:Nat)(k:Value->M β):M β:=match P.underlying t with
 |some (.struct fs)=>match fs[f]? with
  |some fd=>match size? P fd.type with
   |some (_+1)=>ay fd.offset x k
   |_=> .fail
  |none=> .fail
 |_=> .fail
def GS(t:TypeId)(x:Value)(f:Nat)(k:Value->M β):M β:=match P.underlying t with
 |some (.struct fs)=>match fs[f]? with
  |some fd=>match jZ P fd.type with
   |some true=>match size? P fd.type with
    |some m=>GA fd.offset m x k
    |none=> .fail
   |some false=>Gz fd.offset x k
   |none=> .fail
  |none=> .fail
 |_=> .fail
def GU(t:TypeId)(x ix:Value)(k:Value->M β):M β:=match P.underlying t with
 |some (.slice e)=>match size? P e with
  |some sz=>match bN sz 1 with
   |true=>aT x ix k
   |false=>BZ sz x ix k
  |none=> .fail
 |some (.array len e)=>match size? P e with
  |some sz=>match bN sz 1 with
   |true=>jO len x ix k
   |false=>B1 len sz x ix k
  |none=> .fail
 |_=> .fail
def GV(t:TypeId)(x ix:Value)(k:Value->M β):M β:=match P.underlying t with
 |some .string=>yD x ix k
 |some (.array len e)=>match jZ P e with
  |some false=>match size? P e with
   |some sz=>match bN sz 1 with
    |true=>yE len x ix k
    |false=> .fail
   |none=> .fail
  |_=> .fail
 |_=> .fail
def GW(dc:Array TypeId)(vs:List Value)(k:Value->M β):M β:=match dc[0]? with
 |some t=>match vs with
  |[x]=>match P.underlying t with
   |some (.slice _)=>aW x k
   |some .string=>wz x k
   |_=> .fail
  |_=> .fail
 |none=> .fail
def GX(vs:List Value)(k:Value->M β):M β:=match vs with
 |[x,y]=>sq x y k
 |_=> .fail
def GY(vs:List Value)(k:Value->M β):M β:=match vs with
 |[x,y]=>uf x y k
 |_=> .fail
def GZ(t:TypeId)(s x:Value)(k:Value->M β):M β:=match P.underlying t with
 |some (.slice e)=>match P.info? e with
  |some ie=>match fL P e with
   |some z=>match bh ie.bytes 64&&bN (fi (dj z)) ie.size&&bh 1 ie.size with
    |true=>fB e ie.size s x k
    |false=> .fail
   |none=> .fail
  |none=> .fail
 |_=> .fail
def G0(t:TypeId)(d s:Value)(k:Value->M β):M β:=match P.underlying t with
 |some (.slice e)=>match size? P e with
  |some sz=>ZC sz d s k
  |none=> .fail
 |_=> .fail
variable (rec:FuncId->Array Value->M Value)
def G1(s:Fr)(c:Call)(vs:List Value)(k:Value->M β):M β:=match c.callee with
 | .value (.func g)=>match j1 P g with
   |true=>au rec g vs k
   |false=> .fail
 | .value f=>aG (aZ s f) fun fv=>eM P rec fv vs k
 | .builtin .append=>aG (vQ P c.argTypes vs) fun q=>GZ P q.1 q.2.1 q.2.2 k
 | .builtin .copy=>aG (vR c.argTypes vs) fun q=>G0 P q.1 q.2.1 q.2.2 k
 | .builtin .len=>GW P c.argTypes vs k
 | .builtin .min=>GX vs k
 | .builtin .max=>GY vs k
 |_=> .fail
def kq(s:Fr)(o:Oper)(k:Value->M β):M β:=
 match o.op with
 | .move x| .assign x=>aG (aZ s x) k
 | .pick c a b=>aG (aZ s c) fun c=>aG (aZ s a) fun a=>aG (aZ s b) fun b=>Gy c a b k
 | .alloc e=>GL P e k
 | .box e x=>aG (aZ s x) fun x=>GM P e x k
 | .build t parts=>kQ s (parts.toList.map (·.2)) fun vs=>GN P t ((parts.toList.map (·.1)).zip vs) k
 | .buildSlice t len parts=>kQ s (parts.toList.map (·.2)) fun vs=>GO P t len ((parts.toList.map (·.1)).zip vs) k
 | .load t a=>aG (aZ s a) fun a=>B7 P t a k
 | .store t a x=>aG (aZ s a) fun a=>aG (aZ s x) fun x=>GK P t a x k
 | .nilCheck x=>aG (aZ s x) fun x=>az x k
 | .binOp op t x y _=>aG (aZ s x) fun x=>aG (aZ s y) fun y=>GH P op t x y k
 | .unOp op _ x=>aG (aZ s x) fun x=>GI op x k
 | .convert src dst x=>aG (aZ s x) fun x=>GJ P src dst x k
 | .makeFunc fn a b=>kQ s a.toList fun a=>kQ s b.toList fun b=>k (.func fn a.toArray b.toArray)
 | .makeSlice t l c=>aG (aZ s l) fun l=>aG (aZ s c) fun c=>GP P t l c k
 | .slice t x lo hi mx=>aG (aZ s x) fun x=>qC s lo fun lo=>qC s hi fun hi=>qC s mx fun mx=>GQ P t x lo hi mx k
 | .fieldAddr t x f=>aG (aZ s x) fun x=>GR P t x f k
 | .field t x f=>aG (aZ s x) fun x=>GS P t x f k
 | .indexAddr t x ix=>aG (aZ s x) fun x=>aG (aZ s ix) fun ix=>GU P t x ix k
 | .index t x ix=>aG (aZ s x) fun x=>aG (aZ s ix) fun ix=>GV P t x ix k
 | .extract t i=>aG (aZ s t) fun t=>aY t i k
 | .call c=>kQ s c.args.toList fun vs=>G1 P rec s c vs k
 |_=> .fail
end
section
variable {β:Type} {P:Program} {t:TypeId} {x y a:Value} {k:Value->M β} {h:H} {n:Nat} {r:Out β}
theorem Z6{op:UnOp}(hr:GI op x k h n=some r):aG (MH P op x) k h n=some r:=by
 unfold GI at hr
 split at hr
 ·unfold et at hr
  split at hr
  ·exact eR rfl hr
  ·cases hr
 ·unfold BX at hr
  split at hr
  ·rename_i j p
   exact eR (v:= .int j (j.wrap (0-p))) rfl (by rw[<-ke,<-Bz];exact hr)
  ·cases hr
 ·cases hr
theorem G2{v:Value}(hr:k v h n=some r):((inside (M.ret v)).bind k) h n=some r:=by
 obtain⟨c,h2,n2,L⟩:=r
 exact cD (L1:=[]) rfl hr
theorem Z7(hr:wA x k h n=some r):((inside (mX x)).bind k) h n=some r:=by
 unfold wA at hr
 split at hr
 ·rename_i b off len c
  refine kV (m:=(iZ b off len).bind fun vs=>match nv vs with
  |some l=> .ret (.string ⟨⟨l⟩⟩)
  |none=> .fail) ?_ hr
  have:=congrFun Zz (.slice (some ⟨b,off,none⟩) len c)
  exact this
 ·exact G2 hr
 ·cases hr
theorem Z8{e:TypeId}(hr:GB e x k h n=some r):((inside (Bj e x)).bind k) h n=some r:=by
 unfold GB at hr
 split at hr
 ·rename_i l
  cases hl:bh (kf l) 1099511627776 with
  |false=>simp only[hl]at hr;cases hr
  |true=>
   simp only[hl]at hr
   refine kV ?_ hr
   have:=gx hl
   rw[qE]at this⊢
   unfold Bj qk
   rw[nu]
   have hs:(⟨⟨l⟩⟩:ByteArray).size=l.length:=rfl
   simp only[hs]
   rw[if_pos this]
   simp
 ·cases hr
theorem Z9{src dst:TypeId}(hr:GJ P src dst x k h n=some r):Bk P src dst x k h n=some r:=by
 unfold GJ at hr
 unfold Bk
 cases hs:rD (P.underlying src) (P.underlying dst)with
 |some e=>
  simp only[hs]at hr⊢
  cases hu:mY P e with
  |true=>simp only[hu]at hr⊢;exact Z7 hr
  |false=>simp only[hu]at hr;cases hr
 |none=>
  simp only[hs]at hr⊢
  cases hb:tT (P.underlying src) (P.underlying dst)with
  |some e=>
   simp only[hb]at hr⊢
   cases hu:(mY P e&&size? P e==some 1)with
   |true=>simp only[hu]at hr⊢;exact Z8 hr
   |false=>simp only[hu]at hr;cases hr
  |none=>
   simp only[hb]at hr⊢
   cases hd:P.underlying src with
   |none=>simp only[hd]at hr;cases hr
   |some ds=>
    simp only[hd]at hr
    cases he:P.underlying dst with
    |none=>simp only[he]at hr;cases hr
    |some dd=>
     simp only[he]at hr
     cases dd<;>try(cases hr;done)
     ·cases x<;>try(cases hr;done)
      ·rename_i kd j p
       refine eR (v:= .int kd (kd.wrap p)) ?_ (by rw[<-ke];exact hr)
       unfold nk
       simp only[scalar]
       have:iP P (do pure (Lp (<-Lh src dst (.int j p))))=some (.int kd (kd.wrap p)):=by
        unfold Lh
        simp only[bind_assoc]
        rw[pB hd,pB he]
        rfl
       rw[this]
     ·cases x<;>try(cases hr;done)
      ·rename_i s
       refine eR (v:= .string s) ?_ hr
       unfold nk
       simp only[scalar]
       have:iP P (do pure (Lp (<-Lh src dst (.string s))))=some (.string s):=by
        unfold Lh
        simp only[bind_assoc]
        rw[pB hd,pB he]
        rfl
       rw[this]
theorem Nb(hr:B7 P t a k h n=some r):((inside (iR P t a)).bind k) h n=some r:=by
 unfold B7 at hr
 cases ha:jZ P t with
 |none=>simp only[ha]at hr;cases hr
 |some b=>
  cases b with
  |false=>
   simp only[ha]at hr
   unfold av at hr
   split at hr
   ·refine kV ?_ hr
    rw[BJ]
    unfold iR
    simp only[ha]
   ·cases hr
  |true=>
   simp only[ha]at hr
   cases hs:size? P t with
   |none=>simp only[hs]at hr;cases hr
   |some sz=>
    simp only[hs]at hr
    unfold jb at hr
    split at hr
    ·refine kV ?_ hr
     rw[r9]
     unfold iR
     simp only[ha,hs]
    ·cases hr
theorem aaa(hr:GK P t a x k h n=some r):((inside (nW P t a x)).bind k) h n=some r:=by
 unfold GK at hr
 cases hs:size? P t with
 |none=>simp only[hs]at hr;cases hr
 |some sz=>
  simp only[hs]at hr
  cases ha:jZ P t with
  |none=>simp only[ha]at hr;cases hr
  |some b=>
   cases b with
   |true=>
    simp only[ha]at hr
    unfold iH at hr
    split at hr
    ·split at hr
     ·rename_i b off _ l
      cases hl:bN (fi l) sz with
      |false=>simp only[hl]at hr;cases hr
      |true=>
       simp only[hl]at hr
       refine kV ?_ hr
       have:=kG hl
       rw[mu]at this
       unfold nW
       have hc:(Xb ⟨l⟩).cells=⟨l⟩:=rfl
       simp only[hs,hc]
       rw[if_pos (by simpa using this),BL]
     ·cases hr
    ·cases hr
   |false=>
    simp only[ha]at hr
    cases h1:bN sz 1 with
    |false=>simp only[h1]at hr;cases hr
    |true=>
     simp only[h1]at hr
     have:=kG h1
     subst this
     unfold bE at hr
     split at hr
     ·rename_i b off
      cases ho:one x with
      |false=>simp only[ho]at hr;cases hr
      |true=>
       simp only[ho]at hr
       refine kV ?_ hr
       have hc:x.cells=#[x]:=by cases x<;>first|rfl|(simp[one]at ho)
       unfold nW
       simp only[hs,hc]
       rw[BK]
       funext hh n
       show _=((eD b off [x]).bind fun _=>M.ret undef) hh n
       unfold eD eD M.bind
       cases wr b off x hh n with
       |none=>rfl
       |some o=>simp[M.ret]
     ·cases hr
theorem aab{e:TypeId}(hr:GL P e k h n=some r):((inside (mV P e)).bind k) h n=some r:=by
 unfold GL at hr
 cases hz:fL P e with
 |none=>simp only[hz]at hr;cases hr
 |some z=>
  simp only[hz]at hr
  refine kV ?_ hr
  unfold mV
  rw[hz,nu,oA]
theorem aac{e:TypeId}(hr:GM P e x k h n=some r):((inside (mW P e x)).bind k) h n=some r:=by
 unfold GM at hr
 cases hz:size? P e with
 |none=>simp only[hz]at hr;cases hr
 |some z=>
  simp only[hz]at hr
  refine kV ?_ hr
  unfold mW
  rw[hz,nu,oA]
theorem G3{pl:Nat->Option (Nat×Nat)}:∀(ps:List (Nat×Value)) (qs:List (Nat×Nat×Value)) (cs:List Value),wB pl ps=some qs->fA cs qs=sd pl cs ps
 |[],qs,cs,e=>by cases e;rfl
 |(i,v)::r,qs,cs,e=>by
  unfold wB at e
  unfold sd
  simp only at e
  cases hp:pl i with
  |none=>simp only[hp]at e;cases e
  |some p=>
   obtain⟨off,sz⟩:=p
   simp only[hp]at e⊢
   cases hr:wB pl r with
   |none=>simp only[hr]at e;cases e
   |some l=>
    simp only[hr]at e
    cases e
    unfold fA
    simp only
    cases bN (fi (dj v)) sz with
    |false=>rfl
    |true=>
     simp only[EZ]
     cases bh (fR off (fi (dj v))) (fi cs)with
     |false=>rfl
     |true=>exact G3 r l _ hr
theorem aad{ps:List (Nat×Value)}(hr:GN P t ps k h n=some r):((inside (mg P t ps)).bind k) h n=some r:=by
 unfold GN at hr
 cases hz:fL P t with
 |none=>simp only[hz]at hr;cases hr
 |some z=>
  simp only[hz]at hr
  cases hu:P.underlying t with
  |none=>simp only[hu]at hr;cases hr
  |some u=>
   simp only[hu]at hr
   cases u<;>try(cases hr;done)
   rename_i fs
   simp only at hr
   cases hf:(fs.all fun f=>(size? P f.type).isSome)with
   |false=>simp only[hf]at hr;cases hr
   |true=>
    simp only[hf]at hr
    obtain⟨qs,hq,hr⟩:=cG hr
    unfold jc at hr
    have e:=G3 ps qs (dj z) hq
    rw[oA,BN]at e
    rw[oA,e]at hr
    have:mg P t ps=match lB (placeOf P fs) z.cells ps with
     |some cs=>M.ret (.agg cs)
     |none=> .fail:=by
     unfold mg
     simp only[hz,hu,hf,if_true]
     rfl
    rw[this]
    cases hi:lB (placeOf P fs) z.cells ps with
    |none=>rw[hi]at hr;cases hr
    |some cs=>
     rw[hi]at hr
     exact G2 hr
end
section
variable {β:Type} {P:Program} {t:TypeId} {x y a:Value} {k:Value->M β} {h:H} {n:Nat} {r:Out β}
theorem G4:∀a b:List Value,BO a b=a++b
 |[],_=>rfl
 |v::a,b=>by
  show v::BO a b=_
  rw[G4 a b];rfl
theorem aae{z:Value}{n i:Nat}(hs:0<z.cells.size)(h:i<n):(gK z n).toList[i]? =some (z.cells.toList[i %z.cells.size]'(by rw[E6];exact E7 _ hs)):=by
 unfold gK
 have bf:=E7 i hs
 simp[h,bf]
theorem Nc(l:List Value):∀c,(jd l c).length=c*l.length
 |0=>by simp[jd]
 |c+1=>by
  unfold jd
  rw[G4,aM,Nc l c,kF,AG,Nat.add_comm]
theorem Nd(l:List Value)(hs:0<l.length):∀c i,i<c*l.length->(jd l c)[i]? =some (l[i %l.length]'(E7 _ hs))
 |0,i,h=>by simp at h
 |c+1,i,h=>by
  unfold jd
  rw[G4]
  by_cases hi:i<l.length
  ·rw[me hi,aR hi]
   simp only[Nat.mod_eq_of_lt hi]
  ·rw[nO (by omega),Nd l hs c (i-l.length) (by rw[kF,AG]at h;omega)]
   have:(i-l.length)%l.length=i %l.length:=by
    conv=>rhs;rw[show i=i-l.length+l.length by omega,Nat.add_mod_right]
   simp only[this]
theorem G5{z:Value}(hs:0<z.cells.size)(c:Nat):jd (dj z) c=(gK z (c*z.cells.size)).toList:=by
 rw[oA]
 have hl:z.cells.toList.length=z.cells.size:=E6
 apply List.ext_getElem?
 intro i
 by_cases hi:i<c*z.cells.size
 ·rw[Nd _ (by omega) c i (by rw[hl];exact hi),aae hs hi]
  simp only[hl]
 ·rw[vG (by rw[Nc,hl];omega),vG (by unfold gK;simp;omega)]
theorem Nf:∀(l cs:List Value),l.length=cs.length->over l cs=l
 |[],[],_=>rfl
 |[],_::_,h=>by simp at h
 |_::_,[],h=>by simp at h
 |x::l,c::cs,h=>by
  show x::over l cs=_
  rw[Nf l cs (by simpa using h)]
theorem aaf{len:Nat}{ps:List (Nat×Value)}{v:Value}(e:lone len ps=some v):len=1∧ps=[(0,v)]:=by
 unfold lone at e
 split at e
 ·cases e;exact⟨rfl,rfl⟩
 ·cases e
theorem aag{len:Nat}{ps:List (Nat×Value)}(hr:GO P t len ps k h n=some r):((inside (mh P t len ps)).bind k) h n=some r:=by
 unfold GO at hr
 cases hu:P.underlying t with
 |none=>simp only[hu]at hr;cases hr
 |some u=>
  simp only[hu]at hr
  cases u<;>try(cases hr;done)
  rename_i e
  simp only at hr
  cases hs:size? P e with
  |none=>simp only[hs]at hr;cases hr
  |some sz=>
   simp only[hs]at hr
   cases hz:fL P e with
   |none=>simp only[hz]at hr;cases hr
   |some z=>
    simp only[hz]at hr
    have e0:mh P t len ps=if len=0&&ps.isEmpty then(cR e []).bind fun id=> .ret (.slice (some ⟨id,0,none⟩) 0 0)else
     if 0<len*sz&&len*sz<=65536 then
      match lB (fun i=>some (i*sz,sz)) (gK z (len*sz)) ps with
      |some cs=>(cR e cs.toList).bind fun id=> .ret (.slice (some ⟨id,0,none⟩) len len)
      |none=> .fail
     else .fail:=by
     unfold mh
     simp only[hu,hs,hz]
     rfl
    rw[e0]
    cases h0:(bN len 0&&ps.isEmpty)with
    |true=>
     simp only[h0]at hr
     rw[bZ]at h0
     have:=kG h0.1
     rw[if_pos (by simp[this,h0.2])]
     unfold qJ fA at hr
     simp only at hr
     refine kV ?_ hr
     rw[nu]
    |false=>
     simp only[h0]at hr
     have qz:¬((decide (len=0)&&ps.isEmpty)=true):=by
      intro q
      rw[bZ,decide_eq_true_eq]at q
      obtain⟨rfl,q⟩:=q
      rw[q]at h0
      cases h0
     rw[if_neg qz]
     cases h1:(bh 1 (len*sz)&&bh (len*sz) 65536&&bN (fi (dj z)) sz)with
     |false=>simp only[h1]at hr;cases hr
     |true=>
      simp only[h1]at hr
      rw[bZ,bZ]at h1
      obtain⟨⟨h2,h3⟩,h4⟩:=h1
      have h2:=gx h2
      have h3:=gx h3
      have h4:=kG h4
      rw[mu,oA,E6]at h4
      rw[if_pos (by simp;omega)]
      have pt:0<z.cells.size:=by
       rw[h4]
       exact Nat.pos_of_ne_zero fun q=>by rw[q]at h2;simp at h2
      cases hv:lone len ps with
      |some v=>
       simp only[hv]at hr
       obtain⟨rfl,rfl⟩:=aaf hv
       unfold fI at hr
       cases hc:bN (fi (dj v)) sz with
       |false=>simp only[hc]at hr;cases hr
       |true=>
        simp only[hc]at hr
        have hc:=kG hc
        have f:=BN (fun i=>some (i*sz,sz)) [(0,v)] (gK z (1*sz))
        have zl:(gK z (1*sz)).toList.length=sz:=by unfold gK;simp
        have f2:sd (fun i=>some (i*sz,sz)) (gK z (1*sz)).toList [(0,v)]=some (dj v):=by
         unfold sd
         simp only[Nat.zero_mul]
         rw[mu (gK z (1*sz)).toList,zl,hc]
         have b1:bN sz sz=true:=xR sz
         have b2:bh (fR 0 sz) sz=true:=lF (by show 0+sz<=sz;omega)
         simp only[b1,b2,Bool.and_self]
         unfold sd
         rw[Gt,<-Gs,Nf _ _ (by rw[zl,<-mu,hc])]
        rw[f2]at f
        cases hi:lB (fun i=>some (i*sz,sz)) (gK z (1*sz)) [(0,v)]with
        |none=>rw[hi]at f;cases f
        |some cs=>
         rw[hi]at f
         simp only[Option.map_some,dV]at f
         refine kV ?_ hr
         rw[nu,f]
      |none=>
       simp only[hv]at hr
       obtain⟨qs,hq,hr⟩:=cG hr
       unfold qJ at hr
       have f:=G3 ps qs (jd (dj z) len) hq
       rw[G5 pt,h4,BN]at f
       rw[G5 pt,h4,f]at hr
       cases hi:lB (fun i=>some (i*sz,sz)) (gK z (len*sz)) ps with
       |none=>rw[hi]at hr;cases hr
       |some cs=>
        rw[hi]at hr
        refine kV ?_ hr
        rw[nu]
theorem aah{l c:Value}(hr:GP P t l c k h n=some r):((inside (mZ P t l c)).bind k) h n=some r:=by
 unfold GP at hr
 cases hu:P.underlying t with
 |none=>simp only[hu]at hr;cases hr
 |some u=>
  simp only[hu]at hr
  cases u<;>try(cases hr;done)
  rename_i e
  simp only at hr
  cases hs:P.info? e with
  |none=>simp only[hs]at hr;cases hr
  |some ie=>
   simp only[hs]at hr
   cases hz:fL P e with
   |none=>simp only[hz]at hr;cases hr
   |some z=>
    simp only[hz]at hr
    cases h1:(bh ie.bytes 64&&bN (fi (dj z)) ie.size&&bh 1 ie.size)with
    |false=>simp only[h1]at hr;cases hr
    |true=>
     simp only[h1]at hr
     rw[bZ,bZ]at h1
     obtain⟨⟨h2,h3⟩,h4⟩:=h1
     have h2:=gx h2
     have h3:=kG h3
     have h4:=gx h4
     rw[mu,oA,E6]at h3
     unfold jP at hr
     split at hr
     ·split at hr
      ·rename_i k1 l _ k2 c
       cases hl:bh l c with
       |false=>simp only[hl]at hr;cases hr
       |true=>
        simp only[hl]at hr
        cases hm:bh c 1099511627776 with
        |false=>simp only[hm]at hr;cases hr
        |true=>
         simp only[hm]at hr
         have hl:=gx hl
         have hm:=gx hm
         refine kV ?_ hr
         unfold mZ
         simp only[hu,hs,hz]
         have q1:(0:Int)<=gY l:=aa _
         have q2:gY l<=gY c:=Int.ofNat_le.2 hl
         have q3:gY c<=1099511627776:=Int.ofNat_le.2 hm
         rw[if_pos (by simp[q1,q2,q3,h2,h3,h4];omega),nu,G5 (by omega),h3]
         rfl
      ·cases hr
     ·cases hr
theorem Ng{P:Program}{t e:TypeId}{sz:Nat}(hu:P.underlying t=some (.slice e))(hs:size? P e=some sz)(a:Option Addr)(len cap:Nat)(lo hi:Option Value):uh sz a len cap lo hi=vN P t (.slice a len cap) lo hi none:=by
 unfold uh vN
 simp only[hu,hs]
 cases h1:er hi len with
 |none=>simp
 |some b=>
  cases h2:er lo 0 with
  |none=>simp[er]
  |some c=>
   simp[er]
   rfl
theorem aai{lo hi mx:Option Value}(hr:GQ P t x lo hi mx k h n=some r):wi P t x lo hi mx k h n=some r:=by
 unfold GQ at hr
 cases mx with
 |some _=>cases hr
 |none=>
  simp only at hr
  cases hu:P.underlying t with
  |none=>simp only[hu]at hr;cases hr
  |some u=>
   simp only[hu]at hr
   cases u<;>try(cases hr;done)
   ·unfold ug at hr
    cases x<;>try(cases hr;done)
    rename_i s
    obtain⟨⟨l⟩⟩:=s
    simp only at hr
    cases ha:qI lo 0 with
    |none=>simp only[ha]at hr;cases hr
    |some a=>
     simp only[ha]at hr
     cases hb:qI hi (kf l)with
     |none=>simp only[hb]at hr;cases hr
     |some b=>
      simp only[hb]at hr
      cases h1:bh a b with
      |false=>simp only[h1]at hr;cases hr
      |true=>
       simp only[h1]at hr
       cases h2:bh b (kf l)with
       |false=>simp only[h2]at hr;cases hr
       |true=>
        simp only[h2]at hr
        have bn:∀{o:Option Value} {d a:Nat},qI o d=some a->er o d=some a:=by
         intro o d a h
         unfold qI at h
         split at h
         ·exact h
         ·cases h
          unfold er
          simp
         ·cases h
        have h2:=gx h2
        rw[qE]at h2 hb
        have e:=ZZ hu l lo hi (bn ha) (bn hb) (gx h1) h2 k
        exact(congrFun (congrFun e h) n).trans hr
   ·rename_i e
    simp only at hr
    cases hs:size? P e with
    |none=>simp only[hs]at hr;cases hr
    |some sz=>
     simp only[hs]at hr
     unfold wi
     have cS:ou P t=false:=by unfold ou;rw[hu]
     rw[cS]
     simp only
     cases x<;>try(cases hr;done)
     rename_i ad len cap
     cases ad with
     |none=>
      unfold qK at hr
      simp only at hr
      cases h1:uh sz none len cap lo hi with
      |none=>simp only[h1]at hr;cases hr
      |some v=>
       simp only[h1]at hr
       have e1:tV P t (.slice none len cap) lo hi none=M.ret v:=by
        unfold tV
        simp only[isStr]
        unfold nV
        simp only
        rw[<-Ng hu hs,h1]
        rfl
       rw[e1]
       exact G2 hr
     |some ad=>
      obtain⟨b,off,p⟩:=ad
      cases p with
      |some _=>cases hr
      |none=>
       unfold qK at hr
       simp only at hr
       obtain⟨c,h2,n2,L⟩:=r
       rw[ki]at hr
       obtain⟨v,h1,n1,L1,L2,e1,e2,e3⟩:=bind_some hr
       obtain⟨L',e4,e5⟩:=tX e1
       obtain⟨w,h3,n3,L3,L4,e6,e7,e8⟩:=bind_some e4
       have:tV P t (.slice (some ⟨b,off,none⟩) len cap) lo hi none h n=some ⟨v,h1,n1,L'⟩:=by
        unfold tV
        simp only[isStr]
        unfold nV
        simp only
        rw[yy]at e6
        rw[e8]
        refine cD e6 ?_
        cases hw:bN w e with
        |false=>simp only[hw]at e7;cases e7
        |true=>
         simp only[hw]at e7
         have:=kG hw
         subst this
         simp only[hu,if_true]
         rw[<-Ng hu hs]
         exact e7
       rw[e3,e5]
       exact cD (kR this) e2
theorem aaj{s:Value}(hr:GZ P t s x k h n=some r):((inside (o6 P t s x)).bind k) h n=some r:=by
 unfold GZ at hr
 cases hu:P.underlying t with
 |none=>simp only[hu]at hr;cases hr
 |some u=>
  simp only[hu]at hr
  cases u<;>try(cases hr;done)
  rename_i e
  simp only at hr
  cases hs:P.info? e with
  |none=>simp only[hs]at hr;cases hr
  |some ie=>
   simp only[hs]at hr
   cases hz:fL P e with
   |none=>simp only[hz]at hr;cases hr
   |some z=>
    simp only[hz]at hr
    cases h1:(bh ie.bytes 64&&bN (fi (dj z)) ie.size&&bh 1 ie.size)with
    |false=>simp only[h1]at hr;cases hr
    |true=>
     simp only[h1]at hr
     rw[bZ,bZ]at h1
     obtain⟨⟨h2,h3⟩,h4⟩:=h1
     have h2:=gx h2
     have h3:=kG h3
     have h4:=gx h4
     rw[mu,oA,E6]at h3
     refine kV ?_ hr
     unfold o6 qL
     simp only[hu,hs,hz]
     cases iQ x with
     |none=>rfl
     |some m=>
      simp only
      have c1:(decide (z.cells.size=ie.size)&&decide (1<=ie.size)&&decide (ie.bytes<=64))=true:=by simp;omega
      rw[if_pos c1]
      unfold tt B4 mT
      rw[yz,r9,BL,MX,yy,nu]
      rfl
theorem aak{d s:Value}(hr:G0 P t d s k h n=some r):((inside (o7 P t d s)).bind k) h n=some r:=by
 unfold G0 at hr
 cases hu:P.underlying t with
 |none=>simp only[hu]at hr;cases hr
 |some u=>
  simp only[hu]at hr
  cases u<;>try(cases hr;done)
  rename_i e
  simp only at hr
  cases hs:size? P e with
  |none=>simp only[hs]at hr;cases hr
  |some sz=>
   simp only[hs]at hr
   refine kV ?_ hr
   unfold o7 M8
   simp only[hu,hs]
   rw[yz,BL]
   cases d<;>try rfl
   cases iQ s<;>rfl
theorem aal{f:Nat}(hr:GR P t x f k h n=some r):aG (vO P t x f) k h n=some r:=by
 unfold GR at hr
 cases hu:P.underlying t with
 |none=>simp only[hu]at hr;cases hr
 |some u=>
  simp only[hu]at hr
  cases u<;>try(cases hr;done)
  rename_i fs
  simp only at hr
  cases hf:fs[f]? with
  |none=>simp only[hf]at hr;cases hr
  |some fd=>
   simp only[hf]at hr
   cases hs:size? P fd.type with
   |none=>simp only[hs]at hr;cases hr
   |some sz=>
    cases sz with
    |zero=>simp only[hs]at hr;cases hr
    |succ sz=>
     simp only[hs]at hr
     unfold ay at hr
     split at hr
     ·refine eR ?_ hr
      unfold vO
      simp only[hu,hf,hs]
      rw[if_neg (by omega)]
      rfl
     ·cases hr
theorem G6 {l:List Value} {K:Nat} {β:Type} {k:Value->M β} {h:H} {n:Nat} {r:Out β} (hr:(match r8 l K with
 |some v=>k v
 |none=>M.fail) h n=some r):aG l[K]? k h n=some r:=by
 rw[BI]at hr
 cases e:l[K]? with
 |none=>rw[e]at hr;cases hr
 |some v=>rw[e]at hr;exact hr
theorem aam{f:Nat}(hr:GS P t x f k h n=some r):aG (rE P t x f) k h n=some r:=by
 unfold GS at hr
 cases hu:P.underlying t with
 |none=>simp only[hu]at hr;cases hr
 |some u=>
  simp only[hu]at hr
  cases u<;>try(cases hr;done)
  rename_i fs
  simp only at hr
  cases hf:fs[f]? with
  |none=>simp only[hf]at hr;cases hr
  |some fd=>
   simp only[hf]at hr
   cases ha:jZ P fd.type with
   |none=>simp only[ha]at hr;cases hr
   |some b=>
    cases b with
    |false=>
     simp only[ha]at hr
     unfold Gz at hr
     cases x<;>try(cases hr;done)
     rename_i cs
     obtain⟨l⟩:=cs
     have:=G6 hr
     have e:rE P t (.agg ⟨l⟩) f=l[fd.offset]? :=by
      unfold rE partOf
      simp only[hu,hf,ha]
      simp
     rw[e];exact this
    |true=>
     simp only[ha]at hr
     cases hs:size? P fd.type with
     |none=>simp only[hs]at hr;cases hr
     |some m=>
      simp only[hs]at hr
      unfold GA at hr
      cases x<;>try(cases hr;done)
      rename_i cs
      obtain⟨l⟩:=cs
      refine eR ?_ hr
      unfold rE partOf
      simp only[hu,hf,ha,hs]
      congr 2
      apply Array.ext'
      simp[List.extract_eq_take_drop]
theorem aan{ix:Value}(hr:GU P t x ix k h n=some r):aG (qm P t x ix) k h n=some r:=by
 unfold GU at hr
 cases hu:P.underlying t with
 |none=>simp only[hu]at hr;cases hr
 |some u=>
  simp only[hu]at hr
  have one:∀{sz:Nat} (i:Nat),bN sz 1=true->i*sz=i:=fun i h=>by rw[kG h,vJ]
  cases u<;>try(cases hr;done)
  case array m e=>
   simp only at hr
   cases hs:size? P e with
   |none=>simp only[hs]at hr;cases hr
   |some sz=>
    simp only[hs]at hr
    cases h1:bN sz 1 with
    |true=>
     simp only[h1]at hr
     unfold jO at hr
     split at hr
     ·split at hr
      ·rename_i b off _ kd i
       cases hl:bh (fa i) m with
       |false=>simp only[hl]at hr;cases hr
       |true=>
        simp only[hl]at hr
        refine eR ?_ hr
        have:=gx hl
        unfold qm
        simp only[hu,hs]
        rw[if_pos ⟨aa _,Int.ofNat_lt.2 this⟩]
        show some (mP (some ⟨b,off+i*sz,none⟩))=_
        rw[one i h1];rfl
      ·cases hr
     ·cases hr
    |false=>
     simp only[h1]at hr
     unfold B1 at hr
     split at hr
     ·split at hr
      ·rename_i b off _ kd i
       cases hl:bh (fa i) m with
       |false=>simp only[hl]at hr;cases hr
       |true=>
        simp only[hl]at hr
        refine eR ?_ hr
        have:=gx hl
        unfold qm
        simp only[hu,hs]
        rw[if_pos ⟨aa _,Int.ofNat_lt.2 this⟩]
        rfl
      ·cases hr
     ·cases hr
  case slice e=>
   simp only at hr
   cases hs:size? P e with
   |none=>simp only[hs]at hr;cases hr
   |some sz=>
    simp only[hs]at hr
    cases h1:bN sz 1 with
    |true=>
     simp only[h1]at hr
     unfold aT at hr
     split at hr
     ·split at hr
      ·rename_i b off m _ _ kd i
       cases hl:bh (fa i) m with
       |false=>simp only[hl]at hr;cases hr
       |true=>
        simp only[hl]at hr
        refine eR ?_ hr
        have:=gx hl
        unfold qm
        simp only[hu,hs]
        rw[if_pos ⟨aa _,Int.ofNat_lt.2 this⟩]
        show some (mP (some ⟨b,off+i*sz,none⟩))=_
        rw[one i h1];rfl
      ·cases hr
     ·cases hr
    |false=>
     simp only[h1]at hr
     unfold BZ at hr
     split at hr
     ·split at hr
      ·rename_i b off m _ _ kd i
       cases hl:bh (fa i) m with
       |false=>simp only[hl]at hr;cases hr
       |true=>
        simp only[hl]at hr
        refine eR ?_ hr
        have:=gx hl
        unfold qm
        simp only[hu,hs]
        rw[if_pos ⟨aa _,Int.ofNat_lt.2 this⟩]
        rfl
      ·cases hr
     ·cases hr
theorem aao{ix:Value}(hr:GV P t x ix k h n=some r):aG (tW P t x ix) k h n=some r:=by
 unfold GV at hr
 cases hu:P.underlying t with
 |none=>simp only[hu]at hr;cases hr
 |some u=>
  simp only[hu]at hr
  cases u<;>try(cases hr;done)
  case string=>
   unfold yD at hr
   cases x<;>try(cases hr;done)
   rename_i s
   obtain⟨⟨l⟩⟩:=s
   simp only at hr
   split at hr
   ·rename_i kd i
    cases hn:qF l i with
    |none=>simp only[hn]at hr;cases hr
    |some c=>
     simp only[hn]at hr
     obtain⟨h1,h2⟩:=Gf _ _ _ hn
     have:=ZY (P:=P) hu l kd (i:Int) (by omega) (by omega)
     rw[o0,h2]at this
     exact eR this hr
   ·cases hr
  case array m e=>
   simp only at hr
   cases ha:jZ P e with
   |none=>simp only[ha]at hr;cases hr
   |some b=>
    cases b with
    |true=>simp only[ha]at hr;cases hr
    |false=>
     simp only[ha]at hr
     cases hs:size? P e with
     |none=>simp only[hs]at hr;cases hr
     |some sz=>
      simp only[hs]at hr
      cases h1:bN sz 1 with
      |false=>simp only[h1]at hr;cases hr
      |true=>
       simp only[h1]at hr
       have:=kG h1
       subst this
       unfold yE at hr
       cases x<;>try(cases hr;done)
       rename_i cs
       obtain⟨l⟩:=cs
       simp only at hr
       split at hr
       ·rename_i kd i
        cases hl:bh (fa i) m with
        |false=>simp only[hl]at hr;cases hr
        |true=>
         simp only[hl]at hr
         have hr:=G6 hr
         have hl:=gx hl
         have cS:ou P t=false:=by unfold ou;rw[hu]
         have e:tW P t (.agg ⟨l⟩) (.int kd (.ofNat i))=l[i]? :=by
          unfold tW
          rw[cS]
          simp only
          unfold Bn
          simp only[isStr]
          unfold vP
          simp only[hu,hs]
          rw[if_pos ⟨aa _,Int.ofNat_lt.2 hl⟩]
          unfold partOf
          simp only[ha,vJ]
          simp
         rw[e];exact hr
       ·cases hr
theorem aap{dc:Array TypeId}{vs:List Value}(hr:GW P dc vs k h n=some r):aG (yo P dc vs) k h n=some r:=by
 unfold GW at hr
 cases ht:dc[0]? with
 |none=>simp only[ht]at hr;cases hr
 |some t=>
  simp only[ht]at hr
  split at hr
  ·rename_i x
   cases hu:P.underlying t with
   |none=>simp only[hu]at hr;cases hr
   |some u=>
    simp only[hu]at hr
    cases u<;>try(cases hr;done)
    ·unfold wz at hr
     cases x<;>try(cases hr;done)
     rename_i s
     obtain⟨⟨l⟩⟩:=s
     refine eR (v:= .int .i64 (l.length:Nat)) ?_ (by rw[<-qE];exact hr)
     unfold yo
     simp only[ht,hu]
     rfl
    ·unfold aW at hr
     cases x<;>try(cases hr;done)
     refine eR ?_ hr
     unfold yo
     simp only[ht,hu]
     rfl
  ·cases hr
theorem aaq{vs:List Value}(hr:GX vs k h n=some r):aG (min2 vs) k h n=some r:=by
 unfold GX at hr
 split at hr
 ·rename_i x y
  unfold sq at hr
  split at hr
  ·split at hr
   ·rename_i a p _ b q
    refine eR (v:= .int a (if q<p then q else p)) rfl ?_
    rw[r4]at hr
    by_cases e:q<p
    ·rw[if_pos e];simp only[e,decide_true]at hr;exact hr
    ·rw[if_neg e];simp only[e,decide_false]at hr;exact hr
   ·cases hr
  ·cases hr
 ·cases hr
theorem aar{vs:List Value}(hr:GY vs k h n=some r):aG (max2 vs) k h n=some r:=by
 unfold GY at hr
 split at hr
 ·rename_i x y
  unfold uf at hr
  split at hr
  ·split at hr
   ·rename_i a p _ b q
    refine eR (v:= .int a (if p<q then q else p)) rfl ?_
    rw[r4]at hr
    by_cases e:p<q
    ·rw[if_pos e];simp only[e,decide_true]at hr;exact hr
    ·rw[if_neg e];simp only[e,decide_false]at hr;exact hr
   ·cases hr
  ·cases hr
 ·cases hr
end
section
variable {α β:Type} {h:H} {n:Nat} {r:Out β}
theorem fP{o:Option α}{k k':α->M β}(hk:∀v,k v h n=some r->k' v h n=some r)(hr:aG o k h n=some r):aG o k' h n=some r:=by
 cases o with
 |none=>cases hr
 |some v=>exact hk v hr
theorem B8{s:Fr}:∀{l:List Operand} {k k':List Value->M β},(∀v,k v h n=some r->k' v h n=some r)->kQ s l k h n=some r->kQ s l k' h n=some r
 |[],_,_,hk,hr=>hk _ hr
 |_::_,_,_,hk,hr=>fP (fun _ q=>B8 (fun _ q=>hk _ q) q) hr
theorem G7{s:Fr}{x:Option Operand}{k k':Option Value->M β}(hk:∀v,k v h n=some r->k' v h n=some r)(hr:qC s x k h n=some r):qC s x k' h n=some r:=by
 cases x with
 |none=>exact hk _ hr
 |some x=>exact fP (fun _ q=>hk _ q) hr
variable {P:Program} {rec:FuncId->Array Value->M Value}
theorem aas{s:Fr}{c:Call}{vs:List Value}{k:Value->M β}(hr:G1 P rec s c vs k h n=some r):call2 P rec s c vs k h n=some r:=by
 unfold G1 at hr
 unfold call2
 cases hc:c.callee with
 |value f=>
  simp only[hc]at hr⊢
  cases f with
  |func g=>
   simp only at hr
   cases hb:j1 P g with
   |false=>simp only[hb]at hr;cases hr
   |true=>
    simp only[hb]at hr
    show eM P rec (.func (.func g) #[] #[]) vs k h n=some r
    unfold eM
    show(match j1 P g with
     |true=>(inside (rec g ((#[]:Array Value).toList++vs++(#[]:Array Value).toList).toArray)).bind k
     |false=>M.fail) h n=some r
    rw[hb]
    refine kV ?_ hr
    simp
  |_=>exact hr
 |builtin b=>
  simp only[hc]at hr⊢
  cases b<;>try(cases hr;done)
  case append=>exact fP (fun q hq=>aaj hq) hr
  case copy=>exact fP (fun q hq=>aak hq) hr
  case len=>exact aap hr
  case max=>exact aar hr
  case min=>exact aaq hr
 |invoke _ _=>
  simp only[hc]at hr
  cases hr
theorem aat{s:Fr}{o:Oper}{k:Value->M β}(hr:kq P rec s o k h n=some r):Bo P rec s o k h n=some r:=by
 obtain⟨dst,op,ty,pos,after,guard⟩:=o
 unfold kq at hr
 unfold Bo
 cases op with
 |move x=>exact hr
 |assign x=>exact hr
 |pick c a b=>
  refine fP (fun vc=>fP fun va=>fP fun vb q=> ?_) hr
  unfold Gy at q
  split at q
  ·exact eR rfl q
  ·exact eR rfl q
  ·cases q
 |alloc e=>exact aab hr
 |box e x=>exact fP (fun _ q=>aac q) hr
 |build t ps=>exact B8 (fun _ q=>aad q) hr
 |buildSlice t len ps=>exact B8 (fun _ q=>aag q) hr
 |load t a=>exact fP (fun _ q=>Nb q) hr
 |store t a x=>exact fP (fun _=>fP fun _ q=>aaa q) hr
 |nilCheck x=>
  refine fP (fun v q=> ?_) hr
  unfold az at q
  split at q
  ·exact eR rfl q
  ·exact eR rfl q
  ·cases q
 |binOp op t x y yt=>exact fP (fun _=>fP fun _ q=>Z5 q) hr
 |unOp op t x=>exact fP (fun _ q=>Z6 q) hr
 |convert src d x=>exact fP (fun _ q=>Z9 q) hr
 |makeFunc fn a b=>exact hr
 |makeSlice t l c=>exact fP (fun _=>fP fun _ q=>aah q) hr
 |slice t x lo hi mx=>exact fP (fun _=>G7 fun _=>G7 fun _=>G7 fun _ q=>aai q) hr
 |fieldAddr t x f=>exact fP (fun _ q=>aal q) hr
 |field t x f=>exact fP (fun _ q=>aam q) hr
 |indexAddr t x ix=>exact fP (fun _=>fP fun _ q=>aan q) hr
 |index t x ix=>exact fP (fun _=>fP fun _ q=>aao q) hr
 |extract t i=>
  refine fP (fun v q=> ?_) hr
  unfold aY at q
  cases v<;>try(cases q;done)
  rename_i cs
  obtain⟨l⟩:=cs
  have e:rF (.tuple ⟨l⟩) i=l[i]? :=by simp[rF]
  rw[e]
  exact G6 q
 |call c=>exact B8 (fun _ q=>aas q) hr
 |_=>cases hr
end
end Go.Proofs.YtdagfcflbphoiaaGreatDoor.Ev
namespace Go.Proofs.YtdagfcflbphoiaaGreatDoor.Ev
open Go
noncomputable section
variable (P:Program) (rec:FuncId->Array Value->M Value)
def fb(ops:Array Oper)(dst:Option Tmp):List Nat->List Nat
 |[]=>[]
 |j::r=>match (ops[j]?).bind (·.dst),dst with
  |some t,some d=>match bN t d with
   |true=>fb ops dst r
   |false=>j::fb ops dst r
  |_,_=>j::fb ops dst r
def ui(j:Nat):List Nat->Bool
 |[]=>false
 |i::r=>match bN i j with
  |true=>true
  |false=>ui j r
def oC{β:Type}(ops:Array Oper):List Oper->Nat->List Nat->Fr->(Fr->M β)->M β
 |[],_,_,s,k=>k s
 |o::r,i,cT,s,k=>match o.guard with
  |none=>kq P rec s o fun v=>oC ops r (i+1) (fb ops o.dst cT) (gC s o.dst v) k
  |some (j,want)=>match ui j cT with
   |true=>oC ops r (i+1) (i::fb ops o.dst cT) (gC s o.dst undef) k
   |false=>match (ops[j]?).bind (·.dst)with
    |none=> .fail
    |some t=>aG (s.at_ t) fun g=>
     an g (match want with
      |true=>kq P rec ((t,.bool true)::s) o fun v=>oC ops r (i+1) (fb ops o.dst cT) (gC ((t,.bool true)::s) o.dst v) k
      |false=>oC ops r (i+1) (i::fb ops o.dst cT) (gC ((t,.bool true)::s) o.dst undef) k)
      (match want with
        |true=>oC ops r (i+1) (i::fb ops o.dst cT) (gC ((t,.bool false)::s) o.dst undef) k
        |false=>kq P rec ((t,.bool false)::s) o fun v=>oC ops r (i+1) (fb ops o.dst cT) (gC ((t,.bool false)::s) o.dst v) k)
abbrev Hint:=List Nat×List Nat×List (Nat×List Nat)
def Nh:List (Nat×List Nat)->Nat->Option (List Nat)
 |[],_=>none
 |q::r,i=>match bN q.1 i with
  |true=>some q.2
  |false=>Nh r i
def Hint.out(G:Hint)(id:Nat)(s:Fr):Fr:=match Nh G.2.2 id with
 |some l=>s.ax l
 |none=>s
def B9{β:Type}(kd:Nat)(k:Tk->M β):M β:=match kd with
 |0=>k ⟨0,0,[]⟩
 |_=>(cz (M.ret undef)).bind fun x=>k x.2
def ju{β:Type}(ops:Array Oper):List Oper->Nat->List Nat->Fr->List Tk->(Fr->List Tk->M β)->M β
 |[],_,_,s,acc,k=>k s acc.reverse
 |o::r,i,cT,s,acc,k=>match o.guard with
  |none=>match kind o.op with
   |0=>kq P rec s o fun v=>ju ops r (i+1) (fb ops o.dst cT) (gC s o.dst v) (⟨0,0,[]⟩::acc) k
   |_=>(cz (kq P rec s o M.ret)).bind fun x=>ju ops r (i+1) (fb ops o.dst cT) (gC s o.dst x.1) (x.2::acc) k
  |some (j,want)=>match ui j cT with
   |true=>B9 (kind o.op) fun tk=>ju ops r (i+1) (i::fb ops o.dst cT) (gC s o.dst undef) (tk::acc) k
   |false=>match (ops[j]?).bind (·.dst)with
    |none=> .fail
    |some t=>aG (s.at_ t) fun g=>
     an g (match want with
      |true=>match kind o.op with
       |0=>kq P rec ((t,.bool true)::s) o fun v=>ju ops r (i+1) (fb ops o.dst cT) (gC ((t,.bool true)::s) o.dst v) (⟨0,0,[]⟩::acc) k
       |_=>(cz (kq P rec ((t,.bool true)::s) o M.ret)).bind fun x=>ju ops r (i+1) (fb ops o.dst cT) (gC ((t,.bool true)::s) o.dst x.1) (x.2::acc) k
      |false=>B9 (kind o.op) fun tk=>ju ops r (i+1) (i::fb ops o.dst cT) (gC ((t,.bool true)::s) o.dst undef) (tk::acc) k)
      (match want with
        |true=>B9 (kind o.op) fun tk=>ju ops r (i+1) (i::fb ops o.dst cT) (gC ((t,.bool false)::s) o.dst undef) (tk::acc) k
        |false=>match kind o.op with
         |0=>kq P rec ((t,.bool false)::s) o fun v=>ju ops r (i+1) (fb ops o.dst cT) (gC ((t,.bool false)::s) o.dst v) (⟨0,0,[]⟩::acc) k
         |_=>(cz (kq P rec ((t,.bool false)::s) o M.ret)).bind fun x=>ju ops r (i+1) (fb ops o.dst cT) (gC ((t,.bool false)::s) o.dst x.1) (x.2::acc) k)
def Ca(cU:List Nat)(ops:Array Oper)(j:Nat)(oj:Oper)(tj:Tk)(k:Nat)(ok:Oper)(tk:Tk):Bool:=
 (cU.getD k 0).testBit j||(!(o8 ops oj ok)&&(match fits (kind oj.op) (kind ok.op)with
   |true=>true
   |false=> !(mv tj tk)))
def Cb(cU:List Nat)(ops:Array Oper)(j:Nat)(oj:Oper)(tj:Tk):Nat->List Oper->List Tk->Bool
 |k,ok::r,tk::t=>Ca cU ops j oj tj k ok tk&&Cb cU ops j oj tj (k+1) r t
 |_,_,_=>true
def wC(cU:List Nat)(ops:Array Oper):Nat->List Oper->List Tk->Bool
 |j,oj::r,tj::t=>Cb cU ops j oj tj (j+1) r t&&wC cU ops (j+1) r t
 |_,_,_=>true
def sw{β:Type}(b:Bool)(m:M β):M β:=match b with
 |true=>m
 |false=> .fail
def G8{β:Type}(ops:Array Oper)(draw:Bool)(s:Fr)(k:Fr->M β):M β:=
 match !draw||Br ops with
 |true=>oC P rec ops ops.toList 0 [] s k
 |false=>match rG ops with
  |true=>ju P rec ops ops.toList 0 [] s [] fun s1 Ni=>sw (wC (lH ops.toList []) ops 0 ops.toList Ni) (k s1)
  |false=> .fail
def Nj{β:Type}(kb:Fr->(Ex->Fr->M β)->M β)(k:Ex->Fr->M β):Ex->Fr->M β
 | .normal,s1=>kb s1 k
 | .ret,s1=>k .ret s1
 | .exit i,s1=>k (.exit i) s1
def Cc{β:Type}(id:Nat)(k:Ex->Fr->M β):Ex->Fr->M β
 | .normal,s1=>k .normal s1
 | .ret,s1=>k .ret s1
 | .exit i,s1=>match bN i id with
   |true=>k .normal s1
   |false=>k (.exit i) s1
def Nk{β:Type}(again:Fr->M β)(k:Ex->Fr->M β):Ex->Fr->M β
 | .normal,s1=>again s1
 | .ret,s1=>k .ret s1
 | .exit i,s1=>k (.exit i) s1
def bK{β:Type}(body:Fr->(Ex->Fr->M β)->M β)(keys:List Nat):Nat->Fr->(Ex->Fr->M β)->M β
 |0,_,_=> .fail
 |f+1,s,k=>body s (Nk (fun s1=>bK body keys f (s1.ax keys) k) k)
def oD{β:Type}(G:Hint)(lf:Nat):Code->Fr->(Ex->Fr->M β)->M β
 | .skip,s,k=>k .normal s
 | .label _,s,k=>k .normal s
 | .region _ ops draw,s,k=>G8 P rec ops draw s fun s1=>k .normal (s1.ax G.1)
 | .seq a b,s,k=>oD G lf a s (Nj (fun s1 k1=>oD G lf b s1 k1) k)
 | .cond c a b,s,k=>aG (aZ s c) fun v=>an v (oD G lf a s k) (oD G lf b s k)
 | .block id c,s,k=>oD G lf c s (Cc id k)
 | .loop c,s,k=>bK (fun s1 k1=>oD G lf c s1 k1) s.keys lf s k
 | .exit id,s,k=>k (.exit id) (G.out id s)
 | .ret,s,k=>k .ret (s.ax G.2.1)
 |_,_,_=> .fail
def sx:Code->List Bool->Code
 | .seq a b,t::p=>match t with
   |true=>sx b p
   |false=>sx a p
 | .cond _ a b,t::p=>match t with
   |true=>sx b p
   |false=>sx a p
 | .block _ c,_::p=>sx c p
 | .loop c,_::p=>sx c p
 |c,_=>c
def uj{β:Type}(G:Hint)(lf:Nat):Code->List Bool->(Ex->Fr->M β)->Ex->Fr->M β
 | .seq a b,t::p,k=>match t with
   |true=>uj G lf b p k
   |false=>uj G lf a p (Nj (fun s1 k1=>oD P rec G lf b s1 k1) k)
 | .cond _ a b,t::p,k=>match t with
   |true=>uj G lf b p k
   |false=>uj G lf a p k
 | .block id c,_::p,k=>uj G lf c p (Cc id k)
 |_,_,k=>k
def wD{β:Type}(s:Fr):List ResultVar->(List Value->M β)->M β
 |[],k=>k []
 | .tmp t::r,k=>aG (s.at_ t) fun v=>wD s r fun vs=>k (v::vs)
 | .cell a t::r,k=>aG (s.at_ a) fun a=>B7 P t a fun v=>wD s r fun vs=>k (v::vs)
def aj(vs:List Value):M Value:= .ret (match vs with|[v]=>v|_=> .tuple vs.toArray)
def Nl(rs:List ResultVar):Ex->Fr->M Value
 | .normal,s=>wD P s rs aj
 | .ret,s=>wD P s rs aj
 | .exit _,_=> .fail
def Ce:Nat->List Value->Fr
 |_,[]=>[]
 |i,v::r=>(i,v)::Ce (i+1) r
end
def G9(P:Program)(f:FuncId):Code:=match P.funcs[f]? with
 |some fn=>match fn.body with
  |some c=>c
  |none=> .skip
 |none=> .skip
def aau(P:Program)(f:FuncId):List ResultVar:=match P.funcs[f]? with
 |some fn=>fn.results.toList
 |none=>[]
noncomputable def aE (P:Program) (gt:Nat->Hint) (lf:Nat) (rec:FuncId->Array Value->M Value) (f:FuncId) (args:Array Value):M Value:=match P.funcs[f]? with
 |some fn=>match fn.body with
  |some c=>match decide (args.size<=fn.ntmps)&&decide (fn.ntmps<1000)with
   |true=>inside (oD P rec (gt f) lf c (Ce 0 args.toList) (Nl P fn.results.toList))
   |false=> .fail
  |none=> .fail
 |none=> .fail
noncomputable def uk (kn:List FuncId) (P:Program) (gt:Nat->Hint) (lf:Nat):Nat->FuncId->Array Value->M Value
 |0,_,_=> .fail
 |d+1,f,args=>match kn.contains f with
  |true=>match rJ f with
   |some k=>rK k args.toList
   |none=>match decide (args.size=0)&&vT P f with
    |true=>(mi P KG).bind fun _=> .ret (.bool true)
    |false=> .fail
  |false=>aE P gt lf (uk kn P gt lf d) f args
noncomputable def aq (P:Program) (gt:Nat->Hint) (lf:Nat):Nat->FuncId->Array Value->M Value:=uk KN P gt lf
def lR(nt:Nat):Code->Bool
 | .region _ ops _=>ops.all fun o=>match o.dst with
   |some d=>d<nt&&d<1023
   |none=>true
 | .seq a b=>lR nt a&&lR nt b
 | .cond _ a b=>lR nt a&&lR nt b
 | .block _ c| .loop c=>lR nt c
 |_=>true
def mw(P:Program):Bool:=P.funcs.all fun fn=>match fn.body with
 |some c=>lR fn.ntmps c
 |none=>true
theorem Sub.nil(s1:S):Sub [] s1:=fun t v h=>by cases h
theorem G'(d:Nat)(v:Value)(s:Fr)(t:Nat):Fr.at_ ((d,v)::s) t=if d=t then some v else s.at_ t:=by
 show(match bN d t with|true=>some v|false=>s.at_ t)=_
 by_cases e:d=t
 ·subst e
  rw[xR,if_pos rfl]
 ·have:bN d t=false:=Bool.eq_false_iff.2 fun q=>e (kG q)
  rw[this,if_neg e]
theorem Sub.cons{s:Fr}{s1:S}(hs:Sub s s1){d:Nat}{v:Value}(h:s1.get d=v):Sub ((d,v)::s) s1:=fun t u hu=>by
 rw[G']at hu
 by_cases e:d=t
 ·rw[if_pos e]at hu;cases hu;rw[<-e];exact h
 ·rw[if_neg e]at hu;exact hs t u hu
theorem Sub.put{s:Fr}{s1:S}(hs:Sub s s1){nt:Nat}{dst:Option Tmp}(hd:∀d,dst=some d->d<nt∧d<1023)(v:Value):∃s2,j3 nt s1 dst v=some s2∧Sub (gC s dst v) s2:=by
 cases dst with
 |none=>exact⟨s1,rfl,hs⟩
 |some d=>
  obtain⟨h1,h2⟩:=hd d rfl
  refine⟨s1.put d v,by unfold j3;simp[h1,h2],fun t u hu=> ?_⟩
  rw[S.pf _ _ _ _ h2]
  have hu:Fr.at_ ((d,v)::s) t=some u:=hu
  rw[G']at hu
  by_cases e:d=t
  ·rw[if_pos e]at hu;rw[if_pos e.symm];cases hu;rfl
  ·rw[if_neg e]at hu;rw[if_neg (fun q=>e q.symm)];exact hs t u hu
theorem Ha(s:Fr):∀(G:List Nat) (t:Nat) (v:Value),(s.ax G).at_ t=some v->s.at_ t=some v
 |[],t,v,h=>by cases h
 |g::G,t,v,h=>by
  unfold Fr.ax at h
  split at h
  ·rename_i u hu
   rw[G']at h
   by_cases e:g=t
   ·rw[if_pos e]at h;cases h;rw[<-e];exact hu
   ·rw[if_neg e]at h;exact Ha s G t v h
  ·exact Ha s G t v h
theorem Sub.ax{s:Fr}{s1:S}(hs:Sub s s1)(G:List Nat):Sub (s.ax G) s1:=fun t v h=>hs t v (Ha s G t v h)
theorem Sub.out{s:Fr}{s1:S}(hs:Sub s s1)(G:Hint)(id:Nat):Sub (G.out id s) s1:=by
 unfold Hint.out
 split
 ·exact hs.ax _
 ·exact hs
section
variable {P:Program} {kn:List FuncId} {rec:FuncId->Array Value->M Value} (cB:∀f args h n v h1 n1 L,rec f args h n=some ⟨v,h1,n1,L⟩->dR (fun fuel=>cM P kn fuel f args) h n v h1 n1 L)
include cB
theorem Hb{ops:Array Oper}{o:Oper}{s:Fr}{s1:S}{β:Type}{k:Value->M β}{h:H}{n:Nat}{r:Out β}(hw:fK o (gy ops s1)=true)(hs:Sub s s1)(hr:kq P rec s o k h n=some r):
 ∃v h1 n1 L1 L2,dR (fun fuel=>inside (fD P (cM P kn fuel) ops o s1)) h n v h1 n1 L1∧k v h1 n1=some ⟨r.val,r.h,r.n,L2⟩∧r.log=L1++L2:=by
 obtain⟨v,h1,n1,L1,L2,e1,e2,e3⟩:=Zl cB hs (aat hr)
 refine⟨v,h1,n1,L1,L2,e1.map fun fuel=> ?_,e2,e3⟩
 rw[MQ hw]
 rfl
theorem Nm{ops:Array Oper}{o:Oper}{s1:S}{h:H}{n:Nat}(hw:fK o (gy ops s1)=false):dR (fun fuel=>inside (fD P (cM P kn fuel) ops o s1)) h n undef h n []:=by
 refine⟨0,fun fuel _=> ?_⟩
 show inside (fD P (cM P kn fuel) ops o s1) h n=_
 unfold fD
 rw[if_neg (by rw[hw];exact ahu)]
 rfl
theorem Hc{β:Type}{v:Value}{x y:M β}{h:H}{n:Nat}{r:Out β}(hr:an v x y h n=some r):(v= .bool true∧x h n=some r)∨(v= .bool false∧y h n=some r):=by
 unfold an at hr
 split at hr
 ·exact .inl ⟨rfl,hr⟩
 ·exact .inr ⟨rfl,hr⟩
 ·cases hr
theorem yF {nt:Nat} {ops:Array Oper} {o:Oper} {l:List Oper} {s1 s2:S} {h h1 h2:H} {n n1 n2:Nat} {v:Value} {L1 L2:List En} {y:S×List Tk} (e1:dR (fun fuel=>inside (fD P (cM P kn fuel) ops o s1)) h n v h1 n1 L1)
 (hp:j3 nt s1 o.dst v=some s2) (e2:dR (fun fuel=>iB P (cM P kn fuel) nt ops l s2) h1 n1 y h2 n2 L2):dR (fun fuel=>iB P (cM P kn fuel) nt ops (o::l) s1) h n (y.1,⟨n,n1,L1⟩::y.2) h2 n2 (L1++L2):=by
 obtain⟨f0,e1⟩:=e1
 obtain⟨f1,e2⟩:=e2
 refine⟨max f0 f1,fun fuel hf=> ?_⟩
 have g1:=yr (e1 fuel (by omega))
 have g2:=e2 fuel (by omega)
 show iB P (cM P kn fuel) nt ops (o::l) s1 h n=_
 unfold iB
 refine cD g1 ?_
 simp only[hp,tY,pA]
 have:=cD (f:=fun y:S×List Tk=>M.ret (y.1,(⟨n,n1,L1⟩:Tk)::y.2)) g2 (h2:=h2) (n2:=n2) (L2:=[]) (b:=(y.1,(⟨n,n1,L1⟩:Tk)::y.2)) rfl
 rw[dF]at this
 exact this
theorem Hd{j:Nat}:∀{l:List Nat},ui j l=true->j∈l
 |[],h=>by cases h
 |i::r,h=>by
  unfold ui at h
  cases hb:bN i j with
  |true=>rw[kG hb];simp
  |false=>rw[hb]at h;exact lG _ (Hd h)
def Idle(ops:Array Oper)(s1:S)(cT:List Nat):Prop:=∀j∈cT,gy ops s1 j=none
theorem Idle.put{ops:Array Oper}{s1 s2:S}{nt:Nat}{dst:Option Tmp}{v:Value}:∀{cT:List Nat},Idle ops s1 cT->j3 nt s1 dst v=some s2->Idle ops s2 (fb ops dst cT)
 |[],_,_=>fun j hj=>by cases hj
 |i::r,h,hp=>by
  have hr:Idle ops s2 (fb ops dst r):=Idle.put (fun j hj=>h j (lG _ hj)) hp
  have hi:=h i (by simp)
  have get:∀t,dst≠some t->s2.get t=s1.get t:=by
   intro t ht
   cases dst with
   |none=>simp only[j3,dV]at hp;rw[hp]
   |some d=>
    unfold j3 at hp
    simp only at hp
    split at hp
    ·rename_i hd
     simp only[bZ,decide_eq_true_eq]at hd
     cases hp
     rw[S.pf _ _ _ _ hd.2,if_neg (fun e=>ht (by rw[e]))]
    ·cases hp
  have ax:(∀t,(ops[i]?).bind (·.dst)=some t->dst≠some t)->Idle ops s2 (i::fb ops dst r):=by
   intro hk j hj
   rcases E8.1 hj with rfl|hj
   ·unfold gy at hi⊢
    cases ht:(ops[j]?).bind (·.dst)with
    |none=>rfl
    |some t=>
     rw[ht]at hi
     simp only at hi⊢
     rw[get t (hk t ht)]
     exact hi
   ·exact hr j hj
  unfold fb
  cases ht:(ops[i]?).bind (·.dst)with
  |none=>exact ax fun t h=>by rw[ht]at h;cases h
  |some t=>
   cases dst with
   |none=>exact ax fun t h e=>by cases e
   |some d=>
    simp only
    cases hb:bN t d with
    |true=>exact hr
    |false=>
     refine ax fun t' h=> ?_
     rw[ht]at h
     cases h
     rintro⟨⟩
     rw[xR]at hb
     cases hb
theorem Idle.add{ops:Array Oper}{s1 s2:S}{nt:Nat}{o:Oper}{i:Nat}(hi:ops[i]? =some o){cT:List Nat}(h:Idle ops s2 cT)(hp:j3 nt s1 o.dst undef=some s2):Idle ops s2 (i::cT):=by
 intro j hj
 rcases E8.1 hj with rfl|hj
 ·unfold gy
  rw[hi]
  simp only[Option.bind_some]
  cases hd:o.dst with
  |none=>rfl
  |some d=>
   rw[hd]at hp
   unfold j3 at hp
   simp only at hp
   split at hp
   ·rename_i Bc
    simp only[bZ,decide_eq_true_eq]at Bc
    cases hp
    simp only
    rw[S.pf _ _ _ _ Bc.2,if_pos rfl]
    rfl
   ·cases hp
 ·exact h j hj
theorem aav{β:Type}{nt:Nat}{ops:Array Oper}:∀(l:List Oper) (_:∀o∈l,∀d,o.dst=some d->d<nt∧d<1023) (i:Nat) (_:∀q o,l[q]? =some o->ops[i+q]? =some o) (cT:List Nat) (s:Fr) (s1:S) (_:Idle ops s1 cT) (k:Fr->M β) (h:H) (n:Nat) (r:Out β),Sub s s1->oC P rec ops l i cT s k h n=some r->
 ∃s' y h1 n1 L1 L2,dR (fun fuel=>iB P (cM P kn fuel) nt ops l s1) h n y h1 n1 L1∧Sub s' y.1∧k s' h1 n1=some ⟨r.val,r.h,r.n,L2⟩∧r.log=L1++L2:=by
 intro l
 induction l with
 |nil=>
  intro _ i _ cT s s1 _ k h n r hs hr
  exact⟨s,(s1,[]),h,n,[],r.log,dR.of rfl,hs,hr,rfl⟩
 |cons o l ih=>
  intro hd i pI cT s s1 sA k h n r hs hr
  have wE:=hd o (by simp)
  have wF:∀o∈l,∀d,o.dst=some d->d<nt∧d<1023:=fun o' ho=>hd o' (by simp[ho])
  have He:ops[i]? =some o:=by have:=pI 0 o rfl;rwa[mN]at this
  have dN:∀q o',l[q]? =some o'->ops[i+1+q]? =some o':=fun q o' hq=>by
   have:=pI (q+1) o' (by simpa using hq)
   rwa[show i+1+q=i+(q+1) by omega]
  have go:∀(s:Fr),Sub s s1->fK o (gy ops s1)=true->kq P rec s o (fun v=>oC P rec ops l (i+1) (fb ops o.dst cT) (gC s o.dst v) k) h n=some r->
   ∃s' y h1 n1 L1 L2,dR (fun fuel=>iB P (cM P kn fuel) nt ops (o::l) s1) h n y h1 n1 L1∧Sub s' y.1∧k s' h1 n1=some ⟨r.val,r.h,r.n,L2⟩∧r.log=L1++L2:=by
   intro s hs hw hr
   obtain⟨v,h1,n1,L1,L2,e1,e2,e3⟩:=Hb cB hw hs hr
   obtain⟨s2,hp,fx⟩:=hs.put wE v
   obtain⟨s',y,h3,n3,L3,L4,e4,e5,e6,e7⟩:=ih wF _ dN _ _ s2 (Idle.put cB sA hp) k h1 n1 _ fx e2
   exact⟨s',_,h3,n3,_,L4,yF cB e1 hp e4,e5,e6,by rw[e3];simp only at e7;rw[e7,cE]⟩
  have idle:∀(s:Fr),Sub s s1->fK o (gy ops s1)=false->oC P rec ops l (i+1) (i::fb ops o.dst cT) (gC s o.dst undef) k h n=some r->
   ∃s' y h1 n1 L1 L2,dR (fun fuel=>iB P (cM P kn fuel) nt ops (o::l) s1) h n y h1 n1 L1∧Sub s' y.1∧k s' h1 n1=some ⟨r.val,r.h,r.n,L2⟩∧r.log=L1++L2:=by
   intro s hs hw hr
   obtain⟨s2,hp,fx⟩:=hs.put wE undef
   obtain⟨s',y,h3,n3,L3,L4,e4,e5,e6,e7⟩:=ih wF _ dN _ _ s2 (Idle.add cB He (Idle.put cB sA hp) hp) k h n _ fx hr
   exact⟨s',_,h3,n3,_,L4,yF cB (Nm cB hw) hp e4,e5,e6,e7⟩
  unfold oC at hr
  cases hg:o.guard with
  |none=>
   rw[hg]at hr
   exact go s hs (by unfold fK;rw[hg]) hr
  |some jw=>
   obtain⟨j,want⟩:=jw
   rw[hg]at hr
   simp only at hr
   cases hI:ui j cT with
   |true=>
    rw[hI]at hr
    refine idle s hs ?_ hr
    unfold fK
    rw[hg]
    simp only
    rw[sA j (Hd cB hI)]
    rfl
   |false=>
   rw[hI]at hr
   simp only at hr
   cases ht:(ops[j]?).bind (·.dst)with
   |none=>rw[ht]at hr;cases hr
   |some t=>
    rw[ht]at hr
    simp only at hr
    obtain⟨g,oE,hr⟩:=cG hr
    have lQ:=hs t g oE
    have hy:∀b,g= .bool b->gy ops s1 j=some b:=fun b hb=>by
     unfold gy
     rw[ht]
     simp only[lQ,hb]
    rcases Hc cB hr with ⟨hb,hr⟩|⟨hb,hr⟩
    ·have dz:Sub ((t,.bool true)::s) s1:=hs.cons (by rw[lQ,hb])
     cases want with
     |true=>exact go _ dz (by unfold fK;rw[hg];simp only;rw[hy _ hb];rfl) hr
     |false=>exact idle _ dz (by unfold fK;rw[hg];simp only;rw[hy _ hb];rfl) hr
    ·have dz:Sub ((t,.bool false)::s) s1:=hs.cons (by rw[lQ,hb])
     cases want with
     |true=>exact idle _ dz (by unfold fK;rw[hg];simp only;rw[hy _ hb];rfl) hr
     |false=>exact go _ dz (by unfold fK;rw[hg];simp only;rw[hy _ hb];rfl) hr
end
theorem Cf{α:Type}{a c:α}{h h2:H}{n n2:Nat}{L:List En}(hr:(M.ret a) h n=some ⟨c,h2,n2,L⟩):c=a∧h2=h∧n2=n∧L=[]:=by
 simp only[M.ret,dV,Out.mk.injEq]at hr
 exact⟨hr.1.symm,hr.2.1.symm,hr.2.2.1.symm,hr.2.2.2.symm⟩
def Match:List Oper->List Tk->List Tk->Prop
 |[],[],[]=>True
 |o::l,t'::iI,t::ts=>(kind o.op=0∨t'=t)∧Match l iI ts
 |_,_,_=>False
theorem Match.get:∀{l:List Oper} {iI ts:List Tk},Match l iI ts->∀(i:Nat) (o:Oper) (t:Tk),l[i]? =some o->ts[i]? =some t->∃t',iI[i]? =some t'∧(kind o.op=0∨t'=t)
 |[],[],[],_,i,o,t,h,_=>by simp at h
 |o::l,t'::iI,t::ts,h,0,o',u,h1,h2=>by
  simp at h1 h2;subst h1 h2
  exact⟨t',rfl,h.1⟩
 |o::l,t'::iI,t::ts,h,i+1,o',u,h1,h2=>by
  simpa using Match.get h.2 i o' u (by simpa using h1) (by simpa using h2)
theorem aaw{ops:Array Oper}{cU:List Nat}{j:Nat}{oj:Oper}{tj:Tk}:∀(l:List Oper) (ts:List Tk) (k:Nat),Cb cU ops j oj tj k l ts=true->∀i o t,l[i]? =some o->ts[i]? =some t->Ca cU ops j oj tj (k+i) o t=true:=by
 intro l
 induction l with
 |nil=>intro ts k _ i o t h;simp at h
 |cons o l ih=>
  intro ts k h i o' t' hi ht
  cases ts with
  |nil=>simp at ht
  |cons t ts=>
   unfold Cb at h
   simp only[bZ]at h
   cases i with
   |zero=>simp at hi ht;subst hi ht;exact h.1
   |succ i=>
    rw[show k+(i+1)=k+1+i by omega]
    exact ih ts (k+1) h.2 i o' t' (by simpa using hi) (by simpa using ht)
theorem aax{ops:Array Oper}{cU:List Nat}:∀(l:List Oper) (ts:List Tk) (j:Nat),wC cU ops j l ts=true->∀p q op oq tp tq,p<q->l[p]? =some op->l[q]? =some oq->ts[p]? =some tp->ts[q]? =some tq->Ca cU ops (j+p) op tp (j+q) oq tq=true:=by
 intro l
 induction l with
 |nil=>intro ts j _ p q op oq tp tq _ h;simp at h
 |cons o l ih=>
  intro ts j h p q op oq tp tq dO h1 h2 h3 h4
  cases ts with
  |nil=>simp at h3
  |cons t ts=>
   unfold wC at h
   simp only[bZ]at h
   cases q with
   |zero=>omega
   |succ q=>
    cases p with
    |zero=>
     simp at h1 h3;subst h1 h3
     have:=aaw l ts (j+1) h.1 q oq tq (by simpa using h2) (by simpa using h4)
     rw[show j+(q+1)=j+1+q by omega,mN]
     exact this
    |succ p=>
     have:=ih ts (j+1) h.2 p q op oq tp tq (by omega) (by simpa using h1) (by simpa using h2) (by simpa using h3) (by simpa using h4)
     rw[show j+(q+1)=j+1+q by omega,show j+(p+1)=j+1+p by omega]
     exact this
theorem aay{i j:Nat}(h:fits i j=false):i≠0∧j≠0:=by
 unfold fits at h
 simp only[vH,beq_eq_false_iff_ne]at h
 exact⟨h.1.1.1.1,h.1.1.1.2⟩
theorem aaz{ops:Array Oper}{iI ts:List Tk}{n m:Nat}(x:ox n ops.toList ts m)(hm:Match ops.toList iI ts)(h:wC (lH ops.toList []) ops 0 ops.toList iI=true):o9 ops (lH ops.toList []) (tagged 0 ts)=true:=by
 refine MR ops.toList ts n m 0 x (MS ops) fun p q op oq tp tq dO h1 h2 h3 h4=> ?_
 obtain⟨tp',g1,g2⟩:=hm.get p op tp h1 h3
 obtain⟨tq',g3,g4⟩:=hm.get q oq tq h2 h4
 have:=aax _ _ 0 h p q op oq tp' tq' dO h1 h2 g1 g3
 unfold Ca at this
 simp only[vF,bZ,Lj]at this
 rcases this with g|⟨gs,g⟩
 ·exact .inl g
 ·refine .inr ⟨?_,gs⟩
  cases hf:fits (kind op.op) (kind oq.op)with
  |true=>exact .inl rfl
  |false=>
   rw[hf]at g
   obtain⟨z1,z2⟩:=aay hf
   rcases g2 with g2|g2
   ·exact absurd g2 z1
   ·rcases g4 with g4|g4
    ·exact absurd g4 z2
    ·subst g2 g4
     exact .inr (by rw[<-yA];simpa using g)
section
variable {P:Program} {kn:List FuncId} {rec:FuncId->Array Value->M Value} (cB:∀f args h n v h1 n1 L,rec f args h n=some ⟨v,h1,n1,L⟩->dR (fun fuel=>cM P kn fuel f args) h n v h1 n1 L)
include cB
theorem aaA{β:Type}{nt:Nat}{ops:Array Oper}:∀(l:List Oper) (_:∀o∈l,∀d,o.dst=some d->d<nt∧d<1023) (i:Nat) (_:∀q o,l[q]? =some o->ops[i+q]? =some o) (cT:List Nat) (s:Fr) (s1:S) (_:Idle ops s1 cT) (acc:List Tk) (k:Fr->List Tk->M β) (h:H) (n:Nat) (r:Out β),Sub s s1->ju P rec ops l i cT s acc k h n=some r->
 ∃s' y ts h1 n1 L1 L2,dR (fun fuel=>iB P (cM P kn fuel) nt ops l s1) h n y h1 n1 L1∧Sub s' y.1∧k s' (acc.reverse++ts) h1 n1=some ⟨r.val,r.h,r.n,L2⟩∧r.log=L1++L2∧Match l ts y.2:=by
 intro l
 induction l with
 |nil=>
  intro _ i _ cT s s1 _ acc k h n r hs hr
  exact⟨s,(s1,[]),[],h,n,[],r.log,dR.of rfl,hs,by rw[dF];exact hr,rfl,trivial⟩
 |cons o l ih=>
  intro hd i pI cT s s1 sA acc k h n r hs hr
  have wE:=hd o (by simp)
  have wF:∀o∈l,∀d,o.dst=some d->d<nt∧d<1023:=fun o' ho=>hd o' (by simp[ho])
  have He:ops[i]? =some o:=by have:=pI 0 o rfl;rwa[mN]at this
  have dN:∀q o',l[q]? =some o'->ops[i+1+q]? =some o':=fun q o' hq=>by
   have:=pI (q+1) o' (by simpa using hq)
   rwa[show i+1+q=i+(q+1) by omega]
  have go:∀(s:Fr),Sub s s1->fK o (gy ops s1)=true->
   (match kind o.op with
     |0=>kq P rec s o fun v=>ju P rec ops l (i+1) (fb ops o.dst cT) (gC s o.dst v) (⟨0,0,[]⟩::acc) k
     |_=>(cz (kq P rec s o M.ret)).bind fun x=>ju P rec ops l (i+1) (fb ops o.dst cT) (gC s o.dst x.1) (x.2::acc) k) h n=some r->
   ∃s' y ts h1 n1 L1 L2,dR (fun fuel=>iB P (cM P kn fuel) nt ops (o::l) s1) h n y h1 n1 L1∧Sub s' y.1∧k s' (acc.reverse++ts) h1 n1=some ⟨r.val,r.h,r.n,L2⟩∧r.log=L1++L2∧Match (o::l) ts y.2:=by
   intro s hs hw hr
   by_cases hk:kind o.op=0
   ·simp only[hk]at hr
    obtain⟨v,h1,n1,L1,L2,e1,e2,e3⟩:=Hb cB hw hs hr
    obtain⟨s2,hp,fx⟩:=hs.put wE v
    obtain⟨s',y,ts,h3,n3,L3,L4,e4,e5,e6,e7,e8⟩:=ih wF _ dN _ _ s2 (Idle.put cB sA hp) _ k h1 n1 _ fx e2
    refine⟨s',_,(⟨0,0,[]⟩:Tk)::ts,h3,n3,_,L4,yF cB e1 hp e4,e5, ?_,by rw[e3];simp only at e7;rw[e7,cE], ?_⟩
    ·rw[Xc,cE]at e6
     exact e6
    ·exact⟨.inl hk,e8⟩
   ·have hr:((cz (kq P rec s o M.ret)).bind fun x=>ju P rec ops l (i+1) (fb ops o.dst cT) (gC s o.dst x.1) (x.2::acc) k) h n=some r:=by
     revert hr
     generalize kind o.op=kk at hk
     intro hr
     match kk,hk with
     |kk+1,_=>exact hr
    obtain⟨c,hc,nc,Lc⟩:=r
    obtain⟨x,h1,n1,L1,L2,e1,e2,e3⟩:=bind_some hr
    obtain⟨g1,g2⟩:=Gb e1
    obtain⟨v,dX,qo,L1',L2',q1,q2,q3⟩:=Hb cB hw hs g1
    obtain⟨rfl,rfl,rfl,rfl⟩:=Cf q2
    simp only[dF]at q3
    subst q3
    obtain⟨s2,hp,fx⟩:=hs.put wE x.1
    obtain⟨s',y,ts,h3,n3,L3,L4,e4,e5,e6,e7,e8⟩:=ih wF _ dN _ _ s2 (Idle.put cB sA hp) _ k _ _ _ fx e2
    refine⟨s',_,x.2::ts,h3,n3,_,L4,yF cB q1 hp e4,e5, ?_,by rw[e3];simp only at e7;rw[e7,cE], ?_⟩
    ·rw[Xc,cE]at e6
     exact e6
    ·exact⟨.inr g2,e8⟩
  have idle:∀(s:Fr),Sub s s1->fK o (gy ops s1)=false->(B9 (kind o.op) fun tk=>ju P rec ops l (i+1) (i::fb ops o.dst cT) (gC s o.dst undef) (tk::acc) k) h n=some r->
   ∃s' y ts h1 n1 L1 L2,dR (fun fuel=>iB P (cM P kn fuel) nt ops (o::l) s1) h n y h1 n1 L1∧Sub s' y.1∧k s' (acc.reverse++ts) h1 n1=some ⟨r.val,r.h,r.n,L2⟩∧r.log=L1++L2∧Match (o::l) ts y.2:=by
   intro s hs hw hr
   obtain⟨c,hc,nc,Lc⟩:=r
   have hr:∃tk,(kind o.op=0∨tk=⟨n,n,[]⟩)∧ju P rec ops l (i+1) (i::fb ops o.dst cT) (gC s o.dst undef) (tk::acc) k h n=some ⟨c,hc,nc,Lc⟩:=by
    revert hr
    generalize kind o.op=kk
    intro hr
    match kk,hr with
    |0,hr=>exact⟨_,.inl rfl,hr⟩
    |kk+1,hr=>
     have hr:((cz (M.ret undef)).bind fun x=>ju P rec ops l (i+1) (i::fb ops o.dst cT) (gC s o.dst undef) (x.2::acc) k) h n=some ⟨c,hc,nc,Lc⟩:=hr
     obtain⟨x,h1,n1,L1,L2,e1,e2,e3⟩:=bind_some hr
     obtain⟨g1,g2⟩:=Gb e1
     obtain⟨-,rfl,rfl,rfl⟩:=Cf g1
     refine⟨x.2,.inr g2, ?_⟩
     simp only[vK]at e3
     rw[e3]
     exact e2
   obtain⟨tk,htk,hr⟩:=hr
   obtain⟨s2,hp,fx⟩:=hs.put wE undef
   obtain⟨s',y,ts,h3,n3,L3,L4,e4,e5,e6,e7,e8⟩:=ih wF _ dN _ _ s2 (Idle.add cB He (Idle.put cB sA hp) hp) _ k _ _ _ fx hr
   refine⟨s',_,tk::ts,h3,n3,_,L4,yF cB (Nm cB hw) hp e4,e5, ?_,by simp only at e7;rw[e7];simp, ?_⟩
   ·rw[Xc,cE]at e6
    exact e6
   ·exact⟨htk,e8⟩
  unfold ju at hr
  cases hg:o.guard with
  |none=>
   rw[hg]at hr
   exact go s hs (by unfold fK;rw[hg]) hr
  |some jw=>
   obtain⟨j,want⟩:=jw
   rw[hg]at hr
   simp only at hr
   cases hI:ui j cT with
   |true=>
    rw[hI]at hr
    refine idle s hs ?_ hr
    unfold fK
    rw[hg]
    simp only
    rw[sA j (Hd cB hI)]
    rfl
   |false=>
   rw[hI]at hr
   simp only at hr
   cases ht:(ops[j]?).bind (·.dst)with
   |none=>rw[ht]at hr;cases hr
   |some t=>
    rw[ht]at hr
    simp only at hr
    obtain⟨g,oE,hr⟩:=cG hr
    have lQ:=hs t g oE
    have hy:∀b,g= .bool b->gy ops s1 j=some b:=fun b hb=>by
     unfold gy
     rw[ht]
     simp only[lQ,hb]
    rcases Hc cB hr with ⟨hb,hr⟩|⟨hb,hr⟩
    ·have dz:Sub ((t,.bool true)::s) s1:=hs.cons (by rw[lQ,hb])
     cases want with
     |true=>exact go _ dz (by unfold fK;rw[hg];simp only;rw[hy _ hb];rfl) hr
     |false=>exact idle _ dz (by unfold fK;rw[hg];simp only;rw[hy _ hb];rfl) hr
    ·have dz:Sub ((t,.bool false)::s) s1:=hs.cons (by rw[lQ,hb])
     cases want with
     |true=>exact idle _ dz (by unfold fK;rw[hg];simp only;rw[hy _ hb];rfl) hr
     |false=>exact go _ dz (by unfold fK;rw[hg];simp only;rw[hy _ hb];rfl) hr
theorem aaB{β:Type}{nt:Nat}{ops:Array Oper}{draw:Bool}(hd:∀o∈ops.toList,∀d,o.dst=some d->d<nt∧d<1023){s:Fr}{s1:S}{k:Fr->M β}{h:H}{n:Nat}{r:Out β}(hs:Sub s s1)(hr:G8 P rec ops draw s k h n=some r):
 ∃s' s2 h1 n1 L1 L2,dR (fun fuel=>pc P (cM P kn fuel) nt ops draw s1) h n s2 h1 n1 L1∧Sub s' s2∧k s' h1 n1=some ⟨r.val,r.h,r.n,L2⟩∧r.log=L1++L2:=by
 have fin:∀{y:S×List Tk} {h1:H} {n1:Nat} {L1:List En},dR (fun fuel=>iB P (cM P kn fuel) nt ops ops.toList s1) h n y h1 n1 L1->(ox n ops.toList y.2 n1->(!draw||(rG ops&&o9 ops (lH ops.toList []) (tagged 0 y.2)))=true)->dR (fun fuel=>pc P (cM P kn fuel) nt ops draw s1) h n y.1 h1 n1 L1:=by
  intro y h1 n1 L1 e1 hc
  have hc:=hc (by
   obtain⟨f0,e⟩:=e1
   exact Zs (fun f a=>Loc.cM P kn f0 f a) _ _ _ _ _ _ _ _ (e f0 (ak _)))
  obtain⟨f0,e⟩:=e1
  refine⟨f0,fun fuel hf=> ?_⟩
  show pc P (cM P kn fuel) nt ops draw s1 h n=_
  unfold pc
  have:=cD (f:=fun y:S×List Tk=>if(!draw||(rG ops&&o9 ops (lH ops.toList []) (tagged 0 y.2)))=true then M.ret y.1 else .fail) (e fuel hf) (L2:=[]) (b:=y.1) (h2:=h1) (n2:=n1) (by rw[if_pos hc];rfl)
  rw[dF]at this
  exact this
 unfold G8 at hr
 cases cS:(!draw||Br ops)with
 |true=>
  simp only[cS]at hr
  obtain⟨s',y,h1,n1,L1,L2,e1,e2,e3,e4⟩:=aav cB ops.toList hd 0 (fun q o hq=>by rw[gU,<-ahv];exact hq) [] s s1 (fun j hj=>by cases hj) k h n r hs hr
  refine⟨s',y.1,h1,n1,L1,L2,fin e1 fun x=> ?_,e2,e3,e4⟩
  simp only[vF,Lj]at cS
  rcases cS with g|g
  ·rw[g];rfl
  ·obtain⟨g1,g2⟩:=Zw x g
   rw[g1,g2];simp
 |false=>
  simp only[cS]at hr
  cases he:rG ops with
  |false=>simp only[he]at hr;cases hr
  |true=>
   simp only[he]at hr
   obtain⟨s',y,ts,h1,n1,L1,L2,e1,e2,e3,e4,e5⟩:=aaA cB ops.toList hd 0 (fun q o hq=>by rw[gU,<-ahv];exact hq) [] s s1 (fun j hj=>by cases hj) [] _ h n r hs hr
   simp only[List.reverse_nil,vK]at e3
   cases hc:wC (lH ops.toList []) ops 0 ops.toList ts with
   |false=>rw[hc]at e3;cases e3
   |true=>
    rw[hc]at e3
    exact⟨s',y.1,h1,n1,L1,L2,fin e1 fun x=>by rw[he,aaz x e5 hc];simp,e2,e3,e4⟩
def aaC(kn:List FuncId)(P:Program)(nt:Nat)(c:Code)(s1:S)(h:H)(n:Nat)(x:Ex×S)(h1:H)(n1:Nat)(L:List En):Prop:=∃f0,∀fr,f0<=fr->∀f,f0<=f->dK P (cM P kn fr) nt f c s1 h n=some ⟨x,h1,n1,L⟩
def Hf(kn:List FuncId)(P:Program)(nt:Nat)(c:Code)(s1:S){β:Type}(k:Ex->Fr->M β)(h:H)(n:Nat)(r:Out β):Prop:=
 ∃e s' s2 h1 n1 L1 L2,aaC kn P nt c s1 h n (e,s2) h1 n1 L1∧Sub s' s2∧k e s' h1 n1=some ⟨r.val,r.h,r.n,L2⟩∧r.log=L1++L2
theorem aaD{β:Type}{nt:Nat}{G:Hint}{lf:Nat}:∀(c:Code) (_:lR nt c=true) (s:Fr) (s1:S) (k:Ex->Fr->M β) (h:H) (n:Nat) (r:Out β),Sub s s1->oD P rec G lf c s k h n=some r->Hf kn P nt c s1 k h n r:=by
 intro c
 induction c with
 |skip=>intro _ s s1 k h n r hs hr;exact⟨.normal,s,s1,h,n,[],r.log,⟨1,fun fr _ f hf=>by match f,hf with|f+1,_=>rfl⟩,hs,hr,rfl⟩
 |label l=>intro _ s s1 k h n r hs hr;exact⟨.normal,s,s1,h,n,[],r.log,⟨1,fun fr _ f hf=>by match f,hf with|f+1,_=>rfl⟩,hs,hr,rfl⟩
 |region id ops draw=>
  intro hd s s1 k h n r hs hr
  unfold lR at hd
  rw[tr]at hd
  obtain⟨s',s2,h1,n1,L1,L2,⟨f0,e1⟩,e2,e3,e4⟩:=aaB cB (fun o ho d hod=>by
   have:=hd o (by simpa using ho)
   rw[hod]at this
   simpa using this) hs hr
  refine⟨.normal,s'.ax G.1,s2,h1,n1,L1,L2,⟨f0+1,fun fr fF f hf=> ?_⟩,e2.ax G.1,e3,e4⟩
  match f,hf with
  |f+1,_=>
   unfold dK
   have:=cD (f:=fun s1=>M.ret (Ex.normal,s1)) (e1 fr (by omega)) (L2:=[]) (h2:=h1) (n2:=n1) (b:=(Ex.normal,s2)) rfl
   rw[dF]at this
   exact this
 |seq a b Hg Hh=>
  intro hd s s1 k h n r hs hr
  unfold lR at hd
  simp only[bZ]at hd
  obtain⟨e,s',s2,h1,n1,L1,L2,⟨f0,d1⟩,d2,d3,d4⟩:=Hg hd.1 s s1 _ h n r hs hr
  cases e with
  |normal=>
   obtain⟨e,s3,s4,h3,n3,L3,L4,⟨f1,q1⟩,q2,q3,q4⟩:=Hh hd.2 s' s2 k h1 n1 _ d2 d3
   refine⟨e,s3,s4,h3,n3,L1++L3,L4,⟨max f0 f1+1,fun fr fF f hf=> ?_⟩,q2,q3,by rw[d4];simp only at q4;rw[q4,cE]⟩
   match f,hf with
   |f+1,_=>
    unfold dK
    exact cD (d1 fr (by omega) f (by omega)) (q1 fr (by omega) f (by omega))
  |ret=>
   refine⟨.ret,s',s2,h1,n1,L1,L2,⟨f0+1,fun fr fF f hf=> ?_⟩,d2,d3,d4⟩
   match f,hf with
   |f+1,_=>
    unfold dK
    rw[<-dF L1]
    exact cD (d1 fr (by omega) f (by omega)) rfl
  |exit i=>
   refine⟨.exit i,s',s2,h1,n1,L1,L2,⟨f0+1,fun fr fF f hf=> ?_⟩,d2,d3,d4⟩
   match f,hf with
   |f+1,_=>
    unfold dK
    rw[<-dF L1]
    exact cD (d1 fr (by omega) f (by omega)) rfl
 |cond c a b Hg Hh=>
  intro hd s s1 k h n r hs hr
  unfold lR at hd
  simp only[bZ]at hd
  obtain⟨v,hv,hr⟩:=cG hr
  have hc:=hs.aZ hv
  rcases Hc cB hr with ⟨rfl,hr⟩|⟨rfl,hr⟩
  ·obtain⟨e,s',s2,h1,n1,L1,L2,⟨f0,d1⟩,d2,d3,d4⟩:=Hg hd.1 s s1 k h n r hs hr
   refine⟨e,s',s2,h1,n1,L1,L2,⟨f0+1,fun fr fF f hf=> ?_⟩,d2,d3,d4⟩
   match f,hf with
   |f+1,_=>
    unfold dK
    simp only[hc,if_true]
    exact d1 fr (by omega) f (by omega)
  ·obtain⟨e,s',s2,h1,n1,L1,L2,⟨f0,d1⟩,d2,d3,d4⟩:=Hh hd.2 s s1 k h n r hs hr
   refine⟨e,s',s2,h1,n1,L1,L2,⟨f0+1,fun fr fF f hf=> ?_⟩,d2,d3,d4⟩
   match f,hf with
   |f+1,_=>
    unfold dK
    simp only[hc,qg,if_false]
    exact d1 fr (by omega) f (by omega)
 |block id c ih=>
  intro hd s s1 k h n r hs hr
  unfold lR at hd
  obtain⟨e,s',s2,h1,n1,L1,L2,⟨f0,d1⟩,d2,d3,d4⟩:=ih hd s s1 _ h n r hs hr
  have fin:∀e':Ex,(∀fr,f0<=fr->∀f,f0<=f->dK P (cM P kn fr) nt (f+1) (.block id c) s1 h n=some ⟨(e',s2),h1,n1,L1⟩)->k e' s' h1 n1=some ⟨r.val,r.h,r.n,L2⟩->Hf kn P nt (.block id c) s1 k h n r:=by
   intro e' iD hk
   refine⟨e',s',s2,h1,n1,L1,L2,⟨f0+1,fun fr fF f hf=> ?_⟩,d2,hk,d4⟩
   match f,hf with
   |f+1,_=>exact iD fr (by omega) f (by omega)
  cases e with
  |normal=>exact fin .normal (fun fr fF f hf=>by unfold dK;rw[<-dF L1];exact cD (d1 fr fF f hf) rfl) d3
  |ret=>exact fin .ret (fun fr fF f hf=>by unfold dK;rw[<-dF L1];exact cD (d1 fr fF f hf) rfl) d3
  |exit i=>
   cases hi:bN i id with
   |true=>
    have yG:i=id:=kG hi
    simp only[Cc,hi]at d3
    exact fin .normal (fun fr fF f hf=>by unfold dK;rw[<-dF L1];exact cD (d1 fr fF f hf) (by simp only[if_pos yG];rfl)) d3
   |false=>
    have yG:¬i=id:=by rintro rfl;rw[xR]at hi;cases hi
    simp only[Cc,hi]at d3
    exact fin (.exit i) (fun fr fF f hf=>by unfold dK;rw[<-dF L1];exact cD (d1 fr fF f hf) (by simp only[if_neg yG];rfl)) d3
 |loop c ih=>
  intro hd s s1 k h n r hs hr
  have kN:lR nt c=true:=by unfold lR at hd;exact hd
  have key:∀(Cg:Nat) (keys:List Nat) (s:Fr) (s1:S) (h:H) (n:Nat) (r:Out β),Sub s s1->bK (fun s1 k1=>oD P rec G lf c s1 k1) keys Cg s k h n=some r->Hf kn P nt (.loop c) s1 k h n r:=by
   intro Cg
   induction Cg with
   |zero=>intro keys s s1 h n r _ hr;cases hr
   |succ Cg yw=>
    intro keys s s1 h n r hs hr
    unfold bK at hr
    obtain⟨e,s',s2,h1,n1,L1,L2,⟨f0,d1⟩,d2,d3,d4⟩:=ih kN s s1 _ h n r hs hr
    cases e with
    |normal=>
     obtain⟨e,s3,s4,h3,n3,L3,L4,⟨f1,q1⟩,q2,q3,q4⟩:=yw keys _ s2 h1 n1 _ (d2.ax keys) d3
     refine⟨e,s3,s4,h3,n3,L1++L3,L4,⟨max f0 f1+1,fun fr fF f hf=> ?_⟩,q2,q3,by rw[d4];simp only at q4;rw[q4,cE]⟩
     match f,hf with
     |f+1,_=>
      unfold dK
      exact cD (d1 fr (by omega) f (by omega)) (q1 fr (by omega) f (by omega))
    |ret=>
     refine⟨.ret,s',s2,h1,n1,L1,L2,⟨f0+1,fun fr fF f hf=> ?_⟩,d2,d3,d4⟩
     match f,hf with
     |f+1,_=>
      unfold dK
      rw[<-dF L1]
      exact cD (d1 fr (by omega) f (by omega)) rfl
    |exit i=>
     refine⟨.exit i,s',s2,h1,n1,L1,L2,⟨f0+1,fun fr fF f hf=> ?_⟩,d2,d3,d4⟩
     match f,hf with
     |f+1,_=>
      unfold dK
      rw[<-dF L1]
      exact cD (d1 fr (by omega) f (by omega)) rfl
  exact key lf s.keys s s1 h n r hs hr
 |exit id=>intro _ s s1 k h n r hs hr;exact⟨.exit id,_,s1,h,n,[],r.log,⟨1,fun fr _ f hf=>by match f,hf with|f+1,_=>rfl⟩,hs.out G id,hr,rfl⟩
 |ret=>intro _ s s1 k h n r hs hr;exact⟨.ret,_,s1,h,n,[],r.log,⟨1,fun fr _ f hf=>by match f,hf with|f+1,_=>rfl⟩,hs.ax _,hr,rfl⟩
 |rangeFunc _ _ _ _=>intro _ s s1 k h n r hs hr;cases hr
 |scope _=>intro _ s s1 k h n r hs hr;cases hr
 |goto _=>intro _ s s1 k h n r hs hr;cases hr
 |refuse _=>intro _ s s1 k h n r hs hr;cases hr
end
theorem aaE{P:Program}{s:Fr}{s1:S}(hs:Sub s s1):∀(l:List ResultVar) (k:List Value->M Value) (h:H) (n:Nat) (r:Out Value),wD P s l k h n=some r->∃vs h1 n1 L1 L2,iS P s1 l h n=some ⟨vs,h1,n1,L1⟩∧k vs h1 n1=some ⟨r.val,r.h,r.n,L2⟩∧r.log=L1++L2:=by
 intro l
 induction l with
 |nil=>intro k h n r hr;exact⟨[],h,n,[],r.log,rfl,hr,rfl⟩
 |cons x l ih=>
  intro k h n r hr
  cases x with
  |tmp t=>
   obtain⟨v,hv,hr⟩:=cG hr
   obtain⟨vs,h1,n1,L1,L2,e1,e2,e3⟩:=ih _ h n r hr
   refine⟨v::vs,h1,n1,L1,L2, ?_,e2,e3⟩
   unfold iS
   rw[hs t v hv,<-dF L1]
   exact cD e1 rfl
  |cell a t=>
   obtain⟨v,hv,hr⟩:=cG hr
   obtain⟨c,hc,nc,Lc⟩:=r
   obtain⟨u,h1,n1,L1,L2,e1,e2,e3⟩:=bind_some (Nb hr)
   obtain⟨L',e7,e8⟩:=tX e1
   obtain⟨rfl,_⟩:=Q1.load P t v _ _ _ _ _ _ e7
   rw[List.filter_eq_self.2 (fun x _=>by simp;omega)]at e8
   subst e8
   have e1:=e7
   obtain⟨vs,h3,n3,L3,L4,e4,e5,e6⟩:=ih _ h1 n1 _ e2
   refine⟨u::vs,h3,n3,L1++L3,L4, ?_,e5,by rw[e3];simp only at e6;rw[e6,cE]⟩
   unfold iS
   rw[hs a v hv]
   refine cD e1 ?_
   rw[<-dF L3]
   exact cD e4 rfl
theorem aaF:∀(l:List Value) (i:Nat) (s:S),i+l.length<1023->Sub (Ce i l) (rI i l s):=by
 intro l
 induction l with
 |nil=>intro i s _;exact Sub.nil _
 |cons v l ih=>
  intro i s h
  simp only[cu]at h
  show Sub ((i,v)::Ce (i+1) l) (rI (i+1) l (s.put i v))
  refine(ih (i+1) (s.put i v) (by omega)).cons ?_
  rw[Mk _ _ _ _ (by omega),if_neg (by omega),S.pf _ _ _ _ (by omega),if_pos rfl]
theorem Nn{P:Program}{kn:List FuncId}(hd:mw P=true){gt:Nat->Hint}{lf:Nat}:∀(d:Nat) (f:FuncId) (args:Array Value) (h:H) (n:Nat) (v:Value) (h1:H) (n1:Nat) (L:List En),uk kn P gt lf d f args h n=some ⟨v,h1,n1,L⟩->dR (fun fuel=>cM P kn fuel f args) h n v h1 n1 L:=by
 intro d
 induction d with
 |zero=>intro f args h n v h1 n1 L hr;cases hr
 |succ d ih=>
  intro f args h n v h1 n1 L hr
  unfold uk at hr
  cases jL:kn.contains f with
  |true=>
   rw[jL]at hr
   simp only at hr
   cases qB:rJ f with
   |some k=>
    rw[qB]at hr
    refine⟨1,fun fuel hf=> ?_⟩
    match fuel,hf with
    |fuel+1,hf=>
     show cM P kn (fuel+1) f args h n=_
     unfold cM
     rw[if_pos jL,qB]
     exact hr
   |none=>
   rw[qB]at hr
   simp only at hr
   cases hz:(decide (args.size=0)&&vT P f)with
   |false=>rw[hz]at hr;cases hr
   |true=>
    rw[hz]at hr
    refine⟨1,fun fuel hf=> ?_⟩
    match fuel,hf with
    |fuel+1,hf=>
     show cM P kn (fuel+1) f args h n=_
     unfold cM
     rw[if_pos jL,qB]
     show(if(decide (args.size=0)&&vT P f)=true then _ else _:M Value) h n=_
     rw[if_pos hz]
     exact hr
  |false=>
  rw[jL]at hr
  simp only at hr
  unfold aE at hr
  cases j9:P.funcs[f]? with
  |none=>rw[j9]at hr;cases hr
  |some fn=>
   rw[j9]at hr
   simp only at hr
   cases hc:fn.body with
   |none=>rw[hc]at hr;cases hr
   |some c=>
    rw[hc]at hr
    simp only at hr
    cases iW:(decide (args.size<=fn.ntmps)&&decide (fn.ntmps<1000))with
    |false=>rw[iW]at hr;cases hr
    |true=>
     rw[iW]at hr
     simp only at hr
     have aaG:=iW
     simp only[bZ,decide_eq_true_eq]at iW
     obtain⟨L',hr,hL⟩:=tX hr
     have hdc:lR fn.ntmps c=true:=by
      unfold mw at hd
      rw[tr]at hd
      have:=hd fn (Array.mem_of_getElem? j9)
      rw[hc]at this
      exact this
     obtain⟨e,s',s2,h2,n2,L1,L2,⟨f0,d1⟩,d2,d3,d4⟩:=aaD ih c hdc _ (rI 0 args.toList .nil) _ h n _ (aaF _ 0 _ (by simp;omega)) hr
     have fin:∀(hn:e= .normal∨e= .ret),wD P s' fn.results.toList aj h2 n2=some ⟨v,h1,n1,L2⟩->dR (fun fuel=>cM P kn fuel f args) h n v h1 n1 L:=by
      intro hn rX
      obtain⟨vs,h3,n3,L3,L4,r1,r2,r3⟩:=aaE d2 _ _ _ _ _ rX
      simp only at r2 r3
      unfold aj at r2
      obtain⟨rfl,rfl,rfl,rfl⟩:=Cf r2
      rw[dF]at r3
      subst r3
      simp only at d4
      refine⟨f0+1,fun fuel hf=> ?_⟩
      match fuel,hf with
      |fuel+1,hf=>
       show cM P kn (fuel+1) f args h n=_
       unfold cM
       rw[if_neg (by rw[jL];simp)]
       simp only[j9,hc]
       rw[if_pos aaG]
       rw[hL,d4]
       refine kR (cD (d1 fuel (by omega) fuel (by omega)) ?_)
       rcases hn with rfl|rfl
       ·show((iS P s2 fn.results.toList).bind _) h2 n2=_
        rw[<-dF L2]
        exact cD r1 rfl
       ·show((iS P s2 fn.results.toList).bind _) h2 n2=_
        rw[<-dF L2]
        exact cD r1 rfl
     cases e with
     |normal=>exact fin (.inl rfl) d3
     |ret=>exact fin (.inr rfl) d3
     |exit i=>cases d3
theorem Ch{P:Program}(hd:mw P=true){gt:Nat->Hint}{lf:Nat}(d:Nat)(f:FuncId)(args:Array Value)(h:H)(n:Nat)(v:Value)(h1:H)(n1:Nat)(L:List En)(e:aq P gt lf d f args h n=some ⟨v,h1,n1,L⟩):dR (fun fuel=>cM P KN fuel f args) h n v h1 n1 L:=Nn hd d f args h n v h1 n1 L e
def ah{α:Type}(W:Nat->Prop)(n0:Nat)(m:M α)(h:H)(n:Nat)(Q:α->H->Nat->Prop):Prop:=
 ∃a h1 n1 L,m h n=some ⟨a,h1,n1,L⟩∧n<=n1∧(∀e∈L,e.wr=true->n0<=e.b∨W e.b)∧Q a h1 n1
theorem ah.mono{α:Type}{W:Nat->Prop}{n0:Nat}{m:M α}{h:H}{n:Nat}{Q Q':α->H->Nat->Prop}(x:ah W n0 m h n Q)(hq:∀a h1 n1,n<=n1->Q a h1 n1->Q' a h1 n1):ah W n0 m h n Q':=by
 obtain⟨a,h1,n1,L,e1,e2,e3,e4⟩:=x
 exact⟨a,h1,n1,L,e1,e2,e3,hq _ _ _ e2 e4⟩
section
variable {α β:Type} {W:Nat->Prop} {n0:Nat} {m:M α} {k:α->M β} {h h1:H} {n n1:Nat} {a:α} {L:List En} {Q:β->H->Nat->Prop}
theorem ah.step(e:m h n=some ⟨a,h1,n1,L⟩)(hn:n<=n1)(hw:∀e∈L,e.wr=true->n0<=e.b∨W e.b)(x:ah W n0 (k a) h1 n1 Q):ah W n0 (m.bind k) h n Q:=by
 obtain⟨b,h2,n2,L2,e1,e2,e3,e4⟩:=x
 refine⟨b,h2,n2,L++L2,cD e e1,by omega,fun x hx=> ?_,e4⟩
 rcases Xd.1 hx with q|q
 ·exact hw x q
 ·exact e3 x q
theorem ah.Np(e:m h n=some ⟨a,h1,n1,L⟩)(hn:n1=n)(x:ah W n0 (m.bind k) h n Q):ah W n0 (k a) h1 n1 Q:=by
 obtain⟨b,h2,n2,L2,e1,e2,e3,e4⟩:=x
 obtain⟨a',h3,n3,L3,L4,e5,e6,rfl⟩:=bind_some e1
 rw[e]at e5
 simp only[dV,Out.mk.injEq]at e5
 obtain⟨rfl,rfl,rfl,rfl⟩:=e5
 exact⟨b,h2,n2,L4,e6,by omega,fun x hx=>e3 x (Xd.2 (.inr hx)),e4⟩
theorem ah.iff(e:m h n=some ⟨a,h1,n,L⟩)(hw:∀e∈L,e.wr=true->n0<=e.b∨W e.b):ah W n0 (m.bind k) h n Q↔ah W n0 (k a) h1 n Q:=
 ⟨ah.Np e rfl,ah.step e (ak _) hw⟩
theorem ah.aB{Q':α->H->Nat->Prop}(x:ah W n0 m h n Q'):ah W n0 (inside m) h n Q':=by
 obtain⟨a,h1,n1,L,e1,e2,e3,e4⟩:=x
 exact⟨a,h1,n1,_,kR e1,e2,fun e he=>e3 e (List.mem_filter.1 he).1,e4⟩
end
section
variable {β:Type} {W:Nat->Prop} {n0:Nat} {h h1:H} {n n1:Nat} {Q:β->H->Nat->Prop} {QV:Value->H->Nat->Prop}
theorem wG(a:β):ah W n0 (M.ret a) h n Q↔Q a h n:=by
 constructor
 ·rintro⟨b,h2,n2,L,e1,e2,e3,e4⟩
  obtain⟨rfl,rfl,rfl,rfl⟩:=Cf e1
  exact e4
 ·intro x
  exact⟨a,h,n,[],rfl,ak _,fun e he=>(nomatch he),x⟩
theorem Nq:ah W n0 (aj []) h n QV↔QV (.tuple #[]) h n:=wG _
theorem Hi(v:Value):ah W n0 (aj [v]) h n QV↔QV v h n:=wG _
theorem wH(v w:Value):ah W n0 (aj [v,w]) h n QV↔QV (.tuple #[v,w]) h n:=wG _
theorem Nr(v w u:Value):ah W n0 (aj [v,w,u]) h n QV↔QV (.tuple #[v,w,u]) h n:=wG _
theorem pJ{α:Type}(a:α)(k:α->M β):aG (some a) k=k a:=rfl
theorem Ns(b:Bool)(x y:M β):ah W n0 (an (.bool b) x y) h n Q↔if b=true then ah W n0 x h n Q else ah W n0 y h n Q:=by
 cases b
 ·rw[if_neg ahu];exact Iff.rfl
 ·rw[if_pos rfl];exact Iff.rfl
theorem wI(x y:M β):an (.bool true) x y=x:=rfl
theorem wJ(x y:M β):an (.bool false) x y=y:=rfl
section
variable {β:Type} (k:Value->M β)
theorem Nt(a:Addr):az (.pointer (some a)) k=k (.pointer (some a)):=rfl
theorem Nu(f:FuncId)(a b:Array Value):az (.func (.func f) a b) k=k (.func (.func f) a b):=rfl
theorem qN(f:IntKind->Int->Int->Value)(j:IntKind)(a b:Int):kj f (.int j a) (.int j b) k=k (f j a b):=by
 unfold kj
 simp only[BE]
theorem Nv(j:IntKind)(a b:Int):aN (.int j a) (.int j b) k=k (.int j (j.wrap (a+b))):=by
 show kj (fun k a b=> .int k (oy k (Bw a b))) (.int j a) (.int j b) k=_
 rw[qN,ke,MT]
theorem Hj(j:IntKind)(a b:Int):cH (.int j a) (.int j b) k=k (.int j (j.wrap (a-b))):=by
 unfold cH
 rw[qN,ke,Bz]
theorem Nw(j:IntKind)(a b:Int):kU (.int j a) (.int j b) k=k (.int j (j.wrap (a*b))):=by
 unfold kU
 rw[qN,ke,MU]
theorem Ny(j:IntKind)(a b:Int):dg (.int j a) (.int j b) k=k (.bool (a==b)):=by
 show kj (fun _ a b=> .bool (pD a b)) (.int j a) (.int j b) k=_
 rw[qN,rZ]
theorem Nz(j:IntKind)(a b:Int):dh (.int j a) (.int j b) k=k (.bool (a !=b)):=by
 show kj (fun _ a b=> .bool (!pD a b)) (.int j a) (.int j b) k=_
 rw[qN,rZ];rfl
theorem qO(j:IntKind)(a b:Int):aO (.int j a) (.int j b) k=k (.bool (decide (a<b))):=by
 unfold aO
 rw[qN,r4]
theorem NA(j:IntKind)(a b:Int):ko (.int j a) (.int j b) k=k (.bool (decide (a<=b))):=by
 unfold ko
 rw[qN,BB]
theorem NB(j:IntKind)(a b:Int):gF (.int j a) (.int j b) k=k (.bool (decide (b<a))):=by
 unfold gF
 rw[qN,r4]
theorem NC(j:IntKind)(a b:Int):ig (.int j a) (.int j b) k=k (.bool (decide (b<=a))):=by
 unfold ig
 rw[qN,BB]
theorem ND(j:IntKind)(a b:Int)(h0:b≠0):pH (.int j a) (.int j b) k=k (.int j (j.wrap (a.tdiv b))):=by
 unfold pH
 simp only[BE,rZ,beq_eq_false_iff_ne.2 h0,ke]
theorem NF(j:IntKind)(a b:Int)(h0:b≠0):ud (.int j a) (.int j b) k=k (.int j (a.tmod b)):=by
 unfold ud
 simp only[BE,rZ,beq_eq_false_iff_ne.2 h0]
theorem Hk{f:Nat->Nat->Nat}{g:(w:Nat)->BitVec w->BitVec w->BitVec w}(hg:∀w x y,(g w x y).toNat=f x.toNat y.toNat)(j:IntKind)(a b:Int)(ha:0<=a)(hb:0<=b):uc f (.int j a) (.int j b) k=k (.int j (j.wrap (g j.bits (di j.bits a) (di j.bits b)).toNat)):=by
 obtain⟨p,rfl⟩:∃p:Nat,a=gY p:=⟨a.toNat,(mf ha).symm⟩
 obtain⟨q,rfl⟩:∃q:Nat,b=gY q:=⟨b.toNat,(mf hb).symm⟩
 unfold uc
 simp only[BE,ke,hg,(su p q).1,(su p q).2]
 rfl
theorem NG(j:IntKind)(a b:Int)(ha:0<=a)(hb:0<=b):yB (.int j a) (.int j b) k=k (.int j (j.wrap (di j.bits a&&&di j.bits b).toNat)):=Hk k (g:=fun _ x y=>x&&&y) (fun _ _ _=>BitVec.toNat_and ..) j a b ha hb
theorem NH(j:IntKind)(a b:Int)(ha:0<=a)(hb:0<=b):BQ (.int j a) (.int j b) k=k (.int j (j.wrap (di j.bits a|||di j.bits b).toNat)):=Hk k (g:=fun _ x y=>x|||y) (fun _ _ _=>BitVec.toNat_or ..) j a b ha hb
theorem NI(j:IntKind)(a b:Int)(ha:0<=a)(hb:0<=b):M6 (.int j a) (.int j b) k=k (.int j (j.wrap (di j.bits a^^^di j.bits b).toNat)):=Hk k (g:=fun _ x y=>x^^^y) (fun _ _ _=>BitVec.toNat_xor ..) j a b ha hb
theorem NJ(j j':IntKind)(a b:Int)(ha:0<=a)(hb:0<=b):se (.int j a) (.int j' b) k=k (.int j (j.wrap (a*2^(min b.toNat j.bits)))):=by
 obtain⟨p,rfl⟩:∃p:Nat,a=gY p:=⟨a.toNat,(mf ha).symm⟩
 obtain⟨q,rfl⟩:∃q:Nat,b=gY q:=⟨b.toNat,(mf hb).symm⟩
 unfold se
 simp only[ke]
 congr 3
theorem NK(j j':IntKind)(a b:Int)(ha:0<=a)(hb:0<=b):ny (.int j a) (.int j' b) k=k (.int j (a.fdiv (2^(min b.toNat j.bits)))):=by
 obtain⟨p,rfl⟩:∃p:Nat,a=gY p:=⟨a.toNat,(mf ha).symm⟩
 obtain⟨q,rfl⟩:∃q:Nat,b=gY q:=⟨b.toNat,(mf hb).symm⟩
 unfold ny
 simp only
 congr 2
 show((p/2^(min q j.bits):Nat):Int)=((p:Nat):Int).fdiv (2^min q j.bits)
 have e2:(2:Int)^(min q j.bits)=((2^(min q j.bits):Nat):Int):=by simp
 rw[e2,Int.fdiv_eq_ediv_of_nonneg _ (aa _),<-Int.natCast_ediv]
theorem Hl(a b:List UInt8)(h:a.length+b.length<=9223372036854775807):aN (.string ⟨a.toArray⟩) (.string ⟨b.toArray⟩) k=k (.string ⟨(a++b).toArray⟩):=by
 unfold aN
 simp only[qE]
 rw[show bh (fR a.length b.length) 9223372036854775807=true from lF h]
 simp only[Ge]
theorem NL(a b:List UInt8):dg (.string ⟨a.toArray⟩) (.string ⟨b.toArray⟩) k=k (.bool (decide (a=b))):=by
 unfold dg
 simp only[BC]
theorem NM(a b:List UInt8):dh (.string ⟨a.toArray⟩) (.string ⟨b.toArray⟩) k=k (.bool (!decide (a=b))):=by
 unfold dh
 simp only[BC]
theorem NN(a b:Bool):Gv (.bool a) (.bool b) k=k (.bool (a==b)):=by cases a<;>cases b<;>rfl
theorem NO(a b:Bool):BR (.bool a) (.bool b) k=k (.bool (a !=b)):=by cases a<;>cases b<;>rfl
theorem yH(b:Bool):et (.bool b) k=k (.bool (!b)):=rfl
theorem NP(j:IntKind)(a:Int):BX (.int j a) k=k (.int j (j.wrap (0-a))):=by
 unfold BX
 simp only[ke,Bz]
theorem NQ(kd j:IntKind)(a:Int):gG kd (.int j a) k=k (.int kd (kd.wrap a)):=by
 unfold gG
 simp only[ke]
theorem NS(s:ByteArray):M7 (.string s) k=k (.string s):=rfl
theorem NT(a:Option Addr)(n c:Nat):aW (.slice a n c) k=k (.int .i64 (n:Int)):=rfl
theorem NU(l:List UInt8):wz (.string ⟨l.toArray⟩) k=k (.int .i64 (l.length:Int)):=by
 unfold wz
 simp only[qE]
 rfl
theorem NW(j j':IntKind)(a b:Int):sq (.int j a) (.int j' b) k=k (.int j (if b<a then b else a)):=by
 unfold sq
 simp only[r4]
 by_cases h:b<a<;>simp only[h,decide_true,decide_false,if_true,if_false]
theorem NX(j j':IntKind)(a b:Int):uf (.int j a) (.int j' b) k=k (.int j (if a<b then b else a)):=by
 unfold uf
 simp only[r4]
 by_cases h:a<b<;>simp only[h,decide_true,decide_false,if_true,if_false]
theorem NY(b:Bool)(x y:Value):Gy (.bool b) x y k=k (if b=true then x else y):=by cases b<;>rfl
theorem NZ(a:Addr):fz (.pointer (some a)) (.pointer none) k=k (.bool false):=rfl
theorem N0:fz (.pointer none) (.pointer none) k=k (.bool true):=rfl
theorem N1(a:Addr):ue (.pointer (some a)) (.pointer none) k=k (.bool true):=rfl
theorem N2:ue (.pointer none) (.pointer none) k=k (.bool false):=rfl
theorem N3(a:Addr)(n c m d:Nat):yC (.slice (some a) n c) (.slice none m d) k=k (.bool false):=rfl
theorem N4(n c m d:Nat):yC (.slice none n c) (.slice none m d) k=k (.bool true):=rfl
theorem N5(a:Addr)(n c m d:Nat):BW (.slice (some a) n c) (.slice none m d) k=k (.bool true):=rfl
theorem N6(n c m d:Nat):BW (.slice none n c) (.slice none m d) k=k (.bool false):=rfl
theorem N7(f:Fn)(a b:Array Value):Gw (.func f a b) .nilFunc k=k (.bool false):=rfl
theorem N8(f:Fn)(a b:Array Value):Gx (.func f a b) .nilFunc k=k (.bool true):=rfl
theorem N9(K b off:Nat):ay K (.pointer (some ⟨b,off,none⟩)) k=k (.pointer (some ⟨b,off+K,none⟩)):=rfl
theorem Hm(l:List Value)(i:Nat):(match r8 l i with
 |some v=>k v
 |none=>M.fail)=aG l[i]? k:=by
 rw[BI]
 cases l[i]? <;>rfl
theorem N'(K:Nat)(l:List Value):Gz K (.agg l.toArray) k=aG l[K]? k:=Hm k l K
theorem Oa(K m:Nat)(l:List Value):GA K m (.agg l.toArray) k=k (.agg ((l.drop K).take m).toArray):=rfl
theorem Ob(l:List Value)(i:Nat):aY (.tuple l.toArray) i k=aG l[i]? k:=Hm k l i
theorem cw(a b:Value):aY (.tuple #[a,b]) 0 k=k a:=rfl
theorem ext1(a b:Value):aY (.tuple #[a,b]) 1 k=k b:=rfl
theorem yI{i:Int}{n:Nat}(h1:i<n){j:Nat}(e:i=gY j):bh (fa j) n=true:=by
 subst e
 exact lF (Int.ofNat_lt.1 h1)
theorem Oc(b off n c:Nat)(j:IntKind)(i:Int)(h0:0<=i)(h1:i<n):aT (.slice (some ⟨b,off,none⟩) n c) (.int j i) k=k (.pointer (some ⟨b,off+i.toNat,none⟩)):=by
 obtain⟨p,rfl⟩:∃p:Nat,i=gY p:=⟨i.toNat,(mf h0).symm⟩
 unfold aT
 simp only[yI h1 rfl]
 rfl
theorem Od(sz b off n c:Nat)(j:IntKind)(i:Int)(h0:0<=i)(h1:i<n):BZ sz (.slice (some ⟨b,off,none⟩) n c) (.int j i) k=k (.pointer (some ⟨b,off+i.toNat*sz,none⟩)):=by
 obtain⟨p,rfl⟩:∃p:Nat,i=gY p:=⟨i.toNat,(mf h0).symm⟩
 unfold BZ
 simp only[yI h1 rfl]
 rfl
theorem Hn(n b off:Nat)(j:IntKind)(i:Int)(h0:0<=i)(h1:i<n):jO n (.pointer (some ⟨b,off,none⟩)) (.int j i) k=k (.pointer (some ⟨b,off+i.toNat,none⟩)):=by
 obtain⟨p,rfl⟩:∃p:Nat,i=gY p:=⟨i.toNat,(mf h0).symm⟩
 unfold jO
 simp only[yI h1 rfl]
 rfl
theorem Oe(n sz b off:Nat)(j:IntKind)(i:Int)(h0:0<=i)(h1:i<n):B1 n sz (.pointer (some ⟨b,off,none⟩)) (.int j i) k=k (.pointer (some ⟨b,off+i.toNat*sz,none⟩)):=by
 obtain⟨p,rfl⟩:∃p:Nat,i=gY p:=⟨i.toNat,(mf h0).symm⟩
 unfold B1
 simp only[yI h1 rfl]
 rfl
theorem Of(n:Nat)(l:List Value)(j:IntKind)(i:Int)(h0:0<=i)(h1:i<n):yE n (.agg l.toArray) (.int j i) k=aG l[i.toNat]? k:=by
 obtain⟨p,rfl⟩:∃p:Nat,i=gY p:=⟨i.toNat,(mf h0).symm⟩
 unfold yE
 simp only[yI h1 rfl]
 exact Hm k l p
theorem Og(l:List UInt8)(j:IntKind)(i:Int)(h0:0<=i)(h1:i<l.length):yD (.string ⟨l.toArray⟩) (.int j i) k=k (.int .u8 ((l.getD i.toNat 0).toNat:Int)):=by
 obtain⟨p,rfl⟩:∃p:Nat,i=gY p:=⟨i.toNat,(mf h0).symm⟩
 have hp:p<l.length:=Int.ofNat_lt.1 h1
 have e:qF l p=some (l.getD p 0):=by
  cases hn:qF l p with
  |some c=>rw[(Gf _ _ _ hn).2]
  |none=>
   exfalso
   have:∀(l:List UInt8) (p:Nat),p<l.length->qF l p≠none:=by
    intro l
    induction l with
    |nil=>intro p h;simp at h
    |cons a l ih=>
     intro p h e
     cases p with
     |zero=>cases e
     |succ p=>exact ih p (by simpa using h) e
   exact this l p hp hn
 unfold yD
 simp only[e]
 rfl
theorem Ho(l:List UInt8)(lo hi:Option Value){a b:Nat}(ha:qI lo 0=some a)(hb:qI hi l.length=some b)(h1:a<=b)(h2:b<=l.length):ug (.string ⟨l.toArray⟩) lo hi k=k (.string ⟨((l.drop a).take (b-a)).toArray⟩):=by
 unfold ug
 simp only[ha,qE,hb,lF h1,lF h2]
 rfl
theorem Ci(j:IntKind){i:Int}(d:Nat)(h:0<=i):qI (some (.int j i)) d=some i.toNat:=by
 obtain⟨p,rfl⟩:∃p:Nat,i=gY p:=⟨i.toNat,(mf h).symm⟩
 rfl
theorem Oh(l:List UInt8)(kd:IntKind)(j:Int)(h0:0<=j)(h1:j<=l.length):ug (.string ⟨l.toArray⟩) none (some (.int kd j)) k=k (.string ⟨(l.take j.toNat).toArray⟩):=by
 rw[Ho k l none _ (a:=0) (b:=j.toNat) rfl (Ci kd _ h0) (by omega) (by omega)]
 simp
theorem Oi(l:List UInt8)(kd:IntKind)(i:Int)(h0:0<=i)(h1:i<=l.length):ug (.string ⟨l.toArray⟩) (some (.int kd i)) none k=k (.string ⟨(l.drop i.toNat).toArray⟩):=by
 rw[Ho k l _ none (a:=i.toNat) (b:=l.length) (Ci kd _ h0) rfl (by omega) (by omega)]
 rw[kH (by simp)]
theorem Oj(l:List UInt8)(kd pK:IntKind)(i j:Int)(h0:0<=i)(h1:i<=j)(h2:j<=l.length):ug (.string ⟨l.toArray⟩) (some (.int kd i)) (some (.int pK j)) k=k (.string ⟨((l.drop i.toNat).take (j.toNat-i.toNat)).toArray⟩):=
 Ho k l _ _ (Ci kd _ h0) (Ci pK _ (by omega)) (by omega) (by omega)
theorem Ol(z:List Value)(ps:List (Nat×Nat×Value)):jc z ps k=aG (fA z ps) fun cs=>k (.agg cs.toArray):=by
 unfold jc
 cases fA z ps<;>rfl
theorem Om(cs:List Value):fA cs []=some cs:=rfl
theorem aaH(cs:List Value)(q:Nat×Nat×Value)(r:List (Nat×Nat×Value)):fA cs (q::r)=match bN (fi (dj q.2.2)) q.2.1 with
 |true=>match bh (fR q.1 (fi (dj q.2.2))) (fi cs)with
  |true=>fA (pG cs q.1 (dj q.2.2)) r
  |false=>none
 |false=>none:=rfl
theorem On{cs vs:List Value}{off sz:Nat}{v:Value}{r:List (Nat×Nat×Value)}(hv:dj v=vs):fA cs ((off,sz,v)::r)=if vs.length=sz then(if off+sz<=cs.length then fA (cs.take off++(vs++cs.drop (off+sz))) r else none)else none:=by
 have sp:∀(off:Nat) (cs l:List Value),off+l.length<=cs.length->pG cs off l=cs.take off++(l++cs.drop (off+l.length)):=by
  have ov:∀(l cs:List Value),l.length<=cs.length->over l cs=l++cs.drop l.length:=by
   intro l
   induction l with
   |nil=>intro cs _;simp[over]
   |cons x l ih=>
    intro cs h
    cases cs with
    |nil=>simp at h
    |cons c cs=>
     show x::over l cs=_
     rw[ih cs (by simpa using h)]
     simp
  intro off
  induction off with
  |zero=>
   intro cs l h
   have e:pG cs 0 l=over l cs:=by cases cs<;>rfl
   rw[e,ov l cs (by omega)]
   simp
  |succ off ih=>
   intro cs l h
   cases cs with
   |nil=>simp at h
   |cons c cs=>
    show c::pG cs off l=_
    rw[ih cs l (by simp at h;omega),show off+1+l.length=off+l.length+1 by omega]
    simp
 subst hv
 rw[aaH]
 simp only[mu]
 by_cases h1:(dj v).length=sz
 ·rw[if_pos h1]
  subst h1
  rw[xR]
  simp only
  by_cases h2:off+(dj v).length<=cs.length
  ·rw[if_pos h2,show bh (fR off (dj v).length) cs.length=true from lF h2,sp _ _ _ h2]
  ·rw[if_neg h2]
   have:bh (fR off (dj v).length) cs.length=false:=by
    cases hq:bh (fR off (dj v).length) cs.length with
    |false=>rfl
    |true=>exact absurd (gx hq) h2
   rw[this]
 ·rw[if_neg h1]
  have:bN (dj v).length sz=false:=by
   cases hq:bN (dj v).length sz with
   |false=>rfl
   |true=>exact absurd (kG hq) h1
  rw[this]
theorem yJ{cs:List Value}{off:Nat}{v:Value}{r:List (Nat×Nat×Value)}(hv:dj v=[v]):fA cs ((off,1,v)::r)=if off<cs.length then fA (cs.set off v) r else none:=by
 rw[On hv,if_pos (show [v].length=1 from rfl)]
 by_cases h:off<cs.length
 ·rw[if_pos h,if_pos (by omega)]
  congr 1
  rw[List.set_eq_take_append_cons_drop,if_pos h]
  rfl
 ·rw[if_neg h,if_neg (by omega)]
section
variable (cs:List Value) (off:Nat) (r:List (Nat×Nat×Value))
theorem Oo(j:IntKind)(x:Int):fA cs ((off,1,.int j x)::r)=if off<cs.length then fA (cs.set off (.int j x)) r else none:=yJ rfl
theorem Oq(b:Bool):fA cs ((off,1,.bool b)::r)=if off<cs.length then fA (cs.set off (.bool b)) r else none:=yJ rfl
theorem Ot(s:ByteArray):fA cs ((off,1,.string s)::r)=if off<cs.length then fA (cs.set off (.string s)) r else none:=yJ rfl
theorem Ou(a:Option Addr)(n c:Nat):fA cs ((off,1,.slice a n c)::r)=if off<cs.length then fA (cs.set off (.slice a n c)) r else none:=yJ rfl
theorem Ov(a:Option Addr):fA cs ((off,1,.pointer a)::r)=if off<cs.length then fA (cs.set off (.pointer a)) r else none:=yJ rfl
theorem Ow(sz:Nat)(vs:List Value):fA cs ((off,sz,.agg vs.toArray)::r)=if vs.length=sz then(if off+sz<=cs.length then fA (cs.take off++(vs++cs.drop (off+sz))) r else none)else none:=On rfl
end
end
theorem get_eq(h:H)(i:Nat)(x:Option AB):(h.set i x).get i=x:=by rw[H.iT,if_pos rfl]
theorem aA(h:H){i j:Nat}(x:Option AB)(e:j≠i):(h.set i x).get j=h.get j:=by rw[H.iT,if_neg e]
theorem Cj{α:Type}{m:M α}{h h1:H}{n n1:Nat}{a:α}{L:List En}(e:m h n=some ⟨a,h1,n1,L⟩)(hw:∀e∈L,e.wr=false):∃L',inside m h n=some ⟨a,h1,n1,L'⟩∧∀e∈L',e.wr=true->n0<=e.b∨W e.b:=
 ⟨_,kR e,fun x hx cA=>by rw[hw x (List.mem_filter.1 hx).1]at cA;cases cA⟩
theorem Ck(e:TypeId)(cs:List Value)(h:H)(n:Nat):cR e cs h n=some ⟨n,h.set n (some ⟨e,true,cs⟩),n+1,[]⟩:=by
 unfold cR
 rw[if_pos (gX n)]
theorem wK{α:Type}{m:M α}{a:α}{k:α->M β}{h1:H}{n1:Nat}(e:m h n=some ⟨a,h1,n1,[]⟩)(hn:n<=n1)(x:ah W n0 (k a) h1 n1 Q):ah W n0 ((inside m).bind k) h n Q:=
 ah.step (kR e) hn (fun x hx=>by simp at hx) x
theorem lS{α:Type}{m:M α}{kk:α->M β}(x:ah W n0 ((inside m).bind kk) h n Q):ah W n0 (eN m kk) h n Q:=by rw[ki];exact x
theorem um(e:TypeId)(cs:List Value)(f:Nat->Value)(h:H)(n:Nat):((kg e cs).bind fun id=>M.ret (f id)) h n=some ⟨f n,h.set n (some ⟨e,true,cs⟩),n+1,[]⟩:=by
 rw[nu]
 exact cD (Ck _ _ _ _) rfl
theorem pL{T:Prop}(_:T){t:TypeId}(v:Value)(k:Value->M β)(x:ah W n0 (k (.pointer (some ⟨n,0,none⟩))) (h.set n (some ⟨t,true,v.cells.toList⟩)) (n+1) Q):ah W n0 (kp t v k) h n Q:=by
 rw[<-oA]at x
 exact lS (wK (um _ _ (fun id=>mP (some ⟨id,0,none⟩)) _ _) (fg n) x)
theorem qP{t:TypeId}{z cs:List Value}(hz:z=cs)(k:Value->M β)(x:ah W n0 (k (.pointer (some ⟨n,0,none⟩))) (h.set n (some ⟨t,true,cs⟩)) (n+1) Q):ah W n0 (oB t z k) h n Q:=by
 subst hz
 exact lS (wK (um _ _ (fun id=>mP (some ⟨id,0,none⟩)) _ _) (fg n) x)
theorem Hp(z:Value):∀m,jd [z] m=cq m z
 |0=>rfl
 |m+1=>by
  show z::jd [z] m=_
  rw[Hp z m];rfl
theorem run_make{T:Prop}(_:T){e:TypeId}{z:Value}(l m:Nat)(k:Value->M β){kd pK:IntKind}(hl:l<=m)(hm:m<=1099511627776)(x:ah W n0 (k (.slice (some ⟨n,0,none⟩) l m)) (h.set n (some ⟨e,true,cq m z⟩)) (n+1) Q):ah W n0 (jP e [z] (.int kd l) (.int pK m) k) h n Q:=by
 have e1:jP e [z] (.int kd l) (.int pK m) k=eN ((kg e (jd [z] m)).bind fun id=>M.ret (jF (some ⟨id,0,none⟩) l m)) k:=by
  show(match bh l m with
   |true=>match bh m 1099511627776 with
    |true=>eN ((kg e (jd [z] m)).bind fun id=>M.ret (jF (some ⟨id,0,none⟩) l m)) k
    |false=> .fail
   |false=> .fail)=_
  rw[lF hl,lF hm]
 rw[e1,Hp]
 exact lS (wK (um _ _ (fun id=>jF (some ⟨id,0,none⟩) l m) _ _) (fg n) x)
theorem Ox{T:Prop}(_:T){e:TypeId}{v:Value}(h1:one v=true)(k:Value->M β)(x:ah W n0 (k (.slice (some ⟨n,0,none⟩) 1 1)) (h.set n (some ⟨e,true,[v]⟩)) (n+1) Q):ah W n0 (fI e 1 v k) h n Q:=by
 have hc:dj v=[v]:=by cases v<;>first|rfl|(simp[one]at h1)
 unfold fI
 rw[hc]
 exact lS (wK (um _ _ (fun id=>jF (some ⟨id,0,none⟩) 1 1) _ _) (fg n) x)
end
def sB{α:Type}(o:Option α)(p:α->Prop):Prop:=match o with
 |some a=>p a
 |none=>False
theorem Oy{α:Type}(a:α)(p:α->Prop):sB (some a) p=p a:=rfl
theorem oF(k:IntKind)(x:Int):one (.int k x)=true:=rfl
theorem Oz(a:Option Addr):one (.pointer a)=true:=rfl
theorem OA(cs:Array Value):(Xb cs).cells=cs:=rfl
section
variable {β:Type} {W:Nat->Prop} {n0:Nat} {h h1:H} {n n1:Nat} {Q:β->H->Nat->Prop}
theorem aaI:¬ah W n0 (M.fail:M β) h n Q:=by rintro⟨_,_,_,_,e,_⟩;cases e
theorem Cl{α:Type}{m:M α}{k:α->M β}(e:m h n=none):¬ah W n0 (m.bind k) h n Q:=by
 rintro⟨_,_,_,_,e1,_⟩
 unfold M.bind at e1
 rw[e]at e1
 cases e1
theorem Co{α:Type}{m:M α}(e:m h n=none):Ev.inside m h n=none:=by unfold Ev.inside;rw[e]
theorem OB(b off:Nat)(k:Value->M β)(hb:b<n):ah W n0 (av (.pointer (some ⟨b,off,none⟩)) k) h n Q↔sB (h.get b) fun B=>ah W n0 (aG (B.cells[off]?) k) h n Q:=by
 show ah W n0 (eN (wu b off) k) h n Q↔_
 rw[ki,BJ]
 cases hg:h.get b with
 |none=>
  refine⟨fun x=>absurd x (Cl (Co ?_)),fun x=>x.elim⟩
  unfold rd
  simp[hg]
 |some B=>
  show _↔ah W n0 (aG (B.cells[off]?) k) h n Q
  cases hv:B.cells[off]? with
  |none=>
   refine⟨fun x=>absurd x (Cl (Co ?_)),fun x=>absurd x aaI⟩
   unfold rd
   simp[hg,hv]
  |some v=>
   have e:rd b off h n=some ⟨v,h,n,[⟨false,b,some off⟩]⟩:=by
    unfold rd
    simp only[hb,hg,hv,if_true]
   obtain⟨L',e1,e2⟩:=Cj (W:=W) (n0:=n0) e (by simp)
   exact ah.iff e1 e2
theorem aaJ(b off:Nat){v:Value}(k:Value->M β)(h1:one v=true):bE (.pointer (some ⟨b,off,none⟩)) v k=(inside ((wr b off v).bind fun _=> .ret undef)).bind k:=by
 show(match one v with
  |true=>eN ((tZ b off v).bind fun _=> .ret undef) k
  |false=> .fail)=_
 rw[h1,BK]
 exact ki _ _
theorem wL(b off:Nat)(v:Value)(k:Value->M β)(hb:b<n)(h1:one v=true):ah W n0 (bE (.pointer (some ⟨b,off,none⟩)) v k) h n Q↔
 sB (h.get b) fun B=>B.own=true∧off<B.cells.length∧(n0<=b∨W b)∧ah W n0 (k undef) (h.set b (some ⟨B.elem,B.own,B.cells.set off v⟩)) n Q:=by
 rw[aaJ b off k h1]
 cases hg:h.get b with
 |none=>
  refine⟨fun x=>absurd x (Cl (Co ?_)),fun x=>x.elim⟩
  unfold M.bind wr
  simp[hg]
 |some B=>
  show _↔(B.own=true∧off<B.cells.length∧(n0<=b∨W b)∧_)
  by_cases b9:B.own=true∧off<B.cells.length
  ·obtain⟨ho,hl⟩:=b9
   have j6:wr b off v h n=some ⟨(),h.set b (some ⟨B.elem,B.own,B.cells.set off v⟩),n,[⟨false,b,some off⟩,⟨true,b,some off⟩]⟩:=by
    unfold wr
    simp[hb,hg,ho,hl,h1]
   have e:((wr b off v).bind fun _=>M.ret undef) h n=some ⟨undef,h.set b (some ⟨B.elem,B.own,B.cells.set off v⟩),n,[⟨false,b,some off⟩,⟨true,b,some off⟩]⟩:=by
    have:=cD (f:=fun _=>M.ret undef) j6 (L2:=[]) (b:=undef) (h2:=h.set b (some ⟨B.elem,B.own,B.cells.set off v⟩)) (n2:=n) rfl
    simpa using this
   have ei:=kR e
   constructor
   ·intro x
    refine⟨ho,hl, ?_,ah.Np ei rfl x⟩
    obtain⟨_,_,_,L,e1,_,e3,_⟩:=x
    obtain⟨_,_,_,L3,L4,e5,_,rfl⟩:=bind_some e1
    rw[ei]at e5
    simp only[dV,Out.mk.injEq]at e5
    refine e3 ⟨true,b,some off⟩ (Xd.2 (.inl ?_)) rfl
    rw[<-e5.2.2.2]
    refine List.mem_filter.2 ⟨by simp, ?_⟩
    simp
    omega
   ·rintro⟨_,_,hw,x⟩
    refine ah.step ei (ak _) (fun x hx cA=> ?_) x
    have hx:=(List.mem_filter.1 hx).1
    simp at hx
    rcases hx with rfl|rfl<;>exact hw
  ·refine⟨fun x=>absurd x (Cl (Co ?_)),fun x=>absurd ⟨x.1,x.2.1⟩ b9⟩
   unfold M.bind wr
   simp only[hb,hg,if_true,h1,W9]
   rw[if_neg (by simpa using b9)]
section
variable (b off:Nat) (k:Value->M β) (hb:b<n)
include hb
theorem OC(j:IntKind)(x:Int):ah W n0 (bE (.pointer (some ⟨b,off,none⟩)) (.int j x) k) h n Q↔sB (h.get b) fun B=>B.own=true∧off<B.cells.length∧(n0<=b∨W b)∧ah W n0 (k undef) (h.set b (some ⟨B.elem,B.own,B.cells.set off (.int j x)⟩)) n Q:=wL b off _ k hb rfl
theorem OD(x:Bool):ah W n0 (bE (.pointer (some ⟨b,off,none⟩)) (.bool x) k) h n Q↔sB (h.get b) fun B=>B.own=true∧off<B.cells.length∧(n0<=b∨W b)∧ah W n0 (k undef) (h.set b (some ⟨B.elem,B.own,B.cells.set off (.bool x)⟩)) n Q:=wL b off _ k hb rfl
theorem OE(x:ByteArray):ah W n0 (bE (.pointer (some ⟨b,off,none⟩)) (.string x) k) h n Q↔sB (h.get b) fun B=>B.own=true∧off<B.cells.length∧(n0<=b∨W b)∧ah W n0 (k undef) (h.set b (some ⟨B.elem,B.own,B.cells.set off (.string x)⟩)) n Q:=wL b off _ k hb rfl
theorem OG(x:Option Addr):ah W n0 (bE (.pointer (some ⟨b,off,none⟩)) (.pointer x) k) h n Q↔sB (h.get b) fun B=>B.own=true∧off<B.cells.length∧(n0<=b∨W b)∧ah W n0 (k undef) (h.set b (some ⟨B.elem,B.own,B.cells.set off (.pointer x)⟩)) n Q:=wL b off _ k hb rfl
theorem OH(x:Option Addr)(l c:Nat):ah W n0 (bE (.pointer (some ⟨b,off,none⟩)) (.slice x l c) k) h n Q↔sB (h.get b) fun B=>B.own=true∧off<B.cells.length∧(n0<=b∨W b)∧ah W n0 (k undef) (h.set b (some ⟨B.elem,B.own,B.cells.set off (.slice x l c)⟩)) n Q:=wL b off _ k hb rfl
end
theorem wM{b:Nat}{B:AB}(hg:h.get b=some B)(hb:b<n):∀(c k:Nat),k+c<=B.cells.length->∃L,db b k c h n=some ⟨(B.cells.drop k).take c,h,n,L⟩∧∀e∈L,e.wr=false
 |0,k,_=>⟨[],by rw[List.take_zero];rfl,by simp⟩
 |c+1,k,hk=>by
  obtain⟨L,e,hL⟩:=wM hg hb c (k+1) (by omega)
  have b8:k<B.cells.length:=by omega
  refine⟨[⟨false,b,some k⟩]++(L++[]), ?_, ?_⟩
  ·unfold db
   have e0:rd b k h n=some ⟨B.cells[k],h,n,[⟨false,b,some k⟩]⟩:=by
    unfold rd
    simp only[hb,hg,if_true,aR b8]
   refine cD e0 (cD e ?_)
   rw[List.drop_eq_getElem_cons b8,List.take_succ_cons]
   rfl
  ·intro x hx
   simp only[dF,Xd,E8,E9,or_false]at hx
   rcases hx with rfl|hx
   ·rfl
   ·exact hL x hx
theorem Hq{b:Nat}{B:AB}(hg:h.get b=some B)(hb:b<n):iA b h n=some ⟨B.elem,h,n,[⟨false,b,some 1099511627776⟩]⟩:=by
 unfold iA
 simp only[hb,hg,if_true]
theorem aaK{b:Nat}{B:AB}(hg:h.get b=some B)(ho:B.own=true)(hb:b<n):kill b h n=some ⟨(),h.set b none,n,[⟨false,b,none⟩,⟨true,b,none⟩]⟩:=by
 unfold kill
 simp only[hb,hg,ho,if_true]
def Src(h:H)(n:Nat)(x:Value)(news:List Value):Prop:=∃b off c B,x= .slice (some ⟨b,off,none⟩) news.length c∧h.get b=some B∧b<n∧off+news.length<=B.cells.length∧(B.cells.drop off).take news.length=news
theorem Src.run{x:Value}{news:List Value}(s:Src h n x news):∃L,kI 1 news.length x h n=some ⟨news,h,n,L⟩∧(∀e∈L,e.wr=false)∧iQ x=some news.length:=by
 obtain⟨b,off,c,B,rfl,hg,hb,hl,ht⟩:=s
 obtain⟨L,e,hL⟩:=wM hg hb news.length off hl
 refine⟨L, ?_,hL,rfl⟩
 unfold kI
 rw[vJ]
 show db b off news.length h n=_
 rw[e,ht]
theorem aaL{T:Prop}(c:T){e:TypeId}{x:Value}{news:List Value}(hx:iQ x=some 0)(a:Option Addr)(l cp:Nat)(k:Value->M β)(y:ah W n0 (k (.slice a l cp)) h n Q):ah W n0 (fB e 1 (.slice a l cp) x k) h n Q:=by
 refine lS (wK (a:= .slice a l cp) ?_ (ak n) y)
 unfold qL
 simp only[hx]
 rfl
theorem aaM {T:Prop} (c:T) {e:TypeId} {x:Value} {news:List Value} (s:Src h n x news) (h0:0<news.length) (hm:news.length<=1099511627776) (h1:news.all one=true) (k:Value->M β)
 (y:ah W n0 (k (.slice (some ⟨n,0,none⟩) news.length (ba+news.length))) (h.set n (some ⟨e,true,news⟩)) (n+1) Q):ah W n0 (fB e 1 (.slice none 0 0) x k) h n Q:=by
 obtain⟨L,e1,e2,e3⟩:=s.run
 have ea:qL e 1 (.slice none 0 0) x h n=some ⟨.slice (some ⟨n,0,none⟩) news.length (ba+news.length),h.set n (some ⟨e,true,news⟩),n+1,L⟩:=by
  unfold qL
  rw[yz,nu]
  simp only[e3]
  rw[if_neg (by omega),if_pos hm]
  have g:(if(decide (news.length=news.length*1)&&news.all one)=true then(cR e ([]++news)).bind fun id=>M.ret (jF (some ⟨id,0,none⟩) (0+news.length) (ba+(0+news.length)))else M.fail) h n=some ⟨.slice (some ⟨n,0,none⟩) news.length (ba+news.length),h.set n (some ⟨e,true,news⟩),n+1,[]⟩:=by
   rw[if_pos (by simp;simpa using h1)]
   simp only[gU,vK]
   exact cD (Ck _ _ _ _) rfl
  have:=cD (f:=fun new=>if(decide (new.length=news.length*1)&&new.all one)=true then(cR e ([]++new)).bind fun id=>M.ret (jF (some ⟨id,0,none⟩) (0+news.length) (ba+(0+news.length)))else M.fail) e1 g
  simpa using this
 refine lS (ah.step (kR ea) (fg n) (fun x hx cA=> ?_) y)
 rw[e2 x (List.mem_filter.1 hx).1]at cA
 cases cA
theorem aaN {T:Prop} (c:T) {e:TypeId} {x:Value} {news olds:List Value} (s:Src h n x news) (h0:0<news.length) (h1:news.all one=true) {b cp:Nat} {cs:List Value} (hg:h.get b=some ⟨e,true,cs⟩) (hb:b<n) (off l:Nat)
 (hl:off+l<=cs.length) (ho:(cs.drop off).take l=olds) (hm:l+news.length<=1099511627776) (hc:ba<=cp) (hw:n0<=b∨W b) (k:Value->M β)
 (y:ah W n0 (k (.slice (some ⟨n,0,none⟩) (l+news.length) (ba+(l+news.length)))) ((h.set b none).set n (some ⟨e,true,olds++news⟩)) (n+1) Q):ah W n0 (fB e 1 (.slice (some ⟨b,off,none⟩) l cp) x k) h n Q:=by
 obtain⟨L,e1,e2,e3⟩:=s.run
 obtain⟨L',e4,e5⟩:=wM (n:=n) hg hb l off hl
 have ea:∃L1,qL e 1 (.slice (some ⟨b,off,none⟩) l cp) x h n=some ⟨.slice (some ⟨n,0,none⟩) (l+news.length) (ba+(l+news.length)),(h.set b none).set n (some ⟨e,true,olds++news⟩),n+1,L1⟩∧∀e∈L1,e.wr=true->e.b=b:=by
  refine⟨[⟨false,b,some 1099511627776⟩]++(L++(L'++([⟨false,b,none⟩,⟨true,b,none⟩]++[]))), ?_, ?_⟩
  ·unfold qL B4
   rw[yz,nu,yy,MX,r9]
   simp only[e3]
   rw[if_neg (by omega),if_pos hm]
   refine cD (Hq hg hb) ?_
   simp only[if_true]
   refine cD e1 ?_
   rw[if_pos (by simp;simpa using h1)]
   rw[if_neg (by omega),vJ]
   refine cD e4 (cD (aaK hg rfl hb) ?_)
   rw[ho]
   exact cD (Ck _ _ _ _) rfl
  ·intro x hx cA
   simp only[Xd,E8,E9,or_false]at hx
   rcases hx with rfl|hx|hx|rfl|rfl
   ·cases cA
   ·rw[e2 x hx]at cA;cases cA
   ·rw[e5 x hx]at cA;cases cA
   ·cases cA
   ·rfl
 obtain⟨L1,ea,Cp⟩:=ea
 refine lS (ah.step (kR ea) (fg n) (fun x hx cA=> ?_) y)
 rw[Cp x (List.mem_filter.1 hx).1 cA]
 exact hw
theorem aaO {T:Prop} (c:T) {e:TypeId} {x:Value} {news olds:List Value} (s:Src h n x news) (h0:0<news.length) (h1:news.all one=true) {b cp:Nat} {B:AB} (hg:h.get b=some B) (he:B.elem=e) (hb:b<n) (off l:Nat)
 (hl:off+l<=B.cells.length) (ho:(B.cells.drop off).take l=olds) (hm:l+news.length<=1099511627776) (hc:cp<ba) (hr:cp<l+news.length) (k:Value->M β)
 (y:ah W n0 (k (.slice (some ⟨n,0,none⟩) (l+news.length) (ba+(l+news.length)))) (h.set n (some ⟨e,true,olds++news⟩)) (n+1) Q):ah W n0 (fB e 1 (.slice (some ⟨b,off,none⟩) l cp) x k) h n Q:=by
 obtain⟨L,e1,e2,e3⟩:=s.run
 obtain⟨L',e4,e5⟩:=wM (n:=n) hg hb l off hl
 have ea:∃L1,qL e 1 (.slice (some ⟨b,off,none⟩) l cp) x h n=some ⟨.slice (some ⟨n,0,none⟩) (l+news.length) (ba+(l+news.length)),h.set n (some ⟨e,true,olds++news⟩),n+1,L1⟩∧∀e∈L1,e.wr=false:=by
  refine⟨[⟨false,b,some 1099511627776⟩]++(L++(L'++[])), ?_, ?_⟩
  ·unfold qL B4
   rw[yz,nu,yy,r9]
   simp only[e3]
   rw[if_neg (by omega),if_pos hm]
   refine cD (Hq hg hb) ?_
   simp only[he,if_true]
   refine cD e1 ?_
   rw[if_pos (by simp;simpa using h1)]
   rw[if_pos hc,if_neg (by omega),vJ]
   refine cD e4 ?_
   rw[ho]
   exact cD (Ck _ _ _ _) rfl
  ·intro x hx
   simp only[dF,Xd,E8,E9,or_false]at hx
   rcases hx with rfl|hx|hx
   ·rfl
   ·exact e2 x hx
   ·exact e5 x hx
 obtain⟨L1,ea,Cp⟩:=ea
 refine lS (ah.step (kR ea) (fg n) (fun x hx cA=> ?_) y)
 rw[Cp x (List.mem_filter.1 hx).1]at cA
 cases cA
theorem Cq {T:Prop} (c:T) {e:TypeId} {v:Value} (hv:one v=true) {b cp l:Nat} {cs:List Value} (hg:h.get b=some ⟨e,true,cs⟩) (hb:b<n) (hl:cs.length=l) (hm:l+1<=1099511627776) (hc:ba<=cp) (hw:n0<=b∨W b) (k:Value->M β)
 (y:ah W n0 (k (.slice (some ⟨n+1,0,none⟩) (l+1) (ba+(l+1)))) (((h.set n (some ⟨e,true,[v]⟩)).set b none).set (n+1) (some ⟨e,true,cs++[v]⟩)) (n+2) Q):ah W n0 (fI e 1 v fun w=>fB e 1 (.slice (some ⟨b,0,none⟩) l cp) w k) h n Q:=by
 refine Ox c hv _ ?_
 have fM:(h.set n (some ⟨e,true,[v]⟩)).get b=some ⟨e,true,cs⟩:=by rw[aA _ _ (by omega)];exact hg
 exact aaN c (news:=[v]) (olds:=cs) ⟨n,0,1,⟨e,true,[v]⟩,rfl,get_eq _ _ _,gX n,by simp,by simp⟩ (by simp) (by simp[hv]) fM (by omega) 0 l (by omega) (by rw[gT,<-hl,nQ]) hm hc hw k y
theorem OI {T:Prop} (c:T) {e:TypeId} {v:Value} (hv:one v=true) (k:Value->M β)
 (y:ah W n0 (k (.slice (some ⟨n+1,0,none⟩) 1 (ba+1))) ((h.set n (some ⟨e,true,[v]⟩)).set (n+1) (some ⟨e,true,[v]⟩)) (n+2) Q):ah W n0 (fI e 1 v fun w=>fB e 1 (.slice none 0 0) w k) h n Q:=by
 refine Ox c hv _ ?_
 exact aaM c (news:=[v]) ⟨n,0,1,⟨e,true,[v]⟩,rfl,get_eq _ _ _,gX n,by simp,by simp⟩ (by simp) (by simp) (by simp[hv]) k y
theorem Hr(d:Nat):er none d=some d:=rfl
theorem Cr {T T':Prop} (c:T) {e:TypeId} {b:Nat} {B:AB} (hg:h.get b=some B) (he:B.elem=e) (hb:b<n) (off len cp:Nat) (lo hi:Option Value) {l hh:Nat} (j8:er lo 0=some l) (Be:er hi len=some hh) (h1:l<=hh) (h2:hh<=len) (h3:len<=cp) (k:Value->M β) (_:T')
 (y:ah W n0 (k (.slice (some ⟨b,if cp=l then off else off+l,none⟩) (hh-l) (cp-l))) h n Q):ah W n0 (qK e 1 (.slice (some ⟨b,off,none⟩) len cp) lo hi k) h n Q:=by
 refine lS ?_
 have e1:((yx b).bind fun e'=>match bN e' e with
  |true=>M.lift (uh 1 (some ⟨b,off,none⟩) len cp lo hi)
  |false=> .fail) h n=some ⟨.slice (some ⟨b,if cp=l then off else off+l,none⟩) (hh-l) (cp-l),h,n,[⟨false,b,some 1099511627776⟩]++[]⟩:=by
  rw[yy]
  refine cD (Hq hg hb) ?_
  rw[he,xR]
  simp only
  unfold uh
  simp only[j8,Be]
  have:(decide (l<=hh)&&decide (hh<=cp)&&decide (cp<=cp)&&(decide (cp<ba)||(none:Option Value).isNone&&decide (hh<=len)))=true:=by simp;omega
  simp only[this,if_true,vJ]
  rfl
 obtain⟨L',e2,e3⟩:=Cj (W:=W) (n0:=n0) e1 (by simp)
 exact ah.step e2 (ak _) e3 y
theorem yK(k:IntKind)(x d:Nat):er (some (.int k (x:Int))) d=some x:=by unfold er;simp
theorem Hs{P:Program}(hd:mw P=true){gt:Nat->Hint}{lf d:Nat}{f:FuncId}{args:Array Value}{v:Value}{L:List En}(e:aq P gt lf d f args h n=some ⟨v,h1,n1,L⟩){W':Nat->Prop}(hw:∀e∈L,e.wr=true->n<=e.b∨W' e.b):∀b,b<n->¬W' b->h1.get b=h.get b:=by
 obtain⟨f0,e0⟩:=Ch hd d f args h n v h1 n1 L e
 have A:=Loc.cM P KN f0 f args h n v h1 n1 L (e0 f0 (ak _))
 intro b hb hn
 refine Fl fun k=>A.frame b k ?_ (by omega)
 rintro⟨e,he,h2,h3,_⟩
 rcases hw e he h2 with q|q
 ·omega
 ·exact hn (h3▸q)
theorem aI {P:Program} (hd:mw P=true) {gt:Nat->Hint} {lf d:Nat} {f:FuncId} {vs:List Value} {W':Nat->Prop} {Q':Value->H->Nat->Prop} (s:ah W' n (aq P gt lf d f ⟨vs⟩) h n Q') (hn:n0<=n) (hW:∀b,b<n->W' b->n0<=b∨W b) {k:Value->M β}
 (x:∀v h1 n1,n<=n1->(∀b,b<n->¬W' b->h1.get b=h.get b)->Q' v h1 n1->ah W n0 (k v) h1 n1 Q):ah W n0 (au (aq P gt lf d) f vs k) h n Q:=by
 obtain⟨v,h1,n1,L,e1,e2,e3,e4⟩:=s
 refine lS (m:=aq P gt lf d f ⟨vs⟩) (ah.step (kR e1) e2 (fun e he j6=> ?_) (x v h1 n1 e2 (Hs hd e1 e3) e4))
 have hL:=(List.mem_filter.1 he).1
 rcases e3 e hL j6 with q|q
 ·exact .inl (by omega)
 ·by_cases bf:e.b<n
  ·exact hW _ bf q
  ·exact .inl (by omega)
end
section
variable {β:Type} {W:Nat->Prop} {n0:Nat} {h h1:H} {n n1:Nat} {Q:β->H->Nat->Prop}
theorem aaP{T:Prop}(c:T){e:TypeId}(k:Value->M β)(x:ah W n0 (k (.slice (some ⟨n,0,none⟩) 0 0)) (h.set n (some ⟨e,true,[]⟩)) (n+1) Q):ah W n0 (qJ e [] 0 [] k) h n Q:=
 lS (wK (um _ _ (fun id=>jF (some ⟨id,0,none⟩) 0 0) _ _) (fg n) x)
theorem sC(m:M β):sw true m=m:=rfl
theorem yL{m:M Value}{v:Value}{L:List En}{k:Value×Tk->M β}(e:m h n=some ⟨v,h1,n1,L⟩)(hn:n<=n1)(hw:∀e∈L,e.wr=true->n0<=e.b∨W e.b)(x:ah W n0 (k (v,⟨n,n1,L⟩)) h1 n1 Q):ah W n0 ((cz m).bind k) h n Q:=
 ah.step (yr e) hn hw x
theorem aaQ{m:M Value}{v:Value}{L:List En}(e:m h n=some ⟨v,h1,n1,L⟩):(m.bind fun v=>M.ret v) h n=some ⟨v,h1,n1,L⟩:=by
 have:=cD (f:=fun v=>M.ret v) e (L2:=[]) (b:=v) (h2:=h1) (n2:=n1) rfl
 rwa[dF]at this
theorem yM{m:M Value}{v:Value}{L:List En}(e:m h n=some ⟨v,h1,n1,L⟩):(eN m M.ret) h n=some ⟨v,h1,n1,L.filter fun e=> !(decide (n<=e.b)&&decide (e.b<n1))⟩:=by
 rw[ki]
 exact aaQ (kR e)
theorem Cs{T:Prop}(_:T)(b off:Nat)(k:Value×Tk->M β){B:AB}(hg:h.get b=some B)(hb:b<n){v:Value}(hv:B.cells[off]? =some v)(x:ah W n0 (k (v,⟨n,n,[⟨false,b,some off⟩]⟩)) h n Q):ah W n0 ((cz (av (.pointer (some ⟨b,off,none⟩)) M.ret)).bind k) h n Q:=by
 have e:wu b off h n=some ⟨v,h,n,[⟨false,b,some off⟩]⟩:=by
  rw[BJ]
  unfold rd
  simp only[hb,hg,hv,if_true]
 have e2:=yM e
 have hf:[(⟨false,b,some off⟩:En)].filter (fun e=> !(decide (n<=e.b)&&decide (e.b<n)))=[⟨false,b,some off⟩]:=by
  simp;omega
 rw[hf]at e2
 exact yL e2 (ak _) (by simp) x
theorem OJ{T:Prop}(_:T){t:TypeId}(v:Value)(k:Value×Tk->M β)(x:ah W n0 (k (.pointer (some ⟨n,0,none⟩),⟨n,n+1,[]⟩)) (h.set n (some ⟨t,true,v.cells.toList⟩)) (n+1) Q):ah W n0 ((cz (kp t v M.ret)).bind k) h n Q:=by
 rw[<-oA]at x
 exact yL (yM (um t (dj v) (fun id=>mP (some ⟨id,0,none⟩)) h n)) (fg n) (by simp) x
theorem Ht {P:Program} (hd:mw P=true) {gt:Nat->Hint} {lf d:Nat} {f:FuncId} {vs:List Value} {W':Nat->Prop} {Q':Value->H->Nat->Prop} (s:ah W' n (aq P gt lf d f ⟨vs⟩) h n Q') (hn:n0<=n) (hW:∀b,b<n->W' b->n0<=b∨W b) {k:Value×Tk->M β}
 (x:∀v h1 n1 L,n<=n1->(∀b,b<n->¬W' b->h1.get b=h.get b)->Q' v h1 n1->(∀e∈L,e.b<n)->(∀e∈L,e.wr=true->W' e.b)->ah W n0 (k (v,⟨n,n1,L⟩)) h1 n1 Q):ah W n0 ((cz (au (aq P gt lf d) f vs M.ret)).bind k) h n Q:=by
 obtain⟨v,h1,n1,L,e1,e2,e3,e4⟩:=s
 obtain⟨f0,e0⟩:=Ch hd d f ⟨vs⟩ h n v h1 n1 L e1
 have A:=Loc.cM P KN f0 f ⟨vs⟩ h n v h1 n1 L (e0 f0 (ak _))
 have bf:∀e∈L.filter (fun e=> !(decide (n<=e.b)&&decide (e.b<n1))),e.b<n:=fun e he=>by
  obtain⟨h1,h2⟩:=List.mem_filter.1 he
  have:=A.lt e h1
  simp at h2
  omega
 have j6:∀e∈L.filter (fun e=> !(decide (n<=e.b)&&decide (e.b<n1))),e.wr=true->W' e.b:=fun e he hw=>by
  rcases e3 e (List.mem_filter.1 he).1 hw with q|q
  ·have:=bf e he;omega
  ·exact q
 exact yL (yM e1) e2 (fun e he hw=>hW _ (bf e he) (j6 e he hw)) (x v h1 n1 _ e2 (Hs hd e1 e3) e4 bf j6)
theorem aaR{a:Tk}{b k n2:Nat}(ha:∀e∈a.log,e.wr=false)(hb:b<a.n):a.g8 ⟨n2,n2,[⟨false,b,some k⟩]⟩=false:=by
 unfold Tk.g8
 simp only[vH]
 refine⟨⟨⟨any_false fun x hx=>by rw[ha x hx];rfl,any_false fun x hx=> ?_⟩,any_false fun x hx=> ?_⟩,any_false fun x hx=> ?_⟩
 ·simp only[E8,E9,or_false]at hx;subst hx;rfl
 ·first|(simp;done)|(simp;omega)
 ·simp only[E8,E9,or_false]at hx;subst hx;first|(simp;done)|(simp;omega)
end
section
variable {β:Type} {W:Nat->Prop} {n0:Nat} {h h1:H} {n n1:Nat} {Q:β->H->Nat->Prop}
def ar(v:Value)(b:Nat):Prop:=∃o l c,v= .slice (some ⟨b,o,none⟩) l c
def Own(h:H)(lo n:Nat)(e:TypeId)(v:Value)(cs:List Value):Prop:=(v= .slice none 0 0∧cs=[])∨∃b,v= .slice (some ⟨b,0,none⟩) cs.length (ba+cs.length)∧h.get b=some ⟨e,true,cs⟩∧lo<=b∧b<n
theorem Own.nil(h:H)(lo n:Nat)(e:TypeId):Own h lo n e (.slice none 0 0) []:= .inl ⟨rfl,rfl⟩
theorem ar.inj{b c o l k:Nat}(h:ar (.slice (some ⟨b,o,none⟩) l k) c):c=b:=by
 obtain⟨_,_,_,h⟩:=h
 cases h
 rfl
theorem ar.not_nil{l k c:Nat}(h:ar (.slice none l k) c):False:=by
 obtain⟨_,_,_,h⟩:=h
 cases h
theorem Own.lt{lo:Nat}{e:TypeId}{v:Value}{cs:List Value}(o:Own h lo n e v cs){b:Nat}(hb:ar v b):lo<=b∧b<n:=by
 rcases o with ⟨rfl,_⟩|⟨c,rfl,_,h1,h2⟩
 ·exact hb.not_nil.elim
 ·rw[hb.inj];exact⟨h1,h2⟩
theorem Own.ax{lo:Nat}{e:TypeId}{v:Value}{cs:List Value}{h':H}{n':Nat}(o:Own h lo n e v cs)(hn:n<=n')(hk:∀b,ar v b->h'.get b=h.get b):Own h' lo n' e v cs:=by
 rcases o with q|⟨c,rfl,hc,h1,h2⟩
 ·exact .inl q
 ·exact .inr ⟨c,rfl,(hk c ⟨_,_,_,rfl⟩).trans hc,h1,by omega⟩
theorem Own.low{lo oa:Nat}{e:TypeId}{v:Value}{cs:List Value}(o:Own h lo n e v cs)(hl:oa<=lo):Own h oa n e v cs:=by
 rcases o with q|⟨c,hv,hc,h1,h2⟩
 ·exact .inl q
 ·exact .inr ⟨c,hv,hc,by omega,h2⟩
theorem yN {T:Prop} (c:T) {e:TypeId} {x:Value} (hx:one x=true) {lo:Nat} {v:Value} {cs:List Value} (o:Own h lo n e v cs) (hm:cs.length+1<=1099511627776) (j8:n0<=lo) (k:Value->M β)
 (y:∀h',h'.get (n+1)=some ⟨e,true,cs++[x]⟩->(∀b,b<n->¬ar v b->h'.get b=h.get b)->ah W n0 (k (.slice (some ⟨n+1,0,none⟩) (cs.length+1) (ba+(cs.length+1)))) h' (n+2) Q):ah W n0 (fI e 1 x fun w=>fB e 1 v w k) h n Q:=by
 rcases o with ⟨rfl,rfl⟩|⟨b,rfl,hb,h1,h2⟩
 ·exact OI c hx k (y _ (get_eq _ _ _) fun b hb _=>by rw[aA _ _ (by omega),aA _ _ (by omega)])
 ·refine Cq c hx hb h2 rfl hm (by omega) (.inl (by omega)) k (y _ (get_eq _ _ _) fun c hc hn=> ?_)
  have:c≠b:=fun e=>hn ⟨0,_,_,by rw[e]⟩
  rw[aA _ _ (by omega),aA _ _ this,aA _ _ (by omega)]
theorem Own.mk'{lo b:Nat}{e:TypeId}{cs:List Value}(hg:h.get b=some ⟨e,true,cs⟩)(h1:lo<=b)(h2:b<n){l:Nat}(hl:l=cs.length):Own h lo n e (.slice (some ⟨b,0,none⟩) l (ba+l)) cs:= .inr ⟨b,by rw[hl],hg,h1,h2⟩
def aL(k:IntKind)(xs:List Int):List Value:=xs.map (Value.int k)
theorem eF(k:IntKind)(xs:List Int):(aL k xs).length=xs.length:=by unfold aL;simp
theorem Hv{k:IntKind}{xs:List Int}{i:Nat}(h:i<xs.length):(aL k xs)[i]? =some (.int k (xs.getD i 0)):=by
 unfold aL;simp[h]
theorem aaS(k:IntKind)(xs:List Int):(aL k xs).all one=true:=by
 unfold aL;simp[one]
def Row(h:H)(n:Nat)(e:TypeId)(k:IntKind)(v:Value)(xs:List Int):Prop:=
 (∃a c,v= .slice a 0 c∧(∀b o,a≠some ⟨b,o,none⟩)∧xs=[])∨∃b off cap o cs,v= .slice (some ⟨b,off,none⟩) xs.length cap∧h.get b=some ⟨e,o,cs⟩∧b<n∧off+xs.length<=cs.length∧(cs.drop off).take xs.length=aL k xs∧xs.length<=cap
theorem Row.ax{e:TypeId}{k:IntKind}{v:Value}{xs:List Int}{h':H}{n':Nat}(r:Row h n e k v xs)(hn:n<=n')(hk:∀b,b<n->h'.get b=h.get b):Row h' n' e k v xs:=by
 rcases r with q|⟨b,off,cap,o,cs,hv,hg,hb,r⟩
 ·exact .inl q
 ·exact .inr ⟨b,off,cap,o,cs,hv,(hk b hb).trans hg,by omega,r⟩
theorem Row.fC{e:TypeId}{k:IntKind}{v:Value}{xs:List Int}{h':H}{n':Nat}(r:Row h n e k v xs)(hn:n<=n')(hk:∀b,ar v b->h'.get b=h.get b):Row h' n' e k v xs:=by
 rcases r with q|⟨b,off,cap,o,cs,hv,hg,hb,r⟩
 ·exact .inl q
 ·exact .inr ⟨b,off,cap,o,cs,hv,(hk b ⟨_,_,_,hv⟩).trans hg,by omega,r⟩
theorem Row.lt{e:TypeId}{k:IntKind}{v:Value}{xs:List Int}(r:Row h n e k v xs){b:Nat}(hb:ar v b):b<n:=by
 rcases r with ⟨a,c,rfl,cd,_⟩|⟨c,off,cap,o,cs,rfl,hg,pz,_⟩
 ·obtain⟨o,l,k,q⟩:=hb
  cases q
  exact absurd rfl (cd b o)
 ·rw[hb.inj];exact pz
theorem Row.some{e:TypeId}{k:IntKind}{v:Value}{xs:List Int}(r:Row h n e k v xs)(h0:0<xs.length):∃b off cap o cs,v= .slice (some ⟨b,off,none⟩) xs.length cap∧h.get b=some ⟨e,o,cs⟩∧b<n∧off+xs.length<=cs.length∧(cs.drop off).take xs.length=aL k xs∧xs.length<=cap∧∀i,i<xs.length->cs[off+i]? =some (.int k (xs.getD i 0)):=by
 rcases r with ⟨a,c,_,_,rfl⟩|⟨b,off,cap,o,cs,hv,hg,hb,hl,ht,hc⟩
 ·simp at h0
 ·refine⟨b,off,cap,o,cs,hv,hg,hb,hl,ht,hc,fun i hi=> ?_⟩
  have:=congrArg (fun z=>z[i]?) ht
  simp only[List.getElem?_take,hi,if_true,List.getElem?_drop]at this
  rw[this,Hv hi]
theorem Row.len{e:TypeId}{k:IntKind}{v:Value}{xs:List Int}(r:Row h n e k v xs):∃a c,v= .slice a xs.length c:=by
 rcases r with ⟨a,c,rfl,_,rfl⟩|⟨b,off,cap,o,cs,rfl,_⟩
 ·exact⟨a,c,rfl⟩
 ·exact⟨_,cap,rfl⟩
theorem Own.row{lo:Nat}{e:TypeId}{k:IntKind}{v:Value}{xs:List Int}(o:Own h lo n e v (aL k xs)):Row h n e k v xs:=by
 rcases o with ⟨rfl,q⟩|⟨b,rfl,hg,_,hb⟩
 ·exact .inl ⟨none,0,rfl,fun _ _ q=>(nomatch q),by unfold aL at q;simpa using q⟩
 ·rw[eF]
  exact .inr ⟨b,0,ba+xs.length,true,_,rfl,hg,hb,by rw[eF];omega,by rw[gT,kH (by rw[eF];omega)],by omega⟩
end
end Go.Proofs.YtdagfcflbphoiaaGreatDoor.Ev
namespace Go.Proofs.YtdagfcflbphoiaaGreatDoor.Ev
open Go Go.RowKit
theorem OK{w:World}{b off:Nat}{v:Value}(h:w.cell? ⟨b,off,none⟩=some v):∃cs e fr,w.heap[b]? =some (.cells cs e fr)∧cs[off]? =some v:=by
 unfold World.cell? at h
 cases ho:w.heap[b]? with
 |none=>simp[ho]at h
 |some o=>
  cases o with
  |cells cs e fr=>exact⟨cs,e,fr,rfl,by simpa[ho]using h⟩
  |_=>simp[ho]at h
structure Laid (P:Program) (w:World) (m:Mp) (h:H) (n:Nat):Prop where
 wr:WR P m w.heap.size h w.heap
 gl:Gl P m
 fresh:∀b,n<=b->m b=none
 own:∀b B,h.get b=some B->B.own=false
 glo:P.globals.size<=n
theorem aaT{P:Program}{w:World}{g:Nat}(hg:g<P.globals.size){cs:Array Value}{e e':TypeId}{fr:Nat×Nat}(hw:w.heap[g]? =some (.cells cs e' fr)){sz:Nat}(he:size? P e=some sz){vs:List Value}(hl:vs.length<=cs.size)(hv:∀(k:Nat) (v:Value),vs[k]? =some v->cs[k]? =some v∧scalar v=true):
 ∃m,Laid P w m (H.set .nil g (some ⟨e,false,vs⟩)) P.globals.size:=by
 have only:∀b B,(H.set .nil g (some ⟨e,false,vs⟩)).get b=some B->b=g∧B=⟨e,false,vs⟩:=fun b B hb=>by
  by_cases eb:b=g
  ·subst eb
   rw[get_eq]at hb
   cases hb
   exact⟨rfl,rfl⟩
  ·rw[aA _ _ eb]at hb
   unfold H.get at hb
   rw[Tr.get_nil]at hb
   cases hb
 refine⟨fun c=>if c<P.globals.size then some ⟨c,0,cs.size,sz,e'⟩else none,⟨fun b B hb=> ?_,fun b b' B B' d d' hb bM ho=> ?_⟩,fun c hc=>⟨_,if_pos hc,rfl,rfl⟩,fun b hb=>if_neg (by omega),fun b B hb=> ?_,ak _⟩
 ·obtain⟨rfl,rfl⟩:=only b B hb
  exact⟨_,cs,fr.1,fr.2,if_pos hg,hw,rfl,by simpa using hl,he,fun q=>(by cases q),fun k v hk=>⟨v,by simpa using (hv k v hk).1,VR.self (hv k v hk).2⟩⟩
 ·obtain⟨rfl,_⟩:=only b B hb
  obtain⟨rfl,_⟩:=only b' B' bM
  exact fun _ _ _=>rfl
 ·obtain⟨_,rfl⟩:=only b B hb
  rfl
theorem aaU{P:Program}{w:World}(hG:qA w){g:Nat}(hg:g<P.globals.size){e:TypeId}{sz:Nat}(he:size? P e=some sz){vs:List Value}(h0:0<vs.length)(hk:∀(k:Nat) (v:Value),vs[k]? =some v->(g,k,v)∈KG)(hs:vs.all scalar=true):
 ∃m,Laid P w m (H.set .nil g (some ⟨e,false,vs⟩)) P.globals.size:=by
 have hc:∀(k:Nat) (v:Value),vs[k]? =some v->w.cell? ⟨g,k,none⟩=some v:=fun k v h=>hG _ (hk k v h)
 obtain⟨cs,e',fr,hw,_⟩:=OK (hc 0 vs[0] (aR h0))
 have fh:∀(k:Nat) (v:Value),vs[k]? =some v->cs[k]? =some v:=fun k v h=>by
  have:=hc k v h
  rwa[tB w _ _ hw]at this
 refine aaT hg hw he ?_ fun k v h=>⟨fh k v h,K8.1 hs v (List.mem_of_getElem? h)⟩
 have:=(Array.getElem?_eq_some_iff.1 (fh (vs.length-1) vs[vs.length-1] (aR (by omega)))).1
 omega
theorem aaV{P:Program}{bad:List FuncId}(nj:rH P=true)(b9:qn P bad=true)(mn:P.follows .mixedOrders=true)(jL:tS P bad){fuel:Nat}{f:FuncId}{w:World}{m:Mp}{h:H}(x:Laid P w m h P.globals.size)(hr:Bi (cM P bad fuel f #[] h P.globals.size)=true):
 Calls P f #[] w fun e w'=>e= .returned (.bool true)∧Below w.heap.size w w':=by
 unfold Bi at hr
 split at hr
 ·rename_i o ho
  obtain⟨v,h1,n1,L⟩:=o
  simp only at hr
  split at hr
  ·rename_i b hb
   subst hr
   refine(ME nj b9 mn jL fuel f #[] h P.globals.size _ h1 n1 L m w #[] ho x.wr (ak w.heap.size) .nil (fun b h1 _=>x.fresh b h1) x.gl).mono ?_
   rintro e w' ⟨m',v',rfl,hp,hv⟩
   refine⟨?_,hp.below⟩
   cases hv
   rfl
  ·cases hr
 ·cases hr
theorem aaW {P:Program} (nj:rH P=true) (b9:qn P KN=true) (mn:P.follows .mixedOrders=true) (jL:tS P KN) (hd:mw P=true) {w:World} {m:Mp} {h:H} {n:Nat} (x:Laid P w m h n) {gt:Nat->Hint} {lf d:Nat} {f:FuncId} {args dY:Array Value} (ha:aQ m args.toList dY.toList)
 (r:ah (fun _=>False) n (aq P gt lf d f args) h n fun v _ _=>v= .bool true):Calls P f dY w fun e w'=>e= .returned (.bool true)∧Below w.heap.size w w':=by
 obtain⟨v,h1,n1,L,e1,hn,_,rfl⟩:=r
 obtain⟨f0,yO⟩:=Ch hd d f args h n _ h1 n1 L e1
 refine(ME nj b9 mn jL f0 f args h n _ h1 n1 L m w dY (yO f0 (ak _)) x.wr (ak _) ha (fun b hb _=>x.fresh b hb) x.gl).mono ?_
 rintro e w' ⟨m',v',rfl,hp,hv⟩
 refine⟨?_,hp.below⟩
 cases hv
 rfl
end Go.Proofs.YtdagfcflbphoiaaGreatDoor.Ev
namespace Go.Proofs.YtdagfcflbphoiaaGreatDoor.Ev
open Go
abbrev V3:=Value×Value×Value
section
variable {β:Type} {W:Nat->Prop} {n0:Nat} {h:H} {n:Nat} {Q:β->H->Nat->Prop} {e:TypeId}
theorem OL{sz:Nat}(b off:Nat)(k:Value->M β){B:AB}(hg:h.get b=some B)(hb:b<n)(hl:off+sz<=B.cells.length)(x:ah W n0 (k (.agg ((B.cells.drop off).take sz).toArray)) h n Q):ah W n0 (jb sz (.pointer (some ⟨b,off,none⟩)) k) h n Q:=by
 obtain⟨L,e1,e2⟩:=wM hg hb sz off hl
 refine lS ?_
 have e:((iZ b off sz).bind fun vs=>M.ret (Xb ⟨vs⟩)) h n=some ⟨.agg ((B.cells.drop off).take sz).toArray,h,n,L++[]⟩:=by
  rw[r9]
  exact cD e1 rfl
 obtain⟨L',e3,e4⟩:=Cj (W:=W) (n0:=n0) e (by simpa using e2)
 exact ah.step e3 (ak _) e4 x
theorem OM:∀(vs:List Value) (b off:Nat) (e:TypeId) (cs:List Value) (h:H) (n:Nat),h.get b=some ⟨e,true,cs⟩->b<n->off+vs.length<=cs.length->vs.all one=true->
 ∃h' L,eD b off vs h n=some ⟨(),h',n,L⟩∧h'.get b=some ⟨e,true,cs.take off++vs++cs.drop (off+vs.length)⟩∧(∀c,c≠b->h'.get c=h.get c)∧∀x∈L,x.b=b
 |[],b,off,e,cs,h,n,hg,hb,hl,_=>⟨h,[],rfl,by simpa using hg,fun _ _=>rfl,by simp⟩
 |v::vs,b,off,e,cs,h,n,hg,hb,hl,h1=>by
  simp only[List.all_cons,bZ]at h1
  simp only[cu]at hl
  have hw:wr b off v h n=some ⟨(),h.set b (some ⟨e,true,cs.set off v⟩),n,[⟨false,b,some off⟩,⟨true,b,some off⟩]⟩:=by
   unfold wr
   have:off<cs.length:=by omega
   simp[hb,hg,this,h1.1]
  obtain⟨h',L,e1,e2,e3,e4⟩:=OM vs b (off+1) e (cs.set off v) (h.set b (some ⟨e,true,cs.set off v⟩)) n (get_eq _ _ _) hb (by simp;omega) h1.2
  refine⟨h',_,cD hw e1, ?_,fun c hc=>(e3 c hc).trans (aA _ _ hc),fun x hx=> ?_⟩
  ·rw[e2]
   congr 2
   have ha:(cs.set off v).take (off+1)=cs.take off++[v]:=by
    rw[List.take_set,List.take_succ_eq_append_getElem (by omega),List.set_append_right _ _ (by simp;omega)]
    simp[Nat.min_eq_left (show off<=cs.length by omega)]
   have hd:(cs.set off v).drop (off+1+vs.length)=cs.drop (off+(v::vs).length):=by
    rw[List.drop_set_of_lt (by omega)]
    congr 1
    simp only[cu];omega
   rw[ha,hd]
   simp
  ·rcases Xd.1 hx with q|q
   ·simp at q;rcases q with rfl|rfl<;>rfl
   ·exact e4 x q
theorem wN {T:Prop} (_:T) {sz b off:Nat} {e:TypeId} {cs vs:List Value} {v:Value} (hv:v= .agg vs.toArray) (hl:vs.length=sz) (h1:vs.all one=true) (hg:h.get b=some ⟨e,true,cs⟩) (hb:b<n) (ho:off+sz<=cs.length) (hw:n0<=b∨W b) (k:Value->M β)
 (x:∀h',h'.get b=some ⟨e,true,cs.take off++vs++cs.drop (off+sz)⟩->(∀c,c≠b->h'.get c=h.get c)->ah W n0 (k undef) h' n Q):ah W n0 (iH sz (.pointer (some ⟨b,off,none⟩)) v k) h n Q:=by
 obtain⟨h',L,e1,e2,e3,e4⟩:=OM vs b off e cs h n hg hb (by omega) h1
 subst hv
 have d:iH sz (.pointer (some ⟨b,off,none⟩)) (.agg vs.toArray) k=eN ((pF b off vs).bind fun _=> .ret undef) k:=by
  show(match bN (fi vs) sz with
   |true=>eN ((pF b off vs).bind fun _=> .ret undef) k
   |false=> .fail)=_
  rw[mu,hl,xR]
 rw[d]
 refine lS ?_
 have e5:((pF b off vs).bind fun _=>M.ret undef) h n=some ⟨undef,h',n,L++[]⟩:=by
  rw[BL]
  exact cD e1 rfl
 refine ah.step (kR e5) (ak _) (fun y hy kP=> ?_) (x h' (by rw[e2,hl]) e3)
 have:=(List.mem_filter.1 hy).1
 rw[dF]at this
 rw[e4 y this]
 exact hw
end
end Go.Proofs.YtdagfcflbphoiaaGreatDoor.Ev
namespace Go.Proofs.YtdagfcflbphoiaaGreatDoor.Ev
open Go Go.RowKit Go.WideShapes Go.ChangeShapes
def ef{α β:Type}(R:α->β->Prop):List α->List β->Prop
 |[],[]=>True
 |a::l,b::m=>R a b∧ef R l m
 |_,_=>False
theorem ef.length{α β:Type}{R:α->β->Prop}:∀{l:List α} {m:List β},ef R l m->l.length=m.length
 |[],[],_=>rfl
 |_::_,_::_,h=>by simp[ef.length h.2]
 |[],_::_,h=>h.elim
 |_::_,[],h=>h.elim
theorem ef.imp{α β:Type}{R S:α->β->Prop}:∀{l:List α} {m:List β},(∀a∈l,∀b,R a b->S a b)->ef R l m->ef S l m
 |[],[],_,_=>trivial
 |a::_,_::_,h,x=>⟨h a (AK ..) _ x.1,ef.imp (fun a ha=>h a (lG _ ha)) x.2⟩
 |[],_::_,_,x=>x.elim
 |_::_,[],_,x=>x.elim
theorem ef.append{α β:Type}{R:α->β->Prop}:∀{l l':List α} {m m':List β},ef R l m->ef R l' m'->ef R (l++l') (m++m')
 |[],_,[],_,_,h=>h
 |_::_,_,_::_,_,x,h=>⟨x.1,ef.append x.2 h⟩
 |[],_,_::_,_,x,_=>x.elim
 |_::_,_,[],_,x,_=>x.elim
def uo(g:TypeId->Option (List TypeId)):Nat->List Field->Option (List TypeId)
 |_,[]=>some []
 |o,fd::r=>if fd.offset=o then(match g fd.type with
  |some ts=>match uo g (o+ts.length) r with
   |some rs=>some (ts++rs)
   |none=>none
  |none=>none)else none
def jx(P:Program):Nat->TypeId->Option (List TypeId)
 |0,_=>none
 |f+1,t=>match P.underlying t with
  |some (.int _)|some .string|some .bool|some (.slice _)=>if P.cellsOf t=1 then some [t]else none
  |some (.struct fs)=>match uo (jx P f) 0 fs.toList with
   |some ts=>if ts.length=P.cellsOf t then some ts else none
   |none=>none
  |some (.array n e)=>match jx P f e with
   |some ts=>if n*ts.length=P.cellsOf t∧ts.length=P.cellsOf e then some (cq n ts).flatten else none
   |none=>none
  |_=>none
theorem ON{g:TypeId->Option (List TypeId)}{o:Nat}{fd:Field}{r:List Field}{ts:List TypeId}(h:uo g o (fd::r)=some ts):fd.offset=o∧∃a b,g fd.type=some a∧uo g (o+a.length) r=some b∧ts=a++b:=by
 unfold uo at h
 split at h
 ·rename_i h0
  split at h
  ·rename_i a ha
   split at h
   ·rename_i b hb
    cases h
    exact⟨h0,a,b,ha,hb,rfl⟩
   ·cases h
  ·cases h
 ·cases h
def uq(P:Program)(w:World):Nat->TypeId->Value->Prop
 |0,_,_=>False
 |f+1,t,v=>match P.underlying t with
  |some (.int k)=>∃n,v= .int k n∧(AL k n).wf=true
  |some .string=>∃s:ByteArray,v= .string s∧s.size<=maxLen
  |some .bool=>∃b,v= .bool b
  |some (.slice e)=>v= .slice none 0 0∨∃a len cap ts,v= .slice (some a) len cap∧len<=cap∧cap<=maxLen∧jx P 8 e=some ts∧0<ts.length∧size? P e=some ts.length∧
    ∀i,i<cap->∃es:List Value,(∀j u,es[j]? =some u->w.cell? (a.add (i*ts.length+j))=some u)∧ef (uq P w f) ts es
  |_=>False
def Ct(P:Program):Nat->TypeId->Bool
 |0,_=>false
 |f+1,t=>match P.underlying t with
  |some (.int _)|some .string|some .bool=>true
  |some (.slice e)=>match jx P 8 e with
   |some ts=>decide (0<ts.length)&&decide (size? P e=some ts.length)&&ts.all (Ct P f)
   |none=>false
  |_=>false
theorem aaX{w:World}{b:Nat}{a:Addr}{n:Nat}{es:List Value}(h:w.cells? b a n=some es):es.length=n∧∀j u,es[j]? =some u->w.cell? (a.add j)=some u:=by
 unfold World.cells? at h
 split at h
 ·have hl:=mapM_some_length h
  simp only[List.length_range]at hl
  refine⟨hl,fun j u hj=> ?_⟩
  have eQ:=(List.getElem?_eq_some_iff.1 hj).1
  have:=mapM_some_get h j j (by rw[List.getElem?_range (by omega)])
  rw[this];exact hj
 ·cases h
theorem add_add(a:Addr)(i j:Nat):(a.add i).add j=a.add (i+j):=by
 unfold ag3
 by_cases hj:j=0
 ·subst hj;simp
 ·by_cases hi:i=0
  ·subst hi;simp
  ·have:¬(i+j=0):=by omega
   simp only[hi,hj,this,if_false]
   congr 1
   omega
section
variable {H0:Type} {enc:TypeId×Value->H0} {P:Program} {w:World} {held:Bool}
theorem OO{g:TypeId->Option (List TypeId)}{R:TypeId->Value->Prop}{cs:List Value}:∀(fs:List Field) (o:Nat) (ts:List TypeId),uo g o fs=some ts->cs.length=o+ts.length->
 (∀fd∈fs,∀a,g fd.type=some a->a.length=P.cellsOf fd.type∧ef R a ((cs.drop fd.offset).take (P.cellsOf fd.type)))->ef R ts (cs.drop o)
 |[],o,ts,h,hl,_=>by
  cases h
  rw[List.drop_eq_nil_of_le (by simp at hl;omega)]
  trivial
 |fd::r,o,ts,h,hl,hf=>by
  obtain⟨h0,a,b,ha,hb,rfl⟩:=ON h
  obtain⟨hal,h2⟩:=hf fd (AK ..) a ha
  have:=OO r (o+a.length) b hb (by simp at hl;omega) fun fd Cu=>hf fd (lG _ Cu)
  rw[h0,<-hal]at h2
  have e:cs.drop o=(cs.drop o).take a.length++cs.drop (o+a.length):=by rw[<-List.drop_drop,List.take_append_drop]
  rw[e]
  exact h2.append this
theorem OP{R:TypeId->Value->Prop}:∀(f:Nat) (t:TypeId) (cs:List Value) (ts:List TypeId) (m:Nat) (x:DataW H0×List MemPlace),jx P f t=some ts->
 (∀t'∈ts,∀v m x,Lq enc P w 0 (fun _=>true) held m t' [v]=some x->R t' v)->Lq enc P w 0 (fun _=>true) held m t cs=some x->ts.length=P.cellsOf t∧ef R ts cs:=by
 intro f
 induction f with
 |zero=>intro t cs ts m x h;cases h
 |succ f ih=>
  intro t cs ts m x h hR hx
  unfold jx at h
  have one:∀v,cs=[v]->(if P.cellsOf t=1 then some [t]else none)=some ts->ts.length=P.cellsOf t∧ef R ts cs:=by
   intro v hv hq
   subst hv
   by_cases hc:P.cellsOf t=1
   ·rw[if_pos hc]at hq
    cases hq
    exact⟨hc.symm,hR t (AK ..) v m x hx,trivial⟩
   ·rw[if_neg hc]at hq;cases hq
  split at h
  ·rename_i k hk
   obtain⟨n,rfl,_⟩:=ahD hk hx
   exact one _ rfl h
  ·rename_i hk
   obtain⟨n,rfl,_⟩:=ahE hk hx
   exact one _ rfl h
  ·rename_i hk
   obtain⟨n,rfl,_⟩:=ahF hk hx
   exact one _ rfl h
  ·rename_i e hk
   rcases ahG hk hx with ⟨rfl,_⟩|⟨a,len,cap,elems,rest,n,_,rfl,_⟩
   ·exact one _ rfl h
   ·exact one _ rfl h
  ·rename_i fs hk
   split at h
   ·rename_i iI fy
    split at h
    ·rename_i hlen
     cases h
     obtain⟨xs,n,rfl,_,fU,_,gM⟩:=DataW.trod_struct hk hx
     refine⟨hlen, ?_⟩
     have:=OO (P:=P) (R:=R) (cs:=cs) fs.toList 0 ts fy (by omega) fun fd Cu a ha=> ?_
     ·simpa using this
     ·obtain⟨i,hi⟩:=List.mem_iff_getElem?.1 Cu
      have m9:fs[i]? =some fd:=by simpa using hi
      have cA:=gM i fd m9
      cases kW:xs[i]? with
      |none=>exact absurd cA (by
        rw[kW]
        have:=(Array.getElem?_eq_some_iff.1 m9).1
        have h3:xs[i]? =none:=kW
        rw[ahH]at h3
        omega)
      |some y=>
       rw[kW]at cA
       exact ih fd.type _ a n y ha (fun t' n8=>hR t' (by
        have:∀(l:List Field) (o:Nat) (ts:List TypeId),uo (jx P f) o l=some ts->fd∈l->∀q∈a,q∈ts:=by
         intro l
         induction l with
         |nil=>intro o ts _ hm;simp at hm
         |cons g r yP=>
          intro o ts hh hm q hq
          obtain⟨_,a2,b2,e1,e2,rfl⟩:=ON hh
          rcases E8.1 hm with rfl|hm
          ·rw[ha]at e1;cases e1
           exact Xd.2 (.inl hq)
          ·exact Xd.2 (.inr (yP _ _ e2 hm q hq))
        exact this fs.toList 0 ts fy Cu t' n8)) cA
    ·cases h
   ·cases h
  ·rename_i n e hk
   split at h
   ·rename_i iI fy
    split at h
    ·rename_i hlen
     obtain⟨hlen,hle⟩:=hlen
     obtain⟨xs,m',rfl,_,fU,hxn,gM⟩:=DataW.trod_array hk hx
     have hR':n=0∨∀t'∈iI,t'∈ts:=by
      rcases Nat.eq_zero_or_pos n with q|q
      ·exact .inl q
      ·refine .inr fun t' n8=> ?_
       cases h
       rw[List.mem_flatten]
       exact⟨iI,List.mem_replicate.2 ⟨by omega,rfl⟩,n8⟩
     have key:∀k,k<=n->ef R (cq k iI).flatten (cs.take (k*iI.length)):=by
      intro k
      induction k with
      |zero=>intro _;simp[ef]
      |succ k ihk=>
       intro jL
       have h1:=ihk (by omega)
       have cA:=gM k (by omega)
       cases kW:xs[k]? with
       |none=>rw[ahH]at kW;omega
       |some y=>
        rw[kW]at cA
        obtain⟨h3,h4⟩:=ih e _ iI m' y fy (fun t' n8=>hR t' (by
         rcases hR' with q|q
         ·omega
         ·exact q t' n8)) cA
        rw[<-h3]at h4
        rw[List.replicate_succ',List.flatten_append,List.flatten_singleton]
        have e1:cs.take ((k+1)*iI.length)=cs.take (k*iI.length)++(cs.drop (k*iI.length)).take iI.length:=by
         rw[Lr,List.take_add]
        rw[e1]
        exact h1.append h4
     cases h
     refine⟨?_, ?_⟩
     ·rw[<-hlen];simp
     ·have:=key n (ak n)
      rwa[kH (by omega)]at this
    ·cases h
   ·cases h
  ·cases h
theorem aaY{f:Nat}:∀(t:TypeId) (v:Value) (m:Nat) (x:DataW H0×List MemPlace),Ct P f t=true->Lq enc P w 0 (fun _=>true) held m t [v]=some x->uq P w f t v:=by
 induction f with
 |zero=>intro t v m x h;cases h
 |succ f ih=>
  intro t v m x h hx
  unfold Ct at h
  unfold uq
  split at h
  ·rename_i k hk
   obtain⟨n,e,_,hw⟩:=ahD hk hx
   simp at e
   exact⟨n,e,hw⟩
  ·rename_i hk
   obtain⟨s,e,_,hw⟩:=ahE hk hx
   simp at e
   exact⟨s,e,hw⟩
  ·rename_i hk
   obtain⟨b,e,_⟩:=ahF hk hx
   simp at e
   exact⟨b,e⟩
  ·rename_i e hk
   split at h
   ·rename_i ts fy
    simp only[bZ,decide_eq_true_eq,K8]at h
    obtain⟨⟨h0,h1⟩,h2⟩:=h
    have hc:P.cellsOf e=ts.length:=by
     unfold size? at h1
     unfold Program.cellsOf
     rw[h1];rfl
    rcases ahG hk hx with ⟨hv,_⟩|⟨a,len,cap,elems,rest,n,_,hv,_,_,hl,hm,hlen,m7,hsp,_⟩
    ·simp at hv
     exact .inl hv
    ·simp at hv
     obtain⟨hr,Hw⟩:=hsp rfl
     refine .inr ⟨a,len,cap,ts,hv,hl,hm,fy,h0,h1,fun i hi=> ?_⟩
     have get:∃y,(w.cells? 0 (a.add (i*P.cellsOf e)) (P.cellsOf e)).bind (Lq enc P w 0 (fun _=>true) held n e)=some y:=by
      by_cases eG:i<len
      ·rw[m7 i eG]
       exact⟨_,aR (by omega)⟩
      ·have:=Hw (i-len) (by omega)
       rw[show len+(i-len)=i by omega]at this
       rw[this]
       exact⟨_,aR (by omega)⟩
     obtain⟨y,hy⟩:=get
     rw[Option.bind_eq_some_iff]at hy
     obtain⟨es,ob,hy⟩:=hy
     obtain⟨_,wO⟩:=aaX ob
     refine⟨es,fun j u hj=> ?_,(OP 8 e es ts n y fy (fun t' n8 v m x hx=>ih t' v m x (h2 t' n8) hx) hy).2⟩
     have:=wO j u hj
     rwa[add_add,hc]at this
   ·cases h
  ·cases h
end
def eH(P:Program)(h:H)(n:Nat):Nat->TypeId->Value->Prop
 |0,_,_=>False
 |f+1,t,v=>match P.underlying t with
  |some (.int k)=>∃n,v= .int k n∧(AL k n).wf=true
  |some .string=>∃s:ByteArray,v= .string s∧s.size<=maxLen
  |some .bool=>∃b,v= .bool b
  |some (.slice e)=>(∃a,v= .slice a 0 0∧∀b o,a≠some ⟨b,o,none⟩)∨∃b len ts cs,v= .slice (some ⟨b,0,none⟩) len (ba+len)∧jx P 8 e=some ts∧0<ts.length∧h.get b=some ⟨e,false,cs⟩∧b<n∧cs.length=len*ts.length∧len<=maxLen∧
    ∀i,i<len->ef (eH P h n f) ts ((cs.drop (i*ts.length)).take ts.length)
  |_=>False
theorem eH.ax{P:Program}{h h':H}{n n':Nat}(hn:n<=n')(hk:∀b,b<n->h'.get b=h.get b):∀{f:Nat} {t:TypeId} {v:Value},eH P h n f t v->eH P h' n' f t v:=by
 intro f
 induction f with
 |zero=>intro t v x;exact x
 |succ f ih=>
  intro t v x
  unfold eH at x⊢
  split at x
  ·exact x
  ·exact x
  ·exact x
  ·rcases x with q|⟨b,len,ts,cs,hv,ht,h0,hg,hb,hl,hm,gM⟩
   ·exact .inl q
   ·exact .inr ⟨b,len,ts,cs,hv,ht,h0,(hk b hb).trans hg,by omega,hl,hm,fun i hi=>(gM i hi).imp fun _ _ _ q=>ih q⟩
  ·exact x
theorem aaZ {P:Program} {w:World} {m:Mp} {h:H} {n:Nat} (x:Laid P w m h n) {b off len cap:Nat} {cs:Array Value} {e':TypeId} {fr:Nat×Nat} (hg:w.heap[b]? =some (.cells cs e' fr)) {e:TypeId} {sz:Nat} (he:size? P e=some sz) {vs cZ:List Value} (hv:aQ m vs cZ)
 (cI:∀i v,cZ[i]? =some v->cs[off+i]? =some v) (hlen:vs.length=len*sz) (hl:len<=cap) (hc:off+cap*sz<=cs.size):
 ∃m',Laid P w m' (h.set n (some ⟨e,false,vs⟩)) (n+1)∧VR m' (.slice (some ⟨n,0,none⟩) len (ba+len)) (.slice (some ⟨b,off,none⟩) len cap)∧Le m m':=by
 let m':Mp:=fun c=>if c=n then some ⟨b,off,cs.size,sz,e'⟩else m c
 have hle:Le m m':=fun c d hd=>by
  by_cases ec:c=n
  ·subst ec;rw[x.fresh c (ak c)]at hd;cases hd
  ·show(if c=n then _ else _)=_;rw[if_neg ec];exact hd
 let h':H:=h.set n (some ⟨e,false,vs⟩)
 have hn:m' n=some ⟨b,off,cs.size,sz,e'⟩:=if_pos rfl
 have lV:h'.get n=some ⟨e,false,vs⟩:=get_eq _ _ _
 have hmul:len*sz<=cap*sz:=AD _ hl
 have nX:∀c C,h'.get c=some C->C.own=false:=fun c C jI=>by
  by_cases ec:c=n
  ·subst ec;rw[lV]at jI;cases jI;rfl
  ·rw[aA _ _ ec]at jI;exact x.own c C jI
 refine⟨m',⟨⟨?_, ?_⟩,x.gl.mono hle,fun c hc=> ?_,nX,by have:=x.glo;omega⟩,.fT hn (fun _=>rfl) (fun q=>by unfold ba at q;omega) (fun _=>⟨ak _,by omega⟩) hl hc,hle⟩
 ·intro c C jI
  by_cases ec:c=n
  ·subst ec
   rw[lV]at jI
   cases jI
   refine⟨_,cs,fr.1,fr.2,hn,hg,rfl,by show off+vs.length<=cs.size;omega,he,fun q=>(by cases q),fun k u hu=> ?_⟩
   obtain⟨u',qp,hr⟩:=hv.get k u hu
   exact⟨u',cI k u' qp,hr.mono hle⟩
  ·rw[aA _ _ ec]at jI
   obtain⟨d,rM,lo,hi,hm,fG,h1,h2,h3,h4,h5⟩:=x.wr.live c C jI
   refine⟨d,rM,lo,hi,hle _ _ hm,fG,h1,h2,h3,h4,fun k u hu=> ?_⟩
   obtain⟨u',qp,hr⟩:=h5 k u hu
   exact⟨u',qp,hr.mono hle⟩
 ·intro c c' C C' d d' jI aa0 ho
  rw[nX c C jI,nX c' C' aa0]at ho
  simp at ho
 ·show(if c=n then _ else _)=none
  rw[if_neg (by omega)]
  exact x.fresh c (by omega)
def Cv(P:Program)(w:World)(R:TypeId->Value->Prop)(S:H->Nat->TypeId->Value->Prop):Prop:=∀t v,R t v->∀m h n,Laid P w m h n->∃m' h' n' v0,Laid P w m' h' n'∧VR m' v0 v∧S h' n' t v0∧Le m m'∧n<=n'∧∀b,b<n->h'.get b=h.get b
theorem aQ.aa1{m m':Mp}(hl:Le m m'){l l':List Value}(h:aQ m l l'):aQ m' l l':=aQ.mono hl h
theorem Cw{P:Program}{w:World}{R:TypeId->Value->Prop}{S:H->Nat->TypeId->Value->Prop}(hk:∀(h h':H) (n n':Nat),n<=n'->(∀b,b<n->h'.get b=h.get b)->∀t v,S h n t v->S h' n' t v)(ok:Cv P w R S):
 ∀(ts:List TypeId) (vs:List Value),ef R ts vs->∀m h n,Laid P w m h n->∃m' h' n' fj,Laid P w m' h' n'∧aQ m' fj vs∧ef (S h' n') ts fj∧Le m m'∧n<=n'∧∀b,b<n->h'.get b=h.get b
 |[],[],_,m,h,n,x=>⟨m,h,n,[],x,.nil,trivial,Le.refl _,ak _,fun _ _=>rfl⟩
 |t::ts,v::vs,hr,m,h,n,x=>by
  obtain⟨m1,h1,n1,v0,x1,hv,hs,l1,g1,k1⟩:=ok t v hr.1 m h n x
  obtain⟨m2,h2,n2,fj,x2,fE,hss,l2,g2,k2⟩:=Cw hk ok ts vs hr.2 m1 h1 n1 x1
  exact⟨m2,h2,n2,v0::fj,x2,.cons (hv.mono l2) fE,⟨hk _ _ _ _ g2 k2 _ _ hs,hss⟩,l1.trans l2,by omega,fun b hb=>(k2 b (by omega)).trans (k1 b hb)⟩
 |[],_::_,hr,_,_,_,_=>hr.elim
 |_::_,[],hr,_,_,_,_=>hr.elim
theorem aa2{α:Type}{l r:List α}{k c:Nat}(h:k+c<=l.length):((l++r).drop k).take c=(l.drop k).take c:=by
 rw[List.drop_append_of_le_length (by omega),List.take_append_of_le_length (by simp;omega)]
theorem aa3{P:Program}{w:World}{R:TypeId->Value->Prop}{S:H->Nat->TypeId->Value->Prop}(hk:∀(h h':H) (n n':Nat),n<=n'->(∀b,b<n->h'.get b=h.get b)->∀t v,S h n t v->S h' n' t v)(ok:Cv P w R S){ts:List TypeId}{a:Addr}:
 ∀(len:Nat),(∀i,i<len->∃es:List Value,(∀j u,es[j]? =some u->w.cell? (a.add (i*ts.length+j))=some u)∧ef R ts es)->∀m h n,Laid P w m h n->
  ∃m' h' n' fj vs,Laid P w m' h' n'∧aQ m' fj vs∧vs.length=len*ts.length∧(∀i u,vs[i]? =some u->w.cell? (a.add i)=some u)∧(∀i,i<len->ef (S h' n') ts ((fj.drop (i*ts.length)).take ts.length))∧Le m m'∧n<=n'∧∀b,b<n->h'.get b=h.get b:=by
 intro len
 induction len with
 |zero=>intro _ m h n x;exact⟨m,h,n,[],[],x,.nil,by simp,fun i u hu=>by simp at hu,fun i hi=>by omega,Le.refl _,ak _,fun _ _=>rfl⟩
 |succ len ih=>
  intro m7 m h n x
  obtain⟨m1,h1,n1,fj,vs,x1,hv,hl,hc,hs,l1,g1,k1⟩:=ih (fun i hi=>m7 i (by omega)) m h n x
  obtain⟨es,Hx,kT⟩:=m7 len (by omega)
  obtain⟨m2,h2,n2,OQ,x2,j7,fx,l2,g2,k2⟩:=Cw hk ok ts es kT m1 h1 n1 x1
  have oh:fj.length=len*ts.length:=by rw[hv.length,hl]
  have aa4:OQ.length=ts.length:=fx.length.symm
  have aa5:es.length=ts.length:=kT.length.symm
  refine⟨m2,h2,n2,fj++OQ,vs++es,x2,(hv.aa1 l2).append j7,by rw[aM,hl,aa5,Lr],fun i u hu=> ?_,fun i hi=> ?_,l1.trans l2,by omega,fun b hb=>(k2 b (by omega)).trans (k1 b hb)⟩
  ·by_cases hi:i<vs.length
   ·rw[me hi]at hu
    exact hc i u hu
   ·rw[nO (by omega)]at hu
    have:=Hx _ u hu
    rwa[show len*ts.length+(i-vs.length)=i by omega]at this
  ·by_cases eG:i<len
   ·have hle:i*ts.length+ts.length<=fj.length:=by
     rw[oh,<-Lr];exact AD _ eG
    rw[aa2 hle]
    exact(hs i eG).imp fun _ _ _ q=>hk _ _ _ _ g2 k2 _ _ q
   ·obtain rfl:i=len:=by omega
    rw[<-oh,List.drop_left,<-aa4,nQ]
    exact fx
theorem aa6{P:Program}{w:World}:∀(f:Nat),Cv P w (uq P w f) (fun h n=>eH P h n f):=by
 intro f
 induction f with
 |zero=>intro t v hr;exact hr.elim
 |succ f ih=>
  intro t v hr m h n x
  unfold uq at hr
  have same:∀v0,VR m v0 v->eH P h n (f+1) t v0->∃m' h' n' v0,Laid P w m' h' n'∧VR m' v0 v∧eH P h' n' (f+1) t v0∧Le m m'∧n<=n'∧∀b,b<n->h'.get b=h.get b:=
   fun v0 h1 h2=>⟨m,h,n,v0,x,h1,h2,Le.refl _,ak _,fun _ _=>rfl⟩
  split at hr
  ·rename_i k hk
   obtain⟨z,rfl,hw⟩:=hr
   exact same _ (.int k z) (by unfold eH;rw[hk];exact⟨z,rfl,hw⟩)
  ·rename_i hk
   obtain⟨z,rfl,hw⟩:=hr
   exact same _ (.string z) (by unfold eH;rw[hk];exact⟨z,rfl,hw⟩)
  ·rename_i hk
   obtain⟨z,rfl⟩:=hr
   exact same _ (.bool z) (by unfold eH;rw[hk];exact⟨z,rfl⟩)
  ·rename_i e hk
   rcases hr with rfl|⟨a,len,cap,ts,rfl,hl,hm,fy,h0,fN,m7⟩
   ·exact same _ (.ml 0 0 ⟨ak _,by unfold ba;omega⟩) (by unfold eH;rw[hk];exact .inl ⟨none,rfl,fun _ _=>by simp⟩)
   ·by_cases wP:cap=0
    ·obtain rfl:len=0:=by omega
     subst wP
     exact same (.slice (some ⟨0,0,some 0⟩) 0 0) (.pe 0 0 0 a) (by unfold eH;rw[hk];exact .inl ⟨_,rfl,fun b o q=>by simp at q⟩)
    ·have first:∃b off,a=⟨b,off,none⟩∧∃cs e' fr,w.heap[b]? =some (.cells cs e' fr)∧off+cap*ts.length<=cs.size:=by
      obtain⟨es,Hx,kT⟩:=m7 (cap-1) (by omega)
      obtain⟨es',aa7,aa8⟩:=m7 0 (by omega)
      have qQ:=kT.length
      have nh:=aa8.length
      have c0:=aa7 0 es'[0] (by simp)
      obtain⟨b,off,spot⟩:=a
      have aa9:spot=none:=by simpa[ag3]using World.cell?_spot c0
      subst aa9
      obtain⟨cs,e',fr,hg,_⟩:=OK (by rw[m6]at c0;exact c0)
      refine⟨b,off,rfl,cs,e',fr,hg, ?_⟩
      have cl:=Hx (ts.length-1) es[ts.length-1] (aR (by omega))
      rw[m6,tB w _ _ hg]at cl
      have bf:=(Array.getElem?_eq_some_iff.1 cl).1
      have hmul:(cap-1)*ts.length+ts.length=cap*ts.length:=by
       rw[<-Lr];congr 1;omega
      omega
     obtain⟨b,off,rfl,cs,e',fr,hg,Ms⟩:=first
     obtain⟨m1,h1,n1,fj,vs,x1,hv,Bg,wO,hs,l1,g1,k1⟩:=aa3 (S:=fun h n=>eH P h n f) (fun _ _ _ _ hn hk _ _ q=>eH.ax hn hk q) ih len (fun i hi=>m7 i (by omega)) m h n x
     obtain⟨m2,x2,j7,l2⟩:=aaZ (len:=len) (cap:=cap) (off:=off) x1 hg fN hv (fun i u hu=>by
      have:=wO i u hu
      rwa[m6,tB w _ _ hg]at this) (by rw[hv.length,Bg]) hl Ms
     have kk:∀c,c<n1->(h1.set n1 (some ⟨e,false,fj⟩)).get c=h1.get c:=fun c hc=>aA _ _ (by omega)
     refine⟨m2,_,n1+1,_,x2,j7, ?_,l1.trans l2,by omega,fun c hc=>(kk c (by omega)).trans (k1 c hc)⟩
     show eH P _ (n1+1) (f+1) t _
     unfold eH
     rw[hk]
     refine .inr ⟨n1,len,ts,fj,rfl,fy,h0,get_eq _ _ _,gX n1,by rw[hv.length,Bg],by omega,fun i hi=>(hs i hi).imp fun _ _ _ q=>eH.ax (fg n1) kk q⟩
  ·exact hr.elim
def oG(P:Program)(t:TypeId):Bool:=match P.underlying t with
 |some (.struct _)|some (.array _ _)=>true
 |_=>false
def qR(P:Program)(w:World)(t:TypeId)(v:Value):Prop:=∃ts,jx P 8 t=some ts∧ef (uq P w 8) ts v.cells.toList∧(oG P t=true->∃cs,v= .agg cs)∧(oG P t=false->v.cells=#[v])
def nA(P:Program)(h:H)(n:Nat)(t:TypeId)(v:Value):Prop:=∃ts,jx P 8 t=some ts∧((oG P t=true∧∃cs,v= .agg cs∧ef (eH P h n 8) ts cs.toList)∨(oG P t=false∧ef (eH P h n 8) ts [v]))
def OR(P:Program)(t:TypeId):Bool:=match jx P 8 t with
 |some ts=>ts.all (Ct P 8)
 |none=>false
theorem Hy{H0:Type}{enc:TypeId×Value->H0}{P:Program}{w:World}{held:Bool}{r:Reach}{b0:Nat}{t:TypeId}{v:Value}{d:DataW H0}{p:List MemPlace}(ho:OR P t=true)(hv:ahJ P w r b0 t v)(h:DataW.Trod enc P w 0 (fun _=>true) held t v d p):qR P w t v:=by
 unfold OR at ho
 split at ho
 ·rename_i ts fy
  rw[K8]at ho
  obtain⟨m,hm⟩:=h
  have hc:=OP (R:=uq P w 8) 8 t v.cells.toList ts m _ fy (fun t' n8 u m x hx=>aaY t' u m x (ho t' n8) hx) hm
  refine⟨ts,fy,hc.2,fun ha=> ?_,fun ha=> ?_⟩
  ·unfold oG at ha
   split at ha
   ·rename_i fs hk
    obtain⟨cs,e,_⟩:=okWide_struct hk hv
    exact⟨cs,e⟩
   ·rename_i q e hk
    simp only[ahJ,hk]at hv
    obtain⟨cs,e,_⟩:=hv
    exact⟨cs,e⟩
   ·cases ha
  ·have wO:P.cellsOf t=1∨True:= .inr trivial
   unfold jx at fy
   unfold oG at ha
   split at fy
   ·rename_i k hk
    obtain⟨n,e⟩:=okWide_int hk hv
    rw[e];rfl
   ·rename_i hk
    obtain⟨n,e⟩:=okWide_string hk hv
    rw[e];rfl
   ·rename_i hk
    obtain⟨n,e⟩:=okWide_bool hk hv
    rw[e];rfl
   ·rename_i e hk
    obtain⟨a,l,c,e⟩:=okWide_slice hk hv
    rw[e];rfl
   ·rename_i fs hk
    rw[hk]at ha
    cases ha
   ·rename_i q e hk
    rw[hk]at ha
    cases ha
   ·cases fy
 ·cases ho
theorem aa'{P:Program}{w:World}:Cv P w (qR P w) (nA P):=by
 intro t v hr m h n x
 obtain⟨ts,fy,gM,ha,hb⟩:=hr
 obtain⟨m1,h1,n1,fj,x1,hv,hs,l1,g1,k1⟩:=Cw (S:=fun h n=>eH P h n 8) (fun _ _ _ _ hn hk _ _ q=>eH.ax hn hk q) (aa6 8) ts _ gM m h n x
 cases hg:oG P t with
 |true=>
  obtain⟨cs,rfl⟩:=ha hg
  exact⟨m1,h1,n1,.agg fj.toArray,x1,.agg hv,⟨ts,fy,.inl ⟨hg,fj.toArray,rfl,hs⟩⟩,l1,g1,k1⟩
 |false=>
  have hc:=hb hg
  rw[hc]at hv
  cases hv with
  |cons hv ht=>
   cases ht
   exact⟨m1,h1,n1,_,x1,hv,⟨ts,fy,.inr ⟨hg,hs⟩⟩,l1,g1,k1⟩
theorem nA.ax{P:Program}{h h':H}{n n':Nat}(hn:n<=n')(hk:∀b,b<n->h'.get b=h.get b){t:TypeId}{v:Value}(x:nA P h n t v):nA P h' n' t v:=by
 obtain⟨ts,fy,q⟩:=x
 rcases q with ⟨h1,cs,h2,h3⟩|⟨h1,h2⟩
 ·exact⟨ts,fy,.inl ⟨h1,cs,h2,h3.imp fun _ _ _ q=>eH.ax hn hk q⟩⟩
 ·exact⟨ts,fy,.inr ⟨h1,h2.imp fun _ _ _ q=>eH.ax hn hk q⟩⟩
theorem aa_ {P:Program} (nj:rH P=true) (b9:qn P KN=true) (mn:P.follows .mixedOrders=true) (jL:tS P KN) (hd:mw P=true) {w:World} {gt:Nat->Hint} {lf d:Nat} {f:FuncId} {ts:List TypeId} {vs:List Value} (ha:ef (qR P w) ts vs) {m0:Mp} {h0:H} (x0:Laid P w m0 h0 P.globals.size)
 (r:∀n h fj,P.globals.size<=n->(∀b,b<P.globals.size->h.get b=h0.get b)->ef (nA P h n) ts fj->ah (fun _=>False) n (aq P gt lf d f fj.toArray) h n fun v _ _=>v= .bool true):Calls P f vs.toArray w fun e w'=>e= .returned (.bool true)∧Below w.heap.size w w':=by
 obtain⟨m1,h1,n1,fj,x1,hv,hs,_,g1,k1⟩:=Cw (S:=nA P) (fun _ _ _ _ hn hk _ _ q=>nA.ax hn hk q) aa' ts vs ha m0 h0 _ x0
 exact aaW nj b9 mn jL hd x1 hv (r n1 h1 fj g1 k1 hs)
end Go.Proofs.YtdagfcflbphoiaaGreatDoor.Ev
namespace Go.Proofs.YtdagfcflbphoiaaGreatDoor.Ev
open Go Go.RowKit
end Go.Proofs.YtdagfcflbphoiaaGreatDoor.Ev
namespace Go.Proofs.YtdagfcflbphoiaaGreatDoor.Ev
open Go
set_option maxRecDepth 4000
theorem OS:type_of%(And.intro @pJ (And.intro @Nt (And.intro @Nu (And.intro @wI (And.intro @wJ (And.intro @Ns (And.intro @Nq (And.intro @Hi (And.intro @wH (And.intro @Nr (And.intro @Oy (And.intro @OA (And.intro @sC (And.intro @get_eq (And.intro @aA (And.intro @Nv (And.intro @Hj (And.intro @Nw (And.intro @Ny (And.intro @Nz (And.intro @qO (And.intro @NA (And.intro @NB (And.intro @NC (And.intro @ND (And.intro @NF (And.intro @NG (And.intro @NH (And.intro @NI (And.intro @NJ (And.intro @NK (And.intro @Hl (And.intro @NL (And.intro @NM (And.intro @NN (And.intro @NO (And.intro @yH (And.intro @NP (And.intro @NQ (And.intro @NS (And.intro @NT (And.intro @NU (And.intro @NW (And.intro @NX (And.intro @NY (And.intro @NZ (And.intro @N0 (And.intro @N1 (And.intro @N2 (And.intro @N3 (And.intro @N4 (And.intro @N5 (And.intro @N6 (And.intro @N7 (And.intro @N8 (And.intro @N9 (And.intro @N' (And.intro @Oa (And.intro @Ob (And.intro @Oc (And.intro @Od (And.intro @Hn (And.intro @Oe (And.intro @Of (And.intro @Og (And.intro @Oh (And.intro @Oi (And.intro @Oj (And.intro @Ol (And.intro @Om (And.intro @Oo (And.intro @Oq (And.intro @Ot (And.intro @Ou (And.intro @Ov (And.intro @Ow (And.intro @OB (And.intro @OC (And.intro @OD (And.intro @OE (And.intro @OG (@OH)))))))))))))))))))))))))))))))))))))))))))))))))))))))))))))))))))))))))))))))))):=And.intro @pJ (And.intro @Nt (And.intro @Nu (And.intro @wI (And.intro @wJ (And.intro @Ns (And.intro @Nq (And.intro @Hi (And.intro @wH (And.intro @Nr (And.intro @Oy (And.intro @OA (And.intro @sC (And.intro @get_eq (And.intro @aA (And.intro @Nv (And.intro @Hj (And.intro @Nw (And.intro @Ny (And.intro @Nz (And.intro @qO (And.intro @NA (And.intro @NB (And.intro @NC (And.intro @ND (And.intro @NF (And.intro @NG (And.intro @NH (And.intro @NI (And.intro @NJ (And.intro @NK (And.intro @Hl (And.intro @NL (And.intro @NM (And.intro @NN (And.intro @NO (And.intro @yH (And.intro @NP (And.intro @NQ (And.intro @NS (And.intro @NT (And.intro @NU (And.intro @NW (And.intro @NX (And.intro @NY (And.intro @NZ (And.intro @N0 (And.intro @N1 (And.intro @N2 (And.intro @N3 (And.intro @N4 (And.intro @N5 (And.intro @N6 (And.intro @N7 (And.intro @N8 (And.intro @N9 (And.intro @N' (And.intro @Oa (And.intro @Ob (And.intro @Oc (And.intro @Od (And.intro @Hn (And.intro @Oe (And.intro @Of (And.intro @Og (And.intro @Oh (And.intro @Oi (And.intro @Oj (And.intro @Ol (And.intro @Om (And.intro @Oo (And.intro @Oq (And.intro @Ot (And.intro @Ou (And.intro @Ov (And.intro @Ow (And.intro @OB (And.intro @OC (And.intro @OD (And.intro @OE (And.intro @OG (@OH)))))))))))))))))))))))))))))))))))))))))))))))))))))))))))))))))))))))))))))))))
theorem OT:type_of%(And.intro @List.getElem?_cons_zero.{0} (And.intro @List.getElem?_cons_succ.{0} (And.intro @List.set_cons_zero.{0} (And.intro @List.set_cons_succ.{0} (And.intro @cu.{0} (And.intro @List.length_nil.{0} (And.intro @o0 (And.intro @ahK (And.intro @gU (And.intro @mN (And.intro @decide_eq_true_eq (And.intro @decide_eq_false_iff_not (And.intro @true_and (And.intro @and_true (And.intro @if_true.{1} (And.intro @if_false.{1} (And.intro @true_or (And.intro @or_true (And.intro @qg (And.intro @ahL (And.intro @false_and (And.intro @and_false (And.intro @gu (And.intro @gZ (And.intro @beq_self_eq_true.{0} (And.intro @bne_self_eq_false.{0} (And.intro @decide_true (And.intro @decide_false (And.intro @W9 (And.intro @EZ (And.intro @E4 (@ahM)))))))))))))))))))))))))))))))):=And.intro @List.getElem?_cons_zero.{0} (And.intro @List.getElem?_cons_succ.{0} (And.intro @List.set_cons_zero.{0} (And.intro @List.set_cons_succ.{0} (And.intro @cu.{0} (And.intro @List.length_nil.{0} (And.intro @o0 (And.intro @ahK (And.intro @gU (And.intro @mN (And.intro @decide_eq_true_eq (And.intro @decide_eq_false_iff_not (And.intro @true_and (And.intro @and_true (And.intro @if_true.{1} (And.intro @if_false.{1} (And.intro @true_or (And.intro @or_true (And.intro @qg (And.intro @ahL (And.intro @false_and (And.intro @and_false (And.intro @gu (And.intro @gZ (And.intro @beq_self_eq_true.{0} (And.intro @bne_self_eq_false.{0} (And.intro @decide_true (And.intro @decide_false (And.intro @W9 (And.intro @EZ (And.intro @E4 (@ahM)))))))))))))))))))))))))))))))
end Go.Proofs.YtdagfcflbphoiaaGreatDoor.Ev
