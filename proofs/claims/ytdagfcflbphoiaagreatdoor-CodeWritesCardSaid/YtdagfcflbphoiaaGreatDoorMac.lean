import Derived.Test.YtdagfcflbphoiaaGreatDoorMab
import Derived.ProofKit
import Derived.OpenShut
open Int renaming natCast_nonneg→aa, ofNat→g9, toNat_of_nonneg→j6
open Nat renaming le_refl→av, ble→bx, beq→bK, le_succ→cX, succ→eT, lt_succ_self→fp, add→fS, le_of_ble_eq_true→fY, zero_add→iO, add_mul→lj, eq_of_beq_eq_true→lk, ble_eq_true_of_le→lR, add_zero→mH, mul_one→xL, beq_refl→zM, one_mul→Cs, mod_lt→aa4
open List renaming getElem?_eq_getElem→aM, replicate→bI, append_assoc→cI, append_nil→dr, length_cons→dI, drop_zero→eJ, take_of_length_le→hH, take_length→j7, mem_cons_of_mem→oK, getElem?_eq_none→qI, nil_append→uD, mem_cons→Ct, not_mem_nil→Cu, mem_append→Ou, reverse_cons→aa5
open Bool renaming and_eq_true→cb, or_eq_true→xI, or_eq_false_iff→xJ, false_ne_true→Ol, not_eq_true'→Om
open Option.some renaming injEq→ee
open Go.Region renaming wanted→fJ
open BitVec renaming ofInt→gF
open Go.Value renaming slice→jH, pointer→zO, agg→Hp
open Go.Instr renaming fill→lQ
open Array renaming all_eq_true_iff_forall_mem→uB, length_toList→Hq, getElem?_toList→al_
open Go renaming convert→Ok
open Go.Next renaming value→Oq
set_option linter.unusedVariables false
set_option linter.unusedSimpArgs false
set_option linter.unusedSectionVars false
namespace Go.Proofs.YtdagfcflbphoiaaGreatDoor.Ev
open Go Go.RowKit
noncomputable section
variable {β:Type} (P:Program)
def I7(op:UnOp)(x:Value)(k:Value->M β):M β:=match op with
 | .not=>dZ x k
 | .neg=>DC x k
 |_=> .fail
def I8(src dst:TypeId)(x:Value)(k:Value->M β):M β:=match sx (P.underlying src) (P.underlying dst)with
 |some e=>match nK P e with
  |true=>vt x k
  |false=> .fail
 |none=>match u7 (P.underlying src) (P.underlying dst)with
  |some e=>match nK P e&&size? P e==some 1 with
   |true=>I0 e x k
   |false=> .fail
  |none=>match P.underlying src with
   |some _=>match P.underlying dst with
    |some (.int kd)=>eZ kd x k
    |some .string=>PX x k
    |_=> .fail
   |none=> .fail
def DF(t:TypeId)(a:Value)(k:Value->M β):M β:=match kI P t with
 |some true=>match size? P t with
  |some sz=>fa sz a k
  |none=> .fail
 |some false=>ay a k
 |none=> .fail
def I9(t:TypeId)(a x:Value)(k:Value->M β):M β:=match size? P t with
 |some sz=>match kI P t with
  |some true=>fb sz a x k
  |some false=>match bK sz 1 with
   |true=>bG a x k
   |false=> .fail
  |none=> .fail
 |none=> .fail
def I'(e:TypeId)(k:Value->M β):M β:=match fK P e with
 |some z=>iW e (dC z) k
 |none=> .fail
def Ja(e:TypeId)(x:Value)(k:Value->M β):M β:=match size? P e with
 |some _=>jt e x k
 |none=> .fail
def yp(pl:Nat->Option (Nat×Nat)):List (Nat×Value)->Option (List (Nat×Nat×Value))
 |[]=>some []
 |q::r=>match pl q.1 with
  |some p=>match yp pl r with
   |some l=>some ((p.1,p.2,q.2)::l)
   |none=>none
  |none=>none
def Jb(t:TypeId)(ps:List (Nat×Value))(k:Value->M β):M β:=match fK P t with
 |some z=>match P.underlying t with
  |some (.struct fs)=>match fs.all fun f=>(size? P f.type).isSome with
   |true=>aS (yp (placeOf P fs) ps) fun qs=>gS (dC z) qs k
   |false=> .fail
  |_=> .fail
 |none=> .fail
def lone:Nat->List (Nat×Value)->Option Value
 |1,[(0,v)]=>some v
 |_,_=>none
def Jc(t:TypeId)(len:Nat)(ps:List (Nat×Value))(k:Value->M β):M β:=match P.underlying t with
 |some (.slice e)=>match size? P e with
  |some sz=>match fK P e with
   |some z=>match bK len 0&&ps.isEmpty with
    |true=>rz e [] 0 [] k
    |false=>match bx 1 (len*sz)&&bx (len*sz) 65536&&bK (eW (dC z)) sz with
     |true=>match lone len ps with
      |some v=>cZ e sz v k
      |none=>aS (yp (fun i=>some (i*sz,sz)) ps) fun qs=>rz e (ju (dC z) len) len qs k
     |false=> .fail
   |none=> .fail
  |none=> .fail
 |_=> .fail
def Jd(t:TypeId)(l c:Value)(k:Value->M β):M β:=match P.underlying t with
 |some (.slice e)=>match P.info? e with
  |some ie=>match fK P e with
   |some z=>match bx ie.bytes 64&&bK (eW (dC z)) ie.size&&bx 1 ie.size with
    |true=>jx e (dC z) l c k
    |false=> .fail
   |none=> .fail
  |none=> .fail
 |_=> .fail
def Je(t:TypeId)(x:Value)(lo hi mx:Option Value)(k:Value->M β):M β:=match mx with
 |some _=> .fail
 |none=>match P.underlying t with
  |some .string=>kx x lo hi k
  |some (.slice e)=>match size? P e with
   |some sz=>rA e sz x lo hi k
   |none=> .fail
  |_=> .fail
def Jf(t:TypeId)(x:Value)(f:Nat)(k:Value->M β):M β:=match P.underlying t with
 |some (.struct fs)=>match fs[f]? with
  |some fd=>match size? P fd.type with
   |some (_+1)=>aE fd.offset x k
   |_=> .fail
  |none=> .fail
 |_=> .fail
def Jg(t:TypeId)(x:Value)(f:Nat)(k:Value->M β):M β:=match P.underlying t with
 |some (.struct fs)=>match fs[f]? with
  |some fd=>match kI P fd.type with
   |some true=>match size? P fd.type with
    |some m=>IZ fd.offset m x k
    |none=> .fail
   |some false=>IY fd.offset x k
   |none=> .fail
  |none=> .fail
 |_=> .fail
def Jh(t:TypeId)(x ix:Value)(k:Value->M β):M β:=match P.underlying t with
 |some (.slice e)=>match size? P e with
  |some sz=>match bK sz 1 with
   |true=>aL x ix k
   |false=>qh sz x ix k
  |none=> .fail
 |some (.array len e)=>match size? P e with
  |some sz=>match bK sz 1 with
   |true=>gx len x ix k
   |false=>DD len sz x ix k
  |none=> .fail
 |_=> .fail
def Ji(t:TypeId)(x ix:Value)(k:Value->M β):M β:=match P.underlying t with
 |some .string=>pf x ix k
 |some (.array len e)=>match kI P e with
  |some false=>match size? P e with
   |some sz=>match bK sz 1 with
    |true=>Av len x ix k
    |false=> .fail
   |none=> .fail
  |_=> .fail
 |_=> .fail
def Jj(dk:Array TypeId)(vs:List Value)(k:Value->M β):M β:=match dk[0]? with
 |some t=>match vs with
  |[x]=>match P.underlying t with
   |some (.slice _)=>aN x k
   |some .string=>lA x k
   |_=> .fail
  |_=> .fail
 |none=> .fail
def Jk(vs:List Value)(k:Value->M β):M β:=match vs with
 |[x,y]=>te x y k
 |_=> .fail
def Jl(vs:List Value)(k:Value->M β):M β:=match vs with
 |[x,y]=>vq x y k
 |_=> .fail
def Jm(t:TypeId)(s x:Value)(k:Value->M β):M β:=match P.underlying t with
 |some (.slice e)=>match P.info? e with
  |some ie=>match fK P e with
   |some z=>match bx ie.bytes 64&&bK (eW (dC z)) ie.size&&bx 1 ie.size with
    |true=>cO e ie.size s x k
    |false=> .fail
   |none=> .fail
  |none=> .fail
 |_=> .fail
def Jn(t:TypeId)(d s:Value)(k:Value->M β):M β:=match P.underlying t with
 |some (.slice e)=>match size? P e with
  |some sz=>kcp sz d s k
  |none=> .fail
 |_=> .fail
variable (rec:FuncId->Array Value->M Value)
def Jo(s:Fr)(c:Call)(vs:List Value)(k:Value->M β):M β:=match c.callee with
 | .value (.func g)=>match mL P g with
   |true=>az rec g vs k
   |false=> .fail
 | .value f=>aS (bj s f) fun fv=>fO P rec fv vs k
 | .builtin .append=>aS (xQ P c.argTypes vs) fun q=>Jm P q.1 q.2.1 q.2.2 k
 | .builtin .copy=>aS (xR c.argTypes vs) fun q=>Jn P q.1 q.2.1 q.2.2 k
 | .builtin .len=>Jj P c.argTypes vs k
 | .builtin .min=>Jk vs k
 | .builtin .max=>Jl vs k
 |_=> .fail
def kS(s:Fr)(o:Oper)(k:Value->M β):M β:=
 match o.op with
 | .move x| .assign x=>aS (bj s x) k
 | .pick c a b=>aS (bj s c) fun c=>aS (bj s a) fun a=>aS (bj s b) fun b=>IX c a b k
 | .alloc e=>I' P e k
 | .box e x=>aS (bj s x) fun x=>Ja P e x k
 | .build t parts=>ly s (parts.toList.map (·.2)) fun vs=>Jb P t ((parts.toList.map (·.1)).zip vs) k
 | .buildSlice t len parts=>ly s (parts.toList.map (·.2)) fun vs=>Jc P t len ((parts.toList.map (·.1)).zip vs) k
 | .load t a=>aS (bj s a) fun a=>DF P t a k
 | .store t a x=>aS (bj s a) fun a=>aS (bj s x) fun x=>I9 P t a x k
 | .nilCheck x=>aS (bj s x) fun x=>aI x k
 | .binOp op t x y _=>aS (bj s x) fun x=>aS (bj s y) fun y=>I6 P op t x y k
 | .unOp op _ x=>aS (bj s x) fun x=>I7 op x k
 | .convert src dst x=>aS (bj s x) fun x=>I8 P src dst x k
 | .makeFunc fn a b=>ly s a.toList fun a=>ly s b.toList fun b=>k (.func fn a.toArray b.toArray)
 | .makeSlice t l c=>aS (bj s l) fun l=>aS (bj s c) fun c=>Jd P t l c k
 | .slice t x lo hi mx=>aS (bj s x) fun x=>ri s lo fun lo=>ri s hi fun hi=>ri s mx fun mx=>Je P t x lo hi mx k
 | .fieldAddr t x f=>aS (bj s x) fun x=>Jf P t x f k
 | .field t x f=>aS (bj s x) fun x=>Jg P t x f k
 | .indexAddr t x ix=>aS (bj s x) fun x=>aS (bj s ix) fun ix=>Jh P t x ix k
 | .index t x ix=>aS (bj s x) fun x=>aS (bj s ix) fun ix=>Ji P t x ix k
 | .extract t i=>aS (bj s t) fun t=>bm t i k
 | .call c=>ly s c.args.toList fun vs=>Jo P rec s c vs k
 |_=> .fail
end
section
variable {β:Type} {P:Program} {t:TypeId} {x y a:Value} {k:Value->M β} {h:H} {n:Nat} {r:Out β}
theorem adz{op:UnOp}(hr:I7 op x k h n=some r):aS (Px P op x) k h n=some r:=by
 unfold I7 at hr
 split at hr
 ·unfold dZ at hr
  split at hr
  ·exact eP rfl hr
  ·cases hr
 ·unfold DC at hr
  split at hr
  ·rename_i j p
   exact eP (v:= .int j (j.wrap (0-p))) rfl (by rw[<-kO,<-Dd];exact hr)
  ·cases hr
 ·cases hr
theorem Jp{v:Value}(hr:k v h n=some r):((inside (M.ret v)).bind k) h n=some r:=by
 obtain⟨c,h2,n2,L⟩:=r
 exact bZ (L1:=[]) rfl hr
theorem adA(hr:vt x k h n=some r):((inside (nJ x)).bind k) h n=some r:=by
 unfold vt at hr
 split at hr
 ·rename_i b off len c
  refine lB (m:=(jr b off len).bind fun vs=>match oc vs with
  |some l=> .ret (.string ⟨⟨l⟩⟩)
  |none=> .fail) ?_ hr
  have:=congrFun ac4 (.slice (some ⟨b,off,none⟩) len c)
  exact this
 ·exact Jp hr
 ·cases hr
theorem adB{e:TypeId}(hr:I0 e x k h n=some r):((inside (CV e x)).bind k) h n=some r:=by
 unfold I0 at hr
 split at hr
 ·rename_i l
  cases hl:bx (kP l) 1099511627776 with
  |false=>simp only[hl]at hr;cases hr
  |true=>
   simp only[hl]at hr
   refine lB ?_ hr
   have:=fY hl
   rw[rk]at this⊢
   unfold CV qO
   rw[mg]
   have hs:(⟨⟨l⟩⟩:ByteArray).size=l.length:=rfl
   simp only[hs]
   rw[if_pos this]
   simp
 ·cases hr
theorem adC{src dst:TypeId}(hr:I8 P src dst x k h n=some r):CW P src dst x k h n=some r:=by
 unfold I8 at hr
 unfold CW
 cases hs:sx (P.underlying src) (P.underlying dst)with
 |some e=>
  simp only[hs]at hr⊢
  cases hu:nK P e with
  |true=>simp only[hu]at hr⊢;exact adA hr
  |false=>simp only[hu]at hr;cases hr
 |none=>
  simp only[hs]at hr⊢
  cases hb:u7 (P.underlying src) (P.underlying dst)with
  |some e=>
   simp only[hb]at hr⊢
   cases hu:(nK P e&&size? P e==some 1)with
   |true=>simp only[hu]at hr⊢;exact adB hr
   |false=>simp only[hu]at hr;cases hr
  |none=>
   simp only[hb]at hr⊢
   cases hd:P.underlying src with
   |none=>simp only[hd]at hr;cases hr
   |some ds=>
    simp only[hd]at hr
    cases he:P.underlying dst with
    |none=>simp only[he]at hr;cases hr
    |some dd=>
     simp only[he]at hr
     cases dd<;>try(cases hr;done)
     ·cases x<;>try(cases hr;done)
      ·rename_i kd j p
       refine eP (v:= .int kd (kd.wrap p)) ?_ (by rw[<-kO];exact hr)
       unfold nY
       simp only[scalar]
       have:je P (do pure (Oq (<-Ok src dst (.int j p))))=some (.int kd (kd.wrap p)):=by
        unfold Ok
        simp only[bind_assoc]
        rw[qc hd,qc he]
        rfl
       rw[this]
     ·cases x<;>try(cases hr;done)
      ·rename_i s
       refine eP (v:= .string s) ?_ hr
       unfold nY
       simp only[scalar]
       have:je P (do pure (Oq (<-Ok src dst (.string s))))=some (.string s):=by
        unfold Ok
        simp only[bind_assoc]
        rw[qc hd,qc he]
        rfl
       rw[this]
theorem P3(hr:DF P t a k h n=some r):((inside (jf P t a)).bind k) h n=some r:=by
 unfold DF at hr
 cases ha:kI P t with
 |none=>simp only[ha]at hr;cases hr
 |some b=>
  cases b with
  |false=>
   simp only[ha]at hr
   unfold ay at hr
   split at hr
   ·refine lB ?_ hr
    rw[Dp]
    unfold jf
    simp only[ha]
   ·cases hr
  |true=>
   simp only[ha]at hr
   cases hs:size? P t with
   |none=>simp only[hs]at hr;cases hr
   |some sz=>
    simp only[hs]at hr
    unfold fa at hr
    split at hr
    ·refine lB ?_ hr
     rw[rq]
     unfold jf
     simp only[ha,hs]
    ·cases hr
theorem adD(hr:I9 P t a x k h n=some r):((inside (oO P t a x)).bind k) h n=some r:=by
 unfold I9 at hr
 cases hs:size? P t with
 |none=>simp only[hs]at hr;cases hr
 |some sz=>
  simp only[hs]at hr
  cases ha:kI P t with
  |none=>simp only[ha]at hr;cases hr
  |some b=>
   cases b with
   |true=>
    simp only[ha]at hr
    unfold fb at hr
    split at hr
    ·split at hr
     ·rename_i b off _ l
      cases hl:bK (eW l) sz with
      |false=>simp only[hl]at hr;cases hr
      |true=>
       simp only[hl]at hr
       refine lB ?_ hr
       have:=lk hl
       rw[mh]at this
       unfold oO
       have hc:(Hp ⟨l⟩).cells=⟨l⟩:=rfl
       simp only[hs,hc]
       rw[if_pos (by simpa using this),Dr]
     ·cases hr
    ·cases hr
   |false=>
    simp only[ha]at hr
    cases h1:bK sz 1 with
    |false=>simp only[h1]at hr;cases hr
    |true=>
     simp only[h1]at hr
     have:=lk h1
     subst this
     unfold bG at hr
     split at hr
     ·rename_i b off
      cases ho:one x with
      |false=>simp only[ho]at hr;cases hr
      |true=>
       simp only[ho]at hr
       refine lB ?_ hr
       have hc:x.cells=#[x]:=by cases x<;>first|rfl|(simp[one]at ho)
       unfold oO
       simp only[hs,hc]
       rw[Dq]
       funext hh n
       show _=((ez b off [x]).bind fun _=>M.ret undef) hh n
       unfold ez ez M.bind
       cases wr b off x hh n with
       |none=>rfl
       |some o=>simp[M.ret]
     ·cases hr
theorem adE{e:TypeId}(hr:I' P e k h n=some r):((inside (nH P e)).bind k) h n=some r:=by
 unfold I' at hr
 cases hz:fK P e with
 |none=>simp only[hz]at hr;cases hr
 |some z=>
  simp only[hz]at hr
  refine lB ?_ hr
  unfold nH
  rw[hz,mg,o4]
theorem adF{e:TypeId}(hr:Ja P e x k h n=some r):((inside (nI P e x)).bind k) h n=some r:=by
 unfold Ja at hr
 cases hz:size? P e with
 |none=>simp only[hz]at hr;cases hr
 |some z=>
  simp only[hz]at hr
  refine lB ?_ hr
  unfold nI
  rw[hz,mg,o4]
theorem Jq{pl:Nat->Option (Nat×Nat)}:∀(ps:List (Nat×Value)) (qs:List (Nat×Nat×Value)) (cs:List Value),yp pl ps=some qs->fx cs qs=tc pl cs ps
 |[],qs,cs,e=>by cases e;rfl
 |(i,v)::r,qs,cs,e=>by
  unfold yp at e
  unfold tc
  simp only at e
  cases hp:pl i with
  |none=>simp only[hp]at e;cases e
  |some p=>
   obtain⟨off,sz⟩:=p
   simp only[hp]at e⊢
   cases hr:yp pl r with
   |none=>simp only[hr]at e;cases e
   |some l=>
    simp only[hr]at e
    cases e
    unfold fx
    simp only
    cases bK (eW (dC v)) sz with
    |false=>rfl
    |true=>
     simp only[Bool.true_and]
     cases bx (fS off (eW (dC v))) (eW cs)with
     |false=>rfl
     |true=>exact Jq r l _ hr
theorem adG{ps:List (Nat×Value)}(hr:Jb P t ps k h n=some r):((inside (mJ P t ps)).bind k) h n=some r:=by
 unfold Jb at hr
 cases hz:fK P t with
 |none=>simp only[hz]at hr;cases hr
 |some z=>
  simp only[hz]at hr
  cases hu:P.underlying t with
  |none=>simp only[hu]at hr;cases hr
  |some u=>
   simp only[hu]at hr
   cases u<;>try(cases hr;done)
   rename_i fs
   simp only at hr
   cases hf:(fs.all fun f=>(size? P f.type).isSome)with
   |false=>simp only[hf]at hr;cases hr
   |true=>
    simp only[hf]at hr
    obtain⟨qs,hq,hr⟩:=cL hr
    unfold gS at hr
    have e:=Jq ps qs (dC z) hq
    rw[o4,Du]at e
    rw[o4,e]at hr
    have:mJ P t ps=match lQ (placeOf P fs) z.cells ps with
     |some cs=>M.ret (.agg cs)
     |none=> .fail:=by
     unfold mJ
     simp only[hz,hu,hf,if_true]
     rfl
    rw[this]
    cases hi:lQ (placeOf P fs) z.cells ps with
    |none=>rw[hi]at hr;cases hr
    |some cs=>
     rw[hi]at hr
     exact Jp hr
end
section
variable {β:Type} {P:Program} {t:TypeId} {x y a:Value} {k:Value->M β} {h:H} {n:Nat} {r:Out β}
theorem Jr:∀a b:List Value,Dv a b=a++b
 |[],_=>rfl
 |v::a,b=>by
  show v::Dv a b=_
  rw[Jr a b];rfl
theorem adH{z:Value}{n i:Nat}(hs:0<z.cells.size)(h:i<n):(gP z n).toList[i]? =some (z.cells.toList[i %z.cells.size]'(by rw[Hq];exact aa4 _ hs)):=by
 unfold gP
 have bf:=aa4 i hs
 simp[h,bf]
theorem P4(l:List Value):∀c,(ju l c).length=c*l.length
 |0=>by simp[ju]
 |c+1=>by
  unfold ju
  rw[Jr,List.length_append,P4 l c,lj,Cs,Nat.add_comm]
theorem P5(l:List Value)(hs:0<l.length):∀c i,i<c*l.length->(ju l c)[i]? =some (l[i %l.length]'(aa4 _ hs))
 |0,i,h=>by simp at h
 |c+1,i,h=>by
  unfold ju
  rw[Jr]
  by_cases hi:i<l.length
  ·rw[List.getElem?_append_left hi,aM hi]
   simp only[Nat.mod_eq_of_lt hi]
  ·rw[List.getElem?_append_right (by omega),P5 l hs c (i-l.length) (by rw[lj,Cs]at h;omega)]
   have:(i-l.length)%l.length=i %l.length:=by
    conv=>rhs;rw[show i=i-l.length+l.length by omega,Nat.add_mod_right]
   simp only[this]
theorem Js{z:Value}(hs:0<z.cells.size)(c:Nat):ju (dC z) c=(gP z (c*z.cells.size)).toList:=by
 rw[o4]
 have hl:z.cells.toList.length=z.cells.size:=Hq
 apply List.ext_getElem?
 intro i
 by_cases hi:i<c*z.cells.size
 ·rw[P5 _ (by omega) c i (by rw[hl];exact hi),adH hs hi]
  simp only[hl]
 ·rw[qI (by rw[P4,hl];omega),qI (by unfold gP;simp;omega)]
theorem P6:∀(l cs:List Value),l.length=cs.length->over l cs=l
 |[],[],_=>rfl
 |[],_::_,h=>by simp at h
 |_::_,[],h=>by simp at h
 |x::l,c::cs,h=>by
  show x::over l cs=_
  rw[P6 l cs (by simpa using h)]
theorem adI{len:Nat}{ps:List (Nat×Value)}{v:Value}(e:lone len ps=some v):len=1∧ps=[(0,v)]:=by
 unfold lone at e
 split at e
 ·cases e;exact⟨rfl,rfl⟩
 ·cases e
theorem adJ{len:Nat}{ps:List (Nat×Value)}(hr:Jc P t len ps k h n=some r):((inside (mK P t len ps)).bind k) h n=some r:=by
 unfold Jc at hr
 cases hu:P.underlying t with
 |none=>simp only[hu]at hr;cases hr
 |some u=>
  simp only[hu]at hr
  cases u<;>try(cases hr;done)
  rename_i e
  simp only at hr
  cases hs:size? P e with
  |none=>simp only[hs]at hr;cases hr
  |some sz=>
   simp only[hs]at hr
   cases hz:fK P e with
   |none=>simp only[hz]at hr;cases hr
   |some z=>
    simp only[hz]at hr
    have e0:mK P t len ps=if len=0&&ps.isEmpty then(cY e []).bind fun id=> .ret (.slice (some ⟨id,0,none⟩) 0 0)else
     if 0<len*sz&&len*sz<=65536 then
      match lQ (fun i=>some (i*sz,sz)) (gP z (len*sz)) ps with
      |some cs=>(cY e cs.toList).bind fun id=> .ret (.slice (some ⟨id,0,none⟩) len len)
      |none=> .fail
     else .fail:=by
     unfold mK
     simp only[hu,hs,hz]
     rfl
    rw[e0]
    cases h0:(bK len 0&&ps.isEmpty)with
    |true=>
     simp only[h0]at hr
     rw[cb]at h0
     have:=lk h0.1
     rw[if_pos (by simp[this,h0.2])]
     unfold rz fx at hr
     simp only at hr
     refine lB ?_ hr
     rw[mg]
    |false=>
     simp only[h0]at hr
     have re:¬((decide (len=0)&&ps.isEmpty)=true):=by
      intro q
      rw[cb,decide_eq_true_eq]at q
      obtain⟨rfl,q⟩:=q
      rw[q]at h0
      cases h0
     rw[if_neg re]
     cases h1:(bx 1 (len*sz)&&bx (len*sz) 65536&&bK (eW (dC z)) sz)with
     |false=>simp only[h1]at hr;cases hr
     |true=>
      simp only[h1]at hr
      rw[cb,cb]at h1
      obtain⟨⟨h2,h3⟩,h4⟩:=h1
      have h2:=fY h2
      have h3:=fY h3
      have h4:=lk h4
      rw[mh,o4,Hq]at h4
      rw[if_pos (by simp;omega)]
      have p8:0<z.cells.size:=by
       rw[h4]
       exact Nat.pos_of_ne_zero fun q=>by rw[q]at h2;simp at h2
      cases hv:lone len ps with
      |some v=>
       simp only[hv]at hr
       obtain⟨rfl,rfl⟩:=adI hv
       unfold cZ at hr
       cases hc:bK (eW (dC v)) sz with
       |false=>simp only[hc]at hr;cases hr
       |true=>
        simp only[hc]at hr
        have hc:=lk hc
        have f:=Du (fun i=>some (i*sz,sz)) [(0,v)] (gP z (1*sz))
        have zl:(gP z (1*sz)).toList.length=sz:=by unfold gP;simp
        have f2:tc (fun i=>some (i*sz,sz)) (gP z (1*sz)).toList [(0,v)]=some (dC v):=by
         unfold tc
         simp only[Nat.zero_mul]
         rw[mh (gP z (1*sz)).toList,zl,hc]
         have b1:bK sz sz=true:=zM sz
         have b2:bx (fS 0 sz) sz=true:=lR (by show 0+sz<=sz;omega)
         simp only[b1,b2,Bool.and_self]
         unfold tc
         rw[IP,<-IM,P6 _ _ (by rw[zl,<-mh,hc])]
        rw[f2]at f
        cases hi:lQ (fun i=>some (i*sz,sz)) (gP z (1*sz)) [(0,v)]with
        |none=>rw[hi]at f;cases f
        |some cs=>
         rw[hi]at f
         simp only[Option.map_some,ee]at f
         refine lB ?_ hr
         rw[mg,f]
      |none=>
       simp only[hv]at hr
       obtain⟨qs,hq,hr⟩:=cL hr
       unfold rz at hr
       have f:=Jq ps qs (ju (dC z) len) hq
       rw[Js p8,h4,Du]at f
       rw[Js p8,h4,f]at hr
       cases hi:lQ (fun i=>some (i*sz,sz)) (gP z (len*sz)) ps with
       |none=>rw[hi]at hr;cases hr
       |some cs=>
        rw[hi]at hr
        refine lB ?_ hr
        rw[mg]
theorem adK{l c:Value}(hr:Jd P t l c k h n=some r):((inside (nL P t l c)).bind k) h n=some r:=by
 unfold Jd at hr
 cases hu:P.underlying t with
 |none=>simp only[hu]at hr;cases hr
 |some u=>
  simp only[hu]at hr
  cases u<;>try(cases hr;done)
  rename_i e
  simp only at hr
  cases hs:P.info? e with
  |none=>simp only[hs]at hr;cases hr
  |some ie=>
   simp only[hs]at hr
   cases hz:fK P e with
   |none=>simp only[hz]at hr;cases hr
   |some z=>
    simp only[hz]at hr
    cases h1:(bx ie.bytes 64&&bK (eW (dC z)) ie.size&&bx 1 ie.size)with
    |false=>simp only[h1]at hr;cases hr
    |true=>
     simp only[h1]at hr
     rw[cb,cb]at h1
     obtain⟨⟨h2,h3⟩,h4⟩:=h1
     have h2:=fY h2
     have h3:=lk h3
     have h4:=fY h4
     rw[mh,o4,Hq]at h3
     unfold jx at hr
     split at hr
     ·split at hr
      ·rename_i k1 l _ k2 c
       cases hl:bx l c with
       |false=>simp only[hl]at hr;cases hr
       |true=>
        simp only[hl]at hr
        cases hm:bx c 1099511627776 with
        |false=>simp only[hm]at hr;cases hr
        |true=>
         simp only[hm]at hr
         have hl:=fY hl
         have hm:=fY hm
         refine lB ?_ hr
         unfold nL
         simp only[hu,hs,hz]
         have q1:(0:Int)<=g9 l:=aa _
         have q2:g9 l<=g9 c:=Int.ofNat_le.2 hl
         have q3:g9 c<=1099511627776:=Int.ofNat_le.2 hm
         rw[if_pos (by simp[q1,q2,q3,h2,h3,h4];omega),mg,Js (by omega),h3]
         rfl
      ·cases hr
     ·cases hr
theorem P7{P:Program}{t e:TypeId}{sz:Nat}(hu:P.underlying t=some (.slice e))(hs:size? P e=some sz)(a:Option Addr)(len cap:Nat)(lo hi:Option Value):vr sz a len cap lo hi=xN P t (.slice a len cap) lo hi none:=by
 unfold vr xN
 simp only[hu,hs]
 cases h1:er hi len with
 |none=>simp
 |some b=>
  cases h2:er lo 0 with
  |none=>simp[er]
  |some c=>
   simp[er]
   rfl
theorem adL{lo hi mx:Option Value}(hr:Je P t x lo hi mx k h n=some r):yg P t x lo hi mx k h n=some r:=by
 unfold Je at hr
 cases mx with
 |some _=>cases hr
 |none=>
  simp only at hr
  cases hu:P.underlying t with
  |none=>simp only[hu]at hr;cases hr
  |some u=>
   simp only[hu]at hr
   cases u<;>try(cases hr;done)
   ·unfold kx at hr
    cases x<;>try(cases hr;done)
    rename_i s
    obtain⟨⟨l⟩⟩:=s
    simp only at hr
    cases ha:ry lo 0 with
    |none=>simp only[ha]at hr;cases hr
    |some a=>
     simp only[ha]at hr
     cases hb:ry hi (kP l)with
     |none=>simp only[hb]at hr;cases hr
     |some b=>
      simp only[hb]at hr
      cases h1:bx a b with
      |false=>simp only[h1]at hr;cases hr
      |true=>
       simp only[h1]at hr
       cases h2:bx b (kP l)with
       |false=>simp only[h2]at hr;cases hr
       |true=>
        simp only[h2]at hr
        have bn:∀{o:Option Value} {d a:Nat},ry o d=some a->er o d=some a:=by
         intro o d a h
         unfold ry at h
         split at h
         ·exact h
         ·cases h
          unfold er
          simp
         ·cases h
        have h2:=fY h2
        rw[rk]at h2 hb
        have e:=adu hu l lo hi (bn ha) (bn hb) (fY h1) h2 k
        exact(congrFun (congrFun e h) n).trans hr
   ·rename_i e
    simp only at hr
    cases hs:size? P e with
    |none=>simp only[hs]at hr;cases hr
    |some sz=>
     simp only[hs]at hr
     unfold yg
     have eE:oX P t=false:=by unfold oX;rw[hu]
     rw[eE]
     simp only
     cases x<;>try(cases hr;done)
     rename_i ad len cap
     cases ad with
     |none=>
      unfold rA at hr
      simp only at hr
      cases h1:vr sz none len cap lo hi with
      |none=>simp only[h1]at hr;cases hr
      |some v=>
       simp only[h1]at hr
       have e1:ve P t (.slice none len cap) lo hi none=M.ret v:=by
        unfold ve
        simp only[isStr]
        unfold oN
        simp only
        rw[<-P7 hu hs,h1]
        rfl
       rw[e1]
       exact Jp hr
     |some ad=>
      obtain⟨b,off,p⟩:=ad
      cases p with
      |some _=>cases hr
      |none=>
       unfold rA at hr
       simp only at hr
       obtain⟨c,h2,n2,L⟩:=r
       rw[pc]at hr
       obtain⟨v,h1,n1,L1,L2,e1,e2,e3⟩:=bind_some hr
       obtain⟨L',e4,e5⟩:=vi e1
       obtain⟨w,h3,n3,L3,L4,e6,e7,e8⟩:=bind_some e4
       have:ve P t (.slice (some ⟨b,off,none⟩) len cap) lo hi none h n=some ⟨v,h1,n1,L'⟩:=by
        unfold ve
        simp only[isStr]
        unfold oN
        simp only
        rw[ym]at e6
        rw[e8]
        refine bZ e6 ?_
        cases hw:bK w e with
        |false=>simp only[hw]at e7;cases e7
        |true=>
         simp only[hw]at e7
         have:=lk hw
         subst this
         simp only[hu,if_true]
         rw[<-P7 hu hs]
         exact e7
       rw[e3,e5]
       exact bZ (kq this) e2
theorem adM{s:Value}(hr:Jm P t s x k h n=some r):((inside (pR P t s x)).bind k) h n=some r:=by
 unfold Jm at hr
 cases hu:P.underlying t with
 |none=>simp only[hu]at hr;cases hr
 |some u=>
  simp only[hu]at hr
  cases u<;>try(cases hr;done)
  rename_i e
  simp only at hr
  cases hs:P.info? e with
  |none=>simp only[hs]at hr;cases hr
  |some ie=>
   simp only[hs]at hr
   cases hz:fK P e with
   |none=>simp only[hz]at hr;cases hr
   |some z=>
    simp only[hz]at hr
    cases h1:(bx ie.bytes 64&&bK (eW (dC z)) ie.size&&bx 1 ie.size)with
    |false=>simp only[h1]at hr;cases hr
    |true=>
     simp only[h1]at hr
     rw[cb,cb]at h1
     obtain⟨⟨h2,h3⟩,h4⟩:=h1
     have h2:=fY h2
     have h3:=lk h3
     have h4:=fY h4
     rw[mh,o4,Hq]at h3
     refine lB ?_ hr
     unfold pR mY
     simp only[hu,hs,hz]
     cases gO x with
     |none=>rfl
     |some m=>
      simp only
      have c1:(decide (z.cells.size=ie.size)&&decide (1<=ie.size)&&decide (ie.bytes<=64))=true:=by simp;omega
      rw[if_pos c1]
      unfold uH Aw nF
      rw[vm,rq,Dr,IJ,ym,mg]
      rfl
theorem adN{d s:Value}(hr:Jn P t d s k h n=some r):((inside (pS P t d s)).bind k) h n=some r:=by
 unfold Jn at hr
 cases hu:P.underlying t with
 |none=>simp only[hu]at hr;cases hr
 |some u=>
  simp only[hu]at hr
  cases u<;>try(cases hr;done)
  rename_i e
  simp only at hr
  cases hs:size? P e with
  |none=>simp only[hs]at hr;cases hr
  |some sz=>
   simp only[hs]at hr
   refine lB ?_ hr
   unfold pS PY
   simp only[hu,hs]
   rw[vm,Dr]
   cases d<;>try rfl
   cases gO s<;>rfl
theorem adO{f:Nat}(hr:Jf P t x f k h n=some r):aS (xO P t x f) k h n=some r:=by
 unfold Jf at hr
 cases hu:P.underlying t with
 |none=>simp only[hu]at hr;cases hr
 |some u=>
  simp only[hu]at hr
  cases u<;>try(cases hr;done)
  rename_i fs
  simp only at hr
  cases hf:fs[f]? with
  |none=>simp only[hf]at hr;cases hr
  |some fd=>
   simp only[hf]at hr
   cases hs:size? P fd.type with
   |none=>simp only[hs]at hr;cases hr
   |some sz=>
    cases sz with
    |zero=>simp only[hs]at hr;cases hr
    |succ sz=>
     simp only[hs]at hr
     unfold aE at hr
     split at hr
     ·refine eP ?_ hr
      unfold xO
      simp only[hu,hf,hs]
      rw[if_neg (by omega)]
      rfl
     ·cases hr
theorem Jt {l:List Value} {K:Nat} {β:Type} {k:Value->M β} {h:H} {n:Nat} {r:Out β} (hr:(match s7 l K with
 |some v=>k v
 |none=>M.fail) h n=some r):aS l[K]? k h n=some r:=by
 rw[Dm]at hr
 cases e:l[K]? with
 |none=>rw[e]at hr;cases hr
 |some v=>rw[e]at hr;exact hr
theorem adP{f:Nat}(hr:Jg P t x f k h n=some r):aS (sA P t x f) k h n=some r:=by
 unfold Jg at hr
 cases hu:P.underlying t with
 |none=>simp only[hu]at hr;cases hr
 |some u=>
  simp only[hu]at hr
  cases u<;>try(cases hr;done)
  rename_i fs
  simp only at hr
  cases hf:fs[f]? with
  |none=>simp only[hf]at hr;cases hr
  |some fd=>
   simp only[hf]at hr
   cases ha:kI P fd.type with
   |none=>simp only[ha]at hr;cases hr
   |some b=>
    cases b with
    |false=>
     simp only[ha]at hr
     unfold IY at hr
     cases x<;>try(cases hr;done)
     rename_i cs
     obtain⟨l⟩:=cs
     have:=Jt hr
     have e:sA P t (.agg ⟨l⟩) f=l[fd.offset]? :=by
      unfold sA partOf
      simp only[hu,hf,ha]
      simp
     rw[e];exact this
    |true=>
     simp only[ha]at hr
     cases hs:size? P fd.type with
     |none=>simp only[hs]at hr;cases hr
     |some m=>
      simp only[hs]at hr
      unfold IZ at hr
      cases x<;>try(cases hr;done)
      rename_i cs
      obtain⟨l⟩:=cs
      refine eP ?_ hr
      unfold sA partOf
      simp only[hu,hf,ha,hs]
      congr 2
      apply Array.ext'
      simp[List.extract_eq_take_drop]
theorem adQ{ix:Value}(hr:Jh P t x ix k h n=some r):aS (qP P t x ix) k h n=some r:=by
 unfold Jh at hr
 cases hu:P.underlying t with
 |none=>simp only[hu]at hr;cases hr
 |some u=>
  simp only[hu]at hr
  have one:∀{sz:Nat} (i:Nat),bK sz 1=true->i*sz=i:=fun i h=>by rw[lk h,xL]
  cases u<;>try(cases hr;done)
  case array m e=>
   simp only at hr
   cases hs:size? P e with
   |none=>simp only[hs]at hr;cases hr
   |some sz=>
    simp only[hs]at hr
    cases h1:bK sz 1 with
    |true=>
     simp only[h1]at hr
     unfold gx at hr
     split at hr
     ·split at hr
      ·rename_i b off _ kd i
       cases hl:bx (eT i) m with
       |false=>simp only[hl]at hr;cases hr
       |true=>
        simp only[hl]at hr
        refine eP ?_ hr
        have:=fY hl
        unfold qP
        simp only[hu,hs]
        rw[if_pos ⟨aa _,Int.ofNat_lt.2 this⟩]
        show some (zO (some ⟨b,off+i*sz,none⟩))=_
        rw[one i h1];rfl
      ·cases hr
     ·cases hr
    |false=>
     simp only[h1]at hr
     unfold DD at hr
     split at hr
     ·split at hr
      ·rename_i b off _ kd i
       cases hl:bx (eT i) m with
       |false=>simp only[hl]at hr;cases hr
       |true=>
        simp only[hl]at hr
        refine eP ?_ hr
        have:=fY hl
        unfold qP
        simp only[hu,hs]
        rw[if_pos ⟨aa _,Int.ofNat_lt.2 this⟩]
        rfl
      ·cases hr
     ·cases hr
  case slice e=>
   simp only at hr
   cases hs:size? P e with
   |none=>simp only[hs]at hr;cases hr
   |some sz=>
    simp only[hs]at hr
    cases h1:bK sz 1 with
    |true=>
     simp only[h1]at hr
     unfold aL at hr
     split at hr
     ·split at hr
      ·rename_i b off m _ _ kd i
       cases hl:bx (eT i) m with
       |false=>simp only[hl]at hr;cases hr
       |true=>
        simp only[hl]at hr
        refine eP ?_ hr
        have:=fY hl
        unfold qP
        simp only[hu,hs]
        rw[if_pos ⟨aa _,Int.ofNat_lt.2 this⟩]
        show some (zO (some ⟨b,off+i*sz,none⟩))=_
        rw[one i h1];rfl
      ·cases hr
     ·cases hr
    |false=>
     simp only[h1]at hr
     unfold qh at hr
     split at hr
     ·split at hr
      ·rename_i b off m _ _ kd i
       cases hl:bx (eT i) m with
       |false=>simp only[hl]at hr;cases hr
       |true=>
        simp only[hl]at hr
        refine eP ?_ hr
        have:=fY hl
        unfold qP
        simp only[hu,hs]
        rw[if_pos ⟨aa _,Int.ofNat_lt.2 this⟩]
        rfl
      ·cases hr
     ·cases hr
theorem adR{ix:Value}(hr:Ji P t x ix k h n=some r):aS (vh P t x ix) k h n=some r:=by
 unfold Ji at hr
 cases hu:P.underlying t with
 |none=>simp only[hu]at hr;cases hr
 |some u=>
  simp only[hu]at hr
  cases u<;>try(cases hr;done)
  case string=>
   unfold pf at hr
   cases x<;>try(cases hr;done)
   rename_i s
   obtain⟨⟨l⟩⟩:=s
   simp only at hr
   split at hr
   ·rename_i kd i
    cases hn:rn l i with
    |none=>simp only[hn]at hr;cases hr
    |some c=>
     simp only[hn]at hr
     obtain⟨h1,h2⟩:=IA _ _ _ hn
     have:=adt (P:=P) hu l kd (i:Int) (by omega) (by omega)
     rw[Int.toNat_natCast,h2]at this
     exact eP this hr
   ·cases hr
  case array m e=>
   simp only at hr
   cases ha:kI P e with
   |none=>simp only[ha]at hr;cases hr
   |some b=>
    cases b with
    |true=>simp only[ha]at hr;cases hr
    |false=>
     simp only[ha]at hr
     cases hs:size? P e with
     |none=>simp only[hs]at hr;cases hr
     |some sz=>
      simp only[hs]at hr
      cases h1:bK sz 1 with
      |false=>simp only[h1]at hr;cases hr
      |true=>
       simp only[h1]at hr
       have:=lk h1
       subst this
       unfold Av at hr
       cases x<;>try(cases hr;done)
       rename_i cs
       obtain⟨l⟩:=cs
       simp only at hr
       split at hr
       ·rename_i kd i
        cases hl:bx (eT i) m with
        |false=>simp only[hl]at hr;cases hr
        |true=>
         simp only[hl]at hr
         have hr:=Jt hr
         have hl:=fY hl
         have eE:oX P t=false:=by unfold oX;rw[hu]
         have e:vh P t (.agg ⟨l⟩) (.int kd (.ofNat i))=l[i]? :=by
          unfold vh
          rw[eE]
          simp only
          unfold CZ
          simp only[isStr]
          unfold xP
          simp only[hu,hs]
          rw[if_pos ⟨aa _,Int.ofNat_lt.2 hl⟩]
          unfold partOf
          simp only[ha,xL]
          simp
         rw[e];exact hr
       ·cases hr
theorem adS{dk:Array TypeId}{vs:List Value}(hr:Jj P dk vs k h n=some r):aS (Aj P dk vs) k h n=some r:=by
 unfold Jj at hr
 cases ht:dk[0]? with
 |none=>simp only[ht]at hr;cases hr
 |some t=>
  simp only[ht]at hr
  split at hr
  ·rename_i x
   cases hu:P.underlying t with
   |none=>simp only[hu]at hr;cases hr
   |some u=>
    simp only[hu]at hr
    cases u<;>try(cases hr;done)
    ·unfold lA at hr
     cases x<;>try(cases hr;done)
     rename_i s
     obtain⟨⟨l⟩⟩:=s
     refine eP (v:= .int .i64 (l.length:Nat)) ?_ (by rw[<-rk];exact hr)
     unfold Aj
     simp only[ht,hu]
     rfl
    ·unfold aN at hr
     cases x<;>try(cases hr;done)
     refine eP ?_ hr
     unfold Aj
     simp only[ht,hu]
     rfl
  ·cases hr
theorem adT{vs:List Value}(hr:Jk vs k h n=some r):aS (min2 vs) k h n=some r:=by
 unfold Jk at hr
 split at hr
 ·rename_i x y
  unfold te at hr
  split at hr
  ·split at hr
   ·rename_i a p _ b q
    refine eP (v:= .int a (if q<p then q else p)) rfl ?_
    rw[sW]at hr
    by_cases e:q<p
    ·rw[if_pos e];simp only[e,decide_true]at hr;exact hr
    ·rw[if_neg e];simp only[e,decide_false]at hr;exact hr
   ·cases hr
  ·cases hr
 ·cases hr
theorem adU{vs:List Value}(hr:Jl vs k h n=some r):aS (max2 vs) k h n=some r:=by
 unfold Jl at hr
 split at hr
 ·rename_i x y
  unfold vq at hr
  split at hr
  ·split at hr
   ·rename_i a p _ b q
    refine eP (v:= .int a (if p<q then q else p)) rfl ?_
    rw[sW]at hr
    by_cases e:p<q
    ·rw[if_pos e];simp only[e,decide_true]at hr;exact hr
    ·rw[if_neg e];simp only[e,decide_false]at hr;exact hr
   ·cases hr
  ·cases hr
 ·cases hr
end
section
variable {α β:Type} {h:H} {n:Nat} {r:Out β}
theorem fP{o:Option α}{k k':α->M β}(hk:∀v,k v h n=some r->k' v h n=some r)(hr:aS o k h n=some r):aS o k' h n=some r:=by
 cases o with
 |none=>cases hr
 |some v=>exact hk v hr
theorem DG{s:Fr}:∀{l:List Operand} {k k':List Value->M β},(∀v,k v h n=some r->k' v h n=some r)->ly s l k h n=some r->ly s l k' h n=some r
 |[],_,_,hk,hr=>hk _ hr
 |_::_,_,_,hk,hr=>fP (fun _ q=>DG (fun _ q=>hk _ q) q) hr
theorem Ju{s:Fr}{x:Option Operand}{k k':Option Value->M β}(hk:∀v,k v h n=some r->k' v h n=some r)(hr:ri s x k h n=some r):ri s x k' h n=some r:=by
 cases x with
 |none=>exact hk _ hr
 |some x=>exact fP (fun _ q=>hk _ q) hr
variable {P:Program} {rec:FuncId->Array Value->M Value}
theorem adV{s:Fr}{c:Call}{vs:List Value}{k:Value->M β}(hr:Jo P rec s c vs k h n=some r):call2 P rec s c vs k h n=some r:=by
 unfold Jo at hr
 unfold call2
 cases hc:c.callee with
 |value f=>
  simp only[hc]at hr⊢
  cases f with
  |func g=>
   simp only at hr
   cases hb:mL P g with
   |false=>simp only[hb]at hr;cases hr
   |true=>
    simp only[hb]at hr
    show fO P rec (.func (.func g) #[] #[]) vs k h n=some r
    unfold fO
    show(match mL P g with
     |true=>(inside (rec g ((#[]:Array Value).toList++vs++(#[]:Array Value).toList).toArray)).bind k
     |false=>M.fail) h n=some r
    rw[hb]
    refine lB ?_ hr
    simp
  |_=>exact hr
 |builtin b=>
  simp only[hc]at hr⊢
  cases b<;>try(cases hr;done)
  case append=>exact fP (fun q hq=>adM hq) hr
  case copy=>exact fP (fun q hq=>adN hq) hr
  case len=>exact adS hr
  case max=>exact adU hr
  case min=>exact adT hr
 |invoke _ _=>
  simp only[hc]at hr
  cases hr
theorem adW{s:Fr}{o:Oper}{k:Value->M β}(hr:kS P rec s o k h n=some r):C0 P rec s o k h n=some r:=by
 obtain⟨dst,op,ty,pos,after,guard⟩:=o
 unfold kS at hr
 unfold C0
 cases op with
 |move x=>exact hr
 |assign x=>exact hr
 |pick c a b=>
  refine fP (fun vc=>fP fun va=>fP fun vb q=> ?_) hr
  unfold IX at q
  split at q
  ·exact eP rfl q
  ·exact eP rfl q
  ·cases q
 |alloc e=>exact adE hr
 |box e x=>exact fP (fun _ q=>adF q) hr
 |build t ps=>exact DG (fun _ q=>adG q) hr
 |buildSlice t len ps=>exact DG (fun _ q=>adJ q) hr
 |load t a=>exact fP (fun _ q=>P3 q) hr
 |store t a x=>exact fP (fun _=>fP fun _ q=>adD q) hr
 |nilCheck x=>
  refine fP (fun v q=> ?_) hr
  unfold aI at q
  split at q
  ·exact eP rfl q
  ·exact eP rfl q
  ·cases q
 |binOp op t x y yt=>exact fP (fun _=>fP fun _ q=>ady q) hr
 |unOp op t x=>exact fP (fun _ q=>adz q) hr
 |convert src d x=>exact fP (fun _ q=>adC q) hr
 |makeFunc fn a b=>exact hr
 |makeSlice t l c=>exact fP (fun _=>fP fun _ q=>adK q) hr
 |slice t x lo hi mx=>exact fP (fun _=>Ju fun _=>Ju fun _=>Ju fun _ q=>adL q) hr
 |fieldAddr t x f=>exact fP (fun _ q=>adO q) hr
 |field t x f=>exact fP (fun _ q=>adP q) hr
 |indexAddr t x ix=>exact fP (fun _=>fP fun _ q=>adQ q) hr
 |index t x ix=>exact fP (fun _=>fP fun _ q=>adR q) hr
 |extract t i=>
  refine fP (fun v q=> ?_) hr
  unfold bm at q
  cases v<;>try(cases q;done)
  rename_i cs
  obtain⟨l⟩:=cs
  have e:sB (.tuple ⟨l⟩) i=l[i]? :=by simp[sB]
  rw[e]
  exact Jt q
 |call c=>exact DG (fun _ q=>adV q) hr
 |_=>cases hr
end
end Go.Proofs.YtdagfcflbphoiaaGreatDoor.Ev
namespace Go.Proofs.YtdagfcflbphoiaaGreatDoor.Ev
open Go
noncomputable section
variable (P:Program) (rec:FuncId->Array Value->M Value)
def fc(ops:Array Oper)(dst:Option Tmp):List Nat->List Nat
 |[]=>[]
 |j::r=>match (ops[j]?).bind (·.dst),dst with
  |some t,some d=>match bK t d with
   |true=>fc ops dst r
   |false=>j::fc ops dst r
  |_,_=>j::fc ops dst r
def vu(j:Nat):List Nat->Bool
 |[]=>false
 |i::r=>match bK i j with
  |true=>true
  |false=>vu j r
def pj{β:Type}(ops:Array Oper):List Oper->Nat->List Nat->Fr->(Fr->M β)->M β
 |[],_,_,s,k=>k s
 |o::r,i,c9,s,k=>match o.guard with
  |none=>kS P rec s o fun v=>pj ops r (i+1) (fc ops o.dst c9) (gu s o.dst v) k
  |some (j,want)=>match vu j c9 with
   |true=>pj ops r (i+1) (i::fc ops o.dst c9) (gu s o.dst undef) k
   |false=>match (ops[j]?).bind (·.dst)with
    |none=> .fail
    |some t=>aS (s.at_ t) fun g=>
     ar g (match want with
      |true=>kS P rec ((t,.bool true)::s) o fun v=>pj ops r (i+1) (fc ops o.dst c9) (gu ((t,.bool true)::s) o.dst v) k
      |false=>pj ops r (i+1) (i::fc ops o.dst c9) (gu ((t,.bool true)::s) o.dst undef) k)
      (match want with
        |true=>pj ops r (i+1) (i::fc ops o.dst c9) (gu ((t,.bool false)::s) o.dst undef) k
        |false=>kS P rec ((t,.bool false)::s) o fun v=>pj ops r (i+1) (fc ops o.dst c9) (gu ((t,.bool false)::s) o.dst v) k)
abbrev Hint:=List Nat×List Nat×List (Nat×List Nat)
def P8:List (Nat×List Nat)->Nat->Option (List Nat)
 |[],_=>none
 |q::r,i=>match bK q.1 i with
  |true=>some q.2
  |false=>P8 r i
def Hint.out(G:Hint)(id:Nat)(s:Fr):Fr:=match P8 G.2.2 id with
 |some l=>s.aB l
 |none=>s
def DH{β:Type}(kd:Nat)(k:Tk->M β):M β:=match kd with
 |0=>k ⟨0,0,[]⟩
 |_=>(aV (M.ret undef)).bind fun x=>k x.2
def jQ{β:Type}(ops:Array Oper):List Oper->Nat->List Nat->Fr->List Tk->(Fr->List Tk->M β)->M β
 |[],_,_,s,acc,k=>k s acc.reverse
 |o::r,i,c9,s,acc,k=>match o.guard with
  |none=>match kind o.op with
   |0=>kS P rec s o fun v=>jQ ops r (i+1) (fc ops o.dst c9) (gu s o.dst v) (⟨0,0,[]⟩::acc) k
   |_=>(aV (kS P rec s o M.ret)).bind fun x=>jQ ops r (i+1) (fc ops o.dst c9) (gu s o.dst x.1) (x.2::acc) k
  |some (j,want)=>match vu j c9 with
   |true=>DH (kind o.op) fun tk=>jQ ops r (i+1) (i::fc ops o.dst c9) (gu s o.dst undef) (tk::acc) k
   |false=>match (ops[j]?).bind (·.dst)with
    |none=> .fail
    |some t=>aS (s.at_ t) fun g=>
     ar g (match want with
      |true=>match kind o.op with
       |0=>kS P rec ((t,.bool true)::s) o fun v=>jQ ops r (i+1) (fc ops o.dst c9) (gu ((t,.bool true)::s) o.dst v) (⟨0,0,[]⟩::acc) k
       |_=>(aV (kS P rec ((t,.bool true)::s) o M.ret)).bind fun x=>jQ ops r (i+1) (fc ops o.dst c9) (gu ((t,.bool true)::s) o.dst x.1) (x.2::acc) k
      |false=>DH (kind o.op) fun tk=>jQ ops r (i+1) (i::fc ops o.dst c9) (gu ((t,.bool true)::s) o.dst undef) (tk::acc) k)
      (match want with
        |true=>DH (kind o.op) fun tk=>jQ ops r (i+1) (i::fc ops o.dst c9) (gu ((t,.bool false)::s) o.dst undef) (tk::acc) k
        |false=>match kind o.op with
         |0=>kS P rec ((t,.bool false)::s) o fun v=>jQ ops r (i+1) (fc ops o.dst c9) (gu ((t,.bool false)::s) o.dst v) (⟨0,0,[]⟩::acc) k
         |_=>(aV (kS P rec ((t,.bool false)::s) o M.ret)).bind fun x=>jQ ops r (i+1) (fc ops o.dst c9) (gu ((t,.bool false)::s) o.dst x.1) (x.2::acc) k)
def DI(dc:List Nat)(ops:Array Oper)(j:Nat)(oj:Oper)(tj:Tk)(k:Nat)(ok:Oper)(tk:Tk):Bool:=
 (dc.getD k 0).testBit j||(!(pT ops oj ok)&&(match fits (kind oj.op) (kind ok.op)with
   |true=>true
   |false=> !(fH tj tk)))
def DJ(dc:List Nat)(ops:Array Oper)(j:Nat)(oj:Oper)(tj:Tk):Nat->List Oper->List Tk->Bool
 |k,ok::r,tk::t=>DI dc ops j oj tj k ok tk&&DJ dc ops j oj tj (k+1) r t
 |_,_,_=>true
def yq(dc:List Nat)(ops:Array Oper):Nat->List Oper->List Tk->Bool
 |j,oj::r,tj::t=>DJ dc ops j oj tj (j+1) r t&&yq dc ops (j+1) r t
 |_,_,_=>true
def iy{β:Type}(b:Bool)(m:M β):M β:=match b with
 |true=>m
 |false=> .fail
def Jv{β:Type}(ops:Array Oper)(draw:Bool)(s:Fr)(k:Fr->M β):M β:=
 match !draw||C5 ops with
 |true=>pj P rec ops ops.toList 0 [] s k
 |false=>match sC ops with
  |true=>jQ P rec ops ops.toList 0 [] s [] fun s1 DK=>iy (yq (lS ops.toList []) ops 0 ops.toList DK) (k s1)
  |false=> .fail
def P9{β:Type}(kb:Fr->(Ex->Fr->M β)->M β)(k:Ex->Fr->M β):Ex->Fr->M β
 | .normal,s1=>kb s1 k
 | .ret,s1=>k .ret s1
 | .exit i,s1=>k (.exit i) s1
def DL{β:Type}(id:Nat)(k:Ex->Fr->M β):Ex->Fr->M β
 | .normal,s1=>k .normal s1
 | .ret,s1=>k .ret s1
 | .exit i,s1=>match bK i id with
   |true=>k .normal s1
   |false=>k (.exit i) s1
def P'{β:Type}(again:Fr->M β)(k:Ex->Fr->M β):Ex->Fr->M β
 | .normal,s1=>again s1
 | .ret,s1=>k .ret s1
 | .exit i,s1=>k (.exit i) s1
def aO{β:Type}(body:Fr->(Ex->Fr->M β)->M β)(keys:List Nat):Nat->Fr->(Ex->Fr->M β)->M β
 |0,_,_=> .fail
 |f+1,s,k=>body s (P' (fun s1=>aO body keys f (s1.aB keys) k) k)
def po{β:Type}(G:Hint)(lf:Nat):Code->Fr->(Ex->Fr->M β)->M β
 | .skip,s,k=>k .normal s
 | .label _,s,k=>k .normal s
 | .region _ ops draw,s,k=>Jv P rec ops draw s fun s1=>k .normal (s1.aB G.1)
 | .seq a b,s,k=>po G lf a s (P9 (fun s1 k1=>po G lf b s1 k1) k)
 | .cond c a b,s,k=>aS (bj s c) fun v=>ar v (po G lf a s k) (po G lf b s k)
 | .block id c,s,k=>po G lf c s (DL id k)
 | .loop c,s,k=>aO (fun s1 k1=>po G lf c s1 k1) s.keys lf s k
 | .exit id,s,k=>k (.exit id) (G.out id s)
 | .ret,s,k=>k .ret (s.aB G.2.1)
 |_,_,_=> .fail
def th:Code->List Bool->Code
 | .seq a b,t::p=>match t with
   |true=>th b p
   |false=>th a p
 | .cond _ a b,t::p=>match t with
   |true=>th b p
   |false=>th a p
 | .block _ c,_::p=>th c p
 | .loop c,_::p=>th c p
 |c,_=>c
def vv{β:Type}(G:Hint)(lf:Nat):Code->List Bool->(Ex->Fr->M β)->Ex->Fr->M β
 | .seq a b,t::p,k=>match t with
   |true=>vv G lf b p k
   |false=>vv G lf a p (P9 (fun s1 k1=>po P rec G lf b s1 k1) k)
 | .cond _ a b,t::p,k=>match t with
   |true=>vv G lf b p k
   |false=>vv G lf a p k
 | .block id c,_::p,k=>vv G lf c p (DL id k)
 |_,_,k=>k
def yr{β:Type}(s:Fr):List ResultVar->(List Value->M β)->M β
 |[],k=>k []
 | .tmp t::r,k=>aS (s.at_ t) fun v=>yr s r fun vs=>k (v::vs)
 | .cell a t::r,k=>aS (s.at_ a) fun a=>DF P t a fun v=>yr s r fun vs=>k (v::vs)
def ak(vs:List Value):M Value:= .ret (match vs with|[v]=>v|_=> .tuple vs.toArray)
def Qa(rs:List ResultVar):Ex->Fr->M Value
 | .normal,s=>yr P s rs ak
 | .ret,s=>yr P s rs ak
 | .exit _,_=> .fail
def DM:Nat->List Value->Fr
 |_,[]=>[]
 |i,v::r=>(i,v)::DM (i+1) r
end
def Jw(P:Program)(f:FuncId):Code:=match P.funcs[f]? with
 |some fn=>match fn.body with
  |some c=>c
  |none=> .skip
 |none=> .skip
def adX(P:Program)(f:FuncId):List ResultVar:=match P.funcs[f]? with
 |some fn=>fn.results.toList
 |none=>[]
noncomputable def aG (P:Program) (gt:Nat->Hint) (lf:Nat) (rec:FuncId->Array Value->M Value) (f:FuncId) (args:Array Value):M Value:=match P.funcs[f]? with
 |some fn=>match fn.body with
  |some c=>match decide (args.size<=fn.ntmps)&&decide (fn.ntmps<1000)with
   |true=>inside (po P rec (gt f) lf c (DM 0 args.toList) (Qa P fn.results.toList))
   |false=> .fail
  |none=> .fail
 |none=> .fail
noncomputable def vw (kn:List FuncId) (P:Program) (gt:Nat->Hint) (lf:Nat):Nat->FuncId->Array Value->M Value
 |0,_,_=> .fail
 |d+1,f,args=>match kn.contains f with
  |true=>match sG f with
   |some k=>sH k args.toList
   |none=>match decide (args.size=0)&&xT P f with
    |true=>(mM P KG).bind fun _=> .ret (.bool true)
    |false=> .fail
  |false=>aG P gt lf (vw kn P gt lf d) f args
noncomputable def au (P:Program) (gt:Nat->Hint) (lf:Nat):Nat->FuncId->Array Value->M Value:=vw KN P gt lf
def mj(nt:Nat):Code->Bool
 | .region _ ops _=>ops.all fun o=>match o.dst with
   |some d=>d<nt&&d<1023
   |none=>true
 | .seq a b=>mj nt a&&mj nt b
 | .cond _ a b=>mj nt a&&mj nt b
 | .block _ c| .loop c=>mj nt c
 |_=>true
def mZ(P:Program):Bool:=P.funcs.all fun fn=>match fn.body with
 |some c=>mj fn.ntmps c
 |none=>true
theorem Sub.nil(s1:S):Sub [] s1:=fun t v h=>by cases h
theorem Jx(d:Nat)(v:Value)(s:Fr)(t:Nat):Fr.at_ ((d,v)::s) t=if d=t then some v else s.at_ t:=by
 show(match bK d t with|true=>some v|false=>s.at_ t)=_
 by_cases e:d=t
 ·subst e
  rw[zM,if_pos rfl]
 ·have:bK d t=false:=Bool.eq_false_iff.2 fun q=>e (lk q)
  rw[this,if_neg e]
theorem Sub.cons{s:Fr}{s1:S}(hs:Sub s s1){d:Nat}{v:Value}(h:s1.get d=v):Sub ((d,v)::s) s1:=fun t u hu=>by
 rw[Jx]at hu
 by_cases e:d=t
 ·rw[if_pos e]at hu;cases hu;rw[<-e];exact h
 ·rw[if_neg e]at hu;exact hs t u hu
theorem Sub.put{s:Fr}{s1:S}(hs:Sub s s1){nt:Nat}{dst:Option Tmp}(hd:∀d,dst=some d->d<nt∧d<1023)(v:Value):∃s2,kK nt s1 dst v=some s2∧Sub (gu s dst v) s2:=by
 cases dst with
 |none=>exact⟨s1,rfl,hs⟩
 |some d=>
  obtain⟨h1,h2⟩:=hd d rfl
  refine⟨s1.put d v,by unfold kK;simp[h1,h2],fun t u hu=> ?_⟩
  rw[S.p5 _ _ _ _ h2]
  have hu:Fr.at_ ((d,v)::s) t=some u:=hu
  rw[Jx]at hu
  by_cases e:d=t
  ·rw[if_pos e]at hu;rw[if_pos e.symm];cases hu;rfl
  ·rw[if_neg e]at hu;rw[if_neg (fun q=>e q.symm)];exact hs t u hu
theorem Jy(s:Fr):∀(G:List Nat) (t:Nat) (v:Value),(s.aB G).at_ t=some v->s.at_ t=some v
 |[],t,v,h=>by cases h
 |g::G,t,v,h=>by
  unfold Fr.aB at h
  split at h
  ·rename_i u hu
   rw[Jx]at h
   by_cases e:g=t
   ·rw[if_pos e]at h;cases h;rw[<-e];exact hu
   ·rw[if_neg e]at h;exact Jy s G t v h
  ·exact Jy s G t v h
theorem Sub.aB{s:Fr}{s1:S}(hs:Sub s s1)(G:List Nat):Sub (s.aB G) s1:=fun t v h=>hs t v (Jy s G t v h)
theorem Sub.out{s:Fr}{s1:S}(hs:Sub s s1)(G:Hint)(id:Nat):Sub (G.out id s) s1:=by
 unfold Hint.out
 split
 ·exact hs.aB _
 ·exact hs
section
variable {P:Program} {kn:List FuncId} {rec:FuncId->Array Value->M Value} (cF:∀f args h n v h1 n1 L,rec f args h n=some ⟨v,h1,n1,L⟩->dY (fun fuel=>cS P kn fuel f args) h n v h1 n1 L)
include cF
theorem Jz{ops:Array Oper}{o:Oper}{s:Fr}{s1:S}{β:Type}{k:Value->M β}{h:H}{n:Nat}{r:Out β}(hw:fJ o (fZ ops s1)=true)(hs:Sub s s1)(hr:kS P rec s o k h n=some r):
 ∃v h1 n1 L1 L2,dY (fun fuel=>inside (fD P (cS P kn fuel) ops o s1)) h n v h1 n1 L1∧k v h1 n1=some ⟨r.val,r.h,r.n,L2⟩∧r.log=L1++L2:=by
 obtain⟨v,h1,n1,L1,L2,e1,e2,e3⟩:=acR cF hs (adW hr)
 refine⟨v,h1,n1,L1,L2,e1.map fun fuel=> ?_,e2,e3⟩
 rw[PG hw]
 rfl
theorem Qb{ops:Array Oper}{o:Oper}{s1:S}{h:H}{n:Nat}(hw:fJ o (fZ ops s1)=false):dY (fun fuel=>inside (fD P (cS P kn fuel) ops o s1)) h n undef h n []:=by
 refine⟨0,fun fuel _=> ?_⟩
 show inside (fD P (cS P kn fuel) ops o s1) h n=_
 unfold fD
 rw[if_neg (by rw[hw];exact Ol)]
 rfl
theorem JA{β:Type}{v:Value}{x y:M β}{h:H}{n:Nat}{r:Out β}(hr:ar v x y h n=some r):(v= .bool true∧x h n=some r)∨(v= .bool false∧y h n=some r):=by
 unfold ar at hr
 split at hr
 ·exact .inl ⟨rfl,hr⟩
 ·exact .inr ⟨rfl,hr⟩
 ·cases hr
theorem Ax {nt:Nat} {ops:Array Oper} {o:Oper} {l:List Oper} {s1 s2:S} {h h1 h2:H} {n n1 n2:Nat} {v:Value} {L1 L2:List En} {y:S×List Tk} (e1:dY (fun fuel=>inside (fD P (cS P kn fuel) ops o s1)) h n v h1 n1 L1)
 (hp:kK nt s1 o.dst v=some s2) (e2:dY (fun fuel=>iR P (cS P kn fuel) nt ops l s2) h1 n1 y h2 n2 L2):dY (fun fuel=>iR P (cS P kn fuel) nt ops (o::l) s1) h n (y.1,⟨n,n1,L1⟩::y.2) h2 n2 (L1++L2):=by
 obtain⟨f0,e1⟩:=e1
 obtain⟨f1,e2⟩:=e2
 refine⟨max f0 f1,fun fuel hf=> ?_⟩
 have g1:=PH (e1 fuel (by omega))
 have g2:=e2 fuel (by omega)
 show iR P (cS P kn fuel) nt ops (o::l) s1 h n=_
 unfold iR
 refine bZ g1 ?_
 simp only[hp,vj,qb]
 have:=bZ (f:=fun y:S×List Tk=>M.ret (y.1,(⟨n,n1,L1⟩:Tk)::y.2)) g2 (h2:=h2) (n2:=n2) (L2:=[]) (b:=(y.1,(⟨n,n1,L1⟩:Tk)::y.2)) rfl
 rw[dr]at this
 exact this
theorem JB{j:Nat}:∀{l:List Nat},vu j l=true->j∈l
 |[],h=>by cases h
 |i::r,h=>by
  unfold vu at h
  cases hb:bK i j with
  |true=>rw[lk hb];simp
  |false=>rw[hb]at h;exact oK _ (JB h)
def Idle(ops:Array Oper)(s1:S)(c9:List Nat):Prop:=∀j∈c9,fZ ops s1 j=none
theorem Idle.put{ops:Array Oper}{s1 s2:S}{nt:Nat}{dst:Option Tmp}{v:Value}:∀{c9:List Nat},Idle ops s1 c9->kK nt s1 dst v=some s2->Idle ops s2 (fc ops dst c9)
 |[],_,_=>fun j hj=>by cases hj
 |i::r,h,hp=>by
  have hr:Idle ops s2 (fc ops dst r):=Idle.put (fun j hj=>h j (oK _ hj)) hp
  have hi:=h i (by simp)
  have get:∀t,dst≠some t->s2.get t=s1.get t:=by
   intro t ht
   cases dst with
   |none=>simp only[kK,ee]at hp;rw[hp]
   |some d=>
    unfold kK at hp
    simp only at hp
    split at hp
    ·rename_i hd
     simp only[cb,decide_eq_true_eq]at hd
     cases hp
     rw[S.p5 _ _ _ _ hd.2,if_neg (fun e=>ht (by rw[e]))]
    ·cases hp
  have aB:(∀t,(ops[i]?).bind (·.dst)=some t->dst≠some t)->Idle ops s2 (i::fc ops dst r):=by
   intro hk j hj
   rcases Ct.1 hj with rfl|hj
   ·unfold fZ at hi⊢
    cases ht:(ops[j]?).bind (·.dst)with
    |none=>rfl
    |some t=>
     rw[ht]at hi
     simp only at hi⊢
     rw[get t (hk t ht)]
     exact hi
   ·exact hr j hj
  unfold fc
  cases ht:(ops[i]?).bind (·.dst)with
  |none=>exact aB fun t h=>by rw[ht]at h;cases h
  |some t=>
   cases dst with
   |none=>exact aB fun t h e=>by cases e
   |some d=>
    simp only
    cases hb:bK t d with
    |true=>exact hr
    |false=>
     refine aB fun t' h=> ?_
     rw[ht]at h
     cases h
     rintro⟨⟩
     rw[zM]at hb
     cases hb
theorem Idle.add{ops:Array Oper}{s1 s2:S}{nt:Nat}{o:Oper}{i:Nat}(hi:ops[i]? =some o){c9:List Nat}(h:Idle ops s2 c9)(hp:kK nt s1 o.dst undef=some s2):Idle ops s2 (i::c9):=by
 intro j hj
 rcases Ct.1 hj with rfl|hj
 ·unfold fZ
  rw[hi]
  simp only[Option.bind_some]
  cases hd:o.dst with
  |none=>rfl
  |some d=>
   rw[hd]at hp
   unfold kK at hp
   simp only at hp
   split at hp
   ·rename_i CP
    simp only[cb,decide_eq_true_eq]at CP
    cases hp
    simp only
    rw[S.p5 _ _ _ _ CP.2,if_pos rfl]
    rfl
   ·cases hp
 ·exact h j hj
theorem adY{β:Type}{nt:Nat}{ops:Array Oper}:∀(l:List Oper) (_:∀o∈l,∀d,o.dst=some d->d<nt∧d<1023) (i:Nat) (_:∀q o,l[q]? =some o->ops[i+q]? =some o) (c9:List Nat) (s:Fr) (s1:S) (_:Idle ops s1 c9) (k:Fr->M β) (h:H) (n:Nat) (r:Out β),Sub s s1->pj P rec ops l i c9 s k h n=some r->
 ∃s' y h1 n1 L1 L2,dY (fun fuel=>iR P (cS P kn fuel) nt ops l s1) h n y h1 n1 L1∧Sub s' y.1∧k s' h1 n1=some ⟨r.val,r.h,r.n,L2⟩∧r.log=L1++L2:=by
 intro l
 induction l with
 |nil=>
  intro _ i _ c9 s s1 _ k h n r hs hr
  exact⟨s,(s1,[]),h,n,[],r.log,dY.of rfl,hs,hr,rfl⟩
 |cons o l ih=>
  intro hd i og c9 s s1 tm k h n r hs hr
  have yu:=hd o (by simp)
  have yv:∀o∈l,∀d,o.dst=some d->d<nt∧d<1023:=fun o' ho=>hd o' (by simp[ho])
  have JC:ops[i]? =some o:=by have:=og 0 o rfl;rwa[mH]at this
  have iT:∀q o',l[q]? =some o'->ops[i+1+q]? =some o':=fun q o' hq=>by
   have:=og (q+1) o' (by simpa using hq)
   rwa[show i+1+q=i+(q+1) by omega]
  have go:∀(s:Fr),Sub s s1->fJ o (fZ ops s1)=true->kS P rec s o (fun v=>pj P rec ops l (i+1) (fc ops o.dst c9) (gu s o.dst v) k) h n=some r->
   ∃s' y h1 n1 L1 L2,dY (fun fuel=>iR P (cS P kn fuel) nt ops (o::l) s1) h n y h1 n1 L1∧Sub s' y.1∧k s' h1 n1=some ⟨r.val,r.h,r.n,L2⟩∧r.log=L1++L2:=by
   intro s hs hw hr
   obtain⟨v,h1,n1,L1,L2,e1,e2,e3⟩:=Jz cF hw hs hr
   obtain⟨s2,hp,eU⟩:=hs.put yu v
   obtain⟨s',y,h3,n3,L3,L4,e4,e5,e6,e7⟩:=ih yv _ iT _ _ s2 (Idle.put cF tm hp) k h1 n1 _ eU e2
   exact⟨s',_,h3,n3,_,L4,Ax cF e1 hp e4,e5,e6,by rw[e3];simp only at e7;rw[e7,cI]⟩
  have idle:∀(s:Fr),Sub s s1->fJ o (fZ ops s1)=false->pj P rec ops l (i+1) (i::fc ops o.dst c9) (gu s o.dst undef) k h n=some r->
   ∃s' y h1 n1 L1 L2,dY (fun fuel=>iR P (cS P kn fuel) nt ops (o::l) s1) h n y h1 n1 L1∧Sub s' y.1∧k s' h1 n1=some ⟨r.val,r.h,r.n,L2⟩∧r.log=L1++L2:=by
   intro s hs hw hr
   obtain⟨s2,hp,eU⟩:=hs.put yu undef
   obtain⟨s',y,h3,n3,L3,L4,e4,e5,e6,e7⟩:=ih yv _ iT _ _ s2 (Idle.add cF JC (Idle.put cF tm hp) hp) k h n _ eU hr
   exact⟨s',_,h3,n3,_,L4,Ax cF (Qb cF hw) hp e4,e5,e6,e7⟩
  unfold pj at hr
  cases hg:o.guard with
  |none=>
   rw[hg]at hr
   exact go s hs (by unfold fJ;rw[hg]) hr
  |some jw=>
   obtain⟨j,want⟩:=jw
   rw[hg]at hr
   simp only at hr
   cases hI:vu j c9 with
   |true=>
    rw[hI]at hr
    refine idle s hs ?_ hr
    unfold fJ
    rw[hg]
    simp only
    rw[tm j (JB cF hI)]
    rfl
   |false=>
   rw[hI]at hr
   simp only at hr
   cases ht:(ops[j]?).bind (·.dst)with
   |none=>rw[ht]at hr;cases hr
   |some t=>
    rw[ht]at hr
    simp only at hr
    obtain⟨g,rC,hr⟩:=cL hr
    have kQ:=hs t g rC
    have hy:∀b,g= .bool b->fZ ops s1 j=some b:=fun b hb=>by
     unfold fZ
     rw[ht]
     simp only[kQ,hb]
    rcases JA cF hr with ⟨hb,hr⟩|⟨hb,hr⟩
    ·have dK:Sub ((t,.bool true)::s) s1:=hs.cons (by rw[kQ,hb])
     cases want with
     |true=>exact go _ dK (by unfold fJ;rw[hg];simp only;rw[hy _ hb];rfl) hr
     |false=>exact idle _ dK (by unfold fJ;rw[hg];simp only;rw[hy _ hb];rfl) hr
    ·have dK:Sub ((t,.bool false)::s) s1:=hs.cons (by rw[kQ,hb])
     cases want with
     |true=>exact idle _ dK (by unfold fJ;rw[hg];simp only;rw[hy _ hb];rfl) hr
     |false=>exact go _ dK (by unfold fJ;rw[hg];simp only;rw[hy _ hb];rfl) hr
end
theorem DN{α:Type}{a c:α}{h h2:H}{n n2:Nat}{L:List En}(hr:(M.ret a) h n=some ⟨c,h2,n2,L⟩):c=a∧h2=h∧n2=n∧L=[]:=by
 simp only[M.ret,ee,Out.mk.injEq]at hr
 exact⟨hr.1.symm,hr.2.1.symm,hr.2.2.1.symm,hr.2.2.2.symm⟩
def Match:List Oper->List Tk->List Tk->Prop
 |[],[],[]=>True
 |o::l,t'::iz,t::ts=>(kind o.op=0∨t'=t)∧Match l iz ts
 |_,_,_=>False
theorem Match.get:∀{l:List Oper} {iz ts:List Tk},Match l iz ts->∀(i:Nat) (o:Oper) (t:Tk),l[i]? =some o->ts[i]? =some t->∃t',iz[i]? =some t'∧(kind o.op=0∨t'=t)
 |[],[],[],_,i,o,t,h,_=>by simp at h
 |o::l,t'::iz,t::ts,h,0,o',u,h1,h2=>by
  simp at h1 h2;subst h1 h2
  exact⟨t',rfl,h.1⟩
 |o::l,t'::iz,t::ts,h,i+1,o',u,h1,h2=>by
  simpa using Match.get h.2 i o' u (by simpa using h1) (by simpa using h2)
theorem adZ{ops:Array Oper}{dc:List Nat}{j:Nat}{oj:Oper}{tj:Tk}:∀(l:List Oper) (ts:List Tk) (k:Nat),DJ dc ops j oj tj k l ts=true->∀i o t,l[i]? =some o->ts[i]? =some t->DI dc ops j oj tj (k+i) o t=true:=by
 intro l
 induction l with
 |nil=>intro ts k _ i o t h;simp at h
 |cons o l ih=>
  intro ts k h i o' t' hi ht
  cases ts with
  |nil=>simp at ht
  |cons t ts=>
   unfold DJ at h
   simp only[cb]at h
   cases i with
   |zero=>simp at hi ht;subst hi ht;exact h.1
   |succ i=>
    rw[show k+(i+1)=k+1+i by omega]
    exact ih ts (k+1) h.2 i o' t' (by simpa using hi) (by simpa using ht)
theorem ad0{ops:Array Oper}{dc:List Nat}:∀(l:List Oper) (ts:List Tk) (j:Nat),yq dc ops j l ts=true->∀p q op oq tp tq,p<q->l[p]? =some op->l[q]? =some oq->ts[p]? =some tp->ts[q]? =some tq->DI dc ops (j+p) op tp (j+q) oq tq=true:=by
 intro l
 induction l with
 |nil=>intro ts j _ p q op oq tp tq _ h;simp at h
 |cons o l ih=>
  intro ts j h p q op oq tp tq oQ h1 h2 h3 h4
  cases ts with
  |nil=>simp at h3
  |cons t ts=>
   unfold yq at h
   simp only[cb]at h
   cases q with
   |zero=>omega
   |succ q=>
    cases p with
    |zero=>
     simp at h1 h3;subst h1 h3
     have:=adZ l ts (j+1) h.1 q oq tq (by simpa using h2) (by simpa using h4)
     rw[show j+(q+1)=j+1+q by omega,mH]
     exact this
    |succ p=>
     have:=ih ts (j+1) h.2 p q op oq tp tq (by omega) (by simpa using h1) (by simpa using h2) (by simpa using h3) (by simpa using h4)
     rw[show j+(q+1)=j+1+q by omega,show j+(p+1)=j+1+p by omega]
     exact this
theorem ad1{i j:Nat}(h:fits i j=false):i≠0∧j≠0:=by
 unfold fits at h
 simp only[xJ,beq_eq_false_iff_ne]at h
 exact⟨h.1.1.1.1,h.1.1.1.2⟩
theorem ad2{ops:Array Oper}{iz ts:List Tk}{n m:Nat}(x:oY n ops.toList ts m)(hm:Match ops.toList iz ts)(h:yq (lS ops.toList []) ops 0 ops.toList iz=true):pU ops (lS ops.toList []) (tagged 0 ts)=true:=by
 refine PI ops.toList ts n m 0 x (PJ ops) fun p q op oq tp tq oQ h1 h2 h3 h4=> ?_
 obtain⟨tp',g1,g2⟩:=hm.get p op tp h1 h3
 obtain⟨tq',g3,g4⟩:=hm.get q oq tq h2 h4
 have:=ad0 _ _ 0 h p q op oq tp' tq' oQ h1 h2 g1 g3
 unfold DI at this
 simp only[xI,cb,Om]at this
 rcases this with g|⟨gs,g⟩
 ·exact .inl g
 ·refine .inr ⟨?_,gs⟩
  cases hf:fits (kind op.op) (kind oq.op)with
  |true=>exact .inl rfl
  |false=>
   rw[hf]at g
   obtain⟨z1,z2⟩:=ad1 hf
   rcases g2 with g2|g2
   ·exact absurd g2 z1
   ·rcases g4 with g4|g4
    ·exact absurd g4 z2
    ·subst g2 g4
     exact .inr (by rw[<-Aq];simpa using g)
section
variable {P:Program} {kn:List FuncId} {rec:FuncId->Array Value->M Value} (cF:∀f args h n v h1 n1 L,rec f args h n=some ⟨v,h1,n1,L⟩->dY (fun fuel=>cS P kn fuel f args) h n v h1 n1 L)
include cF
theorem ad3{β:Type}{nt:Nat}{ops:Array Oper}:∀(l:List Oper) (_:∀o∈l,∀d,o.dst=some d->d<nt∧d<1023) (i:Nat) (_:∀q o,l[q]? =some o->ops[i+q]? =some o) (c9:List Nat) (s:Fr) (s1:S) (_:Idle ops s1 c9) (acc:List Tk) (k:Fr->List Tk->M β) (h:H) (n:Nat) (r:Out β),Sub s s1->jQ P rec ops l i c9 s acc k h n=some r->
 ∃s' y ts h1 n1 L1 L2,dY (fun fuel=>iR P (cS P kn fuel) nt ops l s1) h n y h1 n1 L1∧Sub s' y.1∧k s' (acc.reverse++ts) h1 n1=some ⟨r.val,r.h,r.n,L2⟩∧r.log=L1++L2∧Match l ts y.2:=by
 intro l
 induction l with
 |nil=>
  intro _ i _ c9 s s1 _ acc k h n r hs hr
  exact⟨s,(s1,[]),[],h,n,[],r.log,dY.of rfl,hs,by rw[dr];exact hr,rfl,trivial⟩
 |cons o l ih=>
  intro hd i og c9 s s1 tm acc k h n r hs hr
  have yu:=hd o (by simp)
  have yv:∀o∈l,∀d,o.dst=some d->d<nt∧d<1023:=fun o' ho=>hd o' (by simp[ho])
  have JC:ops[i]? =some o:=by have:=og 0 o rfl;rwa[mH]at this
  have iT:∀q o',l[q]? =some o'->ops[i+1+q]? =some o':=fun q o' hq=>by
   have:=og (q+1) o' (by simpa using hq)
   rwa[show i+1+q=i+(q+1) by omega]
  have go:∀(s:Fr),Sub s s1->fJ o (fZ ops s1)=true->
   (match kind o.op with
     |0=>kS P rec s o fun v=>jQ P rec ops l (i+1) (fc ops o.dst c9) (gu s o.dst v) (⟨0,0,[]⟩::acc) k
     |_=>(aV (kS P rec s o M.ret)).bind fun x=>jQ P rec ops l (i+1) (fc ops o.dst c9) (gu s o.dst x.1) (x.2::acc) k) h n=some r->
   ∃s' y ts h1 n1 L1 L2,dY (fun fuel=>iR P (cS P kn fuel) nt ops (o::l) s1) h n y h1 n1 L1∧Sub s' y.1∧k s' (acc.reverse++ts) h1 n1=some ⟨r.val,r.h,r.n,L2⟩∧r.log=L1++L2∧Match (o::l) ts y.2:=by
   intro s hs hw hr
   by_cases hk:kind o.op=0
   ·simp only[hk]at hr
    obtain⟨v,h1,n1,L1,L2,e1,e2,e3⟩:=Jz cF hw hs hr
    obtain⟨s2,hp,eU⟩:=hs.put yu v
    obtain⟨s',y,ts,h3,n3,L3,L4,e4,e5,e6,e7,e8⟩:=ih yv _ iT _ _ s2 (Idle.put cF tm hp) _ k h1 n1 _ eU e2
    refine⟨s',_,(⟨0,0,[]⟩:Tk)::ts,h3,n3,_,L4,Ax cF e1 hp e4,e5, ?_,by rw[e3];simp only at e7;rw[e7,cI], ?_⟩
    ·rw[aa5,cI]at e6
     exact e6
    ·exact⟨.inl hk,e8⟩
   ·have hr:((aV (kS P rec s o M.ret)).bind fun x=>jQ P rec ops l (i+1) (fc ops o.dst c9) (gu s o.dst x.1) (x.2::acc) k) h n=some r:=by
     revert hr
     generalize kind o.op=kk at hk
     intro hr
     match kk,hk with
     |kk+1,_=>exact hr
    obtain⟨c,hc,nc,Lc⟩:=r
    obtain⟨x,h1,n1,L1,L2,e1,e2,e3⟩:=bind_some hr
    obtain⟨g1,g2⟩:=Ix e1
    obtain⟨v,eg,qS,L1',L2',q1,q2,q3⟩:=Jz cF hw hs g1
    obtain⟨rfl,rfl,rfl,rfl⟩:=DN q2
    simp only[dr]at q3
    subst q3
    obtain⟨s2,hp,eU⟩:=hs.put yu x.1
    obtain⟨s',y,ts,h3,n3,L3,L4,e4,e5,e6,e7,e8⟩:=ih yv _ iT _ _ s2 (Idle.put cF tm hp) _ k _ _ _ eU e2
    refine⟨s',_,x.2::ts,h3,n3,_,L4,Ax cF q1 hp e4,e5, ?_,by rw[e3];simp only at e7;rw[e7,cI], ?_⟩
    ·rw[aa5,cI]at e6
     exact e6
    ·exact⟨.inr g2,e8⟩
  have idle:∀(s:Fr),Sub s s1->fJ o (fZ ops s1)=false->(DH (kind o.op) fun tk=>jQ P rec ops l (i+1) (i::fc ops o.dst c9) (gu s o.dst undef) (tk::acc) k) h n=some r->
   ∃s' y ts h1 n1 L1 L2,dY (fun fuel=>iR P (cS P kn fuel) nt ops (o::l) s1) h n y h1 n1 L1∧Sub s' y.1∧k s' (acc.reverse++ts) h1 n1=some ⟨r.val,r.h,r.n,L2⟩∧r.log=L1++L2∧Match (o::l) ts y.2:=by
   intro s hs hw hr
   obtain⟨c,hc,nc,Lc⟩:=r
   have hr:∃tk,(kind o.op=0∨tk=⟨n,n,[]⟩)∧jQ P rec ops l (i+1) (i::fc ops o.dst c9) (gu s o.dst undef) (tk::acc) k h n=some ⟨c,hc,nc,Lc⟩:=by
    revert hr
    generalize kind o.op=kk
    intro hr
    match kk,hr with
    |0,hr=>exact⟨_,.inl rfl,hr⟩
    |kk+1,hr=>
     have hr:((aV (M.ret undef)).bind fun x=>jQ P rec ops l (i+1) (i::fc ops o.dst c9) (gu s o.dst undef) (x.2::acc) k) h n=some ⟨c,hc,nc,Lc⟩:=hr
     obtain⟨x,h1,n1,L1,L2,e1,e2,e3⟩:=bind_some hr
     obtain⟨g1,g2⟩:=Ix e1
     obtain⟨-,rfl,rfl,rfl⟩:=DN g1
     refine⟨x.2,.inr g2, ?_⟩
     simp only[uD]at e3
     rw[e3]
     exact e2
   obtain⟨tk,htk,hr⟩:=hr
   obtain⟨s2,hp,eU⟩:=hs.put yu undef
   obtain⟨s',y,ts,h3,n3,L3,L4,e4,e5,e6,e7,e8⟩:=ih yv _ iT _ _ s2 (Idle.add cF JC (Idle.put cF tm hp) hp) _ k _ _ _ eU hr
   refine⟨s',_,tk::ts,h3,n3,_,L4,Ax cF (Qb cF hw) hp e4,e5, ?_,by simp only at e7;rw[e7];simp, ?_⟩
   ·rw[aa5,cI]at e6
    exact e6
   ·exact⟨htk,e8⟩
  unfold jQ at hr
  cases hg:o.guard with
  |none=>
   rw[hg]at hr
   exact go s hs (by unfold fJ;rw[hg]) hr
  |some jw=>
   obtain⟨j,want⟩:=jw
   rw[hg]at hr
   simp only at hr
   cases hI:vu j c9 with
   |true=>
    rw[hI]at hr
    refine idle s hs ?_ hr
    unfold fJ
    rw[hg]
    simp only
    rw[tm j (JB cF hI)]
    rfl
   |false=>
   rw[hI]at hr
   simp only at hr
   cases ht:(ops[j]?).bind (·.dst)with
   |none=>rw[ht]at hr;cases hr
   |some t=>
    rw[ht]at hr
    simp only at hr
    obtain⟨g,rC,hr⟩:=cL hr
    have kQ:=hs t g rC
    have hy:∀b,g= .bool b->fZ ops s1 j=some b:=fun b hb=>by
     unfold fZ
     rw[ht]
     simp only[kQ,hb]
    rcases JA cF hr with ⟨hb,hr⟩|⟨hb,hr⟩
    ·have dK:Sub ((t,.bool true)::s) s1:=hs.cons (by rw[kQ,hb])
     cases want with
     |true=>exact go _ dK (by unfold fJ;rw[hg];simp only;rw[hy _ hb];rfl) hr
     |false=>exact idle _ dK (by unfold fJ;rw[hg];simp only;rw[hy _ hb];rfl) hr
    ·have dK:Sub ((t,.bool false)::s) s1:=hs.cons (by rw[kQ,hb])
     cases want with
     |true=>exact idle _ dK (by unfold fJ;rw[hg];simp only;rw[hy _ hb];rfl) hr
     |false=>exact go _ dK (by unfold fJ;rw[hg];simp only;rw[hy _ hb];rfl) hr
theorem ad4{β:Type}{nt:Nat}{ops:Array Oper}{draw:Bool}(hd:∀o∈ops.toList,∀d,o.dst=some d->d<nt∧d<1023){s:Fr}{s1:S}{k:Fr->M β}{h:H}{n:Nat}{r:Out β}(hs:Sub s s1)(hr:Jv P rec ops draw s k h n=some r):
 ∃s' s2 h1 n1 L1 L2,dY (fun fuel=>pV P (cS P kn fuel) nt ops draw s1) h n s2 h1 n1 L1∧Sub s' s2∧k s' h1 n1=some ⟨r.val,r.h,r.n,L2⟩∧r.log=L1++L2:=by
 have fin:∀{y:S×List Tk} {h1:H} {n1:Nat} {L1:List En},dY (fun fuel=>iR P (cS P kn fuel) nt ops ops.toList s1) h n y h1 n1 L1->(oY n ops.toList y.2 n1->(!draw||(sC ops&&pU ops (lS ops.toList []) (tagged 0 y.2)))=true)->dY (fun fuel=>pV P (cS P kn fuel) nt ops draw s1) h n y.1 h1 n1 L1:=by
  intro y h1 n1 L1 e1 hc
  have hc:=hc (by
   obtain⟨f0,e⟩:=e1
   exact acX (fun f a=>Loc.cS P kn f0 f a) _ _ _ _ _ _ _ _ (e f0 (av _)))
  obtain⟨f0,e⟩:=e1
  refine⟨f0,fun fuel hf=> ?_⟩
  show pV P (cS P kn fuel) nt ops draw s1 h n=_
  unfold pV
  have:=bZ (f:=fun y:S×List Tk=>if(!draw||(sC ops&&pU ops (lS ops.toList []) (tagged 0 y.2)))=true then M.ret y.1 else .fail) (e fuel hf) (L2:=[]) (b:=y.1) (h2:=h1) (n2:=n1) (by rw[if_pos hc];rfl)
  rw[dr]at this
  exact this
 unfold Jv at hr
 cases eE:(!draw||C5 ops)with
 |true=>
  simp only[eE]at hr
  obtain⟨s',y,h1,n1,L1,L2,e1,e2,e3,e4⟩:=adY cF ops.toList hd 0 (fun q o hq=>by rw[iO,<-al_];exact hq) [] s s1 (fun j hj=>by cases hj) k h n r hs hr
  refine⟨s',y.1,h1,n1,L1,L2,fin e1 fun x=> ?_,e2,e3,e4⟩
  simp only[xI,Om]at eE
  rcases eE with g|g
  ·rw[g];rfl
  ·obtain⟨g1,g2⟩:=ac1 x g
   rw[g1,g2];simp
 |false=>
  simp only[eE]at hr
  cases he:sC ops with
  |false=>simp only[he]at hr;cases hr
  |true=>
   simp only[he]at hr
   obtain⟨s',y,ts,h1,n1,L1,L2,e1,e2,e3,e4,e5⟩:=ad3 cF ops.toList hd 0 (fun q o hq=>by rw[iO,<-al_];exact hq) [] s s1 (fun j hj=>by cases hj) [] _ h n r hs hr
   simp only[List.reverse_nil,uD]at e3
   cases hc:yq (lS ops.toList []) ops 0 ops.toList ts with
   |false=>rw[hc]at e3;cases e3
   |true=>
    rw[hc]at e3
    exact⟨s',y.1,h1,n1,L1,L2,fin e1 fun x=>by rw[he,ad2 x e5 hc];simp,e2,e3,e4⟩
def ad5(kn:List FuncId)(P:Program)(nt:Nat)(c:Code)(s1:S)(h:H)(n:Nat)(x:Ex×S)(h1:H)(n1:Nat)(L:List En):Prop:=∃f0,∀fr,f0<=fr->∀f,f0<=f->dP P (cS P kn fr) nt f c s1 h n=some ⟨x,h1,n1,L⟩
def JD(kn:List FuncId)(P:Program)(nt:Nat)(c:Code)(s1:S){β:Type}(k:Ex->Fr->M β)(h:H)(n:Nat)(r:Out β):Prop:=
 ∃e s' s2 h1 n1 L1 L2,ad5 kn P nt c s1 h n (e,s2) h1 n1 L1∧Sub s' s2∧k e s' h1 n1=some ⟨r.val,r.h,r.n,L2⟩∧r.log=L1++L2
theorem ad6{β:Type}{nt:Nat}{G:Hint}{lf:Nat}:∀(c:Code) (_:mj nt c=true) (s:Fr) (s1:S) (k:Ex->Fr->M β) (h:H) (n:Nat) (r:Out β),Sub s s1->po P rec G lf c s k h n=some r->JD kn P nt c s1 k h n r:=by
 intro c
 induction c with
 |skip=>intro _ s s1 k h n r hs hr;exact⟨.normal,s,s1,h,n,[],r.log,⟨1,fun fr _ f hf=>by match f,hf with|f+1,_=>rfl⟩,hs,hr,rfl⟩
 |label l=>intro _ s s1 k h n r hs hr;exact⟨.normal,s,s1,h,n,[],r.log,⟨1,fun fr _ f hf=>by match f,hf with|f+1,_=>rfl⟩,hs,hr,rfl⟩
 |region id ops draw=>
  intro hd s s1 k h n r hs hr
  unfold mj at hd
  rw[uB]at hd
  obtain⟨s',s2,h1,n1,L1,L2,⟨f0,e1⟩,e2,e3,e4⟩:=ad4 cF (fun o ho d hod=>by
   have:=hd o (by simpa using ho)
   rw[hod]at this
   simpa using this) hs hr
  refine⟨.normal,s'.aB G.1,s2,h1,n1,L1,L2,⟨f0+1,fun fr fF f hf=> ?_⟩,e2.aB G.1,e3,e4⟩
  match f,hf with
  |f+1,_=>
   unfold dP
   have:=bZ (f:=fun s1=>M.ret (Ex.normal,s1)) (e1 fr (by omega)) (L2:=[]) (h2:=h1) (n2:=n1) (b:=(Ex.normal,s2)) rfl
   rw[dr]at this
   exact this
 |seq a b JE JF=>
  intro hd s s1 k h n r hs hr
  unfold mj at hd
  simp only[cb]at hd
  obtain⟨e,s',s2,h1,n1,L1,L2,⟨f0,d1⟩,d2,d3,d4⟩:=JE hd.1 s s1 _ h n r hs hr
  cases e with
  |normal=>
   obtain⟨e,s3,s4,h3,n3,L3,L4,⟨f1,q1⟩,q2,q3,q4⟩:=JF hd.2 s' s2 k h1 n1 _ d2 d3
   refine⟨e,s3,s4,h3,n3,L1++L3,L4,⟨max f0 f1+1,fun fr fF f hf=> ?_⟩,q2,q3,by rw[d4];simp only at q4;rw[q4,cI]⟩
   match f,hf with
   |f+1,_=>
    unfold dP
    exact bZ (d1 fr (by omega) f (by omega)) (q1 fr (by omega) f (by omega))
  |ret=>
   refine⟨.ret,s',s2,h1,n1,L1,L2,⟨f0+1,fun fr fF f hf=> ?_⟩,d2,d3,d4⟩
   match f,hf with
   |f+1,_=>
    unfold dP
    rw[<-dr L1]
    exact bZ (d1 fr (by omega) f (by omega)) rfl
  |exit i=>
   refine⟨.exit i,s',s2,h1,n1,L1,L2,⟨f0+1,fun fr fF f hf=> ?_⟩,d2,d3,d4⟩
   match f,hf with
   |f+1,_=>
    unfold dP
    rw[<-dr L1]
    exact bZ (d1 fr (by omega) f (by omega)) rfl
 |cond c a b JE JF=>
  intro hd s s1 k h n r hs hr
  unfold mj at hd
  simp only[cb]at hd
  obtain⟨v,hv,hr⟩:=cL hr
  have hc:=hs.bj hv
  rcases JA cF hr with ⟨rfl,hr⟩|⟨rfl,hr⟩
  ·obtain⟨e,s',s2,h1,n1,L1,L2,⟨f0,d1⟩,d2,d3,d4⟩:=JE hd.1 s s1 k h n r hs hr
   refine⟨e,s',s2,h1,n1,L1,L2,⟨f0+1,fun fr fF f hf=> ?_⟩,d2,d3,d4⟩
   match f,hf with
   |f+1,_=>
    unfold dP
    simp only[hc,if_true]
    exact d1 fr (by omega) f (by omega)
  ·obtain⟨e,s',s2,h1,n1,L1,L2,⟨f0,d1⟩,d2,d3,d4⟩:=JF hd.2 s s1 k h n r hs hr
   refine⟨e,s',s2,h1,n1,L1,L2,⟨f0+1,fun fr fF f hf=> ?_⟩,d2,d3,d4⟩
   match f,hf with
   |f+1,_=>
    unfold dP
    simp only[hc,Bool.false_eq_true,if_false]
    exact d1 fr (by omega) f (by omega)
 |block id c ih=>
  intro hd s s1 k h n r hs hr
  unfold mj at hd
  obtain⟨e,s',s2,h1,n1,L1,L2,⟨f0,d1⟩,d2,d3,d4⟩:=ih hd s s1 _ h n r hs hr
  have fin:∀e':Ex,(∀fr,f0<=fr->∀f,f0<=f->dP P (cS P kn fr) nt (f+1) (.block id c) s1 h n=some ⟨(e',s2),h1,n1,L1⟩)->k e' s' h1 n1=some ⟨r.val,r.h,r.n,L2⟩->JD kn P nt (.block id c) s1 k h n r:=by
   intro e' jK hk
   refine⟨e',s',s2,h1,n1,L1,L2,⟨f0+1,fun fr fF f hf=> ?_⟩,d2,hk,d4⟩
   match f,hf with
   |f+1,_=>exact jK fr (by omega) f (by omega)
  cases e with
  |normal=>exact fin .normal (fun fr fF f hf=>by unfold dP;rw[<-dr L1];exact bZ (d1 fr fF f hf) rfl) d3
  |ret=>exact fin .ret (fun fr fF f hf=>by unfold dP;rw[<-dr L1];exact bZ (d1 fr fF f hf) rfl) d3
  |exit i=>
   cases hi:bK i id with
   |true=>
    have vx:i=id:=lk hi
    simp only[DL,hi]at d3
    exact fin .normal (fun fr fF f hf=>by unfold dP;rw[<-dr L1];exact bZ (d1 fr fF f hf) (by simp only[if_pos vx];rfl)) d3
   |false=>
    have vx:¬i=id:=by rintro rfl;rw[zM]at hi;cases hi
    simp only[DL,hi]at d3
    exact fin (.exit i) (fun fr fF f hf=>by unfold dP;rw[<-dr L1];exact bZ (d1 fr fF f hf) (by simp only[if_neg vx];rfl)) d3
 |loop c ih=>
  intro hd s s1 k h n r hs hr
  have lx:mj nt c=true:=by unfold mj at hd;exact hd
  have key:∀(DO:Nat) (keys:List Nat) (s:Fr) (s1:S) (h:H) (n:Nat) (r:Out β),Sub s s1->aO (fun s1 k1=>po P rec G lf c s1 k1) keys DO s k h n=some r->JD kn P nt (.loop c) s1 k h n r:=by
   intro DO
   induction DO with
   |zero=>intro keys s s1 h n r _ hr;cases hr
   |succ DO An=>
    intro keys s s1 h n r hs hr
    unfold aO at hr
    obtain⟨e,s',s2,h1,n1,L1,L2,⟨f0,d1⟩,d2,d3,d4⟩:=ih lx s s1 _ h n r hs hr
    cases e with
    |normal=>
     obtain⟨e,s3,s4,h3,n3,L3,L4,⟨f1,q1⟩,q2,q3,q4⟩:=An keys _ s2 h1 n1 _ (d2.aB keys) d3
     refine⟨e,s3,s4,h3,n3,L1++L3,L4,⟨max f0 f1+1,fun fr fF f hf=> ?_⟩,q2,q3,by rw[d4];simp only at q4;rw[q4,cI]⟩
     match f,hf with
     |f+1,_=>
      unfold dP
      exact bZ (d1 fr (by omega) f (by omega)) (q1 fr (by omega) f (by omega))
    |ret=>
     refine⟨.ret,s',s2,h1,n1,L1,L2,⟨f0+1,fun fr fF f hf=> ?_⟩,d2,d3,d4⟩
     match f,hf with
     |f+1,_=>
      unfold dP
      rw[<-dr L1]
      exact bZ (d1 fr (by omega) f (by omega)) rfl
    |exit i=>
     refine⟨.exit i,s',s2,h1,n1,L1,L2,⟨f0+1,fun fr fF f hf=> ?_⟩,d2,d3,d4⟩
     match f,hf with
     |f+1,_=>
      unfold dP
      rw[<-dr L1]
      exact bZ (d1 fr (by omega) f (by omega)) rfl
  exact key lf s.keys s s1 h n r hs hr
 |exit id=>intro _ s s1 k h n r hs hr;exact⟨.exit id,_,s1,h,n,[],r.log,⟨1,fun fr _ f hf=>by match f,hf with|f+1,_=>rfl⟩,hs.out G id,hr,rfl⟩
 |ret=>intro _ s s1 k h n r hs hr;exact⟨.ret,_,s1,h,n,[],r.log,⟨1,fun fr _ f hf=>by match f,hf with|f+1,_=>rfl⟩,hs.aB _,hr,rfl⟩
 |rangeFunc _ _ _ _=>intro _ s s1 k h n r hs hr;cases hr
 |scope _=>intro _ s s1 k h n r hs hr;cases hr
 |goto _=>intro _ s s1 k h n r hs hr;cases hr
 |refuse _=>intro _ s s1 k h n r hs hr;cases hr
end
theorem ad7{P:Program}{s:Fr}{s1:S}(hs:Sub s s1):∀(l:List ResultVar) (k:List Value->M Value) (h:H) (n:Nat) (r:Out Value),yr P s l k h n=some r->∃vs h1 n1 L1 L2,jg P s1 l h n=some ⟨vs,h1,n1,L1⟩∧k vs h1 n1=some ⟨r.val,r.h,r.n,L2⟩∧r.log=L1++L2:=by
 intro l
 induction l with
 |nil=>intro k h n r hr;exact⟨[],h,n,[],r.log,rfl,hr,rfl⟩
 |cons x l ih=>
  intro k h n r hr
  cases x with
  |tmp t=>
   obtain⟨v,hv,hr⟩:=cL hr
   obtain⟨vs,h1,n1,L1,L2,e1,e2,e3⟩:=ih _ h n r hr
   refine⟨v::vs,h1,n1,L1,L2, ?_,e2,e3⟩
   unfold jg
   rw[hs t v hv,<-dr L1]
   exact bZ e1 rfl
  |cell a t=>
   obtain⟨v,hv,hr⟩:=cL hr
   obtain⟨c,hc,nc,Lc⟩:=r
   obtain⟨u,h1,n1,L1,L2,e1,e2,e3⟩:=bind_some (P3 hr)
   obtain⟨L',e7,e8⟩:=vi e1
   obtain⟨rfl,_⟩:=Q1.load P t v _ _ _ _ _ _ e7
   rw[List.filter_eq_self.2 (fun x _=>by simp;omega)]at e8
   subst e8
   have e1:=e7
   obtain⟨vs,h3,n3,L3,L4,e4,e5,e6⟩:=ih _ h1 n1 _ e2
   refine⟨u::vs,h3,n3,L1++L3,L4, ?_,e5,by rw[e3];simp only at e6;rw[e6,cI]⟩
   unfold jg
   rw[hs a v hv]
   refine bZ e1 ?_
   rw[<-dr L3]
   exact bZ e4 rfl
theorem ad8:∀(l:List Value) (i:Nat) (s:S),i+l.length<1023->Sub (DM i l) (sF i l s):=by
 intro l
 induction l with
 |nil=>intro i s _;exact Sub.nil _
 |cons v l ih=>
  intro i s h
  simp only[dI]at h
  show Sub ((i,v)::DM (i+1) l) (sF (i+1) l (s.put i v))
  refine(ih (i+1) (s.put i v) (by omega)).cons ?_
  rw[O' _ _ _ _ (by omega),if_neg (by omega),S.p5 _ _ _ _ (by omega),if_pos rfl]
theorem Qc{P:Program}{kn:List FuncId}(hd:mZ P=true){gt:Nat->Hint}{lf:Nat}:∀(d:Nat) (f:FuncId) (args:Array Value) (h:H) (n:Nat) (v:Value) (h1:H) (n1:Nat) (L:List En),vw kn P gt lf d f args h n=some ⟨v,h1,n1,L⟩->dY (fun fuel=>cS P kn fuel f args) h n v h1 n1 L:=by
 intro d
 induction d with
 |zero=>intro f args h n v h1 n1 L hr;cases hr
 |succ d ih=>
  intro f args h n v h1 n1 L hr
  unfold vw at hr
  cases kp:kn.contains f with
  |true=>
   rw[kp]at hr
   simp only at hr
   cases rh:sG f with
   |some k=>
    rw[rh]at hr
    refine⟨1,fun fuel hf=> ?_⟩
    match fuel,hf with
    |fuel+1,hf=>
     show cS P kn (fuel+1) f args h n=_
     unfold cS
     rw[if_pos kp,rh]
     exact hr
   |none=>
   rw[rh]at hr
   simp only at hr
   cases hz:(decide (args.size=0)&&xT P f)with
   |false=>rw[hz]at hr;cases hr
   |true=>
    rw[hz]at hr
    refine⟨1,fun fuel hf=> ?_⟩
    match fuel,hf with
    |fuel+1,hf=>
     show cS P kn (fuel+1) f args h n=_
     unfold cS
     rw[if_pos kp,rh]
     show(if(decide (args.size=0)&&xT P f)=true then _ else _:M Value) h n=_
     rw[if_pos hz]
     exact hr
  |false=>
  rw[kp]at hr
  simp only at hr
  unfold aG at hr
  cases kN:P.funcs[f]? with
  |none=>rw[kN]at hr;cases hr
  |some fn=>
   rw[kN]at hr
   simp only at hr
   cases hc:fn.body with
   |none=>rw[hc]at hr;cases hr
   |some c=>
    rw[hc]at hr
    simp only at hr
    cases jm:(decide (args.size<=fn.ntmps)&&decide (fn.ntmps<1000))with
    |false=>rw[jm]at hr;cases hr
    |true=>
     rw[jm]at hr
     simp only at hr
     have ad9:=jm
     simp only[cb,decide_eq_true_eq]at jm
     obtain⟨L',hr,hL⟩:=vi hr
     have hdc:mj fn.ntmps c=true:=by
      unfold mZ at hd
      rw[uB]at hd
      have:=hd fn (Array.mem_of_getElem? kN)
      rw[hc]at this
      exact this
     obtain⟨e,s',s2,h2,n2,L1,L2,⟨f0,d1⟩,d2,d3,d4⟩:=ad6 ih c hdc _ (sF 0 args.toList .nil) _ h n _ (ad8 _ 0 _ (by simp;omega)) hr
     have fin:∀(hn:e= .normal∨e= .ret),yr P s' fn.results.toList ak h2 n2=some ⟨v,h1,n1,L2⟩->dY (fun fuel=>cS P kn fuel f args) h n v h1 n1 L:=by
      intro hn sT
      obtain⟨vs,h3,n3,L3,L4,r1,r2,r3⟩:=ad7 d2 _ _ _ _ _ sT
      simp only at r2 r3
      unfold ak at r2
      obtain⟨rfl,rfl,rfl,rfl⟩:=DN r2
      rw[dr]at r3
      subst r3
      simp only at d4
      refine⟨f0+1,fun fuel hf=> ?_⟩
      match fuel,hf with
      |fuel+1,hf=>
       show cS P kn (fuel+1) f args h n=_
       unfold cS
       rw[if_neg (by rw[kp];simp)]
       simp only[kN,hc]
       rw[if_pos ad9]
       rw[hL,d4]
       refine kq (bZ (d1 fuel (by omega) fuel (by omega)) ?_)
       rcases hn with rfl|rfl
       ·show((jg P s2 fn.results.toList).bind _) h2 n2=_
        rw[<-dr L2]
        exact bZ r1 rfl
       ·show((jg P s2 fn.results.toList).bind _) h2 n2=_
        rw[<-dr L2]
        exact bZ r1 rfl
     cases e with
     |normal=>exact fin (.inl rfl) d3
     |ret=>exact fin (.inr rfl) d3
     |exit i=>cases d3
theorem JG{P:Program}(hd:mZ P=true){gt:Nat->Hint}{lf:Nat}(d:Nat)(f:FuncId)(args:Array Value)(h:H)(n:Nat)(v:Value)(h1:H)(n1:Nat)(L:List En)(e:au P gt lf d f args h n=some ⟨v,h1,n1,L⟩):dY (fun fuel=>cS P KN fuel f args) h n v h1 n1 L:=Qc hd d f args h n v h1 n1 L e
def aj{α:Type}(W:Nat->Prop)(n0:Nat)(m:M α)(h:H)(n:Nat)(Q:α->H->Nat->Prop):Prop:=
 ∃a h1 n1 L,m h n=some ⟨a,h1,n1,L⟩∧n<=n1∧(∀e∈L,e.wr=true->n0<=e.b∨W e.b)∧Q a h1 n1
theorem aj.mono{α:Type}{W:Nat->Prop}{n0:Nat}{m:M α}{h:H}{n:Nat}{Q Q':α->H->Nat->Prop}(x:aj W n0 m h n Q)(hq:∀a h1 n1,n<=n1->Q a h1 n1->Q' a h1 n1):aj W n0 m h n Q':=by
 obtain⟨a,h1,n1,L,e1,e2,e3,e4⟩:=x
 exact⟨a,h1,n1,L,e1,e2,e3,hq _ _ _ e2 e4⟩
section
variable {α β:Type} {W:Nat->Prop} {n0:Nat} {m:M α} {k:α->M β} {h h1:H} {n n1:Nat} {a:α} {L:List En} {Q:β->H->Nat->Prop}
theorem aj.step(e:m h n=some ⟨a,h1,n1,L⟩)(hn:n<=n1)(hw:∀e∈L,e.wr=true->n0<=e.b∨W e.b)(x:aj W n0 (k a) h1 n1 Q):aj W n0 (m.bind k) h n Q:=by
 obtain⟨b,h2,n2,L2,e1,e2,e3,e4⟩:=x
 refine⟨b,h2,n2,L++L2,bZ e e1,by omega,fun x hx=> ?_,e4⟩
 rcases Ou.1 hx with q|q
 ·exact hw x q
 ·exact e3 x q
theorem aj.Qd(e:m h n=some ⟨a,h1,n1,L⟩)(hn:n1=n)(x:aj W n0 (m.bind k) h n Q):aj W n0 (k a) h1 n1 Q:=by
 obtain⟨b,h2,n2,L2,e1,e2,e3,e4⟩:=x
 obtain⟨a',h3,n3,L3,L4,e5,e6,rfl⟩:=bind_some e1
 rw[e]at e5
 simp only[ee,Out.mk.injEq]at e5
 obtain⟨rfl,rfl,rfl,rfl⟩:=e5
 exact⟨b,h2,n2,L4,e6,by omega,fun x hx=>e3 x (Ou.2 (.inr hx)),e4⟩
theorem aj.iff(e:m h n=some ⟨a,h1,n,L⟩)(hw:∀e∈L,e.wr=true->n0<=e.b∨W e.b):aj W n0 (m.bind k) h n Q↔aj W n0 (k a) h1 n Q:=
 ⟨aj.Qd e rfl,aj.step e (av _) hw⟩
theorem aj.aP{Q':α->H->Nat->Prop}(x:aj W n0 m h n Q'):aj W n0 (inside m) h n Q':=by
 obtain⟨a,h1,n1,L,e1,e2,e3,e4⟩:=x
 exact⟨a,h1,n1,_,kq e1,e2,fun e he=>e3 e (List.mem_filter.1 he).1,e4⟩
end
section
variable {β:Type} {W:Nat->Prop} {n0:Nat} {h h1:H} {n n1:Nat} {Q:β->H->Nat->Prop} {QV:Value->H->Nat->Prop}
theorem Ay(a:β):aj W n0 (M.ret a) h n Q↔Q a h n:=by
 constructor
 ·rintro⟨b,h2,n2,L,e1,e2,e3,e4⟩
  obtain⟨rfl,rfl,rfl,rfl⟩:=DN e1
  exact e4
 ·intro x
  exact⟨a,h,n,[],rfl,av _,fun e he=>(nomatch he),x⟩
theorem Qe:aj W n0 (ak []) h n QV↔QV (.tuple #[]) h n:=Ay _
theorem JH(v:Value):aj W n0 (ak [v]) h n QV↔QV v h n:=Ay _
theorem yw(v w:Value):aj W n0 (ak [v,w]) h n QV↔QV (.tuple #[v,w]) h n:=Ay _
theorem Qf(v w u:Value):aj W n0 (ak [v,w,u]) h n QV↔QV (.tuple #[v,w,u]) h n:=Ay _
theorem vz{α:Type}(a:α)(k:α->M β):aS (some a) k=k a:=rfl
theorem Qg(b:Bool)(x y:M β):aj W n0 (ar (.bool b) x y) h n Q↔if b=true then aj W n0 x h n Q else aj W n0 y h n Q:=by
 cases b
 ·rw[if_neg Ol];exact Iff.rfl
 ·rw[if_pos rfl];exact Iff.rfl
theorem yx(x y:M β):ar (.bool true) x y=x:=rfl
theorem yy(x y:M β):ar (.bool false) x y=y:=rfl
section
variable {β:Type} (k:Value->M β)
theorem Qh(a:Addr):aI (.pointer (some a)) k=k (.pointer (some a)):=rfl
theorem Qi(f:FuncId)(a b:Array Value):aI (.func (.func f) a b) k=k (.func (.func f) a b):=rfl
theorem rD(f:IntKind->Int->Int->Value)(j:IntKind)(a b:Int):kR f (.int j a) (.int j b) k=k (f j a b):=by
 unfold kR
 simp only[Di]
theorem Qj(j:IntKind)(a b:Int):aC (.int j a) (.int j b) k=k (.int j (j.wrap (a+b))):=by
 show kR (fun k a b=> .int k (oZ k (Db a b))) (.int j a) (.int j b) k=_
 rw[rD,kO,PK]
theorem JI(j:IntKind)(a b:Int):bW (.int j a) (.int j b) k=k (.int j (j.wrap (a-b))):=by
 unfold bW
 rw[rD,kO,Dd]
theorem Qk(j:IntKind)(a b:Int):jO (.int j a) (.int j b) k=k (.int j (j.wrap (a*b))):=by
 unfold jO
 rw[rD,kO,PL]
theorem Ql(j:IntKind)(a b:Int):bJ (.int j a) (.int j b) k=k (.bool (a==b)):=by
 show kR (fun _ a b=> .bool (qd a b)) (.int j a) (.int j b) k=_
 rw[rD,sV]
theorem Qm(j:IntKind)(a b:Int):dO (.int j a) (.int j b) k=k (.bool (a !=b)):=by
 show kR (fun _ a b=> .bool (!qd a b)) (.int j a) (.int j b) k=_
 rw[rD,sV];rfl
theorem rE(j:IntKind)(a b:Int):aH (.int j a) (.int j b) k=k (.bool (decide (a<b))):=by
 unfold aH
 rw[rD,sW]
theorem Qn(j:IntKind)(a b:Int):jP (.int j a) (.int j b) k=k (.bool (decide (a<=b))):=by
 unfold jP
 rw[rD,Df]
theorem Qo(j:IntKind)(a b:Int):ft (.int j a) (.int j b) k=k (.bool (decide (b<a))):=by
 unfold ft
 rw[rD,sW]
theorem Qp(j:IntKind)(a b:Int):gH (.int j a) (.int j b) k=k (.bool (decide (b<=a))):=by
 unfold gH
 rw[rD,Df]
theorem Qq(j:IntKind)(a b:Int)(h0:b≠0):mi (.int j a) (.int j b) k=k (.int j (j.wrap (a.tdiv b))):=by
 unfold mi
 simp only[Di,sV,beq_eq_false_iff_ne.2 h0,kO]
theorem Qr(j:IntKind)(a b:Int)(h0:b≠0):pd (.int j a) (.int j b) k=k (.int j (a.tmod b)):=by
 unfold pd
 simp only[Di,sV,beq_eq_false_iff_ne.2 h0]
theorem JJ{f:Nat->Nat->Nat}{g:(w:Nat)->BitVec w->BitVec w->BitVec w}(hg:∀w x y,(g w x y).toNat=f x.toNat y.toNat)(j:IntKind)(a b:Int)(ha:0<=a)(hb:0<=b):vn f (.int j a) (.int j b) k=k (.int j (j.wrap (g j.bits (gF j.bits a) (gF j.bits b)).toNat)):=by
 obtain⟨p,rfl⟩:∃p:Nat,a=g9 p:=⟨a.toNat,(j6 ha).symm⟩
 obtain⟨q,rfl⟩:∃q:Nat,b=g9 q:=⟨b.toNat,(j6 hb).symm⟩
 unfold vn
 simp only[Di,kO,hg,(tf p q).1,(tf p q).2]
 rfl
theorem Qs(j:IntKind)(a b:Int)(ha:0<=a)(hb:0<=b):Ar (.int j a) (.int j b) k=k (.int j (j.wrap (gF j.bits a&&&gF j.bits b).toNat)):=JJ k (g:=fun _ x y=>x&&&y) (fun _ _ _=>BitVec.toNat_and ..) j a b ha hb
theorem Qt(j:IntKind)(a b:Int)(ha:0<=a)(hb:0<=b):Dx (.int j a) (.int j b) k=k (.int j (j.wrap (gF j.bits a|||gF j.bits b).toNat)):=JJ k (g:=fun _ x y=>x|||y) (fun _ _ _=>BitVec.toNat_or ..) j a b ha hb
theorem Qu(j:IntKind)(a b:Int)(ha:0<=a)(hb:0<=b):PW (.int j a) (.int j b) k=k (.int j (j.wrap (gF j.bits a^^^gF j.bits b).toNat)):=JJ k (g:=fun _ x y=>x^^^y) (fun _ _ _=>BitVec.toNat_xor ..) j a b ha hb
theorem Qv(j j':IntKind)(a b:Int)(ha:0<=a)(hb:0<=b):td (.int j a) (.int j' b) k=k (.int j (j.wrap (a*2^(min b.toNat j.bits)))):=by
 obtain⟨p,rfl⟩:∃p:Nat,a=g9 p:=⟨a.toNat,(j6 ha).symm⟩
 obtain⟨q,rfl⟩:∃q:Nat,b=g9 q:=⟨b.toNat,(j6 hb).symm⟩
 unfold td
 simp only[kO]
 congr 3
theorem Qw(j j':IntKind)(a b:Int)(ha:0<=a)(hb:0<=b):od (.int j a) (.int j' b) k=k (.int j (a.fdiv (2^(min b.toNat j.bits)))):=by
 obtain⟨p,rfl⟩:∃p:Nat,a=g9 p:=⟨a.toNat,(j6 ha).symm⟩
 obtain⟨q,rfl⟩:∃q:Nat,b=g9 q:=⟨b.toNat,(j6 hb).symm⟩
 unfold od
 simp only
 congr 2
 show((p/2^(min q j.bits):Nat):Int)=((p:Nat):Int).fdiv (2^min q j.bits)
 have e2:(2:Int)^(min q j.bits)=((2^(min q j.bits):Nat):Int):=by simp
 rw[e2,Int.fdiv_eq_ediv_of_nonneg _ (aa _),<-Int.natCast_ediv]
theorem yz(a b:List UInt8)(h:a.length+b.length<=9223372036854775807):aC (.string ⟨a.toArray⟩) (.string ⟨b.toArray⟩) k=k (.string ⟨(a++b).toArray⟩):=by
 unfold aC
 simp only[rk]
 rw[show bx (fS a.length b.length) 9223372036854775807=true from lR h]
 simp only[Iz]
theorem JK(a b:List UInt8):bJ (.string ⟨a.toArray⟩) (.string ⟨b.toArray⟩) k=k (.bool (decide (a=b))):=by
 unfold bJ
 simp only[Dg]
theorem Qx(a b:List UInt8):dO (.string ⟨a.toArray⟩) (.string ⟨b.toArray⟩) k=k (.bool (!decide (a=b))):=by
 unfold dO
 simp only[Dg]
theorem Qy(a b:Bool):IU (.bool a) (.bool b) k=k (.bool (a==b)):=by cases a<;>cases b<;>rfl
theorem Qz(a b:Bool):As (.bool a) (.bool b) k=k (.bool (a !=b)):=by cases a<;>cases b<;>rfl
theorem Az(b:Bool):dZ (.bool b) k=k (.bool (!b)):=rfl
theorem QA(j:IntKind)(a:Int):DC (.int j a) k=k (.int j (j.wrap (0-a))):=by
 unfold DC
 simp only[kO,Dd]
theorem QB(kd j:IntKind)(a:Int):eZ kd (.int j a) k=k (.int kd (kd.wrap a)):=by
 unfold eZ
 simp only[kO]
theorem QC(s:ByteArray):PX (.string s) k=k (.string s):=rfl
theorem DP(a:Option Addr)(n c:Nat):aN (.slice a n c) k=k (.int .i64 (n:Int)):=rfl
theorem DQ(l:List UInt8):lA (.string ⟨l.toArray⟩) k=k (.int .i64 (l.length:Int)):=by
 unfold lA
 simp only[rk]
 rfl
theorem QD(j j':IntKind)(a b:Int):te (.int j a) (.int j' b) k=k (.int j (if b<a then b else a)):=by
 unfold te
 simp only[sW]
 by_cases h:b<a<;>simp only[h,decide_true,decide_false,if_true,if_false]
theorem QE(j j':IntKind)(a b:Int):vq (.int j a) (.int j' b) k=k (.int j (if a<b then b else a)):=by
 unfold vq
 simp only[sW]
 by_cases h:a<b<;>simp only[h,decide_true,decide_false,if_true,if_false]
theorem QF(b:Bool)(x y:Value):IX (.bool b) x y k=k (if b=true then x else y):=by cases b<;>rfl
theorem QG(a:Addr):fw (.pointer (some a)) (.pointer none) k=k (.bool false):=rfl
theorem QH:fw (.pointer none) (.pointer none) k=k (.bool true):=rfl
theorem QI(a:Addr):vo (.pointer (some a)) (.pointer none) k=k (.bool true):=rfl
theorem QJ:vo (.pointer none) (.pointer none) k=k (.bool false):=rfl
theorem QL(a:Addr)(n c m d:Nat):Au (.slice (some a) n c) (.slice none m d) k=k (.bool false):=rfl
theorem QM(n c m d:Nat):Au (.slice none n c) (.slice none m d) k=k (.bool true):=rfl
theorem QN(a:Addr)(n c m d:Nat):DB (.slice (some a) n c) (.slice none m d) k=k (.bool true):=rfl
theorem QO(n c m d:Nat):DB (.slice none n c) (.slice none m d) k=k (.bool false):=rfl
theorem QP(f:Fn)(a b:Array Value):IV (.func f a b) .nilFunc k=k (.bool false):=rfl
theorem QR(f:Fn)(a b:Array Value):IW (.func f a b) .nilFunc k=k (.bool true):=rfl
theorem QS(K b off:Nat):aE K (.pointer (some ⟨b,off,none⟩)) k=k (.pointer (some ⟨b,off+K,none⟩)):=rfl
theorem JL(l:List Value)(i:Nat):(match s7 l i with
 |some v=>k v
 |none=>M.fail)=aS l[i]? k:=by
 rw[Dm]
 cases l[i]? <;>rfl
theorem QT(K:Nat)(l:List Value):IY K (.agg l.toArray) k=aS l[K]? k:=JL k l K
theorem QU(K m:Nat)(l:List Value):IZ K m (.agg l.toArray) k=k (.agg ((l.drop K).take m).toArray):=rfl
theorem QW(l:List Value)(i:Nat):bm (.tuple l.toArray) i k=aS l[i]? k:=JL k l i
theorem fk(a b:Value):bm (.tuple #[a,b]) 0 k=k a:=rfl
theorem ext1(a b:Value):bm (.tuple #[a,b]) 1 k=k b:=rfl
theorem AA{i:Int}{n:Nat}(h1:i<n){j:Nat}(e:i=g9 j):bx (eT j) n=true:=by
 subst e
 exact lR (Int.ofNat_lt.1 h1)
theorem QX(b off n c:Nat)(j:IntKind)(i:Int)(h0:0<=i)(h1:i<n):aL (.slice (some ⟨b,off,none⟩) n c) (.int j i) k=k (.pointer (some ⟨b,off+i.toNat,none⟩)):=by
 obtain⟨p,rfl⟩:∃p:Nat,i=g9 p:=⟨i.toNat,(j6 h0).symm⟩
 unfold aL
 simp only[AA h1 rfl]
 rfl
theorem JM(sz b off n c:Nat)(j:IntKind)(i:Int)(h0:0<=i)(h1:i<n):qh sz (.slice (some ⟨b,off,none⟩) n c) (.int j i) k=k (.pointer (some ⟨b,off+i.toNat*sz,none⟩)):=by
 obtain⟨p,rfl⟩:∃p:Nat,i=g9 p:=⟨i.toNat,(j6 h0).symm⟩
 unfold qh
 simp only[AA h1 rfl]
 rfl
theorem JN(n b off:Nat)(j:IntKind)(i:Int)(h0:0<=i)(h1:i<n):gx n (.pointer (some ⟨b,off,none⟩)) (.int j i) k=k (.pointer (some ⟨b,off+i.toNat,none⟩)):=by
 obtain⟨p,rfl⟩:∃p:Nat,i=g9 p:=⟨i.toNat,(j6 h0).symm⟩
 unfold gx
 simp only[AA h1 rfl]
 rfl
theorem QY(n sz b off:Nat)(j:IntKind)(i:Int)(h0:0<=i)(h1:i<n):DD n sz (.pointer (some ⟨b,off,none⟩)) (.int j i) k=k (.pointer (some ⟨b,off+i.toNat*sz,none⟩)):=by
 obtain⟨p,rfl⟩:∃p:Nat,i=g9 p:=⟨i.toNat,(j6 h0).symm⟩
 unfold DD
 simp only[AA h1 rfl]
 rfl
theorem QZ(n:Nat)(l:List Value)(j:IntKind)(i:Int)(h0:0<=i)(h1:i<n):Av n (.agg l.toArray) (.int j i) k=aS l[i.toNat]? k:=by
 obtain⟨p,rfl⟩:∃p:Nat,i=g9 p:=⟨i.toNat,(j6 h0).symm⟩
 unfold Av
 simp only[AA h1 rfl]
 exact JL k l p
theorem DR(l:List UInt8)(j:IntKind)(i:Int)(h0:0<=i)(h1:i<l.length):pf (.string ⟨l.toArray⟩) (.int j i) k=k (.int .u8 ((l.getD i.toNat 0).toNat:Int)):=by
 obtain⟨p,rfl⟩:∃p:Nat,i=g9 p:=⟨i.toNat,(j6 h0).symm⟩
 have hp:p<l.length:=Int.ofNat_lt.1 h1
 have e:rn l p=some (l.getD p 0):=by
  cases hn:rn l p with
  |some c=>rw[(IA _ _ _ hn).2]
  |none=>
   exfalso
   have:∀(l:List UInt8) (p:Nat),p<l.length->rn l p≠none:=by
    intro l
    induction l with
    |nil=>intro p h;simp at h
    |cons a l ih=>
     intro p h e
     cases p with
     |zero=>cases e
     |succ p=>exact ih p (by simpa using h) e
   exact this l p hp hn
 unfold pf
 simp only[e]
 rfl
theorem JO(l:List UInt8)(lo hi:Option Value){a b:Nat}(ha:ry lo 0=some a)(hb:ry hi l.length=some b)(h1:a<=b)(h2:b<=l.length):kx (.string ⟨l.toArray⟩) lo hi k=k (.string ⟨((l.drop a).take (b-a)).toArray⟩):=by
 unfold kx
 simp only[ha,rk,hb,lR h1,lR h2]
 rfl
theorem DS(j:IntKind){i:Int}(d:Nat)(h:0<=i):ry (some (.int j i)) d=some i.toNat:=by
 obtain⟨p,rfl⟩:∃p:Nat,i=g9 p:=⟨i.toNat,(j6 h).symm⟩
 rfl
theorem DT(l:List UInt8)(kd:IntKind)(j:Int)(h0:0<=j)(h1:j<=l.length):kx (.string ⟨l.toArray⟩) none (some (.int kd j)) k=k (.string ⟨(l.take j.toNat).toArray⟩):=by
 rw[JO k l none _ (a:=0) (b:=j.toNat) rfl (DS kd _ h0) (by omega) (by omega)]
 simp
theorem DU(l:List UInt8)(kd:IntKind)(i:Int)(h0:0<=i)(h1:i<=l.length):kx (.string ⟨l.toArray⟩) (some (.int kd i)) none k=k (.string ⟨(l.drop i.toNat).toArray⟩):=by
 rw[JO k l _ none (a:=i.toNat) (b:=l.length) (DS kd _ h0) rfl (by omega) (by omega)]
 rw[hH (by simp)]
theorem DV(l:List UInt8)(kd oh:IntKind)(i j:Int)(h0:0<=i)(h1:i<=j)(h2:j<=l.length):kx (.string ⟨l.toArray⟩) (some (.int kd i)) (some (.int oh j)) k=k (.string ⟨((l.drop i.toNat).take (j.toNat-i.toNat)).toArray⟩):=
 JO k l _ _ (DS kd _ h0) (DS oh _ (by omega)) (by omega) (by omega)
theorem Q3(z:List Value)(ps:List (Nat×Nat×Value)):gS z ps k=aS (fx z ps) fun cs=>k (.agg cs.toArray):=by
 unfold gS
 cases fx z ps<;>rfl
theorem Q4(cs:List Value):fx cs []=some cs:=rfl
theorem ad'(cs:List Value)(q:Nat×Nat×Value)(r:List (Nat×Nat×Value)):fx cs (q::r)=match bK (eW (dC q.2.2)) q.2.1 with
 |true=>match bx (fS q.1 (eW (dC q.2.2))) (eW cs)with
  |true=>fx (qg cs q.1 (dC q.2.2)) r
  |false=>none
 |false=>none:=rfl
theorem Q5{cs vs:List Value}{off sz:Nat}{v:Value}{r:List (Nat×Nat×Value)}(hv:dC v=vs):fx cs ((off,sz,v)::r)=if vs.length=sz then(if off+sz<=cs.length then fx (cs.take off++(vs++cs.drop (off+sz))) r else none)else none:=by
 have sp:∀(off:Nat) (cs l:List Value),off+l.length<=cs.length->qg cs off l=cs.take off++(l++cs.drop (off+l.length)):=by
  have ov:∀(l cs:List Value),l.length<=cs.length->over l cs=l++cs.drop l.length:=by
   intro l
   induction l with
   |nil=>intro cs _;simp[over]
   |cons x l ih=>
    intro cs h
    cases cs with
    |nil=>simp at h
    |cons c cs=>
     show x::over l cs=_
     rw[ih cs (by simpa using h)]
     simp
  intro off
  induction off with
  |zero=>
   intro cs l h
   have e:qg cs 0 l=over l cs:=by cases cs<;>rfl
   rw[e,ov l cs (by omega)]
   simp
  |succ off ih=>
   intro cs l h
   cases cs with
   |nil=>simp at h
   |cons c cs=>
    show c::qg cs off l=_
    rw[ih cs l (by simp at h;omega),show off+1+l.length=off+l.length+1 by omega]
    simp
 subst hv
 rw[ad']
 simp only[mh]
 by_cases h1:(dC v).length=sz
 ·rw[if_pos h1]
  subst h1
  rw[zM]
  simp only
  by_cases h2:off+(dC v).length<=cs.length
  ·rw[if_pos h2,show bx (fS off (dC v).length) cs.length=true from lR h2,sp _ _ _ h2]
  ·rw[if_neg h2]
   have:bx (fS off (dC v).length) cs.length=false:=by
    cases hq:bx (fS off (dC v).length) cs.length with
    |false=>rfl
    |true=>exact absurd (fY hq) h2
   rw[this]
 ·rw[if_neg h1]
  have:bK (dC v).length sz=false:=by
   cases hq:bK (dC v).length sz with
   |false=>rfl
   |true=>exact absurd (lk hq) h1
  rw[this]
theorem AD{cs:List Value}{off:Nat}{v:Value}{r:List (Nat×Nat×Value)}(hv:dC v=[v]):fx cs ((off,1,v)::r)=if off<cs.length then fx (cs.set off v) r else none:=by
 rw[Q5 hv,if_pos (show [v].length=1 from rfl)]
 by_cases h:off<cs.length
 ·rw[if_pos h,if_pos (by omega)]
  congr 1
  rw[List.set_eq_take_append_cons_drop,if_pos h]
  rfl
 ·rw[if_neg h,if_neg (by omega)]
section
variable (cs:List Value) (off:Nat) (r:List (Nat×Nat×Value))
theorem Q6(j:IntKind)(x:Int):fx cs ((off,1,.int j x)::r)=if off<cs.length then fx (cs.set off (.int j x)) r else none:=AD rfl
theorem Q7(b:Bool):fx cs ((off,1,.bool b)::r)=if off<cs.length then fx (cs.set off (.bool b)) r else none:=AD rfl
theorem Q8(s:ByteArray):fx cs ((off,1,.string s)::r)=if off<cs.length then fx (cs.set off (.string s)) r else none:=AD rfl
theorem Q9(a:Option Addr)(n c:Nat):fx cs ((off,1,.slice a n c)::r)=if off<cs.length then fx (cs.set off (.slice a n c)) r else none:=AD rfl
theorem Rc(a:Option Addr):fx cs ((off,1,.pointer a)::r)=if off<cs.length then fx (cs.set off (.pointer a)) r else none:=AD rfl
theorem Rd(sz:Nat)(vs:List Value):fx cs ((off,sz,.agg vs.toArray)::r)=if vs.length=sz then(if off+sz<=cs.length then fx (cs.take off++(vs++cs.drop (off+sz))) r else none)else none:=Q5 rfl
end
end
theorem get_eq(h:H)(i:Nat)(x:Option AB):(h.set i x).get i=x:=by rw[H.ji,if_pos rfl]
theorem aK(h:H){i j:Nat}(x:Option AB)(e:j≠i):(h.set i x).get j=h.get j:=by rw[H.ji,if_neg e]
theorem DW{α:Type}{m:M α}{h h1:H}{n n1:Nat}{a:α}{L:List En}(e:m h n=some ⟨a,h1,n1,L⟩)(hw:∀e∈L,e.wr=false):∃L',inside m h n=some ⟨a,h1,n1,L'⟩∧∀e∈L',e.wr=true->n0<=e.b∨W e.b:=
 ⟨_,kq e,fun x hx bN=>by rw[hw x (List.mem_filter.1 hx).1]at bN;cases bN⟩
theorem yA(e:TypeId)(cs:List Value)(h:H)(n:Nat):cY e cs h n=some ⟨n,h.set n (some ⟨e,true,cs⟩),n+1,[]⟩:=by
 unfold cY
 rw[if_pos (fp n)]
theorem vA{α:Type}{m:M α}{a:α}{k:α->M β}{h1:H}{n1:Nat}(e:m h n=some ⟨a,h1,n1,[]⟩)(hn:n<=n1)(x:aj W n0 (k a) h1 n1 Q):aj W n0 ((inside m).bind k) h n Q:=
 aj.step (kq e) hn (fun x hx=>by simp at hx) x
theorem kT{α:Type}{m:M α}{kk:α->M β}(x:aj W n0 ((inside m).bind kk) h n Q):aj W n0 (eO m kk) h n Q:=by rw[pc];exact x
theorem tn(e:TypeId)(cs:List Value)(f:Nat->Value)(h:H)(n:Nat):((kv e cs).bind fun id=>M.ret (f id)) h n=some ⟨f n,h.set n (some ⟨e,true,cs⟩),n+1,[]⟩:=by
 rw[mg]
 exact bZ (yA _ _ _ _) rfl
theorem qi{T:Prop}(_:T){t:TypeId}(v:Value)(k:Value->M β)(x:aj W n0 (k (.pointer (some ⟨n,0,none⟩))) (h.set n (some ⟨t,true,v.cells.toList⟩)) (n+1) Q):aj W n0 (jt t v k) h n Q:=by
 rw[<-o4]at x
 exact kT (vA (tn _ _ (fun id=>zO (some ⟨id,0,none⟩)) _ _) (cX n) x)
theorem kU{t:TypeId}{z cs:List Value}(hz:z=cs)(k:Value->M β)(x:aj W n0 (k (.pointer (some ⟨n,0,none⟩))) (h.set n (some ⟨t,true,cs⟩)) (n+1) Q):aj W n0 (iW t z k) h n Q:=by
 subst hz
 exact kT (vA (tn _ _ (fun id=>zO (some ⟨id,0,none⟩)) _ _) (cX n) x)
theorem JP(z:Value):∀m,ju [z] m=bI m z
 |0=>rfl
 |m+1=>by
  show z::ju [z] m=_
  rw[JP z m];rfl
theorem run_make{T:Prop}(_:T){e:TypeId}{z:Value}(l m:Nat)(k:Value->M β){kd oh:IntKind}(hl:l<=m)(hm:m<=1099511627776)(x:aj W n0 (k (.slice (some ⟨n,0,none⟩) l m)) (h.set n (some ⟨e,true,bI m z⟩)) (n+1) Q):aj W n0 (jx e [z] (.int kd l) (.int oh m) k) h n Q:=by
 have e1:jx e [z] (.int kd l) (.int oh m) k=eO ((kv e (ju [z] m)).bind fun id=>M.ret (jH (some ⟨id,0,none⟩) l m)) k:=by
  show(match bx l m with
   |true=>match bx m 1099511627776 with
    |true=>eO ((kv e (ju [z] m)).bind fun id=>M.ret (jH (some ⟨id,0,none⟩) l m)) k
    |false=> .fail
   |false=> .fail)=_
  rw[lR hl,lR hm]
 rw[e1,JP]
 exact kT (vA (tn _ _ (fun id=>jH (some ⟨id,0,none⟩) l m) _ _) (cX n) x)
theorem DX{T:Prop}(_:T){e:TypeId}{v:Value}(h1:one v=true)(k:Value->M β)(x:aj W n0 (k (.slice (some ⟨n,0,none⟩) 1 1)) (h.set n (some ⟨e,true,[v]⟩)) (n+1) Q):aj W n0 (cZ e 1 v k) h n Q:=by
 have hc:dC v=[v]:=by cases v<;>first|rfl|(simp[one]at h1)
 unfold cZ
 rw[hc]
 exact kT (vA (tn _ _ (fun id=>jH (some ⟨id,0,none⟩) 1 1) _ _) (cX n) x)
end
def tr{α:Type}(o:Option α)(p:α->Prop):Prop:=match o with
 |some a=>p a
 |none=>False
theorem Re{α:Type}(a:α)(p:α->Prop):tr (some a) p=p a:=rfl
theorem ky(k:IntKind)(x:Int):one (.int k x)=true:=rfl
theorem ad_(a:Option Addr)(n c:Nat):one (.slice a n c)=true:=rfl
theorem aea(a:Option Addr):one (.pointer a)=true:=rfl
theorem Rf(cs:Array Value):(Hp cs).cells=cs:=rfl
section
variable {β:Type} {W:Nat->Prop} {n0:Nat} {h h1:H} {n n1:Nat} {Q:β->H->Nat->Prop}
theorem aeb:¬aj W n0 (M.fail:M β) h n Q:=by rintro⟨_,_,_,_,e,_⟩;cases e
theorem DY{α:Type}{m:M α}{k:α->M β}(e:m h n=none):¬aj W n0 (m.bind k) h n Q:=by
 rintro⟨_,_,_,_,e1,_⟩
 unfold M.bind at e1
 rw[e]at e1
 cases e1
theorem DZ{α:Type}{m:M α}(e:m h n=none):Ev.inside m h n=none:=by unfold Ev.inside;rw[e]
theorem Rg(b off:Nat)(k:Value->M β)(hb:b<n):aj W n0 (ay (.pointer (some ⟨b,off,none⟩)) k) h n Q↔tr (h.get b) fun B=>aj W n0 (aS (B.cells[off]?) k) h n Q:=by
 show aj W n0 (eO (yl b off) k) h n Q↔_
 rw[pc,Dp]
 cases hg:h.get b with
 |none=>
  refine⟨fun x=>absurd x (DY (DZ ?_)),fun x=>x.elim⟩
  unfold rd
  simp[hg]
 |some B=>
  show _↔aj W n0 (aS (B.cells[off]?) k) h n Q
  cases hv:B.cells[off]? with
  |none=>
   refine⟨fun x=>absurd x (DY (DZ ?_)),fun x=>absurd x aeb⟩
   unfold rd
   simp[hg,hv]
  |some v=>
   have e:rd b off h n=some ⟨v,h,n,[⟨false,b,some off⟩]⟩:=by
    unfold rd
    simp only[hb,hg,hv,if_true]
   obtain⟨L',e1,e2⟩:=DW (W:=W) (n0:=n0) e (by simp)
   exact aj.iff e1 e2
theorem aec(b off:Nat){v:Value}(k:Value->M β)(h1:one v=true):bG (.pointer (some ⟨b,off,none⟩)) v k=(inside ((wr b off v).bind fun _=> .ret undef)).bind k:=by
 show(match one v with
  |true=>eO ((vk b off v).bind fun _=> .ret undef) k
  |false=> .fail)=_
 rw[h1,Dq]
 exact pc _ _
theorem yB(b off:Nat)(v:Value)(k:Value->M β)(hb:b<n)(h1:one v=true):aj W n0 (bG (.pointer (some ⟨b,off,none⟩)) v k) h n Q↔
 tr (h.get b) fun B=>B.own=true∧off<B.cells.length∧(n0<=b∨W b)∧aj W n0 (k undef) (h.set b (some ⟨B.elem,B.own,B.cells.set off v⟩)) n Q:=by
 rw[aec b off k h1]
 cases hg:h.get b with
 |none=>
  refine⟨fun x=>absurd x (DY (DZ ?_)),fun x=>x.elim⟩
  unfold M.bind wr
  simp[hg]
 |some B=>
  show _↔(B.own=true∧off<B.cells.length∧(n0<=b∨W b)∧_)
  by_cases cH:B.own=true∧off<B.cells.length
  ·obtain⟨ho,hl⟩:=cH
   have mQ:wr b off v h n=some ⟨(),h.set b (some ⟨B.elem,B.own,B.cells.set off v⟩),n,[⟨false,b,some off⟩,⟨true,b,some off⟩]⟩:=by
    unfold wr
    simp[hb,hg,ho,hl,h1]
   have e:((wr b off v).bind fun _=>M.ret undef) h n=some ⟨undef,h.set b (some ⟨B.elem,B.own,B.cells.set off v⟩),n,[⟨false,b,some off⟩,⟨true,b,some off⟩]⟩:=by
    have:=bZ (f:=fun _=>M.ret undef) mQ (L2:=[]) (b:=undef) (h2:=h.set b (some ⟨B.elem,B.own,B.cells.set off v⟩)) (n2:=n) rfl
    simpa using this
   have ei:=kq e
   constructor
   ·intro x
    refine⟨ho,hl, ?_,aj.Qd ei rfl x⟩
    obtain⟨_,_,_,L,e1,_,e3,_⟩:=x
    obtain⟨_,_,_,L3,L4,e5,_,rfl⟩:=bind_some e1
    rw[ei]at e5
    simp only[ee,Out.mk.injEq]at e5
    refine e3 ⟨true,b,some off⟩ (Ou.2 (.inl ?_)) rfl
    rw[<-e5.2.2.2]
    refine List.mem_filter.2 ⟨by simp, ?_⟩
    simp
    omega
   ·rintro⟨_,_,hw,x⟩
    refine aj.step ei (av _) (fun x hx bN=> ?_) x
    have hx:=(List.mem_filter.1 hx).1
    simp at hx
    rcases hx with rfl|rfl<;>exact hw
  ·refine⟨fun x=>absurd x (DY (DZ ?_)),fun x=>absurd ⟨x.1,x.2.1⟩ cH⟩
   unfold M.bind wr
   simp only[hb,hg,if_true,h1,Bool.and_true]
   rw[if_neg (by simpa using cH)]
section
variable (b off:Nat) (k:Value->M β) (hb:b<n)
include hb
theorem Rh(j:IntKind)(x:Int):aj W n0 (bG (.pointer (some ⟨b,off,none⟩)) (.int j x) k) h n Q↔tr (h.get b) fun B=>B.own=true∧off<B.cells.length∧(n0<=b∨W b)∧aj W n0 (k undef) (h.set b (some ⟨B.elem,B.own,B.cells.set off (.int j x)⟩)) n Q:=yB b off _ k hb rfl
theorem Ri(x:Bool):aj W n0 (bG (.pointer (some ⟨b,off,none⟩)) (.bool x) k) h n Q↔tr (h.get b) fun B=>B.own=true∧off<B.cells.length∧(n0<=b∨W b)∧aj W n0 (k undef) (h.set b (some ⟨B.elem,B.own,B.cells.set off (.bool x)⟩)) n Q:=yB b off _ k hb rfl
theorem Rj(x:ByteArray):aj W n0 (bG (.pointer (some ⟨b,off,none⟩)) (.string x) k) h n Q↔tr (h.get b) fun B=>B.own=true∧off<B.cells.length∧(n0<=b∨W b)∧aj W n0 (k undef) (h.set b (some ⟨B.elem,B.own,B.cells.set off (.string x)⟩)) n Q:=yB b off _ k hb rfl
theorem Rk(x:Option Addr):aj W n0 (bG (.pointer (some ⟨b,off,none⟩)) (.pointer x) k) h n Q↔tr (h.get b) fun B=>B.own=true∧off<B.cells.length∧(n0<=b∨W b)∧aj W n0 (k undef) (h.set b (some ⟨B.elem,B.own,B.cells.set off (.pointer x)⟩)) n Q:=yB b off _ k hb rfl
theorem Rl(x:Option Addr)(l c:Nat):aj W n0 (bG (.pointer (some ⟨b,off,none⟩)) (.slice x l c) k) h n Q↔tr (h.get b) fun B=>B.own=true∧off<B.cells.length∧(n0<=b∨W b)∧aj W n0 (k undef) (h.set b (some ⟨B.elem,B.own,B.cells.set off (.slice x l c)⟩)) n Q:=yB b off _ k hb rfl
end
theorem tt{b:Nat}{B:AB}(hg:h.get b=some B)(hb:b<n):∀(c k:Nat),k+c<=B.cells.length->∃L,dj b k c h n=some ⟨(B.cells.drop k).take c,h,n,L⟩∧∀e∈L,e.wr=false
 |0,k,_=>⟨[],by rw[List.take_zero];rfl,by simp⟩
 |c+1,k,hk=>by
  obtain⟨L,e,hL⟩:=tt hg hb c (k+1) (by omega)
  have bq:k<B.cells.length:=by omega
  refine⟨[⟨false,b,some k⟩]++(L++[]), ?_, ?_⟩
  ·unfold dj
   have e0:rd b k h n=some ⟨B.cells[k],h,n,[⟨false,b,some k⟩]⟩:=by
    unfold rd
    simp only[hb,hg,if_true,aM bq]
   refine bZ e0 (bZ e ?_)
   rw[List.drop_eq_getElem_cons bq,List.take_succ_cons]
   rfl
  ·intro x hx
   simp only[dr,Ou,Ct,Cu,or_false]at hx
   rcases hx with rfl|hx
   ·rfl
   ·exact hL x hx
theorem D1{b:Nat}{B:AB}(hg:h.get b=some B)(hb:b<n):gN b h n=some ⟨B.elem,h,n,[⟨false,b,some 1099511627776⟩]⟩:=by
 unfold gN
 simp only[hb,hg,if_true]
theorem Rm{b:Nat}{B:AB}(hg:h.get b=some B)(ho:B.own=true)(hb:b<n):kill b h n=some ⟨(),h.set b none,n,[⟨false,b,none⟩,⟨true,b,none⟩]⟩:=by
 unfold kill
 simp only[hb,hg,ho,if_true]
def Src(h:H)(n:Nat)(x:Value)(news:List Value):Prop:=∃b off c B,x= .slice (some ⟨b,off,none⟩) news.length c∧h.get b=some B∧b<n∧off+news.length<=B.cells.length∧(B.cells.drop off).take news.length=news
theorem Src.run{x:Value}{news:List Value}(s:Src h n x news):∃L,j8 1 news.length x h n=some ⟨news,h,n,L⟩∧(∀e∈L,e.wr=false)∧gO x=some news.length:=by
 obtain⟨b,off,c,B,rfl,hg,hb,hl,ht⟩:=s
 obtain⟨L,e,hL⟩:=tt hg hb news.length off hl
 refine⟨L, ?_,hL,rfl⟩
 unfold j8
 rw[xL]
 show dj b off news.length h n=_
 rw[e,ht]
theorem Rn{T:Prop}(c:T){e:TypeId}{x:Value}{news:List Value}(hx:gO x=some 0)(a:Option Addr)(l cp:Nat)(k:Value->M β)(y:aj W n0 (k (.slice a l cp)) h n Q):aj W n0 (cO e 1 (.slice a l cp) x k) h n Q:=by
 refine kT (vA (a:= .slice a l cp) ?_ (av n) y)
 unfold mY
 simp only[hx]
 rfl
theorem Ro {T:Prop} (c:T) {e:TypeId} {x:Value} {news:List Value} (s:Src h n x news) (h0:0<news.length) (hm:news.length<=1099511627776) (h1:news.all one=true) (k:Value->M β)
 (y:aj W n0 (k (.slice (some ⟨n,0,none⟩) news.length (bc+news.length))) (h.set n (some ⟨e,true,news⟩)) (n+1) Q):aj W n0 (cO e 1 (.slice none 0 0) x k) h n Q:=by
 obtain⟨L,e1,e2,e3⟩:=s.run
 have ea:mY e 1 (.slice none 0 0) x h n=some ⟨.slice (some ⟨n,0,none⟩) news.length (bc+news.length),h.set n (some ⟨e,true,news⟩),n+1,L⟩:=by
  unfold mY
  rw[vm,mg]
  simp only[e3]
  rw[if_neg (by omega),if_pos hm]
  have g:(if(decide (news.length=news.length*1)&&news.all one)=true then(cY e ([]++news)).bind fun id=>M.ret (jH (some ⟨id,0,none⟩) (0+news.length) (bc+(0+news.length)))else M.fail) h n=some ⟨.slice (some ⟨n,0,none⟩) news.length (bc+news.length),h.set n (some ⟨e,true,news⟩),n+1,[]⟩:=by
   rw[if_pos (by simp;simpa using h1)]
   simp only[iO,uD]
   exact bZ (yA _ _ _ _) rfl
  have:=bZ (f:=fun new=>if(decide (new.length=news.length*1)&&new.all one)=true then(cY e ([]++new)).bind fun id=>M.ret (jH (some ⟨id,0,none⟩) (0+news.length) (bc+(0+news.length)))else M.fail) e1 g
  simpa using this
 refine kT (aj.step (kq ea) (cX n) (fun x hx bN=> ?_) y)
 rw[e2 x (List.mem_filter.1 hx).1]at bN
 cases bN
theorem Rp {T:Prop} (c:T) {e:TypeId} {x:Value} {news olds:List Value} (s:Src h n x news) (h0:0<news.length) (h1:news.all one=true) {b cp:Nat} {cs:List Value} (hg:h.get b=some ⟨e,true,cs⟩) (hb:b<n) (off l:Nat)
 (hl:off+l<=cs.length) (ho:(cs.drop off).take l=olds) (hm:l+news.length<=1099511627776) (hc:bc<=cp) (hw:n0<=b∨W b) (k:Value->M β)
 (y:aj W n0 (k (.slice (some ⟨n,0,none⟩) (l+news.length) (bc+(l+news.length)))) ((h.set b none).set n (some ⟨e,true,olds++news⟩)) (n+1) Q):aj W n0 (cO e 1 (.slice (some ⟨b,off,none⟩) l cp) x k) h n Q:=by
 obtain⟨L,e1,e2,e3⟩:=s.run
 obtain⟨L',e4,e5⟩:=tt (n:=n) hg hb l off hl
 have ea:∃L1,mY e 1 (.slice (some ⟨b,off,none⟩) l cp) x h n=some ⟨.slice (some ⟨n,0,none⟩) (l+news.length) (bc+(l+news.length)),(h.set b none).set n (some ⟨e,true,olds++news⟩),n+1,L1⟩∧∀e∈L1,e.wr=true->e.b=b:=by
  refine⟨[⟨false,b,some 1099511627776⟩]++(L++(L'++([⟨false,b,none⟩,⟨true,b,none⟩]++[]))), ?_, ?_⟩
  ·unfold mY Aw
   rw[vm,mg,ym,IJ,rq]
   simp only[e3]
   rw[if_neg (by omega),if_pos hm]
   refine bZ (D1 hg hb) ?_
   simp only[if_true]
   refine bZ e1 ?_
   rw[if_pos (by simp;simpa using h1)]
   rw[if_neg (by omega),xL]
   refine bZ e4 (bZ (Rm hg rfl hb) ?_)
   rw[ho]
   exact bZ (yA _ _ _ _) rfl
  ·intro x hx bN
   simp only[Ou,Ct,Cu,or_false]at hx
   rcases hx with rfl|hx|hx|rfl|rfl
   ·cases bN
   ·rw[e2 x hx]at bN;cases bN
   ·rw[e5 x hx]at bN;cases bN
   ·cases bN
   ·rfl
 obtain⟨L1,ea,tu⟩:=ea
 refine kT (aj.step (kq ea) (cX n) (fun x hx bN=> ?_) y)
 rw[tu x (List.mem_filter.1 hx).1 bN]
 exact hw
theorem aed {T:Prop} (c:T) {e:TypeId} {x:Value} {news olds:List Value} (s:Src h n x news) (h0:0<news.length) (h1:news.all one=true) {b cp:Nat} {B:AB} (hg:h.get b=some B) (he:B.elem=e) (hb:b<n) (off l:Nat)
 (hl:off+l<=B.cells.length) (ho:(B.cells.drop off).take l=olds) (hm:l+news.length<=1099511627776) (hc:cp<bc) (hr:cp<l+news.length) (k:Value->M β)
 (y:aj W n0 (k (.slice (some ⟨n,0,none⟩) (l+news.length) (bc+(l+news.length)))) (h.set n (some ⟨e,true,olds++news⟩)) (n+1) Q):aj W n0 (cO e 1 (.slice (some ⟨b,off,none⟩) l cp) x k) h n Q:=by
 obtain⟨L,e1,e2,e3⟩:=s.run
 obtain⟨L',e4,e5⟩:=tt (n:=n) hg hb l off hl
 have ea:∃L1,mY e 1 (.slice (some ⟨b,off,none⟩) l cp) x h n=some ⟨.slice (some ⟨n,0,none⟩) (l+news.length) (bc+(l+news.length)),h.set n (some ⟨e,true,olds++news⟩),n+1,L1⟩∧∀e∈L1,e.wr=false:=by
  refine⟨[⟨false,b,some 1099511627776⟩]++(L++(L'++[])), ?_, ?_⟩
  ·unfold mY Aw
   rw[vm,mg,ym,rq]
   simp only[e3]
   rw[if_neg (by omega),if_pos hm]
   refine bZ (D1 hg hb) ?_
   simp only[he,if_true]
   refine bZ e1 ?_
   rw[if_pos (by simp;simpa using h1)]
   rw[if_pos hc,if_neg (by omega),xL]
   refine bZ e4 ?_
   rw[ho]
   exact bZ (yA _ _ _ _) rfl
  ·intro x hx
   simp only[dr,Ou,Ct,Cu,or_false]at hx
   rcases hx with rfl|hx|hx
   ·rfl
   ·exact e2 x hx
   ·exact e5 x hx
 obtain⟨L1,ea,tu⟩:=ea
 refine kT (aj.step (kq ea) (cX n) (fun x hx bN=> ?_) y)
 rw[tu x (List.mem_filter.1 hx).1]at bN
 cases bN
theorem D3 {T:Prop} (c:T) {e:TypeId} {v:Value} (hv:one v=true) {b cp l:Nat} {cs:List Value} (hg:h.get b=some ⟨e,true,cs⟩) (hb:b<n) (hl:cs.length=l) (hm:l+1<=1099511627776) (hc:bc<=cp) (hw:n0<=b∨W b) (k:Value->M β)
 (y:aj W n0 (k (.slice (some ⟨n+1,0,none⟩) (l+1) (bc+(l+1)))) (((h.set n (some ⟨e,true,[v]⟩)).set b none).set (n+1) (some ⟨e,true,cs++[v]⟩)) (n+2) Q):aj W n0 (cZ e 1 v fun w=>cO e 1 (.slice (some ⟨b,0,none⟩) l cp) w k) h n Q:=by
 refine DX c hv _ ?_
 have fj:(h.set n (some ⟨e,true,[v]⟩)).get b=some ⟨e,true,cs⟩:=by rw[aK _ _ (by omega)];exact hg
 exact Rp c (news:=[v]) (olds:=cs) ⟨n,0,1,⟨e,true,[v]⟩,rfl,get_eq _ _ _,fp n,by simp,by simp⟩ (by simp) (by simp[hv]) fj (by omega) 0 l (by omega) (by rw[eJ,<-hl,j7]) hm hc hw k y
theorem Rq {T:Prop} (c:T) {e:TypeId} {v:Value} (hv:one v=true) (k:Value->M β)
 (y:aj W n0 (k (.slice (some ⟨n+1,0,none⟩) 1 (bc+1))) ((h.set n (some ⟨e,true,[v]⟩)).set (n+1) (some ⟨e,true,[v]⟩)) (n+2) Q):aj W n0 (cZ e 1 v fun w=>cO e 1 (.slice none 0 0) w k) h n Q:=by
 refine DX c hv _ ?_
 exact Ro c (news:=[v]) ⟨n,0,1,⟨e,true,[v]⟩,rfl,get_eq _ _ _,fp n,by simp,by simp⟩ (by simp) (by simp) (by simp[hv]) k y
theorem JQ(d:Nat):er none d=some d:=rfl
theorem D4 {T T':Prop} (c:T) {e:TypeId} {b:Nat} {B:AB} (hg:h.get b=some B) (he:B.elem=e) (hb:b<n) (off len cp:Nat) (lo hi:Option Value) {l hh:Nat} (mc:er lo 0=some l) (CR:er hi len=some hh) (h1:l<=hh) (h2:hh<=len) (h3:len<=cp) (k:Value->M β) (_:T')
 (y:aj W n0 (k (.slice (some ⟨b,if cp=l then off else off+l,none⟩) (hh-l) (cp-l))) h n Q):aj W n0 (rA e 1 (.slice (some ⟨b,off,none⟩) len cp) lo hi k) h n Q:=by
 refine kT ?_
 have e1:((Ao b).bind fun e'=>match bK e' e with
  |true=>M.lift (vr 1 (some ⟨b,off,none⟩) len cp lo hi)
  |false=> .fail) h n=some ⟨.slice (some ⟨b,if cp=l then off else off+l,none⟩) (hh-l) (cp-l),h,n,[⟨false,b,some 1099511627776⟩]++[]⟩:=by
  rw[ym]
  refine bZ (D1 hg hb) ?_
  rw[he,zM]
  simp only
  unfold vr
  simp only[mc,CR]
  have:(decide (l<=hh)&&decide (hh<=cp)&&decide (cp<=cp)&&(decide (cp<bc)||(none:Option Value).isNone&&decide (hh<=len)))=true:=by simp;omega
  simp only[this,if_true,xL]
  rfl
 obtain⟨L',e2,e3⟩:=DW (W:=W) (n0:=n0) e1 (by simp)
 exact aj.step e2 (av _) e3 y
theorem AE(k:IntKind)(x d:Nat):er (some (.int k (x:Int))) d=some x:=by unfold er;simp
theorem Rr{P:Program}(hd:mZ P=true){gt:Nat->Hint}{lf d:Nat}{f:FuncId}{args:Array Value}{v:Value}{L:List En}(e:au P gt lf d f args h n=some ⟨v,h1,n1,L⟩){W':Nat->Prop}(hw:∀e∈L,e.wr=true->n<=e.b∨W' e.b):∀b,b<n->¬W' b->h1.get b=h.get b:=by
 obtain⟨f0,e0⟩:=JG hd d f args h n v h1 n1 L e
 have A:=Loc.cS P KN f0 f args h n v h1 n1 L (e0 f0 (av _))
 intro b hb hn
 refine HH fun k=>A.frame b k ?_ (by omega)
 rintro⟨e,he,h2,h3,_⟩
 rcases hw e he h2 with q|q
 ·omega
 ·exact hn (h3▸q)
theorem bh {P:Program} (hd:mZ P=true) {gt:Nat->Hint} {lf d:Nat} {f:FuncId} {vs:List Value} {W':Nat->Prop} {Q':Value->H->Nat->Prop} (s:aj W' n (au P gt lf d f ⟨vs⟩) h n Q') (hn:n0<=n) (hW:∀b,b<n->W' b->n0<=b∨W b) {k:Value->M β}
 (x:∀v h1 n1,n<=n1->(∀b,b<n->¬W' b->h1.get b=h.get b)->Q' v h1 n1->aj W n0 (k v) h1 n1 Q):aj W n0 (az (au P gt lf d) f vs k) h n Q:=by
 obtain⟨v,h1,n1,L,e1,e2,e3,e4⟩:=s
 refine kT (m:=au P gt lf d f ⟨vs⟩) (aj.step (kq e1) e2 (fun e he mQ=> ?_) (x v h1 n1 e2 (Rr hd e1 e3) e4))
 have hL:=(List.mem_filter.1 he).1
 rcases e3 e hL mQ with q|q
 ·exact .inl (by omega)
 ·by_cases bf:e.b<n
  ·exact hW _ bf q
  ·exact .inl (by omega)
end
section
variable {β:Type} {W:Nat->Prop} {n0:Nat} {h h1:H} {n n1:Nat} {Q:β->H->Nat->Prop}
theorem aee{T:Prop}(c:T){e:TypeId}(k:Value->M β)(x:aj W n0 (k (.slice (some ⟨n,0,none⟩) 0 0)) (h.set n (some ⟨e,true,[]⟩)) (n+1) Q):aj W n0 (rz e [] 0 [] k) h n Q:=
 kT (vA (tn _ _ (fun id=>jH (some ⟨id,0,none⟩) 0 0) _ _) (cX n) x)
theorem tw(m:M β):iy true m=m:=rfl
theorem D5{m:M Value}{v:Value}{L:List En}{k:Value×Tk->M β}(e:m h n=some ⟨v,h1,n1,L⟩)(hn:n<=n1)(hw:∀e∈L,e.wr=true->n0<=e.b∨W e.b)(x:aj W n0 (k (v,⟨n,n1,L⟩)) h1 n1 Q):aj W n0 ((aV m).bind k) h n Q:=
 aj.step (PH e) hn hw x
theorem aef{m:M Value}{v:Value}{L:List En}(e:m h n=some ⟨v,h1,n1,L⟩):(m.bind fun v=>M.ret v) h n=some ⟨v,h1,n1,L⟩:=by
 have:=bZ (f:=fun v=>M.ret v) e (L2:=[]) (b:=v) (h2:=h1) (n2:=n1) rfl
 rwa[dr]at this
theorem D6{m:M Value}{v:Value}{L:List En}(e:m h n=some ⟨v,h1,n1,L⟩):(eO m M.ret) h n=some ⟨v,h1,n1,L.filter fun e=> !(decide (n<=e.b)&&decide (e.b<n1))⟩:=by
 rw[pc]
 exact aef (kq e)
theorem AF{T:Prop}(_:T)(b off:Nat)(k:Value×Tk->M β){B:AB}(hg:h.get b=some B)(hb:b<n){v:Value}(hv:B.cells[off]? =some v)(x:aj W n0 (k (v,⟨n,n,[⟨false,b,some off⟩]⟩)) h n Q):aj W n0 ((aV (ay (.pointer (some ⟨b,off,none⟩)) M.ret)).bind k) h n Q:=by
 have e:yl b off h n=some ⟨v,h,n,[⟨false,b,some off⟩]⟩:=by
  rw[Dp]
  unfold rd
  simp only[hb,hg,hv,if_true]
 have e2:=D6 e
 have hf:[(⟨false,b,some off⟩:En)].filter (fun e=> !(decide (n<=e.b)&&decide (e.b<n)))=[⟨false,b,some off⟩]:=by
  simp;omega
 rw[hf]at e2
 exact D5 e2 (av _) (by simp) x
theorem Rs{T:Prop}(_:T){t:TypeId}(v:Value)(k:Value×Tk->M β)(x:aj W n0 (k (.pointer (some ⟨n,0,none⟩),⟨n,n+1,[]⟩)) (h.set n (some ⟨t,true,v.cells.toList⟩)) (n+1) Q):aj W n0 ((aV (jt t v M.ret)).bind k) h n Q:=by
 rw[<-o4]at x
 exact D5 (D6 (tn t (dC v) (fun id=>zO (some ⟨id,0,none⟩)) h n)) (cX n) (by simp) x
theorem D7 {P:Program} (hd:mZ P=true) {gt:Nat->Hint} {lf d:Nat} {f:FuncId} {vs:List Value} {W':Nat->Prop} {Q':Value->H->Nat->Prop} (s:aj W' n (au P gt lf d f ⟨vs⟩) h n Q') (hn:n0<=n) (hW:∀b,b<n->W' b->n0<=b∨W b) {k:Value×Tk->M β}
 (x:∀v h1 n1 L,n<=n1->(∀b,b<n->¬W' b->h1.get b=h.get b)->Q' v h1 n1->(∀e∈L,e.b<n)->(∀e∈L,e.wr=true->W' e.b)->aj W n0 (k (v,⟨n,n1,L⟩)) h1 n1 Q):aj W n0 ((aV (az (au P gt lf d) f vs M.ret)).bind k) h n Q:=by
 obtain⟨v,h1,n1,L,e1,e2,e3,e4⟩:=s
 obtain⟨f0,e0⟩:=JG hd d f ⟨vs⟩ h n v h1 n1 L e1
 have A:=Loc.cS P KN f0 f ⟨vs⟩ h n v h1 n1 L (e0 f0 (av _))
 have bf:∀e∈L.filter (fun e=> !(decide (n<=e.b)&&decide (e.b<n1))),e.b<n:=fun e he=>by
  obtain⟨h1,h2⟩:=List.mem_filter.1 he
  have:=A.lt e h1
  simp at h2
  omega
 have mQ:∀e∈L.filter (fun e=> !(decide (n<=e.b)&&decide (e.b<n1))),e.wr=true->W' e.b:=fun e he hw=>by
  rcases e3 e (List.mem_filter.1 he).1 hw with q|q
  ·have:=bf e he;omega
  ·exact q
 exact D5 (D6 e1) e2 (fun e he hw=>hW _ (bf e he) (mQ e he hw)) (x v h1 n1 _ e2 (Rr hd e1 e3) e4 bf mQ)
theorem aeg{a:Tk}{b k n2:Nat}(ha:∀e∈a.log,e.wr=false)(hb:b<a.n):a.iQ ⟨n2,n2,[⟨false,b,some k⟩]⟩=false:=by
 unfold Tk.iQ
 simp only[xJ]
 refine⟨⟨⟨any_false fun x hx=>by rw[ha x hx];rfl,any_false fun x hx=> ?_⟩,any_false fun x hx=> ?_⟩,any_false fun x hx=> ?_⟩
 ·simp only[Ct,Cu,or_false]at hx;subst hx;rfl
 ·first|(simp;done)|(simp;omega)
 ·simp only[Ct,Cu,or_false]at hx;subst hx;first|(simp;done)|(simp;omega)
end
section
variable {β:Type} {W:Nat->Prop} {n0:Nat} {h h1:H} {n n1:Nat} {Q:β->H->Nat->Prop}
def aD(v:Value)(b:Nat):Prop:=∃o l c,v= .slice (some ⟨b,o,none⟩) l c
def Own(h:H)(lo n:Nat)(e:TypeId)(v:Value)(cs:List Value):Prop:=(v= .slice none 0 0∧cs=[])∨∃b,v= .slice (some ⟨b,0,none⟩) cs.length (bc+cs.length)∧h.get b=some ⟨e,true,cs⟩∧lo<=b∧b<n
theorem Own.nil(h:H)(lo n:Nat)(e:TypeId):Own h lo n e (.slice none 0 0) []:= .inl ⟨rfl,rfl⟩
theorem aD.inj{b c o l k:Nat}(h:aD (.slice (some ⟨b,o,none⟩) l k) c):c=b:=by
 obtain⟨_,_,_,h⟩:=h
 cases h
 rfl
theorem aD.not_nil{l k c:Nat}(h:aD (.slice none l k) c):False:=by
 obtain⟨_,_,_,h⟩:=h
 cases h
theorem Own.lt{lo:Nat}{e:TypeId}{v:Value}{cs:List Value}(o:Own h lo n e v cs){b:Nat}(hb:aD v b):lo<=b∧b<n:=by
 rcases o with ⟨rfl,_⟩|⟨c,rfl,_,h1,h2⟩
 ·exact hb.not_nil.elim
 ·rw[hb.inj];exact⟨h1,h2⟩
theorem Own.aB{lo:Nat}{e:TypeId}{v:Value}{cs:List Value}{h':H}{n':Nat}(o:Own h lo n e v cs)(hn:n<=n')(hk:∀b,aD v b->h'.get b=h.get b):Own h' lo n' e v cs:=by
 rcases o with q|⟨c,rfl,hc,h1,h2⟩
 ·exact .inl q
 ·exact .inr ⟨c,rfl,(hk c ⟨_,_,_,rfl⟩).trans hc,h1,by omega⟩
theorem Own.low{lo l5:Nat}{e:TypeId}{v:Value}{cs:List Value}(o:Own h lo n e v cs)(hl:l5<=lo):Own h l5 n e v cs:=by
 rcases o with q|⟨c,hv,hc,h1,h2⟩
 ·exact .inl q
 ·exact .inr ⟨c,hv,hc,by omega,h2⟩
theorem m4 {T:Prop} (c:T) {e:TypeId} {x:Value} (hx:one x=true) {lo:Nat} {v:Value} {cs:List Value} (o:Own h lo n e v cs) (hm:cs.length+1<=1099511627776) (mc:n0<=lo) (k:Value->M β)
 (y:∀h',h'.get (n+1)=some ⟨e,true,cs++[x]⟩->(∀b,b<n->¬aD v b->h'.get b=h.get b)->aj W n0 (k (.slice (some ⟨n+1,0,none⟩) (cs.length+1) (bc+(cs.length+1)))) h' (n+2) Q):aj W n0 (cZ e 1 x fun w=>cO e 1 v w k) h n Q:=by
 rcases o with ⟨rfl,rfl⟩|⟨b,rfl,hb,h1,h2⟩
 ·exact Rq c hx k (y _ (get_eq _ _ _) fun b hb _=>by rw[aK _ _ (by omega),aK _ _ (by omega)])
 ·refine D3 c hx hb h2 rfl hm (by omega) (.inl (by omega)) k (y _ (get_eq _ _ _) fun c hc hn=> ?_)
  have:c≠b:=fun e=>hn ⟨0,_,_,by rw[e]⟩
  rw[aK _ _ (by omega),aK _ _ this,aK _ _ (by omega)]
theorem Own.mk'{lo b:Nat}{e:TypeId}{cs:List Value}(hg:h.get b=some ⟨e,true,cs⟩)(h1:lo<=b)(h2:b<n){l:Nat}(hl:l=cs.length):Own h lo n e (.slice (some ⟨b,0,none⟩) l (bc+l)) cs:= .inr ⟨b,by rw[hl],hg,h1,h2⟩
def aJ(k:IntKind)(xs:List Int):List Value:=xs.map (Value.int k)
theorem cT(k:IntKind)(xs:List Int):(aJ k xs).length=xs.length:=by unfold aJ;simp
theorem JR{k:IntKind}{xs:List Int}{i:Nat}(h:i<xs.length):(aJ k xs)[i]? =some (.int k (xs.getD i 0)):=by
 unfold aJ;simp[h]
theorem JS(k:IntKind)(xs:List Int):(aJ k xs).all one=true:=by
 unfold aJ;simp[one]
def Row(h:H)(n:Nat)(e:TypeId)(k:IntKind)(v:Value)(xs:List Int):Prop:=
 (∃a c,v= .slice a 0 c∧(∀b o,a≠some ⟨b,o,none⟩)∧xs=[])∨∃b off cap o cs,v= .slice (some ⟨b,off,none⟩) xs.length cap∧h.get b=some ⟨e,o,cs⟩∧b<n∧off+xs.length<=cs.length∧(cs.drop off).take xs.length=aJ k xs∧xs.length<=cap
theorem Row.aB{e:TypeId}{k:IntKind}{v:Value}{xs:List Int}{h':H}{n':Nat}(r:Row h n e k v xs)(hn:n<=n')(hk:∀b,b<n->h'.get b=h.get b):Row h' n' e k v xs:=by
 rcases r with q|⟨b,off,cap,o,cs,hv,hg,hb,r⟩
 ·exact .inl q
 ·exact .inr ⟨b,off,cap,o,cs,hv,(hk b hb).trans hg,by omega,r⟩
theorem Row.fI{e:TypeId}{k:IntKind}{v:Value}{xs:List Int}{h':H}{n':Nat}(r:Row h n e k v xs)(hn:n<=n')(hk:∀b,aD v b->h'.get b=h.get b):Row h' n' e k v xs:=by
 rcases r with q|⟨b,off,cap,o,cs,hv,hg,hb,r⟩
 ·exact .inl q
 ·exact .inr ⟨b,off,cap,o,cs,hv,(hk b ⟨_,_,_,hv⟩).trans hg,by omega,r⟩
theorem Row.lt{e:TypeId}{k:IntKind}{v:Value}{xs:List Int}(r:Row h n e k v xs){b:Nat}(hb:aD v b):b<n:=by
 rcases r with ⟨a,c,rfl,bE,_⟩|⟨c,off,cap,o,cs,rfl,hg,ko,_⟩
 ·obtain⟨o,l,k,q⟩:=hb
  cases q
  exact absurd rfl (bE b o)
 ·rw[hb.inj];exact ko
theorem Row.some{e:TypeId}{k:IntKind}{v:Value}{xs:List Int}(r:Row h n e k v xs)(h0:0<xs.length):∃b off cap o cs,v= .slice (some ⟨b,off,none⟩) xs.length cap∧h.get b=some ⟨e,o,cs⟩∧b<n∧off+xs.length<=cs.length∧(cs.drop off).take xs.length=aJ k xs∧xs.length<=cap∧∀i,i<xs.length->cs[off+i]? =some (.int k (xs.getD i 0)):=by
 rcases r with ⟨a,c,_,_,rfl⟩|⟨b,off,cap,o,cs,hv,hg,hb,hl,ht,hc⟩
 ·simp at h0
 ·refine⟨b,off,cap,o,cs,hv,hg,hb,hl,ht,hc,fun i hi=> ?_⟩
  have:=congrArg (fun z=>z[i]?) ht
  simp only[List.getElem?_take,hi,if_true,List.getElem?_drop]at this
  rw[this,JR hi]
theorem Row.len{e:TypeId}{k:IntKind}{v:Value}{xs:List Int}(r:Row h n e k v xs):∃a c,v= .slice a xs.length c:=by
 rcases r with ⟨a,c,rfl,_,rfl⟩|⟨b,off,cap,o,cs,rfl,_⟩
 ·exact⟨a,c,rfl⟩
 ·exact⟨_,cap,rfl⟩
theorem Own.row{lo:Nat}{e:TypeId}{k:IntKind}{v:Value}{xs:List Int}(o:Own h lo n e v (aJ k xs)):Row h n e k v xs:=by
 rcases o with ⟨rfl,q⟩|⟨b,rfl,hg,_,hb⟩
 ·exact .inl ⟨none,0,rfl,fun _ _ q=>(nomatch q),by unfold aJ at q;simpa using q⟩
 ·rw[cT]
  exact .inr ⟨b,0,bc+xs.length,true,_,rfl,hg,hb,by rw[cT];omega,by rw[eJ,hH (by rw[cT];omega)],by omega⟩
theorem Row.src{e:TypeId}{k:IntKind}{v:Value}{xs:List Int}(r:Row h n e k v xs)(h0:0<xs.length):Src h n v (aJ k xs):=by
 obtain⟨b,off,cap,o,cs,hv,hg,hb,hl,ht,hc,_⟩:=r.some h0
 exact⟨b,off,cap,⟨e,o,cs⟩,by rw[hv,cT],hg,hb,by rw[cT];exact hl,by rw[cT];exact ht⟩
theorem JT {T:Prop} (c:T) {e:TypeId} {lo:Nat} {v w:Value} {cs:List Value} {k:IntKind} {ys:List Int} {e':TypeId} (o:Own h lo n e v cs) (r:Row h n e' k w ys) (hm:cs.length+ys.length<=1099511627776) (mc:n0<=lo) (ml:lo<=n) (kk:Value->M β)
 (y:∀v' h' n',n<=n'->Own h' lo n' e v' (cs++aJ k ys)->(∀b,aD v' b->aD v b∨n<=b)->(∀b,b<n->¬aD v b->h'.get b=h.get b)->aj W n0 (kk v') h' n' Q):aj W n0 (cO e 1 v w kk) h n Q:=by
 by_cases h0:ys.length=0
 ·have hy:ys=[]:=List.length_eq_zero_iff.1 h0
  subst hy
  obtain⟨a,cp,hw⟩:=r.len
  have hl:gO w=some 0:=by rw[hw];rfl
  obtain⟨a',l',c',hv⟩:∃a l c,v= .slice a l c:=by
   rcases o with ⟨rfl,_⟩|⟨b,rfl,_⟩
   ·exact⟨_,_,_,rfl⟩
   ·exact⟨_,_,_,rfl⟩
  subst hv
  refine Rn (news:=[]) c hl a' l' c' kk ?_
  exact y _ h n (av n) (by simpa[aJ]using o) (fun b hb=> .inl hb) (fun b _ _=>rfl)
 ·have s:=r.src (by omega)
  have hl:=cT k ys
  rcases o with ⟨rfl,rfl⟩|⟨b,rfl,hg,h1,h2⟩
  ·refine Ro c s (by omega) (by rw[hl];simp at hm;omega) (JS k ys) kk ?_
   refine y _ _ (n+1) (cX n) (.inr ⟨n,rfl,by rw[get_eq];simp,ml,fp n⟩) (fun b hb=> .inr (by rw[hb.inj];exact av n)) (fun b hb _=>aK _ _ (by omega))
  ·refine Rp c s (by omega) (JS k ys) hg h2 0 cs.length (by omega) (by rw[eJ,j7]) (by rw[hl];exact hm) (by omega) (.inl (by omega)) kk ?_
   refine y _ _ (n+1) (cX n) (.inr ⟨n,by simp,get_eq _ _ _,ml,fp n⟩) (fun c hc=> .inr (by rw[hc.inj];exact av n)) (fun c hc hn=> ?_)
   have:c≠b:=fun e=>hn ⟨0,_,_,by rw[e]⟩
   rw[aK _ _ (by omega),aK _ _ this]
end
end Go.Proofs.YtdagfcflbphoiaaGreatDoor.Ev
namespace Go.Proofs.YtdagfcflbphoiaaGreatDoor.Ev
open Go Go.RowKit
theorem Rt{w:World}{b off:Nat}{v:Value}(h:w.cell? ⟨b,off,none⟩=some v):∃cs e fr,w.heap[b]? =some (.cells cs e fr)∧cs[off]? =some v:=by
 unfold World.cell? at h
 cases ho:w.heap[b]? with
 |none=>simp[ho]at h
 |some o=>
  cases o with
  |cells cs e fr=>exact⟨cs,e,fr,rfl,by simpa[ho]using h⟩
  |_=>simp[ho]at h
structure Laid (P:Program) (w:World) (m:Mp) (h:H) (n:Nat):Prop where
 wr:WR P m w.heap.size h w.heap
 gl:Gl P m
 fresh:∀b,n<=b->m b=none
 own:∀b B,h.get b=some B->B.own=false
 glo:P.globals.size<=n
theorem aeh{P:Program}{w:World}{g:Nat}(hg:g<P.globals.size){cs:Array Value}{e e':TypeId}{fr:Nat×Nat}(hw:w.heap[g]? =some (.cells cs e' fr)){sz:Nat}(he:size? P e=some sz){vs:List Value}(hl:vs.length<=cs.size)(hv:∀(k:Nat) (v:Value),vs[k]? =some v->cs[k]? =some v∧scalar v=true):
 ∃m,Laid P w m (H.set .nil g (some ⟨e,false,vs⟩)) P.globals.size:=by
 have only:∀b B,(H.set .nil g (some ⟨e,false,vs⟩)).get b=some B->b=g∧B=⟨e,false,vs⟩:=fun b B hb=>by
  by_cases eb:b=g
  ·subst eb
   rw[get_eq]at hb
   cases hb
   exact⟨rfl,rfl⟩
  ·rw[aK _ _ eb]at hb
   unfold H.get at hb
   rw[Tr.get_nil]at hb
   cases hb
 refine⟨fun c=>if c<P.globals.size then some ⟨c,0,cs.size,sz,e'⟩else none,⟨fun b B hb=> ?_,fun b b' B B' d d' hb bO ho=> ?_⟩,fun c hc=>⟨_,if_pos hc,rfl,rfl⟩,fun b hb=>if_neg (by omega),fun b B hb=> ?_,av _⟩
 ·obtain⟨rfl,rfl⟩:=only b B hb
  exact⟨_,cs,fr.1,fr.2,if_pos hg,hw,rfl,by simpa using hl,he,fun q=>(by cases q),fun k v hk=>⟨v,by simpa using (hv k v hk).1,VR.self (hv k v hk).2⟩⟩
 ·obtain⟨rfl,_⟩:=only b B hb
  obtain⟨rfl,_⟩:=only b' B' bO
  exact fun _ _ _=>rfl
 ·obtain⟨_,rfl⟩:=only b B hb
  rfl
theorem aei{P:Program}{w:World}(hG:rf w){g:Nat}(hg:g<P.globals.size){e:TypeId}{sz:Nat}(he:size? P e=some sz){vs:List Value}(h0:0<vs.length)(hk:∀(k:Nat) (v:Value),vs[k]? =some v->(g,k,v)∈KG)(hs:vs.all scalar=true):
 ∃m,Laid P w m (H.set .nil g (some ⟨e,false,vs⟩)) P.globals.size:=by
 have hc:∀(k:Nat) (v:Value),vs[k]? =some v->w.cell? ⟨g,k,none⟩=some v:=fun k v h=>hG _ (hk k v h)
 obtain⟨cs,e',fr,hw,_⟩:=Rt (hc 0 vs[0] (aM h0))
 have iV:∀(k:Nat) (v:Value),vs[k]? =some v->cs[k]? =some v:=fun k v h=>by
  have:=hc k v h
  rwa[uM w _ _ hw]at this
 refine aeh hg hw he ?_ fun k v h=>⟨iV k v h,List.all_eq_true.1 hs v (List.mem_of_getElem? h)⟩
 have:=(Array.getElem?_eq_some_iff.1 (iV (vs.length-1) vs[vs.length-1] (aM (by omega)))).1
 omega
theorem aej{P:Program}{bad:List FuncId}(nX:sE P=true)(cH:qQ P bad=true)(mR:P.follows .mixedOrders=true)(kp:u6 P bad){fuel:Nat}{f:FuncId}{w:World}{m:Mp}{h:H}(x:Laid P w m h P.globals.size)(hr:CU (cS P bad fuel f #[] h P.globals.size)=true):
 Calls P f #[] w fun e w'=>e= .returned (.bool true)∧Below w.heap.size w w':=by
 unfold CU at hr
 split at hr
 ·rename_i o ho
  obtain⟨v,h1,n1,L⟩:=o
  simp only at hr
  split at hr
  ·rename_i b hb
   subst hr
   refine(Pu nX cH mR kp fuel f #[] h P.globals.size _ h1 n1 L m w #[] ho x.wr (av w.heap.size) .nil (fun b h1 _=>x.fresh b h1) x.gl).mono ?_
   rintro e w' ⟨m',v',rfl,hp,hv⟩
   refine⟨?_,hp.below⟩
   cases hv
   rfl
  ·cases hr
 ·cases hr
theorem aek {P:Program} (nX:sE P=true) (cH:qQ P KN=true) (mR:P.follows .mixedOrders=true) (kp:u6 P KN) (hd:mZ P=true) {w:World} {m:Mp} {h:H} {n:Nat} (x:Laid P w m h n) {gt:Nat->Hint} {lf d:Nat} {f:FuncId} {args ej:Array Value} (ha:ba m args.toList ej.toList)
 (r:aj (fun _=>False) n (au P gt lf d f args) h n fun v _ _=>v= .bool true):Calls P f ej w fun e w'=>e= .returned (.bool true)∧Below w.heap.size w w':=by
 obtain⟨v,h1,n1,L,e1,hn,_,rfl⟩:=r
 obtain⟨f0,vB⟩:=JG hd d f args h n _ h1 n1 L e1
 refine(Pu nX cH mR kp f0 f args h n _ h1 n1 L m w ej (vB f0 (av _)) x.wr (av _) ha (fun b hb _=>x.fresh b hb) x.gl).mono ?_
 rintro e w' ⟨m',v',rfl,hp,hv⟩
 refine⟨?_,hp.below⟩
 cases hv
 rfl
end Go.Proofs.YtdagfcflbphoiaaGreatDoor.Ev
namespace Go.Proofs.YtdagfcflbphoiaaGreatDoor.Ev
open Go
abbrev V3:=Value×Value×Value
def jR:List V3->List Value
 |[]=>[]
 |t::l=>t.1::t.2.1::t.2.2::jR l
def rF(t:V3):Value:= .agg #[t.1,t.2.1,t.2.2]
theorem JU:∀l:List V3,(jR l).length=l.length*3
 |[]=>rfl
 |t::l=>by simp only[jR,dI,JU l];omega
theorem Ru:∀a b:List V3,jR (a++b)=jR a++jR b
 |[],b=>rfl
 |t::a,b=>by simp only[List.cons_append,jR,Ru a b]
theorem AG:∀(l:List V3) (i:Nat) (h:i<l.length),((jR l).drop (i*3)).take 3=[l[i].1,l[i].2.1,l[i].2.2]
 |[],i,h=>by simp at h
 |t::l,0,h=>by simp[jR]
 |t::l,i+1,h=>by
  have:=AG l i (by simpa using h)
  rw[show(i+1)*3=i*3+3 by omega]
  simp only[jR,List.getElem_cons_succ]
  rw[<-this]
  rfl
def JV(t:V3):Prop:=one t.1=true∧one t.2.1=true∧one t.2.2=true
section
variable {β:Type} {W:Nat->Prop} {n0:Nat} {h:H} {n:Nat} {Q:β->H->Nat->Prop} {e:TypeId}
theorem JW{sz:Nat}(b off:Nat)(k:Value->M β){B:AB}(hg:h.get b=some B)(hb:b<n)(hl:off+sz<=B.cells.length)(x:aj W n0 (k (.agg ((B.cells.drop off).take sz).toArray)) h n Q):aj W n0 (fa sz (.pointer (some ⟨b,off,none⟩)) k) h n Q:=by
 obtain⟨L,e1,e2⟩:=tt hg hb sz off hl
 refine kT ?_
 have e:((jr b off sz).bind fun vs=>M.ret (Hp ⟨vs⟩)) h n=some ⟨.agg ((B.cells.drop off).take sz).toArray,h,n,L++[]⟩:=by
  rw[rq]
  exact bZ e1 rfl
 obtain⟨L',e3,e4⟩:=DW (W:=W) (n0:=n0) e (by simpa using e2)
 exact aj.step e3 (av _) e4 x
theorem yC{T:Prop}(_:T){b off:Nat}{B:AB}(hg:h.get b=some B)(hb:b<n){x:V3}(hv:(B.cells.drop off).take 3=[x.1,x.2.1,x.2.2])(k:Value->M β)(y:aj W n0 (k (rF x)) h n Q):aj W n0 (fa 3 (.pointer (some ⟨b,off,none⟩)) k) h n Q:=by
 have hlen:off+3<=B.cells.length:=by
  have:=congrArg List.length hv
  simp only[List.length_take,List.length_drop,dI,List.length_nil]at this
  omega
 refine JW b off k hg hb hlen ?_
 rw[hv]
 exact y
theorem Rv:∀(vs:List Value) (b off:Nat) (e:TypeId) (cs:List Value) (h:H) (n:Nat),h.get b=some ⟨e,true,cs⟩->b<n->off+vs.length<=cs.length->vs.all one=true->
 ∃h' L,ez b off vs h n=some ⟨(),h',n,L⟩∧h'.get b=some ⟨e,true,cs.take off++vs++cs.drop (off+vs.length)⟩∧(∀c,c≠b->h'.get c=h.get c)∧∀x∈L,x.b=b
 |[],b,off,e,cs,h,n,hg,hb,hl,_=>⟨h,[],rfl,by simpa using hg,fun _ _=>rfl,by simp⟩
 |v::vs,b,off,e,cs,h,n,hg,hb,hl,h1=>by
  simp only[List.all_cons,cb]at h1
  simp only[dI]at hl
  have hw:wr b off v h n=some ⟨(),h.set b (some ⟨e,true,cs.set off v⟩),n,[⟨false,b,some off⟩,⟨true,b,some off⟩]⟩:=by
   unfold wr
   have:off<cs.length:=by omega
   simp[hb,hg,this,h1.1]
  obtain⟨h',L,e1,e2,e3,e4⟩:=Rv vs b (off+1) e (cs.set off v) (h.set b (some ⟨e,true,cs.set off v⟩)) n (get_eq _ _ _) hb (by simp;omega) h1.2
  refine⟨h',_,bZ hw e1, ?_,fun c hc=>(e3 c hc).trans (aK _ _ hc),fun x hx=> ?_⟩
  ·rw[e2]
   congr 2
   have ha:(cs.set off v).take (off+1)=cs.take off++[v]:=by
    rw[List.take_set,List.take_succ_eq_append_getElem (by omega),List.set_append_right _ _ (by simp;omega)]
    simp[Nat.min_eq_left (show off<=cs.length by omega)]
   have hd:(cs.set off v).drop (off+1+vs.length)=cs.drop (off+(v::vs).length):=by
    rw[List.drop_set_of_lt (by omega)]
    congr 1
    simp only[dI];omega
   rw[ha,hd]
   simp
  ·rcases Ou.1 hx with q|q
   ·simp at q;rcases q with rfl|rfl<;>rfl
   ·exact e4 x q
theorem qj {T:Prop} (_:T) {sz b off:Nat} {e:TypeId} {cs vs:List Value} {v:Value} (hv:v= .agg vs.toArray) (hl:vs.length=sz) (h1:vs.all one=true) (hg:h.get b=some ⟨e,true,cs⟩) (hb:b<n) (ho:off+sz<=cs.length) (hw:n0<=b∨W b) (k:Value->M β)
 (x:∀h',h'.get b=some ⟨e,true,cs.take off++vs++cs.drop (off+sz)⟩->(∀c,c≠b->h'.get c=h.get c)->aj W n0 (k undef) h' n Q):aj W n0 (fb sz (.pointer (some ⟨b,off,none⟩)) v k) h n Q:=by
 obtain⟨h',L,e1,e2,e3,e4⟩:=Rv vs b off e cs h n hg hb (by omega) h1
 subst hv
 have d:fb sz (.pointer (some ⟨b,off,none⟩)) (.agg vs.toArray) k=eO ((qf b off vs).bind fun _=> .ret undef) k:=by
  show(match bK (eW vs) sz with
   |true=>eO ((qf b off vs).bind fun _=> .ret undef) k
   |false=> .fail)=_
  rw[mh,hl,zM]
 rw[d]
 refine kT ?_
 have e5:((qf b off vs).bind fun _=>M.ret undef) h n=some ⟨undef,h',n,L++[]⟩:=by
  rw[Dr]
  exact bZ e1 rfl
 refine aj.step (kq e5) (av _) (fun y hy dS=> ?_) (x h' (by rw[e2,hl]) e3)
 have:=(List.mem_filter.1 hy).1
 rw[dr]at this
 rw[e4 y this]
 exact hw
theorem JX{T:Prop}(_:T){z:List Value}(x:V3)(hx:JV x)(k:Value->M β)(y:∀h',h'.get n=some ⟨e,true,[x.1,x.2.1,x.2.2]⟩->(∀b,b<n->h'.get b=h.get b)->aj W n0 (k (.pointer (some ⟨n,0,none⟩))) h' (n+1) Q)(hn:n0<=n)(hz:z.length=3:=by rfl):
 aj W n0 (iW e z fun p=>fb 3 p (rF x) fun _=>k p) h n Q:=by
 refine kU rfl _ ?_
 refine qj trivial (vs:=[x.1,x.2.1,x.2.2]) rfl rfl (by simp[hx.1,hx.2.1,hx.2.2]) (get_eq _ _ _) (fp n) (by rw[hz];exact av _) (.inl hn) _ fun h' g1 g2=> ?_
 refine y h' ?_ fun b hb=>by rw[g2 b (by omega),aK _ _ (by omega)]
 rw[g1]
 simp[hz]
def en(h:H)(lo n:Nat)(e:TypeId)(v:Value)(ts:List V3):Prop:=(v= .slice none 0 0∧ts=[])∨∃b,v= .slice (some ⟨b,0,none⟩) ts.length (bc+ts.length)∧h.get b=some ⟨e,true,jR ts⟩∧lo<=b∧b<n
theorem en.nil(h:H)(lo n:Nat)(e:TypeId):en h lo n e (.slice none 0 0) []:= .inl ⟨rfl,rfl⟩
theorem en.aB{lo:Nat}{v:Value}{ts:List V3}{h':H}{n':Nat}(o:en h lo n e v ts)(hn:n<=n')(hk:∀b,aD v b->h'.get b=h.get b):en h' lo n' e v ts:=by
 rcases o with q|⟨c,rfl,hc,h1,h2⟩
 ·exact .inl q
 ·exact .inr ⟨c,rfl,(hk c ⟨_,_,_,rfl⟩).trans hc,h1,by omega⟩
theorem en.lt{lo:Nat}{v:Value}{ts:List V3}(o:en h lo n e v ts){b:Nat}(hb:aD v b):lo<=b∧b<n:=by
 rcases o with ⟨rfl,_⟩|⟨c,rfl,_,h1,h2⟩
 ·exact hb.not_nil.elim
 ·rw[hb.inj];exact⟨h1,h2⟩
theorem en.low{lo l5:Nat}{v:Value}{ts:List V3}(o:en h lo n e v ts)(hl:l5<=lo):en h l5 n e v ts:=by
 rcases o with q|⟨c,hv,hc,h1,h2⟩
 ·exact .inl q
 ·exact .inr ⟨c,hv,hc,by omega,h2⟩
theorem en.len{lo:Nat}{v:Value}{ts:List V3}(o:en h lo n e v ts):∃a c,v= .slice a ts.length c:=by
 rcases o with ⟨rfl,rfl⟩|⟨b,rfl,_⟩
 ·exact⟨none,0,rfl⟩
 ·exact⟨_,_,rfl⟩
theorem JY {T:Prop} (_:T) {x:V3} (hx:JV x) {lo:Nat} {v:Value} {ts:List V3} (o:en h lo n e v ts) (hm:ts.length+1<=1099511627776) (mc:n0<=lo) (ml:lo<=n) (k:Value->M β)
 (y:∀v' h',en h' lo (n+2) e v' (ts++[x])->(∀b,aD v' b->n<=b)->(∀b,b<n->¬aD v b->h'.get b=h.get b)->aj W n0 (k v') h' (n+2) Q):aj W n0 (cZ e 3 (rF x) fun w=>cO e 3 v w k) h n Q:=by
 have d:∀K:Value->M β,cZ e 3 (rF x) K=eO ((kv e [x.1,x.2.1,x.2.2]).bind fun id=>M.ret (jH (some ⟨id,0,none⟩) 1 1)) K:=fun K=>by
  unfold cZ
  rw[show bK (eW (dC (rF x))) 3=true by rw[mh];rfl]
  rfl
 rw[d]
 refine kT (vA (tn _ _ (fun id=>jH (some ⟨id,0,none⟩) 1 1) _ _) (cX n) ?_)
 have kV:(h.set n (some ⟨e,true,[x.1,x.2.1,x.2.2]⟩)).get n=some ⟨e,true,[x.1,x.2.1,x.2.2]⟩:=get_eq _ _ _
 obtain⟨L,r1,r2⟩:=tt (n:=n+1) kV (fp n) 3 0 (by simp)
 have r1:j8 3 1 (.slice (some ⟨n,0,none⟩) 1 1) (h.set n (some ⟨e,true,[x.1,x.2.1,x.2.2]⟩)) (n+1)=some ⟨[x.1,x.2.1,x.2.2],h.set n (some ⟨e,true,[x.1,x.2.1,x.2.2]⟩),n+1,L⟩:=by
  unfold j8
  simpa using r1
 have zW:([x.1,x.2.1,x.2.2]).all one=true:=by simp[hx.1,hx.2.1,hx.2.2]
 refine kT ?_
 rcases o with ⟨rfl,rfl⟩|⟨b,rfl,hb,h1,h2⟩
 ·have ea:mY e 3 (.slice none 0 0) (.slice (some ⟨n,0,none⟩) 1 1) (h.set n (some ⟨e,true,[x.1,x.2.1,x.2.2]⟩)) (n+1)=some ⟨.slice (some ⟨n+1,0,none⟩) 1 (bc+1),(h.set n (some ⟨e,true,[x.1,x.2.1,x.2.2]⟩)).set (n+1) (some ⟨e,true,[x.1,x.2.1,x.2.2]⟩),n+2,L++([]++[])⟩:=by
   unfold mY
   rw[vm,mg]
   simp only[gO]
   rw[if_neg (by omega),if_pos (by omega)]
   refine bZ r1 ?_
   rw[if_pos (by rw[zW];rfl)]
   exact bZ (yA _ _ _ _) rfl
  refine aj.step (kq ea) (by omega) (fun y hy dS=> ?_) (y _ _ (.inr ⟨n+1,rfl,by rw[get_eq];rfl,by omega,by omega⟩) (fun b hb=>by rw[hb.inj];omega) (fun b hb _=>by rw[aK _ _ (by omega),aK _ _ (by omega)]))
  have:=(List.mem_filter.1 hy).1
  simp at this
  rw[r2 y this]at dS
  cases dS
 ·have bO:(h.set n (some ⟨e,true,[x.1,x.2.1,x.2.2]⟩)).get b=some ⟨e,true,jR ts⟩:=by rw[aK _ _ (by omega)];exact hb
  have ko:b<n+1:=by omega
  obtain⟨L',s1,s2⟩:=tt (n:=n+1) bO ko (ts.length*3) 0 (by rw[JU];simp)
  rw[eJ,hH (by rw[JU];exact av _)]at s1
  have ea:∃L1,mY e 3 (.slice (some ⟨b,0,none⟩) ts.length (bc+ts.length)) (.slice (some ⟨n,0,none⟩) 1 1) (h.set n (some ⟨e,true,[x.1,x.2.1,x.2.2]⟩)) (n+1)=some ⟨.slice (some ⟨n+1,0,none⟩) (ts.length+1) (bc+(ts.length+1)),((h.set n (some ⟨e,true,[x.1,x.2.1,x.2.2]⟩)).set b none).set (n+1) (some ⟨e,true,jR ts++[x.1,x.2.1,x.2.2]⟩),n+2,L1⟩∧∀y∈L1,y.wr=true->y.b=b:=by
   refine⟨[⟨false,b,some 1099511627776⟩]++(L++(L'++([⟨false,b,none⟩,⟨true,b,none⟩]++([]++[])))), ?_, ?_⟩
   ·unfold mY Aw
    rw[vm,mg,ym,IJ,rq]
    simp only[gO]
    rw[if_neg (by omega),if_pos hm]
    refine bZ (D1 bO ko) ?_
    simp only[if_true]
    refine bZ r1 ?_
    rw[if_pos (by rw[zW];rfl)]
    rw[if_neg (by omega)]
    refine bZ s1 (bZ (Rm bO rfl ko) ?_)
    exact bZ (yA _ _ _ _) rfl
   ·intro y hy dS
    simp only[dr,Ou,Ct,Cu,or_false]at hy
    rcases hy with rfl|hy|hy|rfl|rfl
    ·cases dS
    ·rw[r2 y hy]at dS;cases dS
    ·rw[s2 y hy]at dS;cases dS
    ·cases dS
    ·rfl
  obtain⟨L1,ea,tu⟩:=ea
  refine aj.step (kq ea) (by omega) (fun y hy dS=> .inl ?_) (y _ _ (.inr ⟨n+1,by simp, ?_,by omega,by omega⟩) (fun b hb=>by rw[hb.inj];omega) (fun d hd hn=> ?_))
  ·rw[tu y (List.mem_filter.1 hy).1 dS];omega
  ·rw[get_eq,Ru]
   rfl
  ·have:d≠b:=fun e=>hn ⟨0,_,_,by rw[e]⟩
   rw[aK _ _ (by omega),aK _ _ this,aK _ _ (by omega)]
end
end Go.Proofs.YtdagfcflbphoiaaGreatDoor.Ev
