import Derived.Test.YtdagfcflbphoiaaGreatDoorMaf
import Derived.WalkKit
import Derived.Test.YtdagfcflbphoiaaGreatDoorMae
import Derived.Test.YtdagfcflbphoiaaGreatDoorMac
import Derived.Test.YtdagfcflbphoiaaGreatDoorMad
import Derived.Test.YtdagfcflbphoiaaGreatDoorRows
import Derived.Test.YtdagfcflbphoiaaGreatDoorMab
import Derived.MakeChecks
import Derived.OpenShut
import Derived.ChangeArms
open Int renaming natCast_nonneg→aa, reduceBEq→bk, reduceBNe→bm, reduceLT→bp, reduceLE→bq, reduceEq→bt, reduceNe→bu, reduceAdd→bx, reduceSub→bz, reduceMul→bA, reduceNeg→bB, lt_irrefl→c9, toNat→Lw, le_refl→ahO, tdiv_eq_ediv_of_nonneg→aif, mul_nonneg→aik
open Nat renaming reduceLT→ae, reduceAdd→ag, le_refl→ak, beq→bN, zero_le→cb, le_succ→fg, lt_of_lt_of_le→mL, not_lt_zero→rB, lt_irrefl→LB, lt_of_le_of_ne→aii
open Go.Proofs.Tryz renaming prog→ai
open List renaming getD_eq_getElem?_getD→aC, length_append→aM, getElem?_eq_getElem→aR, replicate→cq, length_cons→cu, range→cN, length_take→dW, getElem_mem→ep, drop_zero→gT, take_of_length_le→kH, getElem?_map→lE, mem_cons_of_mem→lG, getElem?_append_left→me, length_map→mM, take_succ_eq_append_getElem→mQ, map_append→mR, getElem?_append_right→nO, take_length→nQ, ext_getElem→nU, mem_of_mem_take→qh, mem_singleton→xU, take_zero→AJ, mem_cons_self→AK, getElem?_range→AM, map_congr_left→EY, mem_map→E', map_replicate→Lx, getElem_set→Ly, cons_append→ahN, map_eq_nil_iff→aij
open Bool renaming not_true→gu, not_false→gZ, and_self→mO
open Go.Value renaming pointer→mP
open Prod.mk renaming injEq→AQ
open List.cons renaming inj→W6
set_option linter.unusedVariables false
set_option linter.unusedSimpArgs false
namespace Go.Proofs.YtdagfcflbphoiaaGreatDoor
open Go.RowKit Ev Cn
structure xC (size now:Nat) (lens:List Nat):Prop where
 now:now<=20
 len:lens.length<=size
 all:∀x∈lens,1<=x∧x<=20
theorem Eh{size now:Nat}{lens:List Nat}(k:xC size now lens)(hl:lens.length<size){bs:List Bool}{m:Nat}{l:List Nat}{u:Nat}(h:eh now lens bs= .ok (m,l) u):xC size m l:=by
 have turn:∀(z:Int) (w:Nat),lq z lens w= .ok (m,l) u->xC size m l:=by
  intro z w hz
  unfold lq at hz
  split at hz
  ·next hc=>
   simp only[St.ok.injEq,AQ]at hz
   obtain⟨⟨rfl,rfl⟩,_⟩:=hz
   exact⟨by omega,k.len,k.all⟩
  ·cases hz
 unfold eh at h
 split at h
 ·split at h
  ·cases h
  ·exact turn _ _ h
 ·next h0=>
  split at h
  ·cases h
  ·simp only[St.ok.injEq,AQ]at h
   obtain⟨⟨rfl,rfl⟩,_⟩:=h
   refine⟨k.now,by simp;omega,fun x hx=> ?_⟩
   rcases List.mem_append.1 hx with h1|h1
   ·exact k.all x h1
   ·simp only[xU]at h1
    subst h1
    have:=k.now
    omega
  ·cases h
  ·exact turn _ _ h
theorem UY{now:Nat}{lens:List Nat}{bs:List Bool}{e:Int}(h:eh now lens bs= .bad e):e=22:=by
 have turn:∀(z:Int) (w:Nat),lq z lens w= .bad e->e=22:=by
  intro z w hz
  unfold lq at hz
  split at hz
  ·cases hz
  ·cases hz;rfl
 unfold eh at h
 split at h
 ·split at h
  ·cases h
  ·exact turn _ _ h
 ·split at h
  ·cases h
  ·cases h
  ·cases h
  ·exact turn _ _ h
theorem fX.low{h:H}{lo n q size now:Nat}{lv:Value}{lens:List Nat}{dE:Bool}(x:fX h lo n q size now lv lens dE):fX h 0 n q size now lv lens dE:=⟨x.get,cb _,x.lt,x.own.low (cb _)⟩
def stepT(c:Cd)(bs:List Bool):St Cd:=
 match eh c.now c.lens bs with
 | .short=> .short
 | .bad e=> .bad e
 | .ok (m,l) u=>if l.length=c.size then(if dS (iN l)=1048576 then .ok {c with now:=0,lens:=[],bG:=c.bG++[l]} u else .bad 22)else .ok {c with now:=m,lens:=l} u
section
variable {lf d n z p:Nat} {h:H} {S:List UInt8} {D A:Nat} {c:Cd} {m:Cm}
theorem aet(x:bP h n p S D A)(y:cJ h n z p c m)(ap:p9 p z m)(s7:m.dw=false)(b9:xC c.size c.now c.lens)(hl:c.lens.length<c.size)(h3s:3<=c.size)(ek:c.size<=258)(fU:c.bG.length<=100)(aw:3000000<=lf):
 ah (fun b=>b=p∨m.F z b) n (aq ai gt lf (d+8) 62 #[.pointer (some ⟨z,0,none⟩),.pointer (some ⟨p,0,none⟩)]) h n fun v' h' n'=>
  match stepT c (bR S D A)with
  | .short=>v'= .tuple #[.int .i64 (-1),.int .i64 3]∧bP h' n' p S D A∧cJ h' n' z p c m
  | .bad e=>v'= .tuple #[.int .i64 (-1),.int .i64 e]∧(∃B,bP h' n' p S D B)∧∃c' m',cJ h' n' z p c' m'∧c'={c with now:=c'.now,lens:=c'.lens}∧m'={m with lv:=m'.lv,dw:=m'.dw}∧(∀b,m'.F z b->m.F z b∨n<=b)∧p9 p z m'
  | .ok c' u=>v'= .tuple #[.int .i64 (-1),.int .i64 0]∧bP h' n' p S D (A+u)∧∃m',cJ h' n' z p c' m'∧m'.pw=m.pw∧m'.dw=false∧m'.tv=m.tv∧(∀b,m'.F z b->m.F z b∨n<=b)∧p9 p z m'∧∀y∈m'.iv,y∈m.iv∨n<=y.1:=by
 obtain⟨bs,dH⟩:∃bs,bR S D A=bs:=⟨_,rfl⟩
 have g:=y.get
 have hz:=y.lt
 unfold nH at g
 have UZ:=y.de
 rw[s7]at UZ
 have dO:p≠m.r:=fun e=>ap.f (.inr (.inr (.inl e)))
 have dN:¬ar m.lv p:=fun e=>ap.f (.inr (.inr (.inr (.inr (.inl e)))))
 have mG:p≠z:=fun e=>ap.f (.inl e)
 have Ee:=x.lt
 have z0:((0:Int) !=0)=false:=rfl
 have z3:((3:Int) !=0)=true:=rfl
 rw[aD (fun _=>Qf) rfl,dH]
 refine ah.aB ?_
 unfold H8 stepT
 try simp(disch:=first|omega|assumption|exact aa _) only[ag,ae,RZ,g]
 refine aI aF (ad3 (lf:=lf) (d:=d+2) x UZ dO dN b9.now hl ek (cb _) (by omega)) (ak _) (fun b _ hb=> .inr (by
  rcases hb with hb|hb|hb
  ·exact .inl hb
  ·exact .inr (.inr (.inr (.inl hb)))
  ·exact .inr (.inr (.inr (.inr (.inr (.inl hb))))))) fun v1 h1 n1 bb bJ aU=> ?_
 have un:∀b,b<n->b≠p->b≠m.r->¬ar m.lv b->h1.get b=h.get b:=fun b hb h2 h3 h4=>bJ b hb (by
  rintro(e|e|e)
  ·exact h2 e
  ·exact h3 e
  ·exact h4 e)
 have nz:∀{b:Nat},¬m.F z b->b≠m.r∧¬ar m.lv b:=fun hb=>⟨fun e=>hb (.inr (.inr (.inl e))),fun e=>hb (.inr (.inr (.inr (.inr (.inl e)))))⟩
 have g1:h1.get z=_:=(un z hz (Ne.symm mG) y.zr fun e=>(y.lv e).1 rfl).trans g
 have sY:z<n1:=by omega
 have mk:∀(xD:Nat) (l':List Nat) (gP:Value) (dw:Bool),fX h1 0 n1 m.r c.size xD gP l' dw->(∀b,ar gP b->ar m.lv b∨n<=b)->cJ h1 n1 z p {c with now:=xD,lens:=l'} {m with lv:=gP,dw:=dw}:=fun xD l' gP dw hp l4=>
  {get:=g1
   lt:=sY
   pk:=y.pk.ax bb fun b hb h2=>by
    rcases h2 with rfl|h2
    ·exact un _ hb (fun e=>ap.f (.inr (.inl e.symm))) y.qr fun e=>(y.lv e).2.1 rfl
    ·exact un b hb (fun e=>ap.f (.inr (.inr (.inr (.inl (e▸h2)))))) (y.pv h2).2.2.1 (y.nI b h2)
   de:=hp
   bH:=y.bH.fC bb fun b hb=>un b (y.bH.lt hb) (fun e=>ap.t (e▸hb)) (y.tv hb).2.2.1 (y.tv hb).2.2.2.2.2
   oQ:=fun b hb=>⟨(y.tv hb).2.2.2.2.1,fun e=>(l4 b e).elim (y.tv hb).2.2.2.2.2 fun e=>by have:=y.bH.lt hb;omega⟩
   nI:=fun b hb h2=>(l4 b h2).elim (y.nI b hb) fun e=>by have:=(y.pk.own.lt hb).2;omega
   cs:=y.cs.ax bb fun b hb=>un b (y.cs.lt hb).2 (fun e=>ap.f (.inr (.inr (.inr (.inr (.inr (e▸hb))))))) (y.cv hb).2.2 fun e=>(y.lv e).2.2.2 hb
   kx:=y.kx
   code:=fun i hi=>by
    obtain⟨w,e,k,h2,h3,h4⟩:=y.code i hi
    refine⟨w,e,k.ax fun b h5 h6=>un b (by omega) (by omega) (nz (h4 b h5 h6)).1 (nz (h4 b h5 h6)).2,h2,by omega,fun b h5 h6 h7=> ?_⟩
    rcases h7 with h7|h7|h7|h7|h7|h7
    ·exact h4 b h5 h6 (.inl h7)
    ·exact h4 b h5 h6 (.inr (.inl h7))
    ·exact h4 b h5 h6 (.inr (.inr (.inl h7)))
    ·exact h4 b h5 h6 (.inr (.inr (.inr (.inl h7))))
    ·rcases l4 b h7 with h8|h8
     ·exact h4 b h5 h6 (.inr (.inr (.inr (.inr (.inl h8)))))
     ·omega
    ·exact h4 b h5 h6 (.inr (.inr (.inr (.inr (.inr h7)))))}
 have fm:∀(gP:Value) (dw:Bool),(∀b,ar gP b->ar m.lv b∨n<=b)->(∀b,({m with lv:=gP,dw:=dw}:Cm).F z b->m.F z b∨n<=b)∧p9 p z {m with lv:=gP,dw:=dw}:=by
  intro gP dw l4
  have k:∀b,({m with lv:=gP,dw:=dw}:Cm).F z b->m.F z b∨n<=b:=by
   intro b h7
   rcases h7 with h7|h7|h7|h7|h7|h7
   ·exact .inl (.inl h7)
   ·exact .inl (.inr (.inl h7))
   ·exact .inl (.inr (.inr (.inl h7)))
   ·exact .inl (.inr (.inr (.inr (.inl h7))))
   ·exact(l4 b h7).imp (fun h8=> .inr (.inr (.inr (.inr (.inl h8))))) id
   ·exact .inl (.inr (.inr (.inr (.inr (.inr h7)))))
  exact⟨k,⟨fun e=>(k p e).elim ap.f fun e=>by omega,ap.t⟩⟩
 unfold xz at aU
 rw[dH]at aU
 split at aU
 ·next e=>
  obtain⟨rfl,x1,y1⟩:=aU
  try simp(disch:=first|omega|assumption|exact aa _) only[ag,ae,RZ,z3]
  try rw[e]
  have:=mk c.now c.lens m.lv false y1 fun b hb=> .inl hb
  rw[<-s7]at this
  exact⟨x1,this⟩
 ·next e0 e=>
  obtain⟨rfl,x1,y1⟩:=aU
  have he0:(e0 !=0)=true:=by
   rw[UY e];rfl
  try simp(disch:=first|omega|assumption|exact aa _) only[ag,ae,RZ,he0]
  try rw[e]
  exact⟨rfl,x1,_,_,mk c.now c.lens m.lv true y1 (fun b hb=> .inl hb),rfl,rfl,fm m.lv true fun b hb=> .inl hb⟩
 ·next xD l' u e=>
  obtain⟨rfl,x1,gP,y1,l4⟩:=aU
  have U0:=Eh b9 hl e
  try simp(disch:=first|omega|assumption|exact aa _) only[ag,ae,RZ,z0,g1]
  refine bV (UH (lf:=lf) (d:=d+6) y1) bb (fun _ _ h=>h.elim) ?_
  try rw[e]
  by_cases zS:l'.length=c.size
  ·rw[decide_eq_true zS]
   try simp(disch:=first|omega|assumption|exact aa _) only[ag,ae,RZ,gu,g1]
   refine aI aF (adZ (lf:=lf) (d:=d+5) y1 (by omega) (by omega)) bb (fun _ _ h=>h.elim) fun v2 h2 n2 dZ dq r2=> ?_
   have y2:=(mk xD l' gP false y1 l4).ax dZ fun b hb _=>dq b hb id
   have x2:=x1.ax dZ (dq p x1.lt id)
   have kY:=dD l'
   by_cases hs:dS (iN l')=1048576
   ·refine aI aF (UB lf d n2 h2 aw v2 l' r2 (by omega) (by omega) (xx U0.all hs) hs) (by omega) (fun _ _ h=>h.elim) fun v3 h3 n3 fp dA gQ=> ?_
    obtain⟨c3,rfl,k3⟩:=gQ
    have y3:=y2.ax fp fun b hb _=>dA b hb id
    have x3:=x2.ax fp (dA p x2.lt id)
    have g3:=y3.get
    unfold nH at g3
    have hz3:=y3.lt
    try simp(disch:=first|omega|assumption|exact aa _) only[ag,ae,RZ,cw,ext1,z0,g3]
    refine xq trivial (Oz _) y3.cs (by have h9:m.iv.length=c.bG.length:=y3.kx;show(m.iv.map _).length+1<=_;rw[mM];omega) (fun b hb=> .inr (.inr (.inr (.inr (.inr (.inr (.inr hb))))))) _ fun h4 g4 k4=> ?_
    have g5:h4.get z=_:=(k4 z hz3 fun e=>(y3.cv e).1 rfl).trans g3
    have hz5:z<n3+2:=by omega
    have sX:m.F z z:= .inl rfl
    try simp(disch:=first|omega|assumption|exact aa _) only[ag,ae,RZ,g5,sX,true_or,or_true]
    refine aI aF (UG (lf:=lf) (d:=d+5) h3s ek) (by omega) (fun _ _ h=>h.elim) fun v6 h6 n6 hn6 Ei hq6=> ?_
    obtain⟨rfl,rfl,de6⟩:=hq6
    have g6:h6.get z=_:=(Ei z hz5 id).trans (get_eq _ _ _)
    have hz6:z<n3+2+1:=by omega
    try simp(disch:=first|omega|assumption|exact aa _) only[ag,ae,RZ,cw,ext1,g6,sX,true_or,or_true]
    rw[if_pos zS,if_pos hs]
    have un:∀(B:Option AB) b,b<n3->b≠z->¬ar m.cv b->(h6.set z B).get b=h3.get b:=fun B b hb h7 h8=>by
     rw[aA _ _ h7,Ei b (by omega) id,aA _ _ h7,k4 b hb h8]
    have aiP:∀{b:Nat},ar m.cv b->b<n3:=fun hb=>(y3.cs.lt hb).2
    have J7:m.iv.length=c.bG.length:=y3.kx
    have key:∀B:AB,B=nH {c with now:=0,lens:=[],bG:=c.bG++[l']} {m with r:=n3+2,lv:= .slice none 0 0,cv:= .slice (some ⟨n3+1,0,none⟩) ((m.iv.map fun x=>mP (some ⟨x.2.2,0,none⟩)).length+1) (ba+((m.iv.map fun x=>mP (some ⟨x.2.2,0,none⟩)).length+1)),dw:=false,iv:=m.iv++[(n2,n3,c3)]}->
     cJ (h6.set z (some B)) (n3+2+1) z p {c with now:=0,lens:=[],bG:=c.bG++[l']} {m with r:=n3+2,lv:= .slice none 0 0,cv:= .slice (some ⟨n3+1,0,none⟩) ((m.iv.map fun x=>mP (some ⟨x.2.2,0,none⟩)).length+1) (ba+((m.iv.map fun x=>mP (some ⟨x.2.2,0,none⟩)).length+1)),dw:=false,iv:=m.iv++[(n2,n3,c3)]}:=fun B hB=>
     {get:=by rw[get_eq,hB]
      lt:=by omega
      pk:=y3.pk.ax (by omega) fun b hb h7=>by
       rcases h7 with rfl|h7
       ·exact un _ _ hb (Ne.symm y3.zq) fun e=>(y3.cv e).2.1 rfl
       ·exact un _ b hb (y3.pv h7).1 (y3.pv h7).2.2.2
      de:=(de6.low).ax (ak _) fun b hb h7=>aA _ _ (by
       rcases h7 with rfl|h7
       ·omega
       ·obtain⟨_,_,_,h7⟩:=h7;cases h7)
      bH:=y3.bH.fC (by omega) fun b hb=>un _ b (y3.bH.lt hb) (y3.tv hb).1 (y3.tv hb).2.2.2.1
      oQ:=fun b hb=>⟨(y3.tv hb).2.2.2.2.1,fun e=>by obtain⟨_,_,_,e⟩:=e;cases e⟩
      nI:=fun b hb e=>by obtain⟨_,_,_,e⟩:=e;cases e
      cs:=by
       refine .inr ⟨n3+1, ?_, ?_,by omega,by omega⟩
       ·simp
       ·rw[aA _ _ (by omega),Ei _ (by omega) id,aA _ _ (by omega),g4,mR]
        rfl
      kx:=by simp[J7]
      code:=fun i hi=>by
       have hi:i<c.bG.length+1:=by simpa using hi
       by_cases gL:i<c.bG.length
       ·obtain⟨w,e,k,h7,h8,h9⟩:=y3.code i gL
        refine⟨w,by rw[me (by omega)];exact e, ?_,h7,by omega,fun b nJ mH cV=> ?_⟩
        ·have:(c.bG++[l']).getD i []=c.bG.getD i []:=by rw[DZ,if_pos gL]
         show lk _ _ _ _ ((c.bG++[l']).getD i [])
         rw[this]
         exact k.ax fun b nJ mH=>un _ b (by omega) (fun e=>h9 b nJ mH (.inl e)) fun e=>h9 b nJ mH (.inr (.inr (.inr (.inr (.inr e)))))
        ·rcases cV with cV|cV|cV|cV|cV|cV
         ·exact h9 b nJ mH (.inl cV)
         ·exact h9 b nJ mH (.inr (.inl cV))
         ·have:b=n3+2:=cV
          omega
         ·exact h9 b nJ mH (.inr (.inr (.inr (.inl cV))))
         ·obtain⟨_,_,_,e⟩:=cV;cases e
         ·have:=cV.inj
          omega
       ·have F1:i=c.bG.length:=by omega
        subst F1
        refine⟨(n2,n3,c3),by rw[<-J7,nO (ak _),Nat.sub_self];rfl, ?_,x2.lt,by show n3<=_;omega,fun b nJ mH cV=> ?_⟩
        ·have:(c.bG++[l']).getD c.bG.length []=l':=by rw[DZ,if_neg (by omega),if_pos rfl]
         show lk _ _ _ _ ((c.bG++[l']).getD c.bG.length [])
         rw[this]
         refine k3.ax fun b nJ mH=>un _ b mH (fun e=>by have:=y2.lt;omega) fun e=> ?_
         have:=(y2.cs.lt e).2
         omega
        ·have nJ:n2<=b:=nJ
         have mH:b<n3:=mH
         rcases cV with cV|cV|cV|cV|cV|cV
         ·have:=y2.lt
          omega
         ·have cV:b=m.q:=cV
          have:=y2.pk.lt
          have U3:m.q<n2:=this
          omega
         ·have:b=n3+2:=cV
          omega
         ·have:=(y2.pk.own.lt cV).2
          omega
         ·obtain⟨_,_,_,e⟩:=cV;cases e
         ·have:=cV.inj
          omega}
    have fk:∀b,({m with r:=n3+2,lv:= .slice none 0 0,cv:= .slice (some ⟨n3+1,0,none⟩) ((m.iv.map fun x=>mP (some ⟨x.2.2,0,none⟩)).length+1) (ba+((m.iv.map fun x=>mP (some ⟨x.2.2,0,none⟩)).length+1)),dw:=false,iv:=m.iv++[(n2,n3,c3)]}:Cm).F z b->m.F z b∨n<=b:=by
     intro b cV
     rcases cV with cV|cV|cV|cV|cV|cV
     ·exact .inl (.inl cV)
     ·exact .inl (.inr (.inl cV))
     ·have:b=n3+2:=cV
      exact .inr (by omega)
     ·exact .inl (.inr (.inr (.inr (.inl cV))))
     ·obtain⟨_,_,_,e⟩:=cV;cases e
     ·have:=cV.inj
      exact .inr (by omega)
    refine⟨(x3.ax (by omega) ((Ei p (by have:=x3.lt;omega) id).trans ((aA _ _ mG).trans (k4 p x3.lt fun e=>ap.f (.inr (.inr (.inr (.inr (.inr e)))))))):bP h6 _ p S D (A+u)).ax (ak _) (aA _ _ mG),_,key _ rfl,rfl,rfl,rfl,fk,⟨fun e=>(fk p e).elim ap.f fun e=>by omega,ap.t⟩,fun y hy=>by
     rcases List.mem_append.1 hy with hy|hy
     ·exact .inl hy
     ·simp only[xU]at hy
      subst hy
      exact .inr (by show n<=n2;omega)⟩
   ·refine aI aF (adP lf d n2 h2 aw v2 (iN l') r2 (by omega) (by omega) (k8.2 fun x hx=>by
     obtain⟨w,hw,rfl⟩:=E'.1 hx
     have:=U0.all w hw
     omega) hs) (by omega) (fun _ _ h=>h.elim) fun v3 h3 n3 fp dA gQ=> ?_
    subst gQ
    have z22:((22:Int) !=0)=true:=rfl
    try simp(disch:=first|omega|assumption|exact aa _) only[ag,ae,RZ,cw,ext1,z22]
    rw[if_pos zS,if_neg hs]
    exact⟨rfl,⟨_,x2.ax fp (dA p x2.lt id)⟩,_,_,y2.ax fp fun b hb _=>dA b hb id,rfl,rfl,fm gP false l4⟩
  ·rw[decide_eq_false zS]
   try simp(disch:=first|omega|assumption|exact aa _) only[ag,ae,RZ,gZ]
   rw[if_neg zS]
   exact⟨x1,_,mk xD l' gP false y1 l4,rfl,rfl,rfl,(fm gP false l4).1,(fm gP false l4).2,fun y hy=> .inl hy⟩
end
def ra(c:Cd)(bs:List Bool):St (Nat×Cd):=
 if c.bH.length<=c.count/50 then .bad 25 else
 match l7 (c.bG.getD (c.bH.getD (c.count/50) 0) []) bs with
 |none=> .short
 |some s=> .ok (s,{c with count:=c.count+1,done:=decide (s+1=c.size)}) ((c.bG.getD (c.bH.getD (c.count/50) 0) []).getD s 0)
section
variable {lf d n z p:Nat} {h:H} {S:List UInt8} {D A:Nat} {c:Cd} {m:Cm}
theorem aeu(x:bP h n p S D A)(y:cJ h n z p c m)(ap:p9 p z m)(ht:∀v∈c.bH,v<c.bG.length)(hw:∀l∈c.bG,Wh l∧l.length=c.size)(ek:c.size<=258)(hc:c.count<=1000000000000000)(aw:100<=lf):
 ah (fun b=>b=p∨m.F z b) n (aq ai gt lf (d+6) 58 #[.pointer (some ⟨z,0,none⟩),.pointer (some ⟨p,0,none⟩)]) h n fun v' h' n'=>
  match ra c (bR S D A)with
  | .short=>v'= .tuple #[.int .i64 (-1),.int .i64 3]∧bP h' n' p S D A∧cJ h' n' z p c m
  | .bad e=>v'= .tuple #[.int .i64 (-1),.int .i64 e]∧bP h' n' p S D A∧cJ h' n' z p c m
  | .ok (s,c') u=>v'= .tuple #[.int .i64 (s:Int),.int .i64 0]∧bP h' n' p S D (A+u)∧cJ h' n' z p c' m:=by
 have g:=y.get
 have hz:=y.lt
 unfold nH at g
 have mG:p≠z:=fun e=>ap.f (.inl e)
 have Ee:=x.lt
 have z0:((0:Int) !=0)=false:=rfl
 have z3:((3:Int) !=0)=true:=rfl
 have U4:((c.count:Nat):Int).tdiv 50=((c.count/50:Nat):Int):=rfl
 have lt:=dD c.bH
 rw[aD (fun _=>Qb) rfl]
 refine ah.aB ?_
 unfold H4 ra
 by_cases hb:c.bH.length<=c.count/50
 ·rw[if_pos hb]
  obtain⟨a,cc,xE⟩:=y.bH.len
  rw[xE]at g
  have c1:((((iN c.bH).length:Nat)):Int)<=((c.count/50:Nat):Int):=by omega
  try simp(disch:=first|omega|assumption|exact aa _) only[ag,ae,RZ,g,U4,c1]
  exact⟨x,y⟩
 ·rw[if_neg hb]
  obtain⟨b,off,cap,o,ks,xE,hg,pz,hv⟩:=y.bH.some (by omega)
  have c1:¬((((iN c.bH).length:Nat)):Int)<=((c.count/50:Nat):Int):=by omega
  rw[xE]at g
  obtain⟨s8,J8⟩:∃t,c.bH.getD (c.count/50) 0=t:=⟨_,rfl⟩
  have zT:ks[off+c.count/50]? =some (.int .i64 (s8:Int)):=by
   rw[hv.2.2.2 _ (by omega),pU,J8]
  have xh:s8<c.bG.length:=by
   refine ht s8 ?_
   rw[<-J8,aC,aR (by omega)]
   exact ep _
  obtain⟨w,hwi,kc,jz,Jd,Xv⟩:=y.code s8 xh
  have J7:=y.kx
  obtain⟨bc,J9,oP,FQ⟩:∃bc,m.cv= .slice (some ⟨bc,0,none⟩) m.iv.length (ba+m.iv.length)∧h.get bc=some ⟨72,true,m.iv.map fun x=> .pointer (some ⟨x.2.2,0,none⟩)⟩∧bc<n:=by
   rcases y.cs with ⟨_,e⟩|⟨bc,h1,h2,_,h4⟩
   ·have:m.iv.length=0:=by rw[aij]at e;rw[e];rfl
    omega
   ·rw[mM]at h1
    exact⟨bc,h1,h2,h4⟩
  rw[J9]at g
  have wO:(m.iv.map fun x=>mP (some ⟨x.2.2,0,none⟩))[s8]? =some (.pointer (some ⟨w.2.2,0,none⟩)):=by
   rw[lE,hwi]
   rfl
  have yu:(s8:Int)<((m.iv.length:Nat):Int):=by omega
  have jQ:c.bG.getD s8 []∈c.bG:=by
   rw[aC,aR xh]
   exact ep _
  have zU:=hw _ jQ
  rw[J8]
  obtain⟨ln,kY⟩:∃l,c.bG.getD s8 []=l:=⟨_,rfl⟩
  rw[kY]at kc zU⊢
  try simp(disch:=first|omega|assumption|exact aa _) only[ag,ae,RZ,g,U4,c1,hg,zT,oP,wO]
  refine aI aF (adW (lf:=lf) (d:=d) x kc zU.1 Jd jz (by omega) aw) (ak _) (fun b _ hb=> .inr (.inl hb)) fun v1 h1 n1 bb bJ aU=> ?_
  obtain⟨rfl,aU⟩:=aU
  have y1:cJ h1 n1 z p c m:=y.ax (ak _) fun b hb h7=>bJ b hb (by
   rcases h7 with h7|h7|⟨y',h7,h8,h9⟩
   ·exact fun e=>ap.f (e▸h7)
   ·exact fun e=>ap.t (e▸h7)
   ·have:=(y.iv h7).1
    omega)
  have g1:=y1.get
  unfold nH at g1
  have sY:=y1.lt
  have sX:m.F z z:= .inl rfl
  rcases aU with ⟨e,rfl,x1⟩|⟨s,e,rfl,x1⟩
  ·try simp(disch:=first|omega|assumption|exact aa _) only[ag,ae,RZ,cw,ext1,z3]
   rw[e]
   exact⟨x1,y1⟩
  ·have w1:IntKind.i64.wrap ((c.count:Int)+1)=((c.count+1:Nat):Int):=by rw[aV (by omega) (by omega)];omega
   have w2:IntKind.i64.wrap ((c.size:Int)-1)=(c.size:Int)-1:=aV (by omega) (by omega)
   have e2:(((s:Nat):Int)==(c.size:Int)-1)=decide (s+1=c.size):=by
    by_cases q:s+1=c.size
    ·rw[decide_eq_true q];exact beq_iff_eq.2 (by omega)
    ·rw[decide_eq_false q];exact beq_eq_false_iff_ne.2 (by omega)
   try simp(disch:=first|omega|assumption|exact aa _) only[ag,ae,RZ,cw,ext1,z0,g1,sX,w1,w2,e2]
   rw[e]
   have y2:=y1.Eg {c with count:=c.count+1} m.tv rfl rfl rfl rfl rfl y1.bH y1.oQ rfl
   have y3:=y2.Eg {c with count:=c.count+1,done:=decide (s+1=c.size)} m.tv rfl rfl rfl rfl rfl y2.bH y2.oQ rfl
   exact⟨rfl,(x1.ax (ak _) (aA _ _ mG)).ax (ak _) (aA _ _ mG),y3⟩
end
theorem zV:∀{r o:Nat} {bs:List Bool} {o' u:Nat},gR r o bs= .ok o' u->o<=o'∧o'<o+r
 |0,_,_,_,_,h=>by simp[gR]at h
 |_+1,_,[],_,_,h=>by simp[gR]at h
 |r+1,o,false::_,_,_,h=>by
  simp only[gR,St.ok.injEq]at h
  omega
 |r+1,o,true::bs,_,_,h=>by
  have:=zV (r:=r) (o:=o+1) (bs:=bs) h
  omega
theorem U5:∀{r o:Nat} {bs:List Bool} {e:Int},gR r o bs= .bad e->e=25
 |0,_,_,_,h=>by
  simp only[gR,St.bad.injEq]at h
  exact h.symm
 |_+1,_,[],_,h=>by simp[gR]at h
 |r+1,o,false::_,_,h=>by simp[gR]at h
 |r+1,o,true::bs,_,h=>U5 (r:=r) (o:=o+1) (bs:=bs) h
theorem aev{α:Type}(d:α){O:List α}{i:Nat}(hi:i<O.length)(j:Nat):(dQ d O i).getD j d=if j=0 then O.getD i d else if j<=i then O.getD (j-1) d else O.getD j d:=by
 unfold dQ
 cases j with
 |zero=>rfl
 |succ j=>
  rw[if_neg (by omega)]
  show(O.take i++O.drop (i+1)).getD j d=_
  simp only[aC,Nat.add_sub_cancel]
  by_cases h:j+1<=i
  ·rw[if_pos h,me (by rw[dW];omega),List.getElem?_take,if_pos (by omega)]
  ·rw[if_neg h,nO (by rw[dW];omega),dW,List.getElem?_drop,show i+1+(j-min i O.length)=j+1 by omega]
theorem aew{j:Nat}(h:j<6):en.getD j 0=j:=by
 rcases j with _|_|_|_|_|_|j<;>first|rfl|omega
theorem aex{s:Pk}{bs:List Bool}{e:Int}(h:eU s bs= .bad e):e=25:=by
 unfold eU at h
 split at h
 ·split at h
  ·cases h
  ·split at h
   ·cases h
   ·cases h;rfl
 ·split at h
  ·cases h
  ·next e' h1=>
   cases h
   exact U5 h1
  ·cases h
theorem U6{s s':Pk}{bs:List Bool}{u:Nat}(k:s.Ok)(h6:s.t<=6)(hl:s.ord.length=6)(hf:s.fin=false)(h:eU s bs= .ok s' u):s'.Ok∧0<u∧u<=bs.length:=by
 unfold eU at h
 split at h
 ·next h0=>
  split at h
  ·cases h
  ·split at h
   ·next hb hc=>
    simp only[St.ok.injEq]at h
    obtain⟨rfl,rfl⟩:=h
    obtain⟨h1,h2⟩:=k.new h0
    refine⟨⟨fun e=>absurd e hc.2,fun j hj=> ?_,fun x hx=> ?_,fun _=> ?_,fun _=>hc.1.1⟩,by omega,by omega⟩
    ·show s.ord.getD j 0<_
     rw[h2,aew (by have:j<num (bs.take 18) 0/32768:=hj;omega)]
     exact hj
    ·have hx:x∈s.bX:=hx
     rw[h1]at hx;cases hx
    ·show s.bX.length<=_
     rw[h1];exact cb _
   ·cases h
 ·next h0=>
  split at h
  ·cases h
  ·cases h
  ·next o u' h1=>
   simp only[St.ok.injEq]at h
   obtain⟨rfl,rfl⟩:=h
   have ho:=(zV h1).2
   have bf:s.bX.length<s.count:=by
    have:=k.len h0
    refine aii this fun e=> ?_
    unfold Pk.fin at hf
    rw[e,decide_eq_true rfl,decide_eq_true (show 0<s.count by omega)]at hf
    cases hf
   have hu:∀{r o:Nat} {bs:List Bool} {o' u:Nat},gR r o bs= .ok o' u->u=o'+1∧u<=o+bs.length:=by
    intro r
    induction r with
    |zero=>intro o bs o' u h;simp[gR]at h
    |succ r ih=>
     intro o bs o' u h
     cases bs with
     |nil=>simp[gR]at h
     |cons b bs=>
      cases b with
      |false=>
       simp only[gR,St.ok.injEq]at h
       simp only[cu]
       omega
      |true=>
       have:=ih (o:=o+1) (bs:=bs) h
       simp only[cu]
       omega
   have:=hu h1
   refine⟨⟨fun e=>absurd e h0,fun j hj=> ?_,fun x hx=> ?_,fun _=> ?_,fun e=>k.two e⟩,by omega,by omega⟩
   ·show(dQ 0 s.ord o).getD j 0<s.t
    have hj:j<s.t:=hj
    rw[aev 0 (by omega)]
    split
    ·exact k.ord o (by omega)
    ·split
     ·exact k.ord _ (by omega)
     ·exact k.ord j hj
   ·rcases List.mem_append.1 hx with hx|hx
    ·exact k.bX x hx
    ·simp only[xU]at hx
     rw[hx]
     exact k.ord o (by omega)
   ·show(s.bX++[_]).length<=s.count
    simp
    omega
structure ky (c:Cd):Prop where
 pk:c.pk.Ok
 fq:c.pk.t<=6
 ol:c.pk.ord.length=6
 nt:c.pk.fin=false->c.bG=[]∧c.bH=[]
 tk:c.pk.fin=true->c.bH=c.pk.bX
 cl:c.bG.length<=c.pk.t
 ln:xC c.size c.now c.lens
 ll:c.lens.length<c.size
 wh:∀l∈c.bG,Wh l∧l.length=c.size
 lo:3<=c.size
 hi:c.size<=258
 wr:c.dE=0
 dn:c.done=false
def jT(c:Cd)(bs:List Bool):St (Int×Cd):=
 if c.pk.fin=false then match eU c.pk bs with
  | .short=> .short
  | .bad e=> .bad e
  | .ok s u=> .ok (-1,qa c s) u
 else if c.bG.length<c.pk.t then match stepT c bs with
  | .short=> .short
  | .bad e=> .bad e
  | .ok c' u=> .ok (-1,c') u
 else match ra c bs with
  | .short=> .short
  | .bad e=> .bad e
  | .ok (s,c') u=> .ok ((s:Int),c') u
theorem Ej{now:Nat}{lens:List Nat}{bs:List Bool}{m:Nat}{l:List Nat}{u:Nat}(h:eh now lens bs= .ok (m,l) u):0<u∧u<=bs.length:=by
 have turn:∀(z:Int) (w:Nat),lq z lens w= .ok (m,l) u->u=w:=by
  intro z w hz
  unfold lq at hz
  split at hz
  ·simp only[St.ok.injEq]at hz
   exact hz.2.symm
  ·cases hz
 unfold eh at h
 split at h
 ·split at h
  ·cases h
  ·have:=turn _ _ h
   omega
 ·split at h
  ·cases h
  ·simp only[St.ok.injEq]at h
   simp only[cu]
   omega
  ·cases h
  ·have:=turn _ _ h
   simp only[cu]
   omega
theorem U7{c c':Cd}{bs:List Bool}{u:Nat}(k:ky c)(ht:c.bG.length<c.pk.t)(fin:c.pk.fin=true)(h:stepT c bs= .ok c' u):ky c'∧c'.count=c.count∧0<u∧u<=bs.length:=by
 unfold stepT at h
 split at h
 ·cases h
 ·cases h
 ·next m l u' h1=>
  have ok:=Eh k.ln k.ll h1
  have us:=Ej h1
  split at h
  ·next hl=>
   split at h
   ·next hs=>
    simp only[St.ok.injEq]at h
    obtain⟨rfl,rfl⟩:=h
    refine⟨⟨k.pk,k.fq,k.ol,fun e=>absurd fin (by rw[show c.pk.fin=false from e];decide),k.tk,by simp;omega,⟨cb _,cb _,fun x hx=>absurd hx (by simp)⟩,by have:=k.lo;show 0<c.size;omega,fun w hw=> ?_,k.lo,k.hi,k.wr,k.dn⟩,rfl,us.1,us.2⟩
    rcases List.mem_append.1 hw with hw|hw
    ·exact k.wh w hw
    ·simp only[xU]at hw
     subst hw
     exact⟨xx ok.all hs,hl⟩
   ·cases h
  ·next hl=>
   simp only[St.ok.injEq]at h
   obtain⟨rfl,rfl⟩:=h
   exact⟨⟨k.pk,k.fq,k.ol,k.nt,k.tk,k.cl,ok,aii ok.len hl,k.wh,k.lo,k.hi,k.wr,k.dn⟩,rfl,us.1,us.2⟩
theorem J'{c:Cd}(k:ky c)(fin:c.pk.fin=true)(ht:¬c.bG.length<c.pk.t):∀v∈c.bH,v<c.bG.length:=fun v hv=>by
 rw[k.tk fin]at hv
 have:=k.pk.bX v hv
 omega
theorem Ka{c c':Cd}{bs:List Bool}{sym:Int}{u:Nat}(k:ky c)(h:jT c bs= .ok (sym,c') u):(c'.done=false->ky c')∧c'.count<=c.count+1∧0<u∧u<=bs.length:=by
 unfold jT at h
 split at h
 ·next hf=>
  split at h
  ·cases h
  ·cases h
  ·next s u' h1=>
   simp only[St.ok.injEq,AQ]at h
   obtain⟨⟨rfl,rfl⟩,rfl⟩:=h
   obtain⟨h2,h3,h4⟩:=U6 k.pk k.fq k.ol hf h1
   obtain⟨n1,n2⟩:=k.nt hf
   refine⟨fun _=>⟨h2, ?_, ?_,fun e=>⟨n1, ?_⟩,fun e=> ?_, ?_,k.ln,k.ll,k.wh,k.lo,k.hi,k.wr,k.dn⟩,fg _,h3,h4⟩
   ·show s.t<=6
    unfold eU at h1
    split at h1
    ·split at h1
     ·cases h1
     ·split at h1
      ·next hc=>
       simp only[St.ok.injEq]at h1
       obtain⟨rfl,_⟩:=h1
       exact hc.1.2
      ·cases h1
    ·split at h1
     ·cases h1
     ·cases h1
     ·simp only[St.ok.injEq]at h1
      obtain⟨rfl,_⟩:=h1
      exact k.fq
   ·show s.ord.length=6
    unfold eU at h1
    split at h1
    ·split at h1
     ·cases h1
     ·split at h1
      ·simp only[St.ok.injEq]at h1
       obtain⟨rfl,_⟩:=h1
       exact k.ol
      ·cases h1
    ·split at h1
     ·cases h1
     ·cases h1
     ·next o u2 h5=>
      simp only[St.ok.injEq]at h1
      obtain⟨rfl,_⟩:=h1
      have:=(zV h5).2
      have:=k.fq
      exact xB (dv:=0) k.ol (by omega)
   ·have e:s.fin=false:=e
    show(if s.fin=true then s.bX else c.bH)=[]
    rw[e];exact n2
   ·have e:s.fin=true:=e
    show(if s.fin=true then s.bX else c.bH)=s.bX
    rw[if_pos e]
   ·show c.bG.length<=s.t
    rw[n1];exact cb _
 ·next hf=>
  have fin:c.pk.fin=true:=by simpa using hf
  split at h
  ·next ht=>
   split at h
   ·cases h
   ·cases h
   ·next c2 u2 h1=>
    simp only[St.ok.injEq,AQ]at h
    obtain⟨⟨rfl,rfl⟩,rfl⟩:=h
    obtain⟨h2,h3,h4⟩:=U7 k ht fin h1
    exact⟨fun _=>h2,by omega,h4⟩
  ·next ht=>
   split at h
   ·cases h
   ·cases h
   ·next s c2 u2 h1=>
    simp only[St.ok.injEq,AQ]at h
    obtain⟨⟨rfl,rfl⟩,rfl⟩:=h
    unfold ra at h1
    split at h1
    ·cases h1
    ·next hb=>
     split at h1
     ·cases h1
     ·next s' h3=>
      simp only[St.ok.injEq,AQ]at h1
      obtain⟨⟨rfl,rfl⟩,rfl⟩:=h1
      obtain⟨m1,m2,m3⟩:=JK h3
      have jQ:c.bG.getD (c.bH.getD (c.count/50) 0) []∈c.bG:=by
       have xh:c.bH.getD (c.count/50) 0<c.bG.length:=by
        refine J' k fin ht _ ?_
        rw[aC,aR (by omega)]
        exact ep _
       rw[aC,aR xh]
       exact ep _
      have:=((k.wh _ jQ).1.at m1).1
      exact⟨fun hd=>⟨k.pk,k.fq,k.ol,k.nt,k.tk,k.cl,k.ln,k.ll,k.wh,k.lo,k.hi,k.wr,hd⟩,ak _,by omega,m2⟩
theorem U8{c:Cd}{bs:List Bool}{e:Int}(h:jT c bs= .bad e):e=22∨e=25:=by
 unfold jT at h
 split at h
 ·split at h
  ·cases h
  ·next h1=>cases h;exact .inr (aex h1)
  ·cases h
 ·split at h
  ·split at h
   ·cases h
   ·next h1=>
    cases h
    unfold stepT at h1
    split at h1
    ·cases h1
    ·next h2=>cases h1;exact .inl (UY h2)
    ·split at h1
     ·split at h1
      ·cases h1
      ·cases h1;exact .inl rfl
     ·cases h1
   ·cases h
  ·split at h
   ·cases h
   ·next h1=>
    cases h
    unfold ra at h1
    split at h1
    ·cases h1;exact .inr rfl
    ·split at h1
     ·cases h1
     ·cases h1
   ·cases h
theorem Kb{β:Type}{rec:FuncId->Array Value->M Value}{f:FuncId}(hf:j1 ai f=true)(r a:Value)(k:Value->M β):eM ai rec (.func (.func f) #[r] #[]) [a] k=au rec f [r,a] k:=by
 unfold eM
 show aG (some _) _=_
 rw[pJ]
 simp only[hf]
 exact(ki _ _).symm
section
variable {lf d n z p:Nat} {h:H} {S:List UInt8} {D A:Nat} {c:Cd} {m:Cm}
def Kc(h:H)(n p:Nat)(S:List UInt8)(D A z:Nat)(c:Cd)(m:Cm)(v':Value)(h':H)(n':Nat):Prop:=
 match jT c (bR S D A)with
 | .short=>v'= .tuple #[.int .i64 0,.int .i64 3]∧bP h' n' p S D A∧cJ h' n' z p c m
 | .bad e=>v'= .tuple #[.int .i64 0,.int .i64 e]∧(∃B,bP h' n' p S D B)∧∃c' m',cJ h' n' z p c' m'∧c'.dE=e∧c'.done=false∧(∀b,m'.F z b->m.F z b∨n<=b)∧p9 p z m'
 | .ok (sym,c') u=>v'= .tuple #[.int .i64 sym,.int .i64 0]∧bP h' n' p S D (A+u)∧∃m',cJ h' n' z p c' m'∧m'.pw=false∧m'.dw=false∧(∀b,m'.F z b->m.F z b∨n<=b)∧p9 p z m'∧(∀b,ar m'.tv b->ar m.tv b∨n<=b)∧∀y∈m'.iv,y∈m.iv∨n<=y.1
theorem aey(x:bP h n p S D A)(y:cJ h n z p c m)(ap:p9 p z m)(jz:m.pw=false)(s7:m.dw=false)(k:ky c)(hc:c.count<=1000000000000000)(aw:3000000<=lf):
 ah (fun b=>b=p∨m.F z b) n (aq ai gt lf (d+9) 30 #[.pointer (some ⟨z,0,none⟩),.pointer (some ⟨p,0,none⟩)]) h n (Kc h n p S D A z c m):=by
 obtain⟨bs,dH⟩:∃bs,bR S D A=bs:=⟨_,rfl⟩
 have g:=y.get
 have hz:=y.lt
 unfold nH at g
 rw[k.wr,k.dn]at g
 have mG:p≠z:=fun e=>ap.f (.inl e)
 have z0:((0:Int) !=0)=false:=rfl
 have sX:m.F z z:= .inl rfl
 have dn:=Ef (lf:=lf) (d:=d+7) y.pk
 rw[show(decide (0<c.pk.count)&&decide (c.pk.bX.length=c.pk.count))=c.pk.fin from rfl]at dn
 rw[aD (fun _=>PI) rfl]
 refine ah.aB ?_
 unfold HN
 have cm1:=fun{β:Type} {rec:FuncId->Array Value->M Value} (r a:Value) (k:Value->M β)=>Kb (rec:=rec) (f:=60) (by kernel_rfl) r a k
 have cm2:=fun{β:Type} {rec:FuncId->Array Value->M Value} (r a:Value) (k:Value->M β)=>Kb (rec:=rec) (f:=62) (by kernel_rfl) r a k
 have cm3:=fun{β:Type} {rec:FuncId->Array Value->M Value} (r a:Value) (k:Value->M β)=>Kb (rec:=rec) (f:=58) (by kernel_rfl) r a k
 have tok:∀(sym:Int) (h1:H) (n1:Nat) (Q:Value->H->Nat->Prop),Q (.tuple #[.int .i64 sym,.int .i64 0]) h1 n1->
  ah (fun b=>b=p∨m.F z b) n (aY (.tuple #[.int .i64 sym,.int .i64 0]) 0 fun d=>aY (.tuple #[.int .i64 sym,.int .i64 0]) 1 fun h=>dg h (ii 0) fun e=>an e (aj [d,h]) (dh h (ii 3) fun j=>an j (az (.pointer (some ⟨z,0,none⟩)) fun l=>ay 7 l fun m=>bE m h fun _=>aj [(ii 0),h]) (aj [(ii 0),h]))) h1 n1 Q:=by
  intro sym h1 n1 Q hQ
  have e0:((0:Int)==0)=true:=rfl
  try simp(disch:=first|omega|assumption|exact aa _) only[ag,ae,RZ,cw,ext1,e0]
  exact hQ
 have Kd:∀(sym:Int) (h1:H) (n1:Nat) (Q:Value->H->Nat->Prop),Q (.tuple #[.int .i64 0,.int .i64 3]) h1 n1->
  ah (fun b=>b=p∨m.F z b) n (aY (.tuple #[.int .i64 sym,.int .i64 3]) 0 fun d=>aY (.tuple #[.int .i64 sym,.int .i64 3]) 1 fun h=>dg h (ii 0) fun e=>an e (aj [d,h]) (dh h (ii 3) fun j=>an j (az (.pointer (some ⟨z,0,none⟩)) fun l=>ay 7 l fun m=>bE m h fun _=>aj [(ii 0),h]) (aj [(ii 0),h]))) h1 n1 Q:=by
  intro sym h1 n1 Q hQ
  have e0:((3:Int)==0)=false:=rfl
  have e3:((3:Int) !=3)=false:=rfl
  try simp(disch:=first|omega|assumption|exact aa _) only[ag,ae,RZ,cw,ext1,e0,e3]
  exact hQ
 have Ke:∀(sym e:Int) (h1:H) (n1:Nat) (c1:Cd) (m1:Cm) (Q:Value->H->Nat->Prop),e=22∨e=25->cJ h1 n1 z p c1 m1->
  (∀h2,(∀b,b≠z->h2.get b=h1.get b)->cJ h2 n1 z p {c1 with dE:=e} m1->Q (.tuple #[.int .i64 0,.int .i64 e]) h2 n1)->
  ah (fun b=>b=p∨m.F z b) n (aY (.tuple #[.int .i64 sym,.int .i64 e]) 0 fun d=>aY (.tuple #[.int .i64 sym,.int .i64 e]) 1 fun h=>dg h (ii 0) fun e=>an e (aj [d,h]) (dh h (ii 3) fun j=>an j (az (.pointer (some ⟨z,0,none⟩)) fun l=>ay 7 l fun m=>bE m h fun _=>aj [(ii 0),h]) (aj [(ii 0),h]))) h1 n1 Q:=by
  intro sym e h1 n1 c1 m1 Q he y1 hQ
  have e0:(e==0)=false:=beq_eq_false_iff_ne.2 (by omega)
  have e3:(e !=3)=true:=by rw[bne_iff_ne];omega
  have g1:=y1.get
  unfold nH at g1
  have sY:=y1.lt
  try simp(disch:=first|omega|assumption|exact aa _) only[ag,ae,RZ,cw,ext1,e0,e3,g1,sX]
  exact hQ _ (fun b hb=>aA _ _ hb) (y1.Eg {c1 with dE:=e} m1.tv rfl rfl rfl rfl rfl y1.bH y1.oQ rfl)
 have ff:∀b,m.F z b->m.F z b∨n<=b:=fun b hb=> .inl hb
 try simp(disch:=first|omega|assumption|exact aa _) only[ag,ae,RZ,g,z0]
 refine bV dn (ak _) (fun _ _ h=>h.elim) ?_
 have nK:=@U8 c bs
 unfold Kc
 rw[dH]
 by_cases hf:c.pk.fin=false
 ·rw[hf]
  unfold jT at nK⊢
  rw[if_pos hf]at nK⊢
  try simp(disch:=first|omega|assumption|exact aa _) only[ag,ae,RZ,gZ,cm1]
  refine aI aF (aes (lf:=lf) (d:=d+2) x y ap jz k.pk hf (by omega)) (ak _) (fun b _ hb=> .inr hb) fun v1 h1 n1 bb bJ aU=> ?_
  rw[dH]at aU
  cases e:eU c.pk bs with
  |short=>
   rw[e]at aU
   obtain⟨rfl,x1,y1⟩:=aU
   exact Kd _ h1 n1 _ ⟨rfl,x1,y1⟩
  |bad e0=>
   rw[e]at aU nK
   obtain⟨rfl,⟨B,x1⟩,y1⟩:=aU
   exact Ke _ _ h1 n1 _ _ _ (nK rfl) y1 fun h2 k2 y2=>⟨rfl,⟨B,x1.ax (ak _) (k2 p mG)⟩,_,_,y2,rfl,k.dn,ff,⟨ap.f,ap.t⟩⟩
  |ok s u=>
   rw[e]at aU
   obtain⟨rfl,x1,ji,sW,y1,oR,xE⟩:=aU
   refine tok _ h1 n1 _ ⟨rfl,x1,_,y1,jz,s7, ?_, ?_,xE,fun y hy=> .inl hy⟩
   ·intro b h7
    rcases h7 with h7|h7|h7|h7|h7|h7
    ·exact .inl (.inl h7)
    ·exact .inl (.inr (.inl h7))
    ·exact .inl (.inr (.inr (.inl h7)))
    ·exact(oR b h7).imp (fun h8=> .inr (.inr (.inr (.inl h8)))) id
    ·exact .inl (.inr (.inr (.inr (.inr (.inl h7)))))
    ·exact .inl (.inr (.inr (.inr (.inr (.inr h7)))))
   ·have Ee:=x.lt
    refine⟨fun h7=> ?_,fun h7=>(xE p h7).elim ap.t fun h8=>by omega⟩
    rcases h7 with h7|h7|h7|h7|h7|h7
    ·exact ap.f (.inl h7)
    ·exact ap.f (.inr (.inl h7))
    ·exact ap.f (.inr (.inr (.inl h7)))
    ·exact(oR p h7).elim (fun h8=>ap.f (.inr (.inr (.inr (.inl h8))))) fun h8=>by omega
    ·exact ap.f (.inr (.inr (.inr (.inr (.inl h7)))))
    ·exact ap.f (.inr (.inr (.inr (.inr (.inr h7)))))
 ·have fin:c.pk.fin=true:=by simpa using hf
  rw[fin]
  have hq:=y.pk.lt
  have eJ:∃a cc,m.cv= .slice a c.bG.length cc:=by
   rcases y.cs with ⟨e1,e2⟩|⟨b,e1,_⟩
   ·have:m.iv=[]:=by rw[aij]at e2;exact e2
    have h9:=y.kx
    rw[this]at h9
    exact⟨none,0,by rw[e1,<-h9];rfl⟩
   ·rw[mM,y.kx]at e1
    exact⟨_,_,e1⟩
  obtain⟨ca,cc,J9⟩:=eJ
  rw[J9]at g
  unfold jT at nK⊢
  rw[if_neg hf]at nK⊢
  try simp(disch:=first|omega|assumption|exact aa _) only[ag,ae,RZ,gu,g]
  refine Jy trivial _ _ _ g hz rfl fun T1 t1=> ?_
  try simp(disch:=first|omega|assumption|exact aa _) only[ag,ae,RZ]
  refine Jy trivial _ _ _ g hz rfl fun T2 t2=> ?_
  try simp(disch:=first|omega|assumption|exact aa _) only[ag,ae,RZ]
  refine TI aF (aed (lf:=lf) (d:=d+7) y.pk) (ak _) fun T3 t3=> ?_
  by_cases ht:c.bG.length<c.pk.t
  ·have c1:((c.bG.length:Nat):Int)<((c.pk.t:Nat):Int):=by omega
   rw[if_pos ht]at nK⊢
   try simp(disch:=first|omega|assumption|exact aa _) only[ag,ae,RZ,c1,t1.g8 t3,gZ,mO,sC,cm2]
   refine aI aF (aet (lf:=lf) (d:=d) x y ap s7 k.ln k.ll k.lo k.hi (by have:=k.fq;omega) aw) (ak _) (fun b _ hb=> .inr hb) fun v1 h1 n1 bb bJ aU=> ?_
   rw[dH]at aU
   cases e:stepT c bs with
   |short=>
    rw[e]at aU
    obtain⟨rfl,x1,y1⟩:=aU
    exact Kd _ h1 n1 _ ⟨rfl,x1,y1⟩
   |bad e0=>
    rw[e]at aU nK
    obtain⟨rfl,⟨B,x1⟩,c',m',y1,kO,dM,fm,am⟩:=aU
    exact Ke _ _ h1 n1 _ _ _ (nK rfl) y1 fun h2 k2 y2=>⟨rfl,⟨B,x1.ax (ak _) (k2 p mG)⟩,_,_,y2,rfl,by rw[kO];exact k.dn,fm,am⟩
   |ok c' u=>
    rw[e]at aU
    obtain⟨rfl,x1,m',y1,e1,e2,e3,fm,am,iv⟩:=aU
    exact tok _ h1 n1 _ ⟨rfl,x1,m',y1,e1.trans jz,e2,fm,am,fun b hb=> .inl (by rw[e3]at hb;exact hb),iv⟩
  ·have c1:¬((c.bG.length:Nat):Int)<((c.pk.t:Nat):Int):=by omega
   rw[if_neg ht]at nK⊢
   try simp(disch:=first|omega|assumption|exact aa _) only[ag,ae,RZ,c1,t1.g8 t3,gZ,mO,sC,cm3]
   refine aI aF (aeu (lf:=lf) (d:=d+2) x y ap (J' k fin ht) k.wh k.hi hc (by omega)) (ak _) (fun b _ hb=> .inr hb) fun v1 h1 n1 bb bJ aU=> ?_
   rw[dH]at aU
   cases e:ra c bs with
   |short=>
    rw[e]at aU
    obtain⟨rfl,x1,y1⟩:=aU
    exact Kd _ h1 n1 _ ⟨rfl,x1,y1⟩
   |bad e0=>
    rw[e]at aU nK
    obtain⟨rfl,x1,y1⟩:=aU
    exact Ke _ _ h1 n1 _ _ _ (nK rfl) y1 fun h2 k2 y2=>⟨rfl,⟨_,x1.ax (ak _) (k2 p mG)⟩,_,_,y2,rfl,k.dn,ff,ap⟩
   |ok cs u=>
    obtain⟨s,c'⟩:=cs
    rw[e]at aU
    obtain⟨rfl,x1,y1⟩:=aU
    exact tok _ h1 n1 _ ⟨rfl,x1,m,y1,jz,s7,ff,ap,fun b hb=> .inl hb,fun y hy=> .inl hy⟩
def lu(size:Nat):Cd:=⟨size,⟨0,0,en,[]⟩,0,[],[],[],0,false,0⟩
end
inductive Rs
 |err (e:Int)
 |ok (out:List Int) (a:Nat)
def eo:Nat->Cd->List Bool->Int->List Int->Nat->Rs
 |0,_,_,_,_,_=> .err 3
 |N+1,c,bs,most,out,a=>if c.done=true then .ok out a else match jT c bs with
  | .short=> .err 3
  | .bad e=> .err e
  | .ok (sym,c') u=>if sym=-1 then eo N c' (bs.drop u) most out (a+u)else if(out.length:Int)=most then .err 2 else eo N c' (bs.drop u) most (out++[sym]) (a+u)
theorem Kf{size:Nat}(h3:3<=size)(ek:size<=258):ky (lu size):=⟨⟨fun _=>⟨rfl,rfl⟩,fun j hj=>absurd hj (rB j),fun x hx=>absurd hx (by simp[lu]),fun e=>absurd rfl e,fun e=>absurd rfl e⟩,cb _,rfl,fun _=>⟨rfl,rfl⟩,fun e=>absurd (show false=true from e) (by decide),cb _,⟨cb _,cb _,fun x hx=>absurd hx (by simp[lu])⟩,(by show 0<size;omega),fun l hl=>absurd hl (by simp[lu]),h3,ek,rfl,rfl⟩
def Kg(n:Nat):Cm:=⟨n+3,.slice none 0 0,.slice none 0 0,n,.slice none 0 0,.slice none 0 0,false,false,[]⟩
theorem vu{b:Nat}:¬ar (.slice none 0 0) b:=fun⟨_,_,_,e⟩=>by cases e
theorem U9{n b:Nat}(h:(Kg n).F (n+4) b):n<=b:=by
 rcases h with h|h|h|h|h|h
 ·omega
 ·have:b=n+3:=h
  omega
 ·have:b=n:=h
  omega
 ·exact absurd h vu
 ·exact absurd h vu
 ·exact absurd h vu
section
variable {lf d n z p:Nat} {h:H} {S:List UInt8} {D A:Nat} {c:Cd} {m:Cm}
theorem aez{size:Nat}(h3:3<=size)(ek:size<=258)(aw:100<=lf)(p:Nat):ah (fun _=>False) n (aq ai gt lf (d+3) 28 #[.int .i64 (size:Int)]) h n fun v h' n'=>v= .tuple #[.pointer (some ⟨n+4,0,none⟩),.int .i64 0]∧n'=n+5∧cJ h' n' (n+4) p (lu size) (Kg n):=by
 rw[aD (fun _=>PH) rfl]
 refine ah.aB ?_
 unfold HM
 have z0:((0:Int) !=0)=false:=rfl
 refine aI aF (UG (lf:=lf) (d:=d) h3 ek) (ak _) (fun _ _ h=>h.elim) fun v1 h1 n1 bb bJ aU=> ?_
 obtain⟨rfl,rfl,de⟩:=aU
 try simp(disch:=first|omega|assumption|exact aa _) only[ag,ae,RZ,cw,ext1,z0]
 refine aI aF (aef (lf:=lf) (d:=d) aw) (by omega) (fun _ _ h=>h.elim) fun v2 h2 n2 dZ dq dx=> ?_
 obtain⟨rfl,rfl,pk⟩:=dx
 try simp(disch:=first|omega|assumption|exact aa _) only[ag,ae,RZ]
 refine pL trivial _ _ ?_
 try simp(disch:=first|omega|assumption|exact aa _) only[ag,ae,RZ]
 have un:∀(B:Option AB) b,b<n+1->(h2.set (n+1+3) B).get b=h1.get b:=fun B b hb=>by rw[aA _ _ (by omega),dq b hb id]
 exact
  {get:=get_eq _ _ _
   lt:=by omega
   pk:=⟨(aA _ _ (by show n+3≠_;omega)).trans pk.get,cb _,by show n+3<_;omega,Own.nil _ _ _ _,rfl,cb _,(by decide:0<32768)⟩
   de:=⟨(un _ n (by omega)).trans de.get,cb _,by show n<_;omega,Own.nil _ _ _ _⟩
   bH:=(Own.nil _ 0 _ _:Own _ 0 _ _ _ (aL .i64 (iN []))).row
   oQ:=fun b hb=>absurd hb vu
   nI:=fun b hb=>absurd hb vu
   cs:=Own.nil _ _ _ _
   kx:=rfl
   code:=fun i hi=>absurd hi (rB i)}
def Ek(n p:Nat)(S:List UInt8)(D:Nat)(r:Rs)(v':Value)(h':H)(n':Nat):Prop:=
 match r with
 | .err e=>v'= .tuple #[.slice none 0 0,.int .i64 e]∧e≠0∧∃B,bP h' n' p S D B
 | .ok out a=>∃gv,v'= .tuple #[gv,.int .i64 0]∧Own h' n n' 3 gv (aL .i64 out)∧bP h' n' p S D a
theorem aeA{F0:Nat->Prop}{n0:Nat}(most:Int)(aw:3000000<=lf)(hp:p<n0):
 ∀(N fu:Nat) (n:Nat) (h:H) (c:Cd) (m:Cm) (gv:Value) (out:List Int) (A:Nat),n0<=n->(bR S D A).length<N->N<=fu->bP h n p S D A->cJ h n z p c m->p9 p z m->m.pw=false->m.dw=false->(c.done=false->ky c)->
  c.count+(bR S D A).length<=1000000000000000->out.length+(bR S D A).length<=1000000000->Own h n0 n 3 gv (aL .i64 out)->(∀b,ar gv b->¬m.F z b∧¬ar m.tv b∧∀y∈m.iv,¬(y.1<=b∧b<y.2.1))->(∀b,m.F z b->n0<=b∨F0 b)->
  ah (fun b=>b=p∨F0 b) n0 (uC lf (aq ai gt lf (d+9)) fu (uD lf (aq ai gt lf (d+9))) (.pointer (some ⟨z,0,none⟩)) (.pointer (some ⟨p,0,none⟩)) (.int .i64 most) (.slice none 0 0) (.int .i64 0) gv) h n (Ek n0 p S D (eo N c (bR S D A) most out A)):=by
 intro N
 induction N with
 |zero=>intro fu n h c m gv out A _ hN;omega
 |succ N ih=>
  intro fu n h c m gv out A eE hN cC x y ap jz s7 hk lx rT og U' hF
  obtain⟨fu,rfl⟩:∃f,fu=f+1:=⟨fu-1,by omega⟩
  have g:=y.get
  have hz:=y.lt
  unfold nH at g
  rw[uC]
  obtain⟨ga,gc,oE⟩:=og.row.len
  by_cases hd:c.done=true
  ·rw[hd]at g
   try simp(disch:=first|omega|assumption|exact aa _) only[ag,ae,RZ,g,gu]
   (try unfold uD);(try dsimp only)
   try simp(disch:=first|omega|assumption|exact aa _) only[ag,ae,RZ]
   unfold eo Ek
   rw[if_pos hd]
   exact⟨gv,rfl,og,x⟩
  ·have ng:c.done=false:=by simpa using hd
   have k:=hk ng
   rw[ng]at g
   try simp(disch:=first|omega|assumption|exact aa _) only[ag,ae,RZ,g,gZ]
   refine aI aF (aey (lf:=lf) (d:=d) x y ap jz s7 k (by omega) aw) eE (fun b _ hb=>by
    rcases hb with hb|hb
    ·exact .inr (.inl hb)
    ·exact(hF b hb).imp id .inr) fun v1 h1 n1 bb bJ aU=> ?_
   obtain⟨bs,dH⟩:∃bs,bR S D A=bs:=⟨_,rfl⟩
   unfold Kc at aU
   rw[dH]at aU hN lx rT⊢
   unfold eo
   rw[if_neg hd]
   have z0:((0:Int) !=0)=false:=rfl
   have z3:((3:Int) !=0)=true:=rfl
   cases e:jT c bs with
   |short=>
    rw[e]at aU
    obtain⟨rfl,x1,y1⟩:=aU
    try simp(disch:=first|omega|assumption|exact aa _) only[ag,ae,RZ,cw,ext1,z3]
    (try unfold uD);(try dsimp only)
    try simp(disch:=first|omega|assumption|exact aa _) only[ag,ae,RZ]
    exact⟨rfl,by decide,_,x1⟩
   |bad e0=>
    rw[e]at aU
    obtain⟨rfl,x1,_⟩:=aU
    have he:=U8 e
    have z1:(e0 !=0)=true:=by rw[bne_iff_ne];omega
    try simp(disch:=first|omega|assumption|exact aa _) only[ag,ae,RZ,cw,ext1,z1]
    (try unfold uD);(try dsimp only)
    try simp(disch:=first|omega|assumption|exact aa _) only[ag,ae,RZ]
    exact⟨rfl,by omega,x1⟩
   |ok sc u=>
    obtain⟨sym,c'⟩:=sc
    rw[e]at aU
    obtain⟨rfl,x1,m',y1,e1,e2,fm,am,tm,im⟩:=aU
    obtain⟨k1,k2,k3,k4⟩:=Ka k e
    have hr:bR S D (A+u)=bs.drop u:=by rw[<-zC x.lo,dH]
    have fH:(bR S D (A+u)).length=bs.length-u:=by rw[hr,List.length_drop]
    have El:Own h1 n0 n1 3 gv (aL .i64 out):=og.ax bb fun b hb=>bJ b (og.lt hb).2 (by
     rintro(q|q)
     ·have:=(og.lt hb).1
      omega
     ·exact(U' b hb).1 q)
    have Va:∀b,ar gv b->¬m'.F z b∧¬ar m'.tv b∧∀y∈m'.iv,¬(y.1<=b∧b<y.2.1):=fun b hb=>by
     have bf:=(og.lt hb).2
     obtain⟨g1,g2,g3⟩:=U' b hb
     exact⟨fun q=>(fm b q).elim g1 fun q=>by omega,fun q=>(tm b q).elim g2 fun q=>by omega,fun y hy q=>(im y hy).elim (fun hy=>g3 y hy q) fun hy=>by omega⟩
    have Vb:∀b,m'.F z b->n0<=b∨F0 b:=fun b q=>(fm b q).elim (hF b) fun q=> .inl (by omega)
    try simp(disch:=first|omega|assumption|exact aa _) only[ag,ae,RZ,cw,ext1,z0]
    by_cases hs:sym=-1
    ·have es:(sym==-1)=true:=beq_iff_eq.2 hs
     try simp(disch:=first|omega|assumption|exact aa _) only[ag,ae,RZ,es]
     rw[if_pos hs]
     have:=ih fu n1 h1 c' m' gv out (A+u) (by omega) (by omega) (by omega) x1 y1 am e1 e2 k1 (by omega) (by omega) El Va Vb
     rw[hr]at this
     exact this
    ·have es:(sym==-1)=false:=beq_eq_false_iff_ne.2 hs
     rw[if_neg hs]
     subst oE
     by_cases hm:(out.length:Int)=most
     ·have em:(((out.length:Nat):Int)==most)=true:=beq_iff_eq.2 hm
      try simp(disch:=first|omega|assumption|exact aa _) only[ag,ae,RZ,es,em]
      (try unfold uD);(try dsimp only)
      rw[if_pos hm]
      try simp(disch:=first|omega|assumption|exact aa _) only[ag,ae,RZ]
      exact⟨rfl,by decide,_,x1⟩
     ·have em:(((out.length:Nat):Int)==most)=false:=beq_eq_false_iff_ne.2 hm
      try simp(disch:=first|omega|assumption|exact aa _) only[ag,ae,RZ,es,em]
      rw[if_neg hm]
      refine xq trivial (oF _ _) El (by rw[eF];omega) (fun c hc=> .inl (El.lt hc).1) _ fun h2 g2 k2=> ?_
      have y2:cJ h2 (n1+2) z p c' m':=y1.ax (by omega) fun b hb h7=>k2 b hb fun cW=>by
       obtain⟨g1,g2,g3⟩:=Va b cW
       rcases h7 with h7|h7|⟨y,h7,h8⟩
       ·exact g1 h7
       ·exact g2 h7
       ·exact g3 y h7 h8
      have x2:bP h2 (n1+2) p S D (A+u):=x1.ax (by omega) (k2 p x1.lt fun hb=>by have:=(El.lt hb).1;omega)
      have on:aL .i64 (out++[sym])=aL .i64 out++[.int .i64 sym]:=by rw[D9];rfl
      have:=ih fu (n1+2) h2 c' m' (.slice (some ⟨n1+1,0,none⟩) ((aL .i64 out).length+1) (ba+((aL .i64 out).length+1))) (out++[sym]) (A+u) (by omega) (by omega) (by omega) x2 y2 am e1 e2 k1 (by omega) (by rw[aM];simp only[cu,List.length_nil];omega)
       (by
         rw[on]
         exact .inr ⟨n1+1,by simp,g2,by omega,by omega⟩)
       (fun b hb=>by
         have hb:=hb.inj
         refine⟨fun q=>by have:=y1.ub q;omega,fun q=>by have:=y1.bH.lt q;omega,fun y hy q=> ?_⟩
         have:=(y1.iv hy).2.1
         omega) Vb
      rw[hr]at this
      exact this
theorem Vc(x:bP h n p S D A){size:Nat}(h3:3<=size)(ek:size<=258)(most:Int)(hm:0<=most)(hb:(bR S D A).length<=1000000)(aw:3000000<=lf):
 ah (fun b=>b=p) n (aq ai gt lf (d+11) 22 #[.pointer (some ⟨p,0,none⟩),.int .i64 (size:Int),.int .i64 most]) h n fun v' h' n'=>
  match eo ((bR S D A).length+1) (lu size) (bR S D A) most [] A with
  | .err e=>v'= .tuple #[.slice none 0 0,.int .i64 e]∧bP h' n' p S D A
  | .ok out a=>∃gv,v'= .tuple #[gv,.int .i64 0]∧Own h' n n' 3 gv (aL .i64 out)∧bP h' n' p S D a:=by
 have hp:=x.lt
 have z0:((0:Int) !=0)=false:=rfl
 have c0:¬most<0:=by omega
 rw[aD (fun _=>PB) rfl]
 refine ah.aB ?_
 unfold HK
 try simp(disch:=first|omega|assumption|exact aa _) only[ag,ae,RZ]
 refine aI aF (aez (lf:=lf) (d:=d+7) h3 ek (by omega) p) (ak _) (fun _ _ h=>h.elim) fun v1 h1 n1 bb bJ aU=> ?_
 obtain⟨rfl,rfl,y1⟩:=aU
 have x1:=x.ax (Nat.le_add_right n 5) (bJ p hp id)
 try simp(disch:=first|omega|assumption|exact aa _) only[ag,ae,RZ,cw,ext1,z0,c0]
 refine bV (xu (lf:=lf) (d:=d+9) x1) (by omega) (fun _ _ h=>h.elim) ?_
 have cr:=aeA (lf:=lf) (d:=d) (S:=S) (D:=D) (z:=n+4) (p:=p) (F0:=fun b=>n<=b) (n0:=n+5) most aw (by omega) ((bR S D A).length+1) lf (n+5) h1 (lu size) (Kg n) (.slice none 0 0) [] A (ak _) (by omega) (by omega) x1 y1 ⟨fun q=>by have:=U9 q;omega,vu⟩ rfl rfl (fun _=>Kf h3 ek) (by show 0+_<=_;omega) (by show 0+_<=_;omega) (Own.nil _ _ _ _) (fun b hb=>absurd hb vu) fun b hb=> .inr (U9 hb)
 have Em:ah (fun b=>b=p∨n<=b) (n+5) (aq ai gt lf (d+10) 52 #[.pointer (some ⟨n+4,0,none⟩),.pointer (some ⟨p,0,none⟩),.int .i64 most]) h1 (n+5) (Ek (n+5) p S D (eo ((bR S D A).length+1) (lu size) (bR S D A) most [] A)):=by
  rw[aD (fun _=>P9) rfl]
  exact ah.aB cr
 refine aI aF Em (by omega) (fun b _ hb=>hb.elim .inr .inl) fun v2 h2 n2 dZ dq dx=> ?_
 unfold Ek at dx
 cases e:eo ((bR S D A).length+1) (lu size) (bR S D A) most [] A with
 |err e0=>
  rw[e]at dx
  obtain⟨rfl,he,B,x2⟩:=dx
  have z1:(e0 !=0)=true:=bne_iff_ne.2 he
  try simp(disch:=first|omega|assumption|exact aa _) only[ag,ae,RZ,cw,ext1,z1]
  refine aI aF (zD (lf:=lf) (d:=d+8) x2 A x.lo x.hi) (by omega) (fun b _ hb=> .inr hb) fun v3 h3 n3 fp dA gQ=> ?_
  obtain⟨_,rfl,x3⟩:=gQ
  try simp(disch:=first|omega|assumption|exact aa _) only[ag,ae,RZ]
  exact x3
 |ok out a=>
  rw[e]at dx
  obtain⟨gv,rfl,og,x2⟩:=dx
  try simp(disch:=first|omega|assumption|exact aa _) only[ag,ae,RZ,cw,ext1,z0]
  exact⟨gv,rfl,og.low (by omega),x2⟩
end
def ch(b:Bool):UInt8:=if b=true then 49 else 48
section
variable {lf d n:Nat} {h:H}
end
section
variable {β:Type} {W:Nat->Prop} {n0:Nat} {h:H} {n:Nat} {Q:β->H->Nat->Prop}
theorem Eo {T:Prop} (_:T) {sz:Nat} {b:Nat} {e:TypeId} {cs vs:List Value} (hl:vs.length=sz) (hc:cs.length=sz) (h1:vs.all one=true) (g:h.get b=some ⟨e,true,cs⟩) (hb:b<n) (hw:n0<=b∨W b) (k:Value->M β)
 (x:∀h',h'.get b=some ⟨e,true,vs⟩->(∀c,c≠b->h'.get c=h.get c)->ah W n0 (k undef) h' n Q):ah W n0 (iH sz (.pointer (some ⟨b,0,none⟩)) (.agg vs.toArray) k) h n Q:=by
 refine wN trivial (vs:=vs) rfl hl h1 g hb (by omega) hw k fun h' g' k'=>x h' ?_ k'
 rw[g',AJ,List.nil_append,List.drop_eq_nil_of_le (by omega),List.append_nil]
end
section
variable {lf d n:Nat} {h:H}
end
def gE:Nat->Pk->List Bool->Nat->St Pk
 |0,_,_,_=> .short
 |N+1,s,bs,a=>if s.fin=true then .ok s a else match eU s bs with
  | .short=> .short
  | .bad e=> .bad e
  | .ok s' u=>gE N s' (bs.drop u) (a+u)
def rb:Pk:=⟨0,0,en,[]⟩
section
variable {lf d n:Nat} {h:H}
end
end Go.Proofs.YtdagfcflbphoiaaGreatDoor
namespace Go.Proofs.YtdagfcflbphoiaaGreatDoor.Tb
def jU(x:Int):Int:=if 1099511627776<x then 1099511627776 else x
theorem aeB{a y:Int}(hy:0<=y):jU (jU a+y)=jU (a+y):=by
 unfold jU
 repeat' split
 all_goals omega
theorem aeC(x:Int):jU x<=1099511627776:=by unfold jU;split<;>omega
theorem aeD{x:Int}(h:0<=x):0<=jU x:=by unfold jU;split<;>omega
theorem aeE{x:Int}(h:x<=1099511627776):jU x=x:=by unfold jU;rw[if_neg (by omega)]
def bO:List Int->Int
 |[]=>0
 |x::l=>x+bO l
theorem qU:∀a b:List Int,bO (a++b)=bO a+bO b
 |[],b=>by simp[bO]
 |x::a,b=>by simp only[ahN,bO,qU a b];omega
theorem Kh:∀{l:List Int},(∀x∈l,0<=x)->0<=bO l
 |[],_=>ahO 0
 |x::l,h=>by
  have:=Kh (l:=l) fun y hy=>h y (lG _ hy)
  have:=h x AK
  simp only[bO];omega
theorem xc(B:Int):∀{l:List Int},(∀x∈l,x<=B)->bO l<=l.length*B
 |[],_=>by simp[bO]
 |x::l,h=>by
  have:=xc B (l:=l) fun y hy=>h y (lG _ hy)
  have:=h x AK
  simp only[bO,cu,Int.natCast_add,Int.add_mul]
  omega
theorem aeF{l:List Int}{i:Nat}(h:i<l.length):bO (l.take (i+1))=bO (l.take i)+l.getD i 0:=by
 rw[mQ h,qU,aC,aR h]
 simp[bO]
def look(ls:List Int)(x:Int):Int:=ls.getD x.toNat 0
def zW(l ls:List Int):Int:=bO (l.map (look ls))
def nL(l ls:List Int):Int:=jU (zW l ls)
theorem Ki{ls:List Int}(h:∀x∈ls,0<=x)(x:Int):0<=look ls x:=by
 unfold look
 rw[aC]
 by_cases hx:x.toNat<ls.length
 ·rw[aR hx];exact h _ (ep hx)
 ·rw[List.getElem?_eq_none (by omega)];exact ahO 0
theorem aeG{l ls:List Int}(h:∀x∈ls,0<=x):0<=zW l ls:=Kh fun x hx=>by
 obtain⟨y,_,rfl⟩:=E'.1 hx
 exact Ki h y
theorem aeH{l ls:List Int}(h:∀x∈ls,0<=x):0<=nL l ls:=aeD (aeG h)
theorem aeI(l ls:List Int):nL l ls<=1099511627776:=aeC _
theorem aeJ{l ls:List Int}{i:Nat}(h:i<l.length):zW (l.take (i+1)) ls=zW (l.take i) ls+look ls (l.getD i 0):=by
 unfold zW
 rw[mQ h,mR,qU,aC,aR h]
 simp[bO]
theorem aeK{l ls:List Int}(hp:∀x∈ls,0<=x){i:Nat}(h:i<l.length):jU (nL (l.take i) ls+look ls (l.getD i 0))=nL (l.take (i+1)) ls:=by
 unfold nL
 rw[aeB (Ki hp _),aeJ h]
def kz(l:List Int)(v:Nat):Nat:=l.countP fun x=>x==(v:Int)
def dT(l:List Int)(size:Nat):List Int:=(cN size).map fun v=>(kz l v:Int)
theorem kB(l:List Int)(size:Nat):(dT l size).length=size:=by unfold dT;simp
theorem Kj{l:List Int}{size v:Nat}(h:v<size):(dT l size).getD v 0=(kz l v:Int):=by
 unfold dT
 rw[aC,lE,AM h]
 rfl
theorem Ep(l:List Int)(v:Nat):kz l v<=l.length:=List.countP_le_length
theorem Vd(a b:List Int)(v:Nat):kz (a++b) v=kz a v+kz b v:=List.countP_append
theorem aeL{l:List Int}{i:Nat}(h:i<l.length)(v:Nat):kz (l.take (i+1)) v=kz (l.take i) v+(if l.getD i 0=(v:Int)then 1 else 0):=by
 rw[mQ h,Vd,aC,aR h]
 unfold kz
 simp only[List.countP_cons,List.countP_nil,Option.getD_some,beq_iff_eq,Nat.zero_add]
theorem Kk{l:List Int}{size:Nat}{x:Int}(h:x∈dT l size):0<=x∧x<=l.length:=by
 unfold dT at h
 obtain⟨v,_,rfl⟩:=E'.1 h
 have:=Ep l v
 omega
theorem Ve(size:Nat):dT [] size=cq size 0:=by
 apply nU
 ·simp[kB]
 ·intro i h1 h2
  simp[dT,kz]
theorem aeM{l:List Int}{size i v:Nat}(h:i<l.length)(hv:l.getD i 0=(v:Int))(hs:v<size):(dT (l.take i) size).set v ((kz (l.take i) v:Int)+1)=dT (l.take (i+1)) size:=by
 apply nU
 ·simp[kB]
 ·intro j h1 h2
  have e:∀(m:List Int) (h:j<(dT m size).length),(dT m size)[j]=(kz m j:Int):=fun m h=>by simp[dT]
  rw[Ly,e,e,aeL h,hv]
  by_cases c:v=j
  ·subst c;simp
  ·rw[if_neg c,if_neg (by omega)];simp
theorem aeN{ls:List Int}(h:∀x∈ls,0<=x)(i:Nat):0<=ls.getD i 0:=by
 have:=Ki h (i:Int)
 simpa[look]using this
def fQ(n:Nat):Nat:=(n+49)/50
def qb(l:List Int)(i:Nat):List Int:=(l.drop (50*i)).take 50
def jV(l:List Int):List (List Int):=(cN (fQ l.length)).map (qb l)
theorem Vf(l:List Int):(jV l).length=fQ l.length:=by unfold jV;simp
theorem aeO{l:List Int}{i:Nat}{x:Int}(h:x∈qb l i):x∈l:=List.mem_of_mem_drop (qh h)
theorem Kl(l:List Int)(i:Nat):(qb l i).length=min 50 (l.length-50*i):=by unfold qb;simp
theorem Vg{l:List Int}{i:Nat}(h:i<fQ l.length):0<(qb l i).length:=by rw[Kl];unfold fQ at h;omega
theorem aeP{l g:List Int}(h:g∈jV l):(∀x∈g,x∈l)∧0<g.length∧g.length<=50:=by
 unfold jV at h
 obtain⟨i,hi,rfl⟩:=E'.1 h
 have:=Vg (List.mem_range.1 hi)
 exact⟨fun x hx=>aeO hx,this,by rw[Kl];omega⟩
def vv(g:List Int):List (List Int)->Nat->Nat->Int->Nat
 |[],_,b,_=>b
 |t::T,p,b,m=>if nL g t<m then vv g T (p+1) p (nL g t)else vv g T (p+1) b m
def zX(g:List Int)(T:List (List Int)):Nat:=vv g T 0 0 1099511627776
theorem Km(g:List Int)(N:Nat):∀(T:List (List Int)) (p b:Nat) (m:Int),p+T.length<=N->b<N->vv g T p b m<N
 |[],_,_,_,_,hb=>hb
 |t::T,p,b,m,h,hb=>by
  simp only[cu]at h
  simp only[vv]
  split
  ·exact Km g N T (p+1) p _ (by omega) (by omega)
  ·exact Km g N T (p+1) b _ (by omega) hb
theorem Vh(g:List Int){T:List (List Int)}(h:0<T.length):zX g T<T.length:=Km g T.length T 0 0 _ (by omega) h
def kC(gs T:List (List Int)):List Nat:=gs.map fun g=>zX g T
def ly(p:Nat):List (List Int)->List Nat->List Int
 |g::gs,q::qs=>(if q=p then g else [])++ly p gs qs
 |_,_=>[]
theorem Vi(p:Nat):∀(gs:List (List Int)) (qs:List Nat) (g:List Int) (q:Nat),gs.length=qs.length->ly p (gs++[g]) (qs++[q])=ly p gs qs++(if q=p then g else [])
 |[],[],g,q,_=>by simp[ly]
 |[],_::_,_,_,h=>by simp at h
 |_::_,[],_,_,h=>by simp at h
 |a::gs,b::qs,g,q,h=>by
  simp only[ahN,ly,List.append_assoc]
  rw[Vi p gs qs g q (by simpa using h)]
theorem Kn(p:Nat):∀(gs:List (List Int)) (qs:List Nat),(∀g∈gs,g.length<=50)->(ly p gs qs).length<=50*gs.length
 |[],_,_=>by simp[ly]
 |_::_,[],_=>by simp[ly]
 |a::gs,b::qs,h=>by
  have:=Kn p gs qs fun g hg=>h g (lG _ hg)
  have:=h a AK
  simp only[ly,aM,cu]
  split<;>simp<;>omega
def tc(gs T:List (List Int))(size p:Nat):List Int:=dT (ly p gs (kC gs T)) size
def mI(a b:List Int):List Int:=(cN a.length).map fun i=>jU (a.getD i 0+b.getD i 0)
theorem aeQ(a b:List Int)(size:Nat)(h:a.length+b.length<=1099511627776):mI (dT a size) (dT b size)=dT (a++b) size:=by
 apply nU
 ·simp[mI,kB]
 ·intro i h1 h2
  have hs:i<size:=by rw[kB]at h2;exact h2
  have:(mI (dT a size) (dT b size))[i]=jU ((dT a size).getD i 0+(dT b size).getD i 0):=by simp[mI]
  rw[this,Kj hs,Kj hs,show(dT (a++b) size)[i]=((kz (a++b) i:Nat):Int) by simp[dT],Vd]
  have h3:=Ep a i
  have h4:=Ep b i
  rw[aeE (by omega)]
  omega
def lz(n:Int):Nat:=if n<200 then 2 else if n<600 then 3 else if n<1200 then 4 else if n<2400 then 5 else 6
theorem Ko(n:Int):2<=lz n∧lz n<=6:=by unfold lz;repeat' split
                                      all_goals omega
def iO(counts:List Int)(n:Int)(v:Nat):Int:=if n-1<bO (counts.take v)then n-1 else bO (counts.take v)
theorem aeR{counts:List Int}(h0:∀x∈counts,0<=x){n:Int}{v:Nat}(h:v<counts.length):(if n-1<iO counts n v+counts.getD v 0 then n-1 else iO counts n v+counts.getD v 0)=iO counts n (v+1):=by
 have:=aeN h0 v
 unfold iO
 rw[aeF h]
 repeat' split
 all_goals omega
theorem Vj{counts:List Int}(h0:∀x∈counts,0<=x){n:Int}(hn:1<=n)(v:Nat):0<=iO counts n v∧iO counts n v<=n-1:=by
 have:=Kh (l:=counts.take v) fun x hx=>h0 x (qh hx)
 unfold iO
 split<;>omega
def ma(counts:List Int)(n:Int)(v:Nat):Nat:=(iO counts n v*(lz n:Int)/n).toNat
theorem aeS{counts:List Int}(h0:∀x∈counts,0<=x){n:Int}(hn:1<=n)(v:Nat):(iO counts n v*(lz n:Int)).tdiv n=(ma counts n v:Int):=by
 have h1:=(Vj h0 hn v).1
 have h2:0<=iO counts n v*(lz n:Int):=aik h1 (by omega)
 rw[aif h2]
 unfold ma
 have:=Int.ediv_nonneg h2 (show 0<=n by omega)
 omega
def vw(counts:List Int)(n:Int)(p:Nat):List Int:=(cN counts.length).map fun v=>if ma counts n v=p then 0 else 15
def vx(counts:List Int)(n:Int):List (List Int):=(cN (lz n)).map (vw counts n)
theorem Kp(counts:List Int)(n:Int):(vx counts n).length=lz n:=by unfold vx;simp
theorem aeT(counts:List Int)(n:Int)(p:Nat):(vw counts n p).length=counts.length:=by unfold vw;simp
theorem aeU{counts:List Int}{n:Int}{p:Nat}{x:Int}(h:x∈vw counts n p):0<=x∧x<=15:=by
 unfold vw at h
 obtain⟨v,_,rfl⟩:=E'.1 h
 split<;>omega
end Go.Proofs.YtdagfcflbphoiaaGreatDoor.Tb
namespace Go.Proofs.YtdagfcflbphoiaaGreatDoor
open Go.RowKit Ev Tb
theorem Vk{α:Type}(d:α)(p:α->Bool){xs:List α}{i:Nat}(h:i<xs.length):(xs.take (i+1)).all p=((xs.take i).all p&&p (xs.getD i d)):=by
 rw[mQ h,List.all_append,aC,aR h]
 simp
theorem Kq{α:Type}(d:α)(p:α->Bool){xs:List α}{i:Nat}(h:i<xs.length)(hp:p (xs.getD i d)=false):xs.all p=false:=by
 rw[aC,aR h]at hp
 exact List.all_eq_false.2 ⟨_,ep h,by simpa using hp⟩
def eu(k:Int)(xs:List Int):Bool:=xs.all fun x=>decide (0<=x)&&decide (x<k)
theorem Er{k:Int}{xs:List Int}:eu k xs=true↔∀x∈xs,0<=x∧x<k:=by unfold eu;simp
theorem Es{xs:List Int}{i:Nat}(h:i<xs.length):xs.getD i 0∈xs:=by
 rw[aC,aR h]
 exact ep h
theorem Kr{k:Int}{xs:List Int}{i:Nat}(h:i<xs.length)(h1:xs.getD i 0<0):eu k xs=false:=
 Kq 0 _ h (by show(decide (0<=xs.getD i 0)&&decide (xs.getD i 0<k))=false;rw[decide_eq_false (Int.not_le.2 h1)];rfl)
theorem Ks{k:Int}{xs:List Int}{i:Nat}(h:i<xs.length)(h1:k<=xs.getD i 0):eu k xs=false:=
 Kq 0 _ h (by show(decide (0<=xs.getD i 0)&&decide (xs.getD i 0<k))=false;rw[decide_eq_false (Int.not_lt.2 h1),Bool.and_false])
theorem Kt{k x:Int}{xs:List Int}{i:Nat}(h:i<xs.length)(ha:eu k (xs.take i)=true)(hx:xs.getD i 0=x)(h0:0<=x)(h1:x<k):eu k (xs.take (i+1))=true:=by
 unfold eu at ha⊢
 rw[Vk 0 _ h,ha,hx,decide_eq_true h0,decide_eq_true h1]
 rfl
theorem zY{i N:Nat}(h:i<N)(hN:N<=9223372036854775807):IntKind.i64.wrap ((i:Int)+1)=((i+1:Nat):Int):=by rw[aV (by omega) (by omega)];rfl
section
variable (lf d n:Nat) (h:H)
theorem aeV(x:Int):ah (fun _=>False) n (aq ai gt lf (d+1) 132 #[.int .i64 x]) h n fun v' h' n'=>v'= .bool (decide (0<=x)&&decide (x<=1099511627776))∧h'=h∧n'=n:=by
 rw[aD (fun _=>R1) rfl]
 refine ah.aB ?_
 unfold IK
 by_cases c:0<=x
 ·try simp(disch:=first|omega|assumption|exact aa _) only[ag,ae,RZ,c]
 ·try simp(disch:=first|omega|assumption|exact aa _) only[ag,ae,RZ,c]
theorem aeW(x:Int):ah (fun _=>False) n (aq ai gt lf (d+2) 131 #[.int .i64 x]) h n fun v' h' n'=>v'= .bool (!(decide (0<=x)&&decide (x<=1099511627776)))∧h'=h∧n'=n:=by
 rw[aD (fun _=>R0) rfl]
 refine ah.aB ?_
 unfold IJ
 refine bV (aeV lf d n h x) (ak _) (fun _ _ h=>h.elim) ?_
 try simp(disch:=first|omega|assumption|exact aa _) only[ag,ae,RZ]
theorem aeX{β:Type}{rec:FuncId->Array Value->M Value}(a:Value)(k:Value->M β):eM ai rec (.func (.func 131) #[] #[]) [a] k=au rec 131 [a] k:=by
 unfold eM
 show aG (some _) _=_
 rw[pJ]
 simp only[show j1 ai 131=true by kernel_rfl]
 exact(ki _ _).symm
variable (aw:3000000<=lf)
include aw
theorem Ku(v:Value)(xs:List Int)(hR:Row h n 3 .i64 v xs)(hl:xs.length<=1000000):
 ah (fun _=>False) n (aq ai gt lf (d+5) 111 #[v]) h n fun v' h' n'=>v'= .bool (eg 0 1099511627776 xs)∧h'=h∧n'=n:=by
 have s1:ah (fun _=>False) n (aq ai gt lf (d+3) 128 #[v,.func (.func 131) #[] #[]]) h n fun v' h' n'=>(∃r:Int,v'= .int .i64 r∧decide (0<=r)= !eg 0 1099511627776 xs)∧h'=h∧n'=n:=by
  rw[aD (fun _=>Dk) rfl]
  refine ah.aB ?_
  unfold wX
  have bL:=hR
  obtain⟨a,c,rfl⟩:=hR.len
  try simp(disch:=first|omega|assumption|exact aa _) only[ag,ae,RZ]
  refine iq xs.length (fun fu i (_:Unit)=>mz lf (aq ai gt lf (d+2)) fu (oH lf (aq ai gt lf (d+2))) (.slice a xs.length c) (.func (.func 131) #[] #[]) _ (.int .i64 (xs.length:Nat)) (.int .i64 (i:Nat))) (fun i _ h' n'=>(h'=h∧n'=n)∧eg 0 1099511627776 (xs.take i)=true) ?_ ?_ lf 0 () h n (cb _) (by omega) ⟨⟨rfl,rfl⟩,rfl⟩
  ·rintro fu _ h' n' ⟨⟨rfl,rfl⟩,ha⟩
   rw[mz]
   try simp(disch:=first|omega|assumption|exact aa _) only[ag,ae,RZ,c9]
   (try unfold oH);(try dsimp only)
   try simp(disch:=first|omega|assumption|exact aa _) only[ag,ae,RZ]
   rw[nQ]at ha
   exact⟨-1,rfl,by rw[ha];rfl⟩
  ·rintro fu i _ h' n' hi ⟨⟨rfl,rfl⟩,ha⟩ next
   obtain⟨b,off,cap,o,cs,hv,hg,hb,_,_,_,cI⟩:=bL.some (by omega)
   cases hv
   have e1:((i:Nat):Int)<((xs.length:Nat):Int):=by omega
   have c1:=cI i hi
   have w1:=zY hi (by omega)
   rw[mz]
   try simp(disch:=first|omega|assumption|exact aa _) only[ag,ae,RZ,e1,hg,c1,aeX]
   refine bV (aeW lf d n' h' (xs.getD i 0)) (ak _) (fun _ _ h=>h.elim) ?_
   cases h1:(decide (0<=xs.getD i 0)&&decide (xs.getD i 0<=1099511627776))with
   |true=>
    try simp(disch:=first|omega|assumption|exact aa _) only[ag,ae,RZ,gu,w1]
    exact next () _ _ ⟨⟨rfl,rfl⟩,by unfold eg at ha⊢;rw[Vk 0 _ hi,ha,h1];rfl⟩
   |false=>
    try simp(disch:=first|omega|assumption|exact aa _) only[ag,ae,RZ,gZ]
    (try unfold oH);(try dsimp only)
    try simp(disch:=first|omega|assumption|exact aa _) only[ag,ae,RZ]
    have:eg 0 1099511627776 xs=false:=Kq 0 _ hi h1
    exact⟨(i:Nat),rfl,by rw[this];simp⟩
 have s2:ah (fun _=>False) n (aq ai gt lf (d+4) 103 #[v,.func (.func 131) #[] #[]]) h n fun v' h' n'=>v'= .bool (!eg 0 1099511627776 xs)∧h'=h∧n'=n:=by
  rw[aD (fun _=>C5) rfl]
  refine ah.aB ?_
  unfold y6
  refine aI aF s1 (ak _) (fun _ _ h=>h.elim) fun v' h' n' _ _ hq=> ?_
  obtain⟨⟨r,rfl,hr⟩,rfl,rfl⟩:=hq
  try simp(disch:=first|omega|assumption|exact aa _) only[ag,ae,RZ]
  rw[hr]
 rw[aD (fun _=>Rp) rfl]
 refine ah.aB ?_
 unfold ID
 refine bV s2 (ak _) (fun _ _ h=>h.elim) ?_
 rw[yH,Bool.not_not]
 try simp(disch:=first|omega|assumption|exact aa _) only[ag,ae,RZ]
omit aw in
theorem Vl(a b:Int)(h0:0<=a+b)(h1:a+b<=9223372036854775807):ah (fun _=>False) n (aq ai gt lf (d+1) 112 #[.int .i64 a,.int .i64 b]) h n fun v' h' n'=>v'= .int .i64 (jU (a+b))∧h'=h∧n'=n:=by
 rw[aD (fun _=>Rq) rfl]
 refine ah.aB ?_
 unfold IE
 have w:IntKind.i64.wrap (a+b)=a+b:=aV (by omega) (by omega)
 try simp(disch:=first|omega|assumption|exact aa _) only[ag,ae,RZ,w]
 all_goals (first|rfl|exact⟨rfl,rfl,rfl⟩|exact⟨rfl,rfl⟩)
theorem aeY(v u:Value)(xs ls:List Int)(hR:Row h n 3 .i64 v xs)(hL:Row h n 3 .i64 u ls)(hl:xs.length<=1000000)(nh:ls.length<=1000000):
 ah (fun _=>False) n (aq ai gt lf (d+6) 77 #[v,u]) h n fun v' h' n'=>v'=(if eg 0 1099511627776 ls=true∧eu ls.length xs=true then .tuple #[.int .i64 (nL xs ls),.int .i64 0]else .tuple #[.int .i64 0,.int .i64 1])∧h'=h∧n'=n:=by
 obtain⟨r,hr⟩:∃r:Value,(if eg 0 1099511627776 ls=true∧eu ls.length xs=true then Value.tuple #[.int .i64 (nL xs ls),.int .i64 0]else .tuple #[.int .i64 0,.int .i64 1])=r:=⟨_,rfl⟩
 rw[hr]
 rw[aD (fun _=>QG) rfl]
 refine ah.aB ?_
 unfold CT
 refine bV (Ku lf d n h aw u ls hL nh) (ak _) (fun _ _ h=>h.elim) ?_
 cases hm:eg 0 1099511627776 ls with
 |false=>
  rw[if_neg (by rw[hm];simp)]at hr
  try simp(disch:=first|omega|assumption|exact aa _) only[ag,ae,RZ,gZ]
  rw[<-hr]
 |true=>
  have dM:=k8.1 hm
  have bL:=hR
  have Et:=hL
  obtain⟨a,c,rfl⟩:=hR.len
  obtain⟨a2,c2,rfl⟩:=hL.len
  try simp(disch:=first|omega|assumption|exact aa _) only[ag,ae,RZ,gu]
  refine iq xs.length (fun fu i (a:Int)=>uK lf (aq ai gt lf (d+5)) fu (wS lf (aq ai gt lf (d+5))) _ _ (.int .i64 0) (.int .i64 0) (.int .i64 a) (.bool false) _ (.int .i64 (xs.length:Nat)) (.int .i64 (i:Nat))) (fun i a h' n'=>(h'=h∧n'=n)∧a=nL (xs.take i) ls∧eu ls.length (xs.take i)=true) ?_ ?_ lf 0 0 h n (cb _) (by omega) ⟨⟨rfl,rfl⟩,rfl,rfl⟩
  ·rintro fu q h' n' ⟨⟨rfl,rfl⟩,rfl,ha⟩
   rw[uK]
   try simp(disch:=first|omega|assumption|exact aa _) only[ag,ae,RZ,c9]
   (try unfold wS);(try dsimp only)
   try simp(disch:=first|omega|assumption|exact aa _) only[ag,ae,RZ]
   rw[nQ]at ha⊢
   rw[<-hr,if_pos ⟨hm,ha⟩]
  ·rintro fu i q h' n' hi ⟨⟨rfl,rfl⟩,rfl,ha⟩ next
   obtain⟨b,off,cap,o,cs,hv,hg,hb,_,_,_,cI⟩:=bL.some (by omega)
   cases hv
   have e1:((i:Nat):Int)<((xs.length:Nat):Int):=by omega
   have c1:=cI i hi
   have w1:=zY hi (by omega)
   rw[uK]
   by_cases h1:xs.getD i 0<0
   ·have hb:eu ls.length xs=false:=Kr hi h1
    try simp(disch:=first|omega|assumption|exact aa _) only[ag,ae,RZ,e1,hg,c1,h1]
    (try unfold wS);(try dsimp only)
    try simp(disch:=first|omega|assumption|exact aa _) only[ag,ae,RZ]
    rw[<-hr,if_neg (by rw[hb];simp)]
   ·by_cases h2:((ls.length:Nat):Int)<=xs.getD i 0
    ·have hb:eu ls.length xs=false:=Ks hi h2
     try simp(disch:=first|omega|assumption|exact aa _) only[ag,ae,RZ,e1,hg,c1,h1,h2]
     (try unfold wS);(try dsimp only)
     try simp(disch:=first|omega|assumption|exact aa _) only[ag,ae,RZ]
     rw[<-hr,if_neg (by rw[hb];simp)]
    ·obtain⟨b2,zw,TD,o2,rM,j7,fG,cW,_,_,_,zx⟩:=Et.some (by omega)
     cases j7
     obtain⟨x,hx⟩:∃x:Nat,xs.getD i 0=(x:Int):=⟨(xs.getD i 0).toNat,by omega⟩
     have c2:=zx x (by omega)
     have hy:=dM (ls.getD x 0) (Es (by omega))
     have e3:(x:Int)<((ls.length:Nat):Int):=by omega
     have e4:¬((ls.length:Nat):Int)<=(x:Int):=by omega
     have e5:¬((x:Int)<0):=by omega
     have k1:=aeH (l:=xs.take i) fun y hy=>(dM y hy).1
     have k2:=aeI (xs.take i) ls
     have k3:=aeK (l:=xs) (fun y hy=>(dM y hy).1) hi
     rw[hx]at c1 k3
     have k4:Tb.look ls (x:Int)=ls.getD x 0:=by unfold Tb.look;rw[Int.toNat_natCast]
     try simp(disch:=first|omega|assumption|exact aa _) only[ag,ae,RZ,e1,hg,c1,e4,e5,e3,fG,c2]
     refine bV (Vl lf (d+4) n' h' _ _ (by omega) (by omega)) (ak _) (fun _ _ h=>h.elim) ?_
     try simp(disch:=first|omega|assumption|exact aa _) only[ag,ae,RZ,w1]
     exact next _ _ _ ⟨⟨rfl,rfl⟩,by rw[<-k4,k3],Kt hi ha hx (by omega) e3⟩
end
theorem Kv(k:IntKind)(l:List Int)(i:Nat)(x:Int):(aL k l).set i (.int k x)=aL k (l.set i x):=by unfold aL;rw[List.map_set]
theorem Eu(k:IntKind)(n:Nat)(x:Int):cq n (Value.int k x)=aL k (cq n x):=by unfold aL;rw[Lx]
theorem Row.zZ{h:H}{n b:Nat}{e:TypeId}{o:Bool}{xs:List Int}{m:Nat}(hg:h.get b=some ⟨e,o,aL .i64 xs⟩)(hb:b<n)(hm:xs.length=m):Row h n e .i64 (.slice (some ⟨b,0,none⟩) m m) xs:=by
 subst hm
 exact .inr ⟨b,0,xs.length,o,_,rfl,hg,hb,by rw[eF];omega,by rw[gT,kH (by rw[eF];omega)],ak _⟩
theorem aeZ {β:Type} {W:Nat->Prop} {n0:Nat} {h:H} {n:Nat} {Q:β->H->Nat->Prop} {v:Value} {xs:List Int} (hR:Row h n 3 .i64 v xs) {l hh:Nat} (h1:l<hh) (h2:hh<=xs.length) {kd pK:IntKind} (k:Value->M β)
 (y:∀v',Row h n 3 .i64 v' ((xs.drop l).take (hh-l))->ah W n0 (k v') h n Q):ah W n0 (qK 3 1 v (some (.int kd (l:Int))) (some (.int pK (hh:Int))) k) h n Q:=by
 rcases hR with ⟨a,c,rfl,_,rfl⟩|⟨b,off,cap,o,cs,rfl,hg,hb,hle,ht,hc⟩
 ·simp at h2;omega
 ·refine Cr trivial hg rfl hb off xs.length cap _ _ (yK _ _ _) (yK _ _ _) (by omega) h2 hc _ trivial ?_
  rw[if_neg (by omega)]
  have hlen:((xs.drop l).take (hh-l)).length=hh-l:=by simp;omega
  refine y _ (.inr ⟨b,off+l,cap-l,o,cs,by rw[hlen],hg,hb,by rw[hlen];omega, ?_,by rw[hlen];omega⟩)
  rw[hlen]
  have:(cs.drop (off+l)).take (hh-l)=(((cs.drop off).take xs.length).drop l).take (hh-l):=by
   rw[List.drop_take,List.take_take,List.drop_drop,Nat.min_eq_left (by omega)]
  rw[this,ht]
  unfold aL
  rw[List.map_take,List.map_drop]
section
variable (lf d n:Nat) (h:H) (aw:3000000<=lf)
theorem ae0(v:Value)(z:Int)(hz:z<3∨258<z):ah (fun _=>False) n (aq ai gt lf (d+1) 98 #[v,.int .i64 z]) h n fun v' h' n'=>v'= .tuple #[.slice none 0 0,.int .i64 1]∧h'=h∧n'=n:=by
 rw[aD (fun _=>It) rfl]
 refine ah.aB ?_
 unfold yX
 by_cases c:z<3
 ·try simp(disch:=first|omega|assumption|exact aa _) only[ag,ae,RZ,c]
 ·have c2:258<z:=by omega
  try simp(disch:=first|omega|assumption|exact aa _) only[ag,ae,RZ,c,c2]
include aw
theorem Kw(v:Value)(xs:List Int)(hR:Row h n 3 .i64 v xs)(hl:xs.length<=1000000)(s:Nat)(h3:3<=s)(ek:s<=258):
 ah (fun _=>False) n (aq ai gt lf (d+1) 98 #[v,.int .i64 (s:Int)]) h n fun v' h' n'=>(eu s xs=true∧∃u,v'= .tuple #[u,.int .i64 0]∧Row h' n' 3 .i64 u (dT xs s))∨(eu s xs=false∧v'= .tuple #[.slice none 0 0,.int .i64 1]):=by
 rw[aD (fun _=>It) rfl]
 refine ah.aB ?_
 unfold yX
 have bL:=hR
 obtain⟨a,c,rfl⟩:=hR.len
 have e1:¬((s:Int)<3):=by omega
 have e2:¬((258:Int)<(s:Int)):=by omega
 try simp(disch:=first|omega|assumption|exact aa _) only[ag,ae,RZ,e1,e2]
 refine Ev.run_make trivial s s _ (ak _) (by omega) ?_
 try simp(disch:=first|omega|assumption|exact aa _) only[ag,ae,RZ]
 refine iq xs.length (fun fu i (_:Unit)=>uL lf (aq ai gt lf d) fu (wU lf (aq ai gt lf d)) _ _ (.slice none 0 0) (.int .i64 0) (.slice (some ⟨n,0,none⟩) s s) (.bool false) _ (.int .i64 (xs.length:Nat)) (.int .i64 (i:Nat)))
  (fun i _ h' n'=>n'=n+1∧(∀b,b<n->h'.get b=h.get b)∧h'.get n=some ⟨3,true,aL .i64 (dT (xs.take i) s)⟩∧eu s (xs.take i)=true) ?_ ?_ lf 0 () _ _ (cb _) (by omega) ⟨rfl,fun b hb=>aA _ _ (by omega),by rw[get_eq,AJ,Ve,Eu],rfl⟩
 ·rintro fu _ h' n' ⟨rfl,hk,hg,ha⟩
  rw[uL]
  try simp(disch:=first|omega|assumption|exact aa _) only[ag,ae,RZ,c9]
  (try unfold wU);(try dsimp only)
  try simp(disch:=first|omega|assumption|exact aa _) only[ag,ae,RZ]
  rw[nQ]at ha hg
  exact .inl ⟨ha,_,rfl,Row.zZ hg (by omega) (kB _ _)⟩
 ·rintro fu i _ h' n' hi ⟨rfl,hk,lV,ha⟩ next
  have fJ:=bL.ax (fg n) hk
  obtain⟨b,off,cap,o,cs,hv,hg,hb,_,_,_,cI⟩:=fJ.some (by omega)
  cases hv
  have e3:((i:Nat):Int)<((xs.length:Nat):Int):=by omega
  have c1:=cI i hi
  have w1:=zY hi (by omega)
  rw[uL]
  by_cases h1:xs.getD i 0<0
  ·have hb:eu s xs=false:=Kr hi h1
   try simp(disch:=first|omega|assumption|exact aa _) only[ag,ae,RZ,e3,hg,c1,h1]
   (try unfold wU);(try dsimp only)
   try simp(disch:=first|omega|assumption|exact aa _) only[ag,ae,RZ]
   first|exact .inr hb|exact .inr ⟨hb,rfl⟩
  ·by_cases h2:(s:Int)<=xs.getD i 0
   ·have hb:eu s xs=false:=Ks hi h2
    try simp(disch:=first|omega|assumption|exact aa _) only[ag,ae,RZ,e3,hg,c1,h1,h2]
    (try unfold wU);(try dsimp only)
    try simp(disch:=first|omega|assumption|exact aa _) only[ag,ae,RZ]
    first|exact .inr hb|exact .inr ⟨hb,rfl⟩
   ·obtain⟨x,hx⟩:∃x:Nat,xs.getD i 0=(x:Int):=⟨(xs.getD i 0).toNat,by omega⟩
    have e4:¬(s:Int)<=(x:Int):=by omega
    have e5:¬((x:Int)<0):=by omega
    have e6:(x:Int)<(s:Int):=by omega
    have c2:(aL .i64 (dT (xs.take i) s))[x]? =some (.int .i64 (kz (xs.take i) x:Int)):=by
     rw[Hv (by rw[kB];omega),Kj (by omega)]
    have c3:=aeM hi hx (show x<s by omega)
    have c4:=Ep (xs.take i) x
    have c5:(xs.take i).length<=1000000:=by rw[dW];omega
    have c6:IntKind.i64.wrap ((kz (xs.take i) x:Int)+1)=(kz (xs.take i) x:Int)+1:=aV (by omega) (by omega)
    rw[hx]at c1
    try simp(disch:=first|omega|assumption|exact aa _) only[ag,ae,RZ,e3,hg,c1,e4,e5,e6,lV,c2,c6,Kv,c3,eF,kB]
    refine⟨by omega,.inl (by omega), ?_⟩
    rw[show((i:Nat):Int)+1=((i+1:Nat):Int) by omega]
    refine next () _ _ ⟨rfl,fun b hb=>by rw[aA _ _ (by omega)];exact hk b hb,get_eq _ _ _,Kt hi ha hx (by omega) e6⟩
omit aw in
theorem Kx(x:Nat)(hx:x<=9223372036854775807):ah (fun _=>False) n (aq ai gt lf (d+1) 75 #[.int .i64 (x:Int)]) h n fun v' h' n'=>v'= .int .i64 (fQ x:Int)∧h'=h∧n'=n:=by
 rw[aD (fun _=>QC) rfl]
 refine ah.aB ?_
 unfold Ik
 by_cases c:x=0
 ·subst c
  have e1:((0:Nat):Int)<=0:=by omega
  try simp(disch:=first|omega|assumption|exact aa _) only[ag,ae,RZ,e1]
  all_goals (first|rfl|exact⟨rfl,rfl,rfl⟩|exact⟨rfl,rfl⟩)
 ·have e1:¬((x:Int)<=0):=by omega
  have e2:IntKind.i64.wrap ((x:Int)-1)=((x-1:Nat):Int):=by rw[aV (by omega) (by omega)];omega
  have e3:((x-1:Nat):Int).tdiv 50=(((x-1)/50:Nat):Int):=rfl
  have e4:IntKind.i64.wrap (((x-1)/50:Nat):Int)=(((x-1)/50:Nat):Int):=aV (by omega) (by omega)
  have e5:IntKind.i64.wrap ((((x-1)/50:Nat):Int)+1)=(fQ x:Int):=by rw[aV (by omega) (by omega)];unfold fQ;omega
  try simp(disch:=first|omega|assumption|exact aa _) only[ag,ae,RZ,e1,e2,e3,e4,e5]
omit aw in
theorem ae1(v:Value)(xs:List Int)(hR:Row h n 3 .i64 v xs)(hl:xs.length<=1000000)(i:Nat)(hi:i<fQ xs.length):
 ah (fun _=>False) n (aq ai gt lf (d+3) 76 #[v,.int .i64 (i:Int)]) h n fun v' h' n'=>∃u,v'= .tuple #[u,.int .i64 0]∧Row h' n' 3 .i64 u (qb xs i):=by
 rw[aD (fun _=>QD) rfl]
 refine ah.aB ?_
 unfold Il
 have bL:=hR
 obtain⟨a,c,rfl⟩:=hR.len
 have e1:¬((i:Int)<0):=by omega
 try simp(disch:=first|omega|assumption|exact aa _) only[ag,ae,RZ,e1]
 refine bV (Kx lf (d+1) n h xs.length (by omega)) (ak _) (fun _ _ h=>h.elim) ?_
 have e2:¬((fQ xs.length:Int)<=(i:Int)):=by omega
 try simp(disch:=first|omega|assumption|exact aa _) only[ag,ae,RZ,e2]
 have hp:=Vg hi
 unfold fQ at hi
 have s1:ah (fun _=>False) n (aq ai gt lf (d+2) 110 #[.slice a xs.length c,.int .i64 (i:Int),.int .i64 50]) h n fun v' h' n'=>Row h' n' 3 .i64 v' (qb xs i):=by
  rw[aD (fun _=>Ro) rfl]
  refine ah.aB ?_
  unfold IC
  have f1:IntKind.i64.wrap ((i:Int)*50)=((50*i:Nat):Int):=by rw[aV (by omega) (by omega)];omega
  have f2:IntKind.i64.wrap ((i:Int)+1)=((i+1:Nat):Int):=zY (N:=1000000) (by omega) (by omega)
  have f3:IntKind.i64.wrap (((i+1:Nat):Int)*50)=((50*i+50:Nat):Int):=by rw[aV (by omega) (by omega)];omega
  have f4:(if((50*i+50:Nat):Int)<((xs.length:Nat):Int)then((50*i+50:Nat):Int)else((xs.length:Nat):Int))=((min xs.length (50*i+50):Nat):Int):=by split<;>omega
  try simp(disch:=first|omega|assumption|exact aa _) only[ag,ae,RZ,f1,f2,f3,f4]
  refine aeZ bL (by omega) (by omega) _ fun v' hr=> ?_
  have hg:(xs.drop (50*i)).take (min xs.length (50*i+50)-50*i)=qb xs i:=by
   unfold qb
   by_cases q:xs.length<=50*i+50
   ·rw[kH (by simp;omega),kH (by simp;omega)]
   ·congr 1;omega
  rw[hg]at hr
  refine aI aF (vn lf d n h v' _ hr hp (by rw[Kl];omega)) (ak _) (fun _ _ h=>h.elim) fun v1 h1 n1 bb bJ hq=> ?_
  try simp(disch:=first|omega|assumption|exact aa _) only[ag,ae,RZ]
  exact hq.2.1
 refine aI aF s1 (ak _) (fun _ _ h=>h.elim) fun v1 h1 n1 bb bJ hq=> ?_
 try simp(disch:=first|omega|assumption|exact aa _) only[ag,ae,RZ]
 exact⟨_,rfl,hq⟩
theorem ae2(v u:Value)(xs ys:List Int)(hR:Row h n 3 .i64 v xs)(hL:Row h n 3 .i64 u ys)(hl:xs.length<=1000000)(gO:xs.length=ys.length)(hx:eg 0 1099511627776 xs=true)(hy:eg 0 1099511627776 ys=true):
 ah (fun _=>False) n (aq ai gt lf (d+6) 126 #[v,u]) h n fun v' h' n'=>∃z,v'= .tuple #[z,.int .i64 0]∧Row h' n' 3 .i64 z (mI xs ys)∧∀b,ar z b->n<=b:=by
 rw[aD (fun _=>RK) rfl]
 refine ah.aB ?_
 unfold Dh
 have bL:=hR
 have Et:=hL
 obtain⟨a,c,rfl⟩:=hR.len
 obtain⟨a2,c2,rfl⟩:=hL.len
 have e1:(((xs.length:Nat):Int) !=((ys.length:Nat):Int))=false:=by rw[gO];simp
 try simp(disch:=first|omega|assumption|exact aa _) only[ag,ae,RZ,e1]
 refine bV (Ku lf d n h aw _ xs bL hl) (ak _) (fun _ _ h=>h.elim) ?_
 rw[hx]
 try simp(disch:=first|omega|assumption|exact aa _) only[ag,ae,RZ,gu]
 refine bV (Ku lf d n h aw _ ys Et (by omega)) (ak _) (fun _ _ h=>h.elim) ?_
 rw[hy]
 try simp(disch:=first|omega|assumption|exact aa _) only[ag,ae,RZ,gu]
 refine Ev.run_make trivial xs.length xs.length _ (ak _) (by omega) ?_
 try simp(disch:=first|omega|assumption|exact aa _) only[ag,ae,RZ]
 have Ew:(mI xs ys).length=xs.length:=by unfold mI;simp
 have ada:∀i,i<xs.length->(mI xs ys).getD i 0=jU (xs.getD i 0+ys.getD i 0):=fun i hi=>by
  unfold mI
  rw[aC,lE,AM hi]
  rfl
 have re:=k8.1 hx
 have hy':=k8.1 hy
 refine iq xs.length (fun fu i (_:Unit)=>uU lf (aq ai gt lf (d+5)) fu (Dg lf (aq ai gt lf (d+5))) _ _ (.slice none 0 0) (.int .i64 0) (.slice (some ⟨n,0,none⟩) xs.length xs.length) (.bool false) (.int .i64 (xs.length:Nat)) (.int .i64 (i:Nat)))
  (fun i _ h' n'=>n'=n+1∧(∀b,b<n->h'.get b=h.get b)∧h'.get n=some ⟨3,true,aL .i64 (part (mI xs ys) i)⟩) ?_ ?_ lf 0 () _ _ (cb _) (by omega) ⟨rfl,fun b hb=>aA _ _ (by omega),by rw[get_eq,JU,Ew,Eu]⟩
 ·rintro fu _ h' n' ⟨rfl,hk,hg⟩
  rw[uU]
  try simp(disch:=first|omega|assumption|exact aa _) only[ag,ae,RZ,c9]
  (try unfold Dg);(try dsimp only)
  try simp(disch:=first|omega|assumption|exact aa _) only[ag,ae,RZ]
  rw[<-Ew,JT]at hg
  exact⟨_,rfl,Row.zZ hg (by omega) Ew,fun b hb=>by rw[hb.inj];exact ak n⟩
 ·rintro fu i _ h' n' hi ⟨rfl,hk,lV⟩ next
  obtain⟨b,off,cap,o,cs,hv,hg,hb,_,_,_,cI⟩:=(bL.ax (fg n) hk).some (by omega)
  cases hv
  obtain⟨b2,zw,TD,o2,rM,j7,fG,cW,_,_,_,zx⟩:=(Et.ax (fg n) hk).some (by omega)
  cases j7
  have e3:((i:Nat):Int)<((xs.length:Nat):Int):=by omega
  have e4:((i:Nat):Int)<((ys.length:Nat):Int):=by omega
  have c1:=cI i hi
  have c2:=zx i (by omega)
  have w1:=zY hi (by omega)
  have b1:=re _ (Es hi)
  have b2:=hy' _ (Es (show i<ys.length by omega))
  have pl:(part (mI xs ys) i).length=xs.length:=by rw[JR _ (by omega),Ew]
  have ps:(part (mI xs ys) i).set i (jU (xs.getD i 0+ys.getD i 0))=part (mI xs ys) (i+1):=by rw[<-ada i hi,JS (by omega)]
  rw[uU]
  try simp(disch:=first|omega|assumption|exact aa _) only[ag,ae,RZ,e3,e4,hg,c1,fG,c2]
  refine bV (Vl lf (d+4) _ h' _ _ (by omega) (by omega)) (by omega) (fun _ _ h=>h.elim) ?_
  try simp(disch:=first|omega|assumption|exact aa _) only[ag,ae,RZ,e3,lV,Kv,eF,pl,ps]
  refine⟨by omega,.inl (by omega), ?_⟩
  rw[show((i:Nat):Int)+1=((i+1:Nat):Int) by omega]
  exact next () _ _ ⟨rfl,fun b hb=>by rw[aA _ _ (by omega)];exact hk b hb,get_eq _ _ _⟩
end
section
variable (lf d n:Nat) (h:H) (aw:3000000<=lf)
theorem ae3(z:Int):ah (fun _=>False) n (aq ai gt lf (d+1) 23 #[.int .i64 z]) h n fun v' h' n'=>v'= .bool (decide (3<=z)&&decide (z<=258))∧h'=h∧n'=n:=by
 rw[aD (fun _=>abk) rfl]
 refine ah.aB ?_
 unfold PC
 by_cases c:3<=z
 ·try simp(disch:=first|omega|assumption|exact aa _) only[ag,ae,RZ,c]
 ·try simp(disch:=first|omega|assumption|exact aa _) only[ag,ae,RZ,c]
include aw
theorem ae4(v:Value)(xs:List Int)(hR:Row h n 3 .i64 v xs)(hl:xs.length<=1000000)(z:Int):
 ah (fun _=>False) n (aq ai gt lf (d+1) 44 #[v,.int .i64 z]) h n fun v' h' n'=>v'= .bool (eu z xs)∧h'=h∧n'=n:=by
 rw[aD (fun _=>abw) rfl]
 refine ah.aB ?_
 unfold HX
 have bL:=hR
 obtain⟨a,c,rfl⟩:=hR.len
 try simp(disch:=first|omega|assumption|exact aa _) only[ag,ae,RZ]
 refine iq xs.length (fun fu i (_:Unit)=>uB lf (aq ai gt lf d) fu (wR lf (aq ai gt lf d)) _ _ _ _ (.int .i64 (xs.length:Nat)) (.int .i64 (i:Nat))) (fun i _ h' n'=>(h'=h∧n'=n)∧eu z (xs.take i)=true) ?_ ?_ lf 0 () h n (cb _) (by omega) ⟨⟨rfl,rfl⟩,rfl⟩
 ·rintro fu _ h' n' ⟨⟨rfl,rfl⟩,ha⟩
  rw[nQ]at ha
  rw[uB,ha]
  try simp(disch:=first|omega|assumption|exact aa _) only[ag,ae,RZ,c9]
  (try unfold wR);(try dsimp only)
  try simp(disch:=first|omega|assumption|exact aa _) only[ag,ae,RZ]
 ·rintro fu i _ h' n' hi ⟨⟨rfl,rfl⟩,ha⟩ next
  obtain⟨b,off,cap,o,cs,hv,hg,hb,_,_,_,cI⟩:=bL.some (by omega)
  cases hv
  have e1:((i:Nat):Int)<((xs.length:Nat):Int):=by omega
  have c1:=cI i hi
  rw[uB]
  by_cases h1:xs.getD i 0<0
  ·rw[Kr hi h1]
   try simp(disch:=first|omega|assumption|exact aa _) only[ag,ae,RZ,e1,hg,c1,h1]
   (try unfold wR);(try dsimp only)
   try simp(disch:=first|omega|assumption|exact aa _) only[ag,ae,RZ]
  ·by_cases h2:z<=xs.getD i 0
   ·rw[Ks hi h2]
    try simp(disch:=first|omega|assumption|exact aa _) only[ag,ae,RZ,e1,hg,c1,h1,h2]
    (try unfold wR);(try dsimp only)
    try simp(disch:=first|omega|assumption|exact aa _) only[ag,ae,RZ]
   ·try simp(disch:=first|omega|assumption|exact aa _) only[ag,ae,RZ,e1,hg,c1,h1,h2]
    exact next () _ _ ⟨⟨rfl,rfl⟩,Kt hi ha rfl (by omega) (by omega)⟩
end
end Go.Proofs.YtdagfcflbphoiaaGreatDoor
namespace Go.Proofs.YtdagfcflbphoiaaGreatDoor.Ev
open Go Go.RowKit
theorem ae5{P:Program}{kn:List FuncId}(nj:rH P=true)(b9:qn P kn=true)(mn:P.follows .mixedOrders=true)(jL:tS P kn)(hd:mw P=true){gt:Nat->Hint}{lf d:Nat}{f:FuncId}{w:World}{m:Mp}{h:H}(x:Laid P w m h P.globals.size)(hr:Bi (uk kn P gt lf d f #[] h P.globals.size)=true):
 Calls P f #[] w fun e w'=>e= .returned (.bool true)∧Below w.heap.size w w':=by
 cases ho:uk kn P gt lf d f #[] h P.globals.size with
 |none=>rw[ho]at hr;cases hr
 |some o=>
  obtain⟨v,h1,n1,L⟩:=o
  rw[ho]at hr
  obtain⟨f0,yO⟩:=Nn hd d f #[] h _ v h1 n1 L ho
  refine aaV nj b9 mn jL x (fuel:=f0) ?_
  have e:cM P kn f0 f #[] h P.globals.size=some ⟨v,h1,n1,L⟩:=yO f0 (ak _)
  rw[e]
  exact hr
noncomputable def Ey:Nat->Type
 |0=>M Value
 |n+1=>Value->Ey n
noncomputable def aH:(n:Nat)->Ey n->(List Value->M Value)->List Value->M Value
 |0,F,_,[]=>F
 |n+1,F,K,v::s=>aH n (F v) (fun s=>K (v::s)) s
 |0,_,K,x::s=>K (x::s)
 |_+1,_,K,[]=>K []
noncomputable def Vm:(n:Nat)->Ey n->(List Value->M Value)->Prop
 |0,F,K=>F=K []
 |n+1,F,K=>∀v,Vm n (F v) (fun s=>K (v::s))
theorem aK:∀(n:Nat) (F:Ey n) (K:List Value->M Value),Vm n F K->aH n F K=K:=by
 intro n
 induction n with
 |zero=>
  intro F K h
  funext s
  cases s with
  |nil=>exact h
  |cons x s=>rfl
 |succ n ih=>
  intro F K h
  funext s
  cases s with
  |nil=>rfl
  |cons v s=>
   show aH n (F v) (fun s=>K (v::s)) s=_
   rw[ih (F v) (fun s=>K (v::s)) (h v)]
noncomputable def Ez {α:Type} (f:Nat):List (Nat×α)->Option α
 |[]=>none
 |p::r=>match bN p.1 f with
  |true=>some p.2
  |false=>Ez f r
abbrev z5:=List (Nat×(Nat->(FuncId->Array Value->M Value)->List Value->M Value))
noncomputable def EA (C:Nat->FuncId->Array Value->M Value):z5->Prop
 |[]=>True
 |p::r=>(∀d,p.2 d (C d)=fun l=>C (d+1) p.1 l.toArray)∧EA C r
theorem Vn{C:Nat->FuncId->Array Value->M Value}{f:Nat}{E:Nat->(FuncId->Array Value->M Value)->List Value->M Value}:∀{T:z5},EA C T->Ez f T=some E->∀d,E d (C d)=fun l=>C (d+1) f l.toArray
 |[],_,h=>by cases h
 |p::r,ok,h=>by
  unfold Ez at h
  cases hq:bN p.1 f with
  |true=>
   rw[hq]at h
   cases h
   rw[<-Nat.eq_of_beq_eq_true hq]
   exact ok.1
  |false=>
   rw[hq]at h
   exact Vn ok.2 h
noncomputable def EB (C:Nat->FuncId->Array Value->M Value) (T:z5):Nat->FuncId->Array Value->M Value
 |0,f,a=>C 0 f a
 |d+1,f,a=>match Ez f T with
  |some E=>E d (EB C T d) a.toList
  |none=>C (d+1) f a
theorem Vo{C:Nat->FuncId->Array Value->M Value}{T:z5}(ok:EA C T):∀d,EB C T d=C d
 |0=>rfl
 |d+1=>by
  have ih:=Vo ok d
  funext f a
  unfold EB
  rw[ih]
  split
  ·rename_i E hE
   rw[Vn ok hE d]
  ·rfl
end Go.Proofs.YtdagfcflbphoiaaGreatDoor.Ev
namespace Go.Proofs.YtdagfcflbphoiaaGreatDoor
open Go Ev
def z6:List FuncId:=[]
noncomputable section
def eC(lf:Nat):Nat->FuncId->Array Value->M Value:=uk z6 ai gt lf
theorem aJ{lf d:Nat}{f:FuncId}{a:Array Value}{X:M Value}(s:aE ai gt lf (eC lf d) f a=X):X=eC lf (d+1) f a:=s.symm
def Vp(lf:Nat):z5:=[(8,fun d r=>aH 0 (inside (HB lf r)) fun l=>eC lf (d+1) 8 l.toArray),
 (9,fun d r=>aH 0 (inside (HC lf r)) fun l=>eC lf (d+1) 9 l.toArray),
 (11,fun d r=>aH 3 (fun a b c=>inside (CC lf r a b c)) fun l=>eC lf (d+1) 11 l.toArray),
 (12,fun d r=>aH 2 (fun a b=>inside (HE lf r a b)) fun l=>eC lf (d+1) 12 l.toArray),
 (14,fun d r=>aH 1 (fun a=>inside (HG lf r a)) fun l=>eC lf (d+1) 14 l.toArray),
 (16,fun d r=>aH 1 (fun a=>inside (CF lf r a)) fun l=>eC lf (d+1) 16 l.toArray),
 (17,fun d r=>aH 1 (fun a=>inside (HH lf r a)) fun l=>eC lf (d+1) 17 l.toArray),
 (20,fun d r=>aH 1 (fun a=>inside (HI lf r a)) fun l=>eC lf (d+1) 20 l.toArray),
 (22,fun d r=>aH 3 (fun a b c=>inside (HK lf r a b c)) fun l=>eC lf (d+1) 22 l.toArray),
 (27,fun d r=>aH 2 (fun a b=>inside (CG lf r a b)) fun l=>eC lf (d+1) 27 l.toArray),
 (36,fun d r=>aH 2 (fun a b=>inside (HQ lf r a b)) fun l=>eC lf (d+1) 36 l.toArray),
 (37,fun d r=>aH 3 (fun a b c=>inside (CI lf r a b c)) fun l=>eC lf (d+1) 37 l.toArray),
 (38,fun d r=>aH 2 (fun a b=>inside (HR lf r a b)) fun l=>eC lf (d+1) 38 l.toArray),
 (39,fun d r=>aH 1 (fun a=>inside (yU lf r a)) fun l=>eC lf (d+1) 39 l.toArray),
 (40,fun d r=>aH 3 (fun a b c=>inside (HU lf r a b c)) fun l=>eC lf (d+1) 40 l.toArray),
 (41,fun d r=>aH 2 (fun a b=>inside (HV lf r a b)) fun l=>eC lf (d+1) 41 l.toArray),
 (42,fun d r=>aH 1 (fun a=>inside (PZ lf r a)) fun l=>eC lf (d+1) 42 l.toArray),
 (43,fun d r=>aH 2 (fun a b=>inside (HW lf r a b)) fun l=>eC lf (d+1) 43 l.toArray),
 (35,fun d r=>aH 2 (fun a b=>inside (HP lf r a b)) fun l=>eC lf (d+1) 35 l.toArray),
 (28,fun d r=>aH 1 (fun a=>inside (HM lf r a)) fun l=>eC lf (d+1) 28 l.toArray),
 (24,fun d r=>aH 1 (fun a=>inside (HL lf r a)) fun l=>eC lf (d+1) 24 l.toArray),
 (52,fun d r=>aH 3 (fun a b c=>inside (HZ lf r a b c)) fun l=>eC lf (d+1) 52 l.toArray),
 (21,fun d r=>aH 2 (fun a b=>inside (HJ lf r a b)) fun l=>eC lf (d+1) 21 l.toArray),
 (64,fun d r=>aH 2 (fun a b=>inside (CM lf r a b)) fun l=>eC lf (d+1) 64 l.toArray),
 (65,fun d r=>aH 2 (fun a b=>inside (yW lf r a b)) fun l=>eC lf (d+1) 65 l.toArray),
 (66,fun d r=>aH 2 (fun a b=>inside (Ia lf r a b)) fun l=>eC lf (d+1) 66 l.toArray),
 (10,fun d r=>aH 3 (fun a b c=>inside (Cz lf r a b c)) fun l=>eC lf (d+1) 10 l.toArray),
 (67,fun d r=>aH 1 (fun a=>inside (CP lf r a)) fun l=>eC lf (d+1) 67 l.toArray),
 (68,fun d r=>aH 1 (fun a=>inside (Ib lf r a)) fun l=>eC lf (d+1) 68 l.toArray),
 (70,fun d r=>aH 3 (fun a b c=>inside (Ig lf r a b c)) fun l=>eC lf (d+1) 70 l.toArray),
 (69,fun d r=>aH 2 (fun a b=>inside (CS lf r a b)) fun l=>eC lf (d+1) 69 l.toArray),
 (71,fun d r=>aH 1 (fun a=>inside (Ih lf r a)) fun l=>eC lf (d+1) 71 l.toArray),
 (72,fun d r=>aH 1 (fun a=>inside (Ii lf r a)) fun l=>eC lf (d+1) 72 l.toArray),
 (73,fun d r=>aH 2 (fun a b=>inside (Ij lf r a b)) fun l=>eC lf (d+1) 73 l.toArray),
 (74,fun d r=>aH 3 (fun a b c=>inside (QB lf r a b c)) fun l=>eC lf (d+1) 74 l.toArray),
 (75,fun d r=>aH 1 (fun a=>inside (Ik lf r a)) fun l=>eC lf (d+1) 75 l.toArray),
 (76,fun d r=>aH 2 (fun a b=>inside (Il lf r a b)) fun l=>eC lf (d+1) 76 l.toArray),
 (77,fun d r=>aH 2 (fun a b=>inside (CT lf r a b)) fun l=>eC lf (d+1) 77 l.toArray),
 (56,fun d r=>aH 1 (fun a=>inside (H2 lf r a)) fun l=>eC lf (d+1) 56 l.toArray),
 (57,fun d r=>aH 0 (inside (H3 lf r)) fun l=>eC lf (d+1) 57 l.toArray),
 (30,fun d r=>aH 2 (fun a b=>inside (HN lf r a b)) fun l=>eC lf (d+1) 30 l.toArray),
 (51,fun d r=>aH 1 (fun a=>inside (HY lf r a)) fun l=>eC lf (d+1) 51 l.toArray),
 (98,fun d r=>aH 2 (fun a b=>inside (yX lf r a b)) fun l=>eC lf (d+1) 98 l.toArray),
 (99,fun d r=>aH 1 (fun a=>inside (CY lf r a)) fun l=>eC lf (d+1) 99 l.toArray),
 (100,fun d r=>aH 2 (fun a b=>inside (C0 lf r a b)) fun l=>eC lf (d+1) 100 l.toArray),
 (101,fun d r=>aH 3 (fun a b c=>inside (C4 lf r a b c)) fun l=>eC lf (d+1) 101 l.toArray),
 (102,fun d r=>aH 1 (fun a=>inside (Ix lf r a)) fun l=>eC lf (d+1) 102 l.toArray),
 (104,fun d r=>aH 2 (fun a b=>inside (Iy lf r a b)) fun l=>eC lf (d+1) 104 l.toArray),
 (103,fun d r=>aH 2 (fun a b=>inside (y6 lf r a b)) fun l=>eC lf (d+1) 103 l.toArray),
 (34,fun d r=>aH 2 (fun a b=>inside (HO lf r a b)) fun l=>eC lf (d+1) 34 l.toArray),
 (92,fun d r=>aH 0 (inside (CW lf r)) fun l=>eC lf (d+1) 92 l.toArray),
 (105,fun d r=>aH 2 (fun a b=>inside (C7 lf r a b)) fun l=>eC lf (d+1) 105 l.toArray),
 (91,fun d r=>aH 1 (fun a=>inside (CU lf r a)) fun l=>eC lf (d+1) 91 l.toArray),
 (106,fun d r=>aH 1 (fun a=>inside (Iz lf r a)) fun l=>eC lf (d+1) 106 l.toArray),
 (108,fun d r=>aH 1 (fun a=>inside (Da lf r a)) fun l=>eC lf (d+1) 108 l.toArray),
 (109,fun d r=>aH 2 (fun a b=>inside (IB lf r a b)) fun l=>eC lf (d+1) 109 l.toArray),
 (110,fun d r=>aH 3 (fun a b c=>inside (IC lf r a b c)) fun l=>eC lf (d+1) 110 l.toArray),
 (111,fun d r=>aH 1 (fun a=>inside (ID lf r a)) fun l=>eC lf (d+1) 111 l.toArray),
 (112,fun d r=>aH 2 (fun a b=>inside (IE lf r a b)) fun l=>eC lf (d+1) 112 l.toArray),
 (58,fun d r=>aH 2 (fun a b=>inside (H4 lf r a b)) fun l=>eC lf (d+1) 58 l.toArray),
 (59,fun d r=>aH 1 (fun a=>inside (H5 lf r a)) fun l=>eC lf (d+1) 59 l.toArray),
 (60,fun d r=>aH 2 (fun a b=>inside (H6 lf r a b)) fun l=>eC lf (d+1) 60 l.toArray),
 (61,fun d r=>aH 1 (fun a=>inside (H7 lf r a)) fun l=>eC lf (d+1) 61 l.toArray),
 (62,fun d r=>aH 2 (fun a b=>inside (H8 lf r a b)) fun l=>eC lf (d+1) 62 l.toArray),
 (124,fun d r=>aH 1 (fun a=>inside (Dd lf r a)) fun l=>eC lf (d+1) 124 l.toArray),
 (125,fun d r=>aH 2 (fun a b=>inside (Df lf r a b)) fun l=>eC lf (d+1) 125 l.toArray),
 (126,fun d r=>aH 2 (fun a b=>inside (Dh lf r a b)) fun l=>eC lf (d+1) 126 l.toArray),
 (127,fun d r=>aH 1 (fun a=>inside (Dj lf r a)) fun l=>eC lf (d+1) 127 l.toArray),
 (128,fun d r=>aH 2 (fun a b=>inside (wX lf r a b)) fun l=>eC lf (d+1) 128 l.toArray),
 (129,fun d r=>aH 2 (fun a b=>inside (Dm lf r a b)) fun l=>eC lf (d+1) 129 l.toArray),
 (107,fun d r=>aH 1 (fun a=>inside (C8 lf r a)) fun l=>eC lf (d+1) 107 l.toArray),
 (130,fun d r=>aH 3 (fun a b c=>inside (II lf r a b c)) fun l=>eC lf (d+1) 130 l.toArray),
 (131,fun d r=>aH 1 (fun a=>inside (IJ lf r a)) fun l=>eC lf (d+1) 131 l.toArray),
 (93,fun d r=>aH 2 (fun a b=>inside (Io lf r a b)) fun l=>eC lf (d+1) 93 l.toArray),
 (94,fun d r=>aH 2 (fun a b=>inside (Ip lf r a b)) fun l=>eC lf (d+1) 94 l.toArray),
 (63,fun d r=>aH 1 (fun a=>inside (H9 lf r a)) fun l=>eC lf (d+1) 63 l.toArray),
 (95,fun d r=>aH 2 (fun a b=>inside (Iq lf r a b)) fun l=>eC lf (d+1) 95 l.toArray),
 (96,fun d r=>aH 1 (fun a=>inside (Ir lf r a)) fun l=>eC lf (d+1) 96 l.toArray),
 (97,fun d r=>aH 1 (fun a=>inside (Is lf r a)) fun l=>eC lf (d+1) 97 l.toArray),
 (139,fun d r=>aH 1 (fun a=>inside (Dt lf r a)) fun l=>eC lf (d+1) 139 l.toArray),
 (140,fun d r=>aH 1 (fun a=>inside (Dv lf r a)) fun l=>eC lf (d+1) 140 l.toArray),
 (141,fun d r=>aH 1 (fun a=>inside (Dx lf r a)) fun l=>eC lf (d+1) 141 l.toArray),
 (142,fun d r=>aH 3 (fun a b c=>inside (IU lf r a b c)) fun l=>eC lf (d+1) 142 l.toArray),
 (132,fun d r=>aH 1 (fun a=>inside (IK lf r a)) fun l=>eC lf (d+1) 132 l.toArray),
 (120,fun d r=>aH 2 (fun a b=>inside (Db lf r a b)) fun l=>eC lf (d+1) 120 l.toArray),
 (121,fun d r=>aH 2 (fun a b=>inside (Dc lf r a b)) fun l=>eC lf (d+1) 121 l.toArray),
 (122,fun d r=>aH 2 (fun a b=>inside (IF lf r a b)) fun l=>eC lf (d+1) 122 l.toArray),
 (123,fun d r=>aH 2 (fun a b=>inside (IG lf r a b)) fun l=>eC lf (d+1) 123 l.toArray),
 (146,fun d r=>aH 1 (fun a=>inside (Dy lf r a)) fun l=>eC lf (d+1) 146 l.toArray),
 (147,fun d r=>aH 1 (fun a=>inside (IY lf r a)) fun l=>eC lf (d+1) 147 l.toArray),
 (148,fun d r=>aH 3 (fun a b c=>inside (IZ lf r a b c)) fun l=>eC lf (d+1) 148 l.toArray),
 (136,fun d r=>aH 2 (fun a b=>inside (Dq lf r a b)) fun l=>eC lf (d+1) 136 l.toArray),
 (137,fun d r=>aH 1 (fun a=>inside (IL lf r a)) fun l=>eC lf (d+1) 137 l.toArray),
 (138,fun d r=>aH 2 (fun a b=>inside (IM lf r a b)) fun l=>eC lf (d+1) 138 l.toArray),
 (150,fun d r=>aH 3 (fun a b c=>inside (I1 lf r a b c)) fun l=>eC lf (d+1) 150 l.toArray),
 (149,fun d r=>aH 2 (fun a b=>inside (I0 lf r a b)) fun l=>eC lf (d+1) 149 l.toArray),
 (144,fun d r=>aH 1 (fun a=>inside (IV lf r a)) fun l=>eC lf (d+1) 144 l.toArray),
 (145,fun d r=>aH 2 (fun a b=>inside (IW lf r a b)) fun l=>eC lf (d+1) 145 l.toArray),
 (151,fun d r=>aH 2 (fun a b=>inside (I2 lf r a b)) fun l=>eC lf (d+1) 151 l.toArray),
 (152,fun d r=>aH 3 (fun a b c=>inside (DB lf r a b c)) fun l=>eC lf (d+1) 152 l.toArray),
 (153,fun d r=>aH 1 (fun a=>inside (I4 lf r a)) fun l=>eC lf (d+1) 153 l.toArray),
 (154,fun d r=>aH 4 (fun a b c d=>inside (ze lf r a b c d)) fun l=>eC lf (d+1) 154 l.toArray),
 (155,fun d r=>aH 5 (fun a b c d e=>inside (wY lf r a b c d e)) fun l=>eC lf (d+1) 155 l.toArray),
 (156,fun d r=>aH 5 (fun a b c d e=>inside (DE lf r a b c d e)) fun l=>eC lf (d+1) 156 l.toArray),
 (157,fun d r=>aH 5 (fun a b c d e=>inside (DF lf r a b c d e)) fun l=>eC lf (d+1) 157 l.toArray)]
theorem ae6(lf:Nat):EA (eC lf) (Vp lf):=⟨fun d=>aK _ _ _ (aJ Pd),
 ⟨fun d=>aK _ _ _ (aJ Pe),
 ⟨fun d=>aK _ _ _ (fun a b c=>aJ Po),
 ⟨fun d=>aK _ _ _ (fun a b=>aJ abg),
 ⟨fun d=>aK _ _ _ (fun a=>aJ Pu),
 ⟨fun d=>aK _ _ _ (fun a=>aJ Px),
 ⟨fun d=>aK _ _ _ (fun a=>aJ Py),
 ⟨fun d=>aK _ _ _ (fun a=>aJ Pz),
 ⟨fun d=>aK _ _ _ (fun a b c=>aJ PB),
 ⟨fun d=>aK _ _ _ (fun a b=>aJ PG),
 ⟨fun d=>aK _ _ _ (fun a b=>aJ PL),
 ⟨fun d=>aK _ _ _ (fun a b c=>aJ PO),
 ⟨fun d=>aK _ _ _ (fun a b=>aJ PQ),
 ⟨fun d=>aK _ _ _ (fun a=>aJ HS),
 ⟨fun d=>aK _ _ _ (fun a b c=>aJ PV),
 ⟨fun d=>aK _ _ _ (fun a b=>aJ abq),
 ⟨fun d=>aK _ _ _ (fun a=>aJ abr),
 ⟨fun d=>aK _ _ _ (fun a b=>aJ abu),
 ⟨fun d=>aK _ _ _ (fun a b=>aJ PK),
 ⟨fun d=>aK _ _ _ (fun a=>aJ PH),
 ⟨fun d=>aK _ _ _ (fun a=>aJ PD),
 ⟨fun d=>aK _ _ _ (fun a b c=>aJ P9),
 ⟨fun d=>aK _ _ _ (fun a b=>aJ PA),
 ⟨fun d=>aK _ _ _ (fun a b=>aJ Qj),
 ⟨fun d=>aK _ _ _ (fun a b=>aJ H'),
 ⟨fun d=>aK _ _ _ (fun a b=>aJ Qm),
 ⟨fun d=>aK _ _ _ (fun a b c=>aJ Ph),
 ⟨fun d=>aK _ _ _ (fun a=>aJ Qp),
 ⟨fun d=>aK _ _ _ (fun a=>aJ Qq),
 ⟨fun d=>aK _ _ _ (fun a b c=>aJ Qx),
 ⟨fun d=>aK _ _ _ (fun a b=>aJ Qw),
 ⟨fun d=>aK _ _ _ (fun a=>aJ Qy),
 ⟨fun d=>aK _ _ _ (fun a=>aJ Qz),
 ⟨fun d=>aK _ _ _ (fun a b=>aJ QA),
 ⟨fun d=>aK _ _ _ (fun a b c=>aJ abD),
 ⟨fun d=>aK _ _ _ (fun a=>aJ QC),
 ⟨fun d=>aK _ _ _ (fun a b=>aJ QD),
 ⟨fun d=>aK _ _ _ (fun a b=>aJ QG),
 ⟨fun d=>aK _ _ _ (fun a=>aJ P'),
 ⟨fun d=>aK _ _ _ (aJ Qa),
 ⟨fun d=>aK _ _ _ (fun a b=>aJ PI),
 ⟨fun d=>aK _ _ _ (fun a=>aJ P6),
 ⟨fun d=>aK _ _ _ (fun a b=>aJ It),
 ⟨fun d=>aK _ _ _ (fun a=>aJ QW),
 ⟨fun d=>aK _ _ _ (fun a b=>aJ Q6),
 ⟨fun d=>aK _ _ _ (fun a b c=>aJ Rd),
 ⟨fun d=>aK _ _ _ (fun a=>aJ Re),
 ⟨fun d=>aK _ _ _ (fun a b=>aJ Rf),
 ⟨fun d=>aK _ _ _ (fun a b=>aJ C5),
 ⟨fun d=>aK _ _ _ (fun a b=>aJ PJ),
 ⟨fun d=>aK _ _ _ (aJ QJ),
 ⟨fun d=>aK _ _ _ (fun a b=>aJ Ri),
 ⟨fun d=>aK _ _ _ (fun a=>aJ Im),
 ⟨fun d=>aK _ _ _ (fun a=>aJ Rj),
 ⟨fun d=>aK _ _ _ (fun a=>aJ Rm),
 ⟨fun d=>aK _ _ _ (fun a b=>aJ Rn),
 ⟨fun d=>aK _ _ _ (fun a b c=>aJ Ro),
 ⟨fun d=>aK _ _ _ (fun a=>aJ Rp),
 ⟨fun d=>aK _ _ _ (fun a b=>aJ Rq),
 ⟨fun d=>aK _ _ _ (fun a b=>aJ Qb),
 ⟨fun d=>aK _ _ _ (fun a=>aJ Qc),
 ⟨fun d=>aK _ _ _ (fun a b=>aJ Qd),
 ⟨fun d=>aK _ _ _ (fun a=>aJ Qe),
 ⟨fun d=>aK _ _ _ (fun a b=>aJ Qf),
 ⟨fun d=>aK _ _ _ (fun a=>aJ RD),
 ⟨fun d=>aK _ _ _ (fun a b=>aJ RG),
 ⟨fun d=>aK _ _ _ (fun a b=>aJ RK),
 ⟨fun d=>aK _ _ _ (fun a=>aJ RQ),
 ⟨fun d=>aK _ _ _ (fun a b=>aJ Dk),
 ⟨fun d=>aK _ _ _ (fun a b=>aJ RX),
 ⟨fun d=>aK _ _ _ (fun a=>aJ IA),
 ⟨fun d=>aK _ _ _ (fun a b c=>aJ RY),
 ⟨fun d=>aK _ _ _ (fun a=>aJ R0),
 ⟨fun d=>aK _ _ _ (fun a b=>aJ QL),
 ⟨fun d=>aK _ _ _ (fun a b=>aJ QM),
 ⟨fun d=>aK _ _ _ (fun a=>aJ Qg),
 ⟨fun d=>aK _ _ _ (fun a b=>aJ QN),
 ⟨fun d=>aK _ _ _ (fun a=>aJ QO),
 ⟨fun d=>aK _ _ _ (fun a=>aJ QP),
 ⟨fun d=>aK _ _ _ (fun a=>aJ Sa),
 ⟨fun d=>aK _ _ _ (fun a=>aJ Sd),
 ⟨fun d=>aK _ _ _ (fun a=>aJ Sg),
 ⟨fun d=>aK _ _ _ (fun a b c=>aJ Sh),
 ⟨fun d=>aK _ _ _ (fun a=>aJ R1),
 ⟨fun d=>aK _ _ _ (fun a b=>aJ Ru),
 ⟨fun d=>aK _ _ _ (fun a b=>aJ Rx),
 ⟨fun d=>aK _ _ _ (fun a b=>aJ Ry),
 ⟨fun d=>aK _ _ _ (fun a b=>aJ Rz),
 ⟨fun d=>aK _ _ _ (fun a=>aJ Sm),
 ⟨fun d=>aK _ _ _ (fun a=>aJ Sn),
 ⟨fun d=>aK _ _ _ (fun a b c=>aJ So),
 ⟨fun d=>aK _ _ _ (fun a b=>aJ R4),
 ⟨fun d=>aK _ _ _ (fun a=>aJ R5),
 ⟨fun d=>aK _ _ _ (fun a b=>aJ R6),
 ⟨fun d=>aK _ _ _ (fun a b c=>aJ Sq),
 ⟨fun d=>aK _ _ _ (fun a b=>aJ Sp),
 ⟨fun d=>aK _ _ _ (fun a=>aJ Si),
 ⟨fun d=>aK _ _ _ (fun a b=>aJ Sj),
 ⟨fun d=>aK _ _ _ (fun a b=>aJ Sr),
 ⟨fun d=>aK _ _ _ (fun a b c=>aJ Sy),
 ⟨fun d=>aK _ _ _ (fun a=>aJ Sz),
 ⟨fun d=>aK _ _ _ (fun a b c d=>aJ I5),
 ⟨fun d=>aK _ _ _ (fun a b c d e=>aJ DD),
 ⟨fun d=>aK _ _ _ (fun a b c d e=>aJ SP),
 ⟨fun d=>aK _ _ _ (fun a b c d e=>aJ SU),trivial⟩⟩⟩⟩⟩⟩⟩⟩⟩⟩⟩⟩⟩⟩⟩⟩⟩⟩⟩⟩⟩⟩⟩⟩⟩⟩⟩⟩⟩⟩⟩⟩⟩⟩⟩⟩⟩⟩⟩⟩⟩⟩⟩⟩⟩⟩⟩⟩⟩⟩⟩⟩⟩⟩⟩⟩⟩⟩⟩⟩⟩⟩⟩⟩⟩⟩⟩⟩⟩⟩⟩⟩⟩⟩⟩⟩⟩⟩⟩⟩⟩⟩⟩⟩⟩⟩⟩⟩⟩⟩⟩⟩⟩⟩⟩⟩⟩⟩⟩⟩⟩⟩⟩⟩⟩
def Vq(lf:Nat):Nat->FuncId->Array Value->M Value:=EB (eC lf) (Vp lf)
theorem ae7(lf d:Nat):Vq lf d=eC lf d:=Vo (ae6 lf) d
end
end Go.Proofs.YtdagfcflbphoiaaGreatDoor
namespace Go.Proofs.YtdagfcflbphoiaaGreatDoor
open Go.RowKit Ev
theorem Vr:Ev.rH ai=true:=by kernel_rfl
theorem ae8:Ev.qn ai z6=true:=by kernel_rfl
theorem ae9:Ev.qn ai Ev.KN=true:=by kernel_rfl
theorem Vs:Tryz.prog.follows .mixedOrders=true:=by kernel_rfl
theorem Vt:Ev.F8 ai:=by
 intro f k hf
 simp[rJ,NV,Ff]at hf
theorem ae':Ev.tS ai z6:=⟨fun f hf=>by simp[z6]at hf,Vt⟩
def gV:List Value:=[.int .i64 200,.int .i64 600,.int .i64 1200,.int .i64 2400]
def hG:H:=H.set .nil 0 (some ⟨3,false,gV⟩)
theorem Vu{w:World}(x:Ev.qA w):∃m,Laid ai w m hG Tryz.prog.globals.size:=by
 refine aaU x (by decide+kernel) (sz:=1) (by kernel_rfl) (by decide) (fun k v hk=> ?_) (by decide)
 match k,hk with
 |0,hk=>cases hk;simp[KG]
 |1,hk=>cases hk;simp[KG]
 |2,hk=>cases hk;simp[KG]
 |3,hk=>cases hk;simp[KG]
set_option maxRecDepth 100000 in
theorem ae_:Ev.Bi ((inside (HB 100000 (Vq 100000 1000))) hG Tryz.prog.globals.size)=true:=by kernel_rfl
theorem afa(w:World)(x:Ev.qA w):Calls ai 8 #[] w fun e w'=>e= .returned (.bool true)∧Below w.heap.size w w':=by
 obtain⟨m,x⟩:=Vu x
 refine Ev.ae5 (kn:=z6) Vr ae8 Vs ae' aF x (gt:=gt) (lf:=100000) (d:=1001) ?_
 have:=ae_
 rw[ae7,aJ Pd]at this
 exact this
theorem known:Ev.tS ai Ev.KN:=⟨fun f hf hn hp w x=>by
 have:f=8:=by simpa[Ev.KN]using hf
 subst this
 exact afa w x,Vt⟩
end Go.Proofs.YtdagfcflbphoiaaGreatDoor
namespace Go.Proofs.YtdagfcflbphoiaaGreatDoor
open Go Go.RowKit Go.WideShapes Go.ChangeShapes Go.MakeChecks
theorem Vv:Tryz.prog.globalNamed "baler/tables.bounds" =some 0:=by kernel_rfl
theorem afb:(Tryz.prog.globals[0]?).map (·.type)=some 158:=by kernel_rfl
theorem afc:Tryz.prog.cellsOf 3=1:=by kernel_rfl
theorem afd:Tryz.prog.cellsOf 158=4:=by kernel_rfl
set_option maxRecDepth 10000 in
theorem afe{w:World}(hL:laidMetH ai [("baler/tables.bounds",Rows.laid_baler_tables_bounds)] w):Ev.qA w:=by
 rw[laidMetH_plain _ _ _ rfl]at hL
 obtain⟨ps,⟨g,t,cs,fuel,p,q,hg,ht,hv,hx,_⟩,_⟩:=hL
 rw[Vv]at hg
 cases hg
 rw[afb]at ht
 cases ht
 unfold World.var? at hv
 rw[Vv]at hv
 simp only[Option.bind_some]at hv
 split at hv
 ·rename_i cs' e' fr' hw
  cases hv
  obtain⟨xs,m,rfl,jH,hlen,hxn,gM⟩:=DataW.trod_array Tryz.underlying158 hx
  rw[afd]at hlen
  rw[afc]at gM
  have hc:∀(i:Nat) (z:Int),i<4->(xs.map (·.1))[i]? =some (.lit (.int .i64 z))->w.cell? ⟨0,i,none⟩=some (.int .i64 z):=by
   intro i z hi hz
   rw[lE]at hz
   cases kW:xs[i]? with
   |none=>rw[kW]at hz;cases hz
   |some y=>
    rw[kW]at hz
    have ha:=gM i hi
    rw[kW]at ha
    obtain⟨k,h1,h2,_⟩:=DataW.trod_int Tryz.underlying3 ha
    rw[h2]at hz
    cases hz
    have h3:cs.toList[i]? =some (.int .i64 z):=by
     rw[Nat.mul_one,List.drop_eq_getElem_cons (by omega),List.take_succ_cons,AJ]at h1
     rw[aR (by omega)]
     exact congrArg some (W6 h1).1
    unfold World.cell?
    simp only[hw]
    simpa using h3
  have hm:xs.map (·.1)=[.lit (.int .i64 200),.lit (.int .i64 600),.lit (.int .i64 1200),.lit (.int .i64 2400)]:=by
   have:=congrArg Prod.fst jH
   simp only[Rows.laid_baler_tables_bounds]at this
   injection this with this
   exact this.symm
  rw[hm]at hc
  intro g hg
  have:g=(0,0,.int .i64 200)∨g=(0,1,.int .i64 600)∨g=(0,2,.int .i64 1200)∨g=(0,3,.int .i64 2400):=by simpa[Ev.KG]using hg
  rcases this with rfl|rfl|rfl|rfl
  ·exact hc 0 200 (by decide) rfl
  ·exact hc 1 600 (by decide) rfl
  ·exact hc 2 1200 (by decide) rfl
  ·exact hc 3 2400 (by decide) rfl
 ·cases hv
end Go.Proofs.YtdagfcflbphoiaaGreatDoor
namespace Go.Proofs.YtdagfcflbphoiaaGreatDoor
open Go.RowKit Ev
def Gd(h:H)(n:Nat):Prop:=h.get 0=some ⟨3,false,gV⟩∧0<n
theorem Gd.ax{h h':H}{n n':Nat}(x:Gd h n)(hn:n<=n')(hk:∀b,b<n->h'.get b=h.get b):Gd h' n':=⟨(hk _ x.2).trans x.1,mL x.2 hn⟩
theorem Gd.of{h:H}{n:Nat}(hn:Tryz.prog.globals.size<=n)(hg:h.get 0=some ⟨3,false,gV⟩):Gd h n:=⟨hg,mL (by decide+kernel) hn⟩
theorem aff(lf d n:Nat)(h:H)(x:Gd h n):ah (fun _=>False) n (aq ai gt lf (d+1) 8 #[]) h n fun v' h' n'=>v'= .bool true∧h'=h∧n'=n:=by
 obtain⟨hg,hn⟩:=x
 have e:aq ai gt lf (d+1) 8 #[]=(mi ai KG).bind fun _=>M.ret (.bool true):=by kernel_rfl
 rw[e]
 have rdg:∀(k:Nat) (v:Value),gV[k]? =some v->rd 0 k h n=some ⟨v,h,n,[⟨false,0,some k⟩]⟩:=fun k v hk=>by
  unfold rd
  simp only[hn,hg,hk,if_true]
 have fN:decide (0<Tryz.prog.globals.size)=true:=by decide+kernel
 have jg:∀(k:Nat) (x:Int) (l:List (Nat×Nat×Value)) (L:List En),gV[k]? =some (.int .i64 x)->mi ai l h n=some ⟨(),h,n,L⟩->mi ai ((0,k,.int .i64 x)::l) h n=some ⟨(),h,n,[⟨false,0,some k⟩]++L⟩:=fun k x l L hk hl=>by
  unfold mi
  refine cD (rdg k _ hk) ?_
  simp only[fN,vU,decide_true,mO,if_true]
  exact hl
 have c:=jg 0 200 _ _ rfl (jg 1 600 _ _ rfl (jg 2 1200 _ _ rfl (jg 3 2400 [] [] rfl rfl)))
 refine ah.step c (ak _) (by simp) ?_
 rw[wG]
 exact⟨rfl,rfl,rfl⟩
theorem EC{lf d n n0:Nat}{h:H}{W:Nat->Prop}(hn:n0<=n)(x:Gd h n):ah W n0 (au (aq ai gt lf (d+1)) 8 [] fun v=>aj [v]) h n fun v _ _=>v= .bool true:=by
 refine bV (aff lf d n h x) hn (fun _ _ h=>h.elim) ?_
 rw[Hi]
end Go.Proofs.YtdagfcflbphoiaaGreatDoor
namespace Go.Proofs.YtdagfcflbphoiaaGreatDoor
open Go.RowKit Ev Tb
section
variable (lf d n:Nat) (h:H) (aw:3000000<=lf)
theorem z7:([.int .i64 200,.int .i64 600,.int .i64 1200,.int .i64 2400]:List Value)[Lw 0]? =some (.int .i64 200):=rfl
theorem z8:([.int .i64 200,.int .i64 600,.int .i64 1200,.int .i64 2400]:List Value)[Lw 1]? =some (.int .i64 600):=rfl
theorem z9:([.int .i64 200,.int .i64 600,.int .i64 1200,.int .i64 2400]:List Value)[Lw 2]? =some (.int .i64 1200):=rfl
theorem z':([.int .i64 200,.int .i64 600,.int .i64 1200,.int .i64 2400]:List Value)[Lw 3]? =some (.int .i64 2400):=rfl
theorem afg(z:Int)(g:Gd h n)(hf:5<=lf):ah (fun _=>False) n (aq ai gt lf (d+1) 124 #[.int .i64 z]) h n fun v' h' n'=>v'= .int .i64 (lz z:Int)∧h'=h∧n'=n:=by
 rw[aD (fun _=>RD) rfl]
 refine ah.aB ?_
 unfold Dd
 refine Jx trivial trivial 0 0 _ g.1 g.2 (by decide) ?_
 have go:∀F,5<=F->ah (fun _=>False) n (eS lf (aq ai gt lf d) F (sK lf (aq ai gt lf d)) (.int .i64 z) (.int .i64 0) (.int .i64 2) (.agg #[.int .i64 200,.int .i64 600,.int .i64 1200,.int .i64 2400]) (.int .i64 0)) h n fun v' h' n'=>v'= .int .i64 (lz z:Int)∧h'=h∧n'=n:=by
  intro F hF
  obtain⟨F,rfl⟩:∃f,F=f+1+1+1+1+1:=⟨F-5,by omega⟩
  have w:∀x:Int,0<=x->x<100->IntKind.i64.wrap (x+1)=x+1:=fun x h0 h1=>aV (by omega) (by omega)
  unfold lz
  by_cases c1:z<200
  ·have d1:¬(200<=z):=by omega
   have d2:¬(600<=z):=by omega
   have d3:¬(1200<=z):=by omega
   have d4:¬(2400<=z):=by omega
   rw[eS]
   try simp(disch:=first|omega|assumption|exact aa _) only[ag,ae,RZ,bk,bm,bp,bq,bt,bu,bx,bz,bA,bB,z7,d1]
   rw[eS]
   try simp(disch:=first|omega|assumption|exact aa _) only[ag,ae,RZ,bk,bm,bp,bq,bt,bu,bx,bz,bA,bB,z8,d2]
   rw[eS]
   try simp(disch:=first|omega|assumption|exact aa _) only[ag,ae,RZ,bk,bm,bp,bq,bt,bu,bx,bz,bA,bB,z9,d3]
   rw[eS]
   try simp(disch:=first|omega|assumption|exact aa _) only[ag,ae,RZ,bk,bm,bp,bq,bt,bu,bx,bz,bA,bB,z',d4]
   rw[eS]
   try simp(disch:=first|omega|assumption|exact aa _) only[ag,ae,RZ,bk,bm,bp,bq,bt,bu,bx,bz,bA,bB]
   (try unfold sK);(try dsimp only)
   try simp(disch:=first|omega|assumption|exact aa _) only[ag,ae,RZ,bk,bm,bp,bq,bt,bu,bx,bz,bA,bB,c1]
   all_goals (first|rfl|exact⟨rfl,rfl,rfl⟩|exact⟨rfl,rfl⟩)
  ·have d1:200<=z:=by omega
   by_cases c2:z<600
   ·have d2:¬(600<=z):=by omega
    have d3:¬(1200<=z):=by omega
    have d4:¬(2400<=z):=by omega
    rw[eS]
    try simp(disch:=first|omega|assumption|exact aa _) only[ag,ae,RZ,bk,bm,bp,bq,bt,bu,bx,bz,bA,bB,z7,d1]
    rw[eS]
    try simp(disch:=first|omega|assumption|exact aa _) only[ag,ae,RZ,bk,bm,bp,bq,bt,bu,bx,bz,bA,bB,z8,d2]
    rw[eS]
    try simp(disch:=first|omega|assumption|exact aa _) only[ag,ae,RZ,bk,bm,bp,bq,bt,bu,bx,bz,bA,bB,z9,d3]
    rw[eS]
    try simp(disch:=first|omega|assumption|exact aa _) only[ag,ae,RZ,bk,bm,bp,bq,bt,bu,bx,bz,bA,bB,z',d4]
    rw[eS]
    try simp(disch:=first|omega|assumption|exact aa _) only[ag,ae,RZ,bk,bm,bp,bq,bt,bu,bx,bz,bA,bB]
    (try unfold sK);(try dsimp only)
    try simp(disch:=first|omega|assumption|exact aa _) only[ag,ae,RZ,bk,bm,bp,bq,bt,bu,bx,bz,bA,bB,c1,c2]
    all_goals (first|rfl|exact⟨rfl,rfl,rfl⟩|exact⟨rfl,rfl⟩)
   ·have d2:600<=z:=by omega
    by_cases c3:z<1200
    ·have d3:¬(1200<=z):=by omega
     have d4:¬(2400<=z):=by omega
     rw[eS]
     try simp(disch:=first|omega|assumption|exact aa _) only[ag,ae,RZ,bk,bm,bp,bq,bt,bu,bx,bz,bA,bB,z7,d1]
     rw[eS]
     try simp(disch:=first|omega|assumption|exact aa _) only[ag,ae,RZ,bk,bm,bp,bq,bt,bu,bx,bz,bA,bB,z8,d2]
     rw[eS]
     try simp(disch:=first|omega|assumption|exact aa _) only[ag,ae,RZ,bk,bm,bp,bq,bt,bu,bx,bz,bA,bB,z9,d3]
     rw[eS]
     try simp(disch:=first|omega|assumption|exact aa _) only[ag,ae,RZ,bk,bm,bp,bq,bt,bu,bx,bz,bA,bB,z',d4]
     rw[eS]
     try simp(disch:=first|omega|assumption|exact aa _) only[ag,ae,RZ,bk,bm,bp,bq,bt,bu,bx,bz,bA,bB]
     (try unfold sK);(try dsimp only)
     try simp(disch:=first|omega|assumption|exact aa _) only[ag,ae,RZ,bk,bm,bp,bq,bt,bu,bx,bz,bA,bB,c1,c2,c3]
     all_goals (first|rfl|exact⟨rfl,rfl,rfl⟩|exact⟨rfl,rfl⟩)
    ·have d3:1200<=z:=by omega
     by_cases c4:z<2400
     ·have d4:¬(2400<=z):=by omega
      rw[eS]
      try simp(disch:=first|omega|assumption|exact aa _) only[ag,ae,RZ,bk,bm,bp,bq,bt,bu,bx,bz,bA,bB,z7,d1]
      rw[eS]
      try simp(disch:=first|omega|assumption|exact aa _) only[ag,ae,RZ,bk,bm,bp,bq,bt,bu,bx,bz,bA,bB,z8,d2]
      rw[eS]
      try simp(disch:=first|omega|assumption|exact aa _) only[ag,ae,RZ,bk,bm,bp,bq,bt,bu,bx,bz,bA,bB,z9,d3]
      rw[eS]
      try simp(disch:=first|omega|assumption|exact aa _) only[ag,ae,RZ,bk,bm,bp,bq,bt,bu,bx,bz,bA,bB,z',d4]
      rw[eS]
      try simp(disch:=first|omega|assumption|exact aa _) only[ag,ae,RZ,bk,bm,bp,bq,bt,bu,bx,bz,bA,bB]
      (try unfold sK);(try dsimp only)
      try simp(disch:=first|omega|assumption|exact aa _) only[ag,ae,RZ,bk,bm,bp,bq,bt,bu,bx,bz,bA,bB,c1,c2,c3,c4]
      all_goals (first|rfl|exact⟨rfl,rfl,rfl⟩|exact⟨rfl,rfl⟩)
     ·have d4:2400<=z:=by omega
      rw[eS]
      try simp(disch:=first|omega|assumption|exact aa _) only[ag,ae,RZ,bk,bm,bp,bq,bt,bu,bx,bz,bA,bB,z7,d1]
      rw[eS]
      try simp(disch:=first|omega|assumption|exact aa _) only[ag,ae,RZ,bk,bm,bp,bq,bt,bu,bx,bz,bA,bB,z8,d2]
      rw[eS]
      try simp(disch:=first|omega|assumption|exact aa _) only[ag,ae,RZ,bk,bm,bp,bq,bt,bu,bx,bz,bA,bB,z9,d3]
      rw[eS]
      try simp(disch:=first|omega|assumption|exact aa _) only[ag,ae,RZ,bk,bm,bp,bq,bt,bu,bx,bz,bA,bB,z',d4]
      rw[eS]
      try simp(disch:=first|omega|assumption|exact aa _) only[ag,ae,RZ,bk,bm,bp,bq,bt,bu,bx,bz,bA,bB]
      (try unfold sK);(try dsimp only)
      try simp(disch:=first|omega|assumption|exact aa _) only[ag,ae,RZ,bk,bm,bp,bq,bt,bu,bx,bz,bA,bB,c1,c2,c3,c4]
      all_goals (first|rfl|exact⟨rfl,rfl,rfl⟩|exact⟨rfl,rfl⟩)
 exact go lf hf
include aw
theorem afh(v:Value)(xs:List Int)(hR:Row h n 3 .i64 v xs)(hl:xs.length<=1000000):
 ah (fun _=>False) n (aq ai gt lf (d+4) 99 #[v]) h n fun v' h' n'=>RR h' n' 22 3 v' (jV xs):=by
 rw[aD (fun _=>QW) rfl]
 refine ah.aB ?_
 unfold CY
 have bL:=hR
 obtain⟨a,c,rfl⟩:=hR.len
 try simp(disch:=first|omega|assumption|exact aa _) only[ag,ae,RZ]
 refine bV (Kx lf (d+2) n h xs.length (by omega)) (ak _) (fun _ _ h=>h.elim) ?_
 have Jo:fQ xs.length<=1000000:=by unfold fQ;omega
 refine iq (fQ xs.length) (fun fu i (u:Value)=>uM lf (aq ai gt lf (d+3)) fu (CX lf (aq ai gt lf (d+3))) _ _ u (.int .i64 (fQ xs.length:Nat)) (.int .i64 (i:Nat))) (fun i u h' n'=>n<=n'∧(∀b,b<n->h'.get b=h.get b)∧iJ h' n n' n' 22 3 u ((cN i).map (qb xs))) ?_ ?_ lf 0 _ h n (cb _) (by omega) ⟨ak _,fun _ _=>rfl,iJ.nil _ _ _ _ _ _⟩
 ·rintro fu u h' n' ⟨hn,hk,hO⟩
  rw[uM]
  try simp(disch:=first|omega|assumption|exact aa _) only[ag,ae,RZ,c9]
  (try unfold CX);(try dsimp only)
  try simp(disch:=first|omega|assumption|exact aa _) only[ag,ae,RZ]
  exact hO.rr
 ·rintro fu i u h' n' hi ⟨hn,hk,hO⟩ next
  have e1:((i:Nat):Int)<((fQ xs.length:Nat):Int):=by omega
  rw[uM]
  try simp(disch:=first|omega|assumption|exact aa _) only[ag,ae,RZ,e1]
  refine aI aF (ae1 lf d n' h' _ xs (bL.ax hn hk) hl i hi) hn (fun _ _ h=>h.elim) fun v1 h1 n1 bb bJ hq=> ?_
  obtain⟨g,rfl,hg⟩:=hq
  have Vw:=(hO.ax bb fun b hb _=>bJ b hb id).up bb
  try simp(disch:=first|omega|assumption|exact aa _) only[ag,ae,RZ,cw,ext1]
  refine TO trivial (by decide) Vw hg (ak _) (by simp;omega) (ak _) (by omega) _ fun v2 h2 o2 k2 _=> ?_
  try simp(disch:=first|omega|assumption|exact aa _) only[ag,ae,RZ]
  refine next v2 h2 (n1+2) ⟨by omega,fun b hb=> ?_, ?_⟩
  ·rw[k2 b (by omega) fun q=>by have:=(Vw.lt q).1;omega,bJ b (by omega) id]
   exact hk b hb
  ·rw[List.range_succ,mR]
   exact o2.up (by omega)
theorem afi(v u:Value)(g:List Int)(T:List (List Int))(hR:Row h n 3 .i64 v g)(hT:RR h n 22 3 u T)(hl:g.length<=1000000)(hTl:T.length<=1000)(Ju:∀t∈T,t.length<=1000000∧eg 0 1099511627776 t=true∧eu t.length g=true):
 ah (fun _=>False) n (aq ai gt lf (d+7) 125 #[v,u]) h n fun v' h' n'=>v'= .int .i64 (zX g T:Int)∧h'=h∧n'=n:=by
 rw[aD (fun _=>RG) rfl]
 refine ah.aB ?_
 unfold Df
 have pO:=hT
 obtain⟨a,c,rfl⟩:=hT.len
 try simp(disch:=first|omega|assumption|exact aa _) only[ag,ae,RZ]
 refine iq T.length (fun fu i (q:Nat×Int)=>sL lf (aq ai gt lf (d+6)) fu (De lf (aq ai gt lf (d+6))) _ _ _ (.int .i64 (q.1:Nat)) (.int .i64 q.2) _ (.int .i64 (T.length:Nat)) (.int .i64 (i:Nat))) (fun i q h' n'=>(h'=h∧n'=n)∧zX g T=vv g (T.drop i) i q.1 q.2) ?_ ?_ lf 0 (0,1099511627776) h n (cb _) (by omega) ⟨⟨rfl,rfl⟩,rfl⟩
 ·rintro fu q h' n' ⟨⟨rfl,rfl⟩,hp⟩
  rw[sL]
  try simp(disch:=first|omega|assumption|exact aa _) only[ag,ae,RZ,c9]
  (try unfold De);(try dsimp only)
  try simp(disch:=first|omega|assumption|exact aa _) only[ag,ae,RZ]
  rw[List.drop_length]at hp
  rw[hp]
  all_goals (first|rfl|exact⟨rfl,rfl,rfl⟩|exact⟨rfl,rfl⟩)
 ·rintro fu i q h' n' hi ⟨⟨rfl,rfl⟩,hp⟩ next
  obtain⟨b,off,cap,o,cs,hv,hg,hb,cI⟩:=pO.at (by omega)
  cases hv
  obtain⟨x,hx,Aa⟩:=cI i hi
  have e1:((i:Nat):Int)<((T.length:Nat):Int):=by omega
  rw[mF [] hi]at hp
  have hm:T.getD i []∈T:=by rw[aC,aR hi];exact ep hi
  obtain⟨m1,m2,m3⟩:=Ju _ hm
  rw[sL]
  try simp(disch:=first|omega|assumption|exact aa _) only[ag,ae,RZ,e1,hg,hx]
  refine bV (aeY lf d _ h' aw v x g _ hR Aa hl m1) (ak _) (fun _ _ h=>h.elim) ?_
  rw[if_pos ⟨m2,m3⟩]
  unfold vv at hp
  by_cases c1:nL g (T.getD i [])<q.2
  ·rw[if_pos c1]at hp
   try simp(disch:=first|omega|assumption|exact aa _) only[ag,ae,RZ,cw,ext1,c1]
   exact next (i,nL g (T.getD i [])) _ _ ⟨⟨rfl,rfl⟩,hp⟩
  ·rw[if_neg c1]at hp
   try simp(disch:=first|omega|assumption|exact aa _) only[ag,ae,RZ,cw,ext1,c1]
   exact next q _ _ ⟨⟨rfl,rfl⟩,hp⟩
end
section
variable (lf d n:Nat) (h:H) (aw:3000000<=lf)
include aw
end
theorem Ky{α:Type}(d:α)(f:Nat->α){N i:Nat}(h:i<N):((cN N).map f).getD i d=f i:=by
 rw[aC,lE,AM h]
 rfl
def mb(counts:List Int)(z:Int)(p v:Nat):List Int:=(cN counts.length).map fun u=>if u<v then(if ma counts z u=p then 0 else 15)else 0
theorem ED(counts:List Int)(z:Int)(p v:Nat):(mb counts z p v).length=counts.length:=by unfold mb;simp
theorem afj(counts:List Int)(z:Int)(p:Nat):mb counts z p 0=cq counts.length 0:=by
 apply nU
 ·simp[ED]
 ·intro i h1 h2;simp[mb]
theorem afk(counts:List Int)(z:Int)(p:Nat):mb counts z p counts.length=vw counts z p:=by
 unfold mb vw
 apply EY
 intro u hu
 rw[if_pos (List.mem_range.1 hu)]
theorem afl{counts:List Int}{z:Int}{p v:Nat}(hm:ma counts z v=p):mb counts z p (v+1)=mb counts z p v:=by
 unfold mb
 apply EY
 intro u hu
 by_cases c:u<v
 ·rw[if_pos c,if_pos (show u<v+1 by omega)]
 ·by_cases c2:u=v
  ·subst c2
   rw[if_pos (show u<u+1 by omega),if_pos hm,if_neg (LB u)]
  ·rw[if_neg c,if_neg (show¬u<v+1 by omega)]
theorem afm{counts:List Int}{z:Int}{p v:Nat}(hv:v<counts.length)(hm:ma counts z v≠p):(mb counts z p v).set v 15=mb counts z p (v+1):=by
 apply nU
 ·simp[ED]
 ·intro i h1 h2
  rw[Ly]
  simp only[mb,List.getElem_map,List.getElem_range]
  by_cases c:v=i
  ·subst c;rw[if_pos rfl,if_pos (show v<v+1 by omega),if_neg hm]
  ·rw[if_neg c]
   by_cases c2:i<v
   ·rw[if_pos c2,if_pos (show i<v+1 by omega)]
   ·rw[if_neg c2,if_neg (show¬i<v+1 by omega)]
section
variable (lf d n:Nat) (h:H) (aw:3000000<=lf)
include aw
theorem afn(v:Value)(xs:List Int)(z:Int)(g:Gd h n)(hR:Row h n 3 .i64 v xs)(hl:xs.length<=258)(hx:∀x∈xs,0<=x∧x<=1099511627776)(hz:1<=z)(lK:z<=1099511627776):
 ah (fun _=>False) n (aq ai gt lf (d+2) 100 #[v,.int .i64 z]) h n fun v' h' n'=>RR h' n' 22 3 v' (vx xs z):=by
 rw[aD (fun _=>Q6) rfl]
 refine ah.aB ?_
 unfold C0
 have bL:=hR
 obtain⟨a,c,rfl⟩:=hR.len
 refine bV (afg lf d n h z g (by omega)) (ak _) (fun _ _ h=>h.elim) ?_
 have ht:=Ko z
 obtain⟨t,rf⟩:∃t,lz z=t:=⟨_,rfl⟩
 rw[rf]at ht⊢
 refine Ev.run_make trivial t t _ (ak _) (by omega) ?_
 try simp(disch:=first|omega|assumption|exact aa _) only[ag,ae,RZ]
 let jC:Nat->Value:=fun j=> .slice (some ⟨n+1+j,0,none⟩) xs.length xs.length
 refine iq t (fun fu i (_:Unit)=>uN lf (aq ai gt lf (d+1)) fu (y0 lf (aq ai gt lf (d+1))) (.slice a xs.length c) (.int .i64 z) (.slice none 0 0) (.int .i64 (t:Nat)) (.slice (some ⟨n,0,none⟩) t t) (.int .i64 (t:Nat)) (.int .i64 (i:Nat)))
  (fun i _ h' n'=>n'=n+1+i∧(∀b,b<n->h'.get b=h.get b)∧h'.get n=some ⟨22,true,rc jC (.slice none 0 0) t i⟩∧∀j,j<i->h'.get (n+1+j)=some ⟨3,true,aL .i64 (cq xs.length 0)⟩) ?_ ?_ lf 0 () _ _ (cb _) (by omega) ⟨rfl,fun b hb=>aA _ _ (by omega),by rw[get_eq,TK],fun j hj=>absurd hj (rB j)⟩
 ·rintro fu _ h' n' ⟨rfl,hk,hg,hj⟩
  rw[uN]
  try simp(disch:=first|omega|assumption|exact aa _) only[ag,ae,RZ,c9]
  (try unfold y0);(try dsimp only)
  try simp(disch:=first|omega|assumption|exact aa _) only[ag,ae,RZ]
  rw[TL]at hg
  refine iq xs.length (fun fu i (q:Int)=>sJ lf (aq ai gt lf (d+1)) fu (yZ lf (aq ai gt lf (d+1))) (.slice a xs.length c) (.int .i64 z) (.slice none 0 0) (.int .i64 (t:Nat)) (.slice (some ⟨n,0,none⟩) t t) (.int .i64 q) _ _ _ (.slice a xs.length c) (.int .i64 (xs.length:Nat)) (.int .i64 (i:Nat)))
   (fun i q h' n'=>q=iO xs z i∧n'=n+1+t∧(∀b,b<n->h'.get b=h.get b)∧h'.get n=some ⟨22,true,(cN t).map jC⟩∧∀j,j<t->h'.get (n+1+j)=some ⟨3,true,aL .i64 (mb xs z j i)⟩) ?_ ?_ lf 0 0 _ _ (cb _) (by omega) ⟨by unfold iO;simp only[AJ,bO];rw[if_neg (by omega)],rfl,hk,hg,fun j iV=>by rw[afj];exact hj j iV⟩
  ·rintro fu q h' n' ⟨rfl,rfl,hk,hg,hj⟩
   rw[sJ]
   try simp(disch:=first|omega|assumption|exact aa _) only[ag,ae,RZ,c9]
   (try unfold yZ);(try unfold aiQ);(try dsimp only)
   try simp(disch:=first|omega|assumption|exact aa _) only[ag,ae,RZ]
   have cl:((cN t).map jC).length=t:=by simp
   refine⟨(cN t).map jC,.inr ⟨n,0,t,true,_,by rw[cl],hg,by omega,by rw[cl];omega,by rw[gT,nQ],by rw[cl];exact ak _⟩,by rw[cl,Kp,rf],fun j EE=> ?_⟩
   rw[Kp,rf]at EE
   unfold vx
   rw[rf,Ky _ _ EE,Ky _ _ EE,<-afk]
   exact Row.zZ (hj j EE) (by omega) (ED _ _ _ _)
  ·rintro fu i q h' n' hi ⟨rfl,rfl,hk,hg,hj⟩ next
   obtain⟨b,off,cap,o,cs,hv,pX,hb,_,_,_,cI⟩:=(bL.ax (ak n) hk).some (by omega)
   cases hv
   have cW:b<n+1+t:=by omega
   have e1:((i:Nat):Int)<((xs.length:Nat):Int):=by omega
   have c1:=cI i hi
   obtain⟨g0,g1⟩:=Vj (fun x re=>(hx x re).1) hz (v:=i)
   have g2:=aeS (fun x re=>(hx x re).1) hz i
   rw[rf]at g2
   have g4:0<=iO xs z i*(t:Int):=aik g0 (by omega)
   have g5:iO xs z i*(t:Int)<=1099511627776*6:=Int.mul_le_mul (by omega) (by omega) (by omega) (by omega)
   have w1:IntKind.i64.wrap (iO xs z i*(t:Int))=iO xs z i*(t:Int):=aV (by omega) (by omega)
   have g6:(ma xs z i:Int)<=1099511627776*6:=by
    have:=Int.ediv_le_self z g4
    have h2:(iO xs z i*(t:Int))/z=(ma xs z i:Int):=by rw[<-g2,aif g4]
    omega
   have w2:IntKind.i64.wrap (ma xs z i:Int)=(ma xs z i:Int):=aV (by omega) (by omega)
   have z0:z≠0:=by omega
   have xb:=hx _ (Es hi)
   have w3:IntKind.i64.wrap (iO xs z i+xs.getD i 0)=iO xs z i+xs.getD i 0:=aV (by omega) (by omega)
   have w4:IntKind.i64.wrap (z-1)=z-1:=aV (by omega) (by omega)
   have bn:=aeR (fun x re=>(hx x re).1) (n:=z) hi
   rw[sJ]
   try simp(disch:=first|omega|assumption|exact aa _) only[ag,ae,RZ,e1,pX,c1,w1,z0,g2,w2]
   refine iq t (fun f2 p (_:Unit)=>sI lf (aq ai gt lf (d+1)) f2 (QZ lf (aq ai gt lf (d+1)) fu (yZ lf (aq ai gt lf (d+1)))) (.slice (some ⟨b,off,none⟩) xs.length c) (.int .i64 z) (.slice none 0 0) (.int .i64 (t:Nat)) (.slice (some ⟨n,0,none⟩) t t) (.int .i64 (iO xs z i)) (.int .i64 (i:Nat)) (.int .i64 (xs.getD i 0)) (.int .i64 (ma xs z i:Nat)) _ _ _ _ _ (.int .i64 (i:Nat)) _ (.int .i64 (t:Nat)) (.int .i64 (p:Nat)))
    (fun p _ h' n'=>n'=n+1+t∧(∀b,b<n->h'.get b=h.get b)∧h'.get n=some ⟨22,true,(cN t).map jC⟩∧∀j,j<t->h'.get (n+1+j)=some ⟨3,true,aL .i64 (mb xs z j (if j<p then i+1 else i))⟩) ?_ ?_ lf 0 () _ _ (cb _) (by omega) ⟨rfl,hk,hg,fun j iV=>by rw[if_neg (rB j)];exact hj j iV⟩
   ·rintro f2 _ h2 n2 ⟨rfl,b8,fG,iV⟩
    rw[sI]
    try simp(disch:=first|omega|assumption|exact aa _) only[ag,ae,RZ,c9]
    (try unfold QZ);(try unfold CZ);(try dsimp only)
    try simp(disch:=first|omega|assumption|exact aa _) only[ag,ae,RZ,w3,w4,bn]
    exact next _ _ _ ⟨rfl,rfl,b8,fG,fun j td=>by have:=iV j td;rwa[if_pos td]at this⟩
   ·rintro f2 p _ h2 n2 hp ⟨rfl,b8,fG,iV⟩ zL
    have e2:((p:Nat):Int)<((t:Nat):Int):=by omega
    have rV:=iV p hp
    rw[if_neg (LB p)]at rV
    rw[sI]
    by_cases m:ma xs z i=p
    ·have n1:((p:Int) !=(ma xs z i:Int))=false:=by rw[m];simp
     try simp(disch:=first|omega|assumption|exact aa _) only[ag,ae,RZ,e2,n1]
     refine zL () _ _ ⟨rfl,b8,fG,fun j td=> ?_⟩
     by_cases q:j=p
     ·subst q
      rw[if_pos (by omega),afl m]
      exact rV
     ·have:=iV j td
      by_cases q2:j<p
      ·rw[if_pos q2]at this;rw[if_pos (by omega)];exact this
      ·rw[if_neg q2]at this;rw[if_neg (by omega)];exact this
    ·have n1:((p:Int) !=(ma xs z i:Int))=true:=bne_iff_ne.2 fun e=>m (by omega)
     have c2:((cN t).map jC)[p]? =some (jC p):=by rw[lE,AM hp];rfl
     have Ab:jC p= .slice (some ⟨n+1+p,0,none⟩) xs.length xs.length:=rfl
     have pV:n+1+p<n+1+t:=by omega
     have xF:n<n+1+t:=by omega
     try simp(disch:=first|omega|assumption|exact aa _) only[ag,ae,RZ,e2,n1,fG,c2,Ab,e1,rV,Kv,afm hi m,eF,ED]
     refine⟨hi,.inl (by omega), ?_⟩
     refine zL () _ _ ⟨rfl,fun b hb=>by rw[aA _ _ (by omega)];exact b8 b hb,by rw[aA _ _ (by omega)];exact fG,fun j td=> ?_⟩
     by_cases q:j=p
     ·subst q
      rw[if_pos (by omega),get_eq]
     ·rw[aA _ _ (by omega)]
      have:=iV j td
      by_cases q2:j<p
      ·rw[if_pos q2]at this;rw[if_pos (by omega)];exact this
      ·rw[if_neg q2]at this;rw[if_neg (by omega)];exact this
 ·rintro fu i _ h' n' hi ⟨rfl,hk,hg,hj⟩ next
  have e2:((i:Nat):Int)<((t:Nat):Int):=by omega
  rw[uN]
  try simp(disch:=first|omega|assumption|exact aa _) only[ag,ae,RZ,e2]
  refine Ev.run_make trivial xs.length xs.length _ (ak _) (by omega) ?_
  have fG:(h'.set (n+1+i) (some ⟨3,true,cq xs.length (.int .i64 0)⟩)).get n=some ⟨22,true,rc jC (.slice none 0 0) t i⟩:=by rw[aA _ _ (by omega)];exact hg
  have xF:n<n+1+i+1:=by omega
  have rs:=TN (f:=jC) (z:= .slice none 0 0) hi
  have Ab:jC i= .slice (some ⟨n+1+i,0,none⟩) xs.length xs.length:=rfl
  rw[Ab]at rs
  try simp(disch:=first|omega|assumption|exact aa _) only[ag,ae,RZ,e2,fG,rs,Jz]
  refine⟨hi,.inl (by omega), ?_⟩
  refine next () _ _ ⟨by omega,fun b hb=>by rw[aA _ _ (by omega),aA _ _ (by omega)];exact hk b hb,get_eq _ _ _,fun j td=> ?_⟩
  rw[aA _ _ (by omega)]
  by_cases q:j=i
  ·subst q
   rw[get_eq,Eu]
  ·rw[aA _ _ (by omega)]
   exact hj j (by omega)
end
end Go.Proofs.YtdagfcflbphoiaaGreatDoor
namespace Go.Proofs.YtdagfcflbphoiaaGreatDoor
open Go.RowKit Ev Hu
inductive kD:Nat->List Int->List Int->Prop
 |stop (w:List Int) (hW:Ws w) (so:kv w (pS w)) (h:nE (l8 w) 0<=20):kD 0 w (l8 w)
 |next {k:Nat} {w l:List Int} (hW:Ws w) (so:kv w (pS w)) (h:¬nE (l8 w) 0<=20) (r:kD k (lh w) l):kD (k+1) w l
theorem kD.out{k:Nat}{w l:List Int}(r:kD k w l):∃w',Ws w'∧kv w' (pS w')∧nE (l8 w') 0<=20∧l=l8 w'∧w'.length=w.length:=by
 induction r with
 |stop w hW so h=>exact⟨w,hW,so,h,rfl,rfl⟩
 |next hW so h r ih=>
  obtain⟨w',h1,h2,h3,h4,h5⟩:=ih
  exact⟨w',h1,h2,h3,h4,by rw[h5,pT]⟩
structure Wb (ws:List Int) (c:Int):Prop where
 l2:2<=ws.length
 l3:ws.length<=258
 lo:∀x∈ws,1<=x
 hi:∀x∈ws,x<=c
theorem Wb.ws{ws:List Int}{c:Int}(h:Wb ws c)(hc:c<=2199023255552):Ws ws:=⟨h.l2,h.l3,fun x hx=>by have:=h.lo x hx;omega,fun x hx=>by have:=h.hi x hx;omega⟩
theorem Wb.afo{ws:List Int}{c:Int}(h:Wb ws c)(hc:c<=2199023255552):Wb (lh ws) (c/2+1):=by
 refine⟨by rw[pT];exact h.l2,by rw[pT];exact h.l3,fun x hx=> ?_,fun x hx=> ?_⟩
 all_goals
  unfold lh at hx
  rw[E']at hx
  obtain⟨y,hy,rfl⟩:=hx
  have h1:=h.lo y hy
  have h2:=h.hi y hy
  have hb:=Up y (by omega)
  have:=hb.2.2 (by omega)
  omega
def cap(k:Nat):Int:=2^k+2
theorem afp(k:Nat):cap (k+1)/2+1<=cap k:=by
 unfold cap
 rw[Int.pow_succ]
 omega
theorem Vx{k:Nat}(h:k<=40):cap k<=2199023255552:=by
 unfold cap
 have h1:(2:Nat)^k<=2^40:=Nat.pow_le_pow_right (by omega) h
 have e:((2:Int)^k)=(((2:Nat)^k:Nat):Int):=by simp
 rw[e]
 generalize (2:Nat)^k=z at h1
 omega
theorem Wb.short{ws:List Int}(h:Wb ws 3)(so:kv ws (pS ws)):nE (l8 ws) 0<=20:=by
 obtain⟨w,I,A,B,X,R,dep,D⟩:=(h.ws (by omega)).Uo so
 have hN:=h.l2
 have hN3:=h.l3
 have aiR:=D.m.root
 have xd:bO ((cN ws.length).map w)<=((cN ws.length).map w).length*3:=JP 3 _ (fun x hx=>by
  rw[E']at hx
  obtain⟨i,hi,rfl⟩:=hx
  have hi:=List.mem_range.1 hi
  rw[D.ww i hi]
  exact h.hi _ (Uq hi))
 rw[mM,List.length_range]at xd
 rw[Jv]
 refine⟨by omega, ?_⟩
 unfold l8
 rw[D.mem]
 intro i hi
 have:=D.m.short D.d0 D.d1 hi (by rw[D.ww i hi];exact h.lo _ (Uq hi)) (by omega)
 omega
theorem ofB(lf d:Nat)(aw:3000000<=lf)(hd:300<=d)(x0 x2 EF x24 x25 x26 x27:Value){W:Nat->Prop}{n0:Nat}:
 ∀(m fu:Nat) (w:List Int) (h:H) (n:Nat) (x4:Value),m<fu->m<=40->Wb w (cap m)->n0<=n->Row h n 3 .i64 x4 w->
  ah W n0 (uW lf (aq ai gt lf d) fu (y8 lf (aq ai gt lf d)) x0 x2 (.int .i64 0) x4 EF x24 x25 x26 x27) h n fun v' h' n'=>∃v1 l r,v'= .tuple #[v1,.int .i64 0]∧kD r w l∧r<=m∧Row h' n' 3 .i64 v1 l:=by
 intro m
 induction m with
 |zero=>
  intro fu w h n x4 cC hm hw hn hR
  obtain⟨fu,rfl⟩:∃f,fu=f+1:=⟨fu-1,by omega⟩
  obtain⟨e,rfl⟩:∃e,d=e+1:=⟨d-1,by omega⟩
  rw[uW]
  have hW:=hw.ws (Vx hm)
  refine aI aF (Un lf (e+1) n h x4 w hR hW aw hd) hn (fun _ _ h=>h.elim) fun v1 h1 n1 bb bJ hq=> ?_
  obtain⟨so,Ac,_⟩:=hq
  have nh:=hW.l2
  have xm:=hW.l3
  have dl:=JQ (ws:=w) (by omega)
  refine bV (TE lf e n1 h1 v1 _ Ac (by omega) aw) (by omega) (fun _ _ h=>h.elim) ?_
  have hs:=Wb.short hw so
  try simp(disch:=first|omega|assumption|exact aa _) only[ag,ae,RZ,hs]
  refine aI aF (vn lf e n1 h1 v1 _ Ac (by omega) (by omega)) (by omega) (fun _ _ h=>h.elim) fun v3 h3 n3 fp dA q3=> ?_
  (try unfold y8);(try unfold afq);(try dsimp only)
  rw[wH]
  exact⟨v3,_,0,rfl,.stop w hW so hs,ak _,q3.2.1⟩
 |succ m ih=>
  intro fu w h n x4 cC hm hw hn hR
  obtain⟨fu,rfl⟩:∃f,fu=f+1:=⟨fu-1,by omega⟩
  obtain⟨e,rfl⟩:∃e,d=e+1:=⟨d-1,by omega⟩
  rw[uW]
  have hc:=Vx hm
  have hW:=hw.ws hc
  refine aI aF (Un lf (e+1) n h x4 w hR hW aw hd) hn (fun _ _ h=>h.elim) fun v1 h1 n1 bb bJ hq=> ?_
  obtain⟨so,Ac,_⟩:=hq
  have nh:=hW.l2
  have xm:=hW.l3
  have dl:=JQ (ws:=w) (by omega)
  refine bV (TE lf e n1 h1 v1 _ Ac (by omega) aw) (by omega) (fun _ _ h=>h.elim) ?_
  by_cases hs:nE (l8 w) 0<=20
  ·try simp(disch:=first|omega|assumption|exact aa _) only[ag,ae,RZ,hs]
   refine aI aF (vn lf e n1 h1 v1 _ Ac (by omega) (by omega)) (by omega) (fun _ _ h=>h.elim) fun v3 h3 n3 fp dA q3=> ?_
   (try unfold y8);(try unfold afq);(try dsimp only)
   rw[wH]
   exact⟨v3,_,0,rfl,.stop w hW so hs,cb _,q3.2.1⟩
  ·try simp(disch:=first|omega|assumption|exact aa _) only[ag,ae,RZ,hs]
   have fJ:=hR.ax bb (fun b hb=>bJ b hb id)
   refine aI aF (adD lf e n1 h1 x4 w fJ (by omega) (fun x hx=>by have:=hW.hi x hx;omega) aw) (by omega) (fun _ _ h=>h.elim) fun v3 h3 n3 fp dA q3=> ?_
   have kL:=hw.afo hc
   have hw3:Wb (lh w) (cap m):=⟨kL.l2,kL.l3,kL.lo,fun x hx=>by have:=kL.hi x hx;have:=afp m;omega⟩
   refine(ih fu (lh w) h3 n3 v3 (by omega) (by omega) hw3 (by omega) q3.1).mono ?_
   rintro v' h' n' _ ⟨v4,l,r,rfl,hr,hle,gf⟩
   exact⟨v4,l,r+1,rfl,.next hW so hs hr,by omega,gf⟩
def EG(x:Int):Int:=if x<1 then 1 else x
def jD(xs:List Int):List Int:=xs.map EG
theorem qc(xs:List Int):(jD xs).length=xs.length:=by unfold jD;simp
theorem afr{xs:List Int}{i:Nat}(h:i<xs.length):(jD xs).getD i 0=EG (xs.getD i 0):=by
 unfold jD
 rw[aC,lE,aR h,aC,aR h]
 rfl
theorem afs{xs:List Int}(h2:2<=xs.length)(h3:xs.length<=258)(h:∀x∈xs,0<=x∧x<=1099511627776):Wb (jD xs) (cap 40):=by
 refine⟨by rw[qc];exact h2,by rw[qc];exact h3,fun x hx=> ?_,fun x hx=> ?_⟩
 all_goals
  unfold jD at hx
  rw[E']at hx
  obtain⟨y,hy,rfl⟩:=hx
  have:=h y hy
  unfold EG
 ·split<;>omega
 ·have:cap 40=1099511627778:=rfl
  split<;>omega
theorem ofA (lf d n:Nat) (h:H) (v:Value) (xs:List Int) (hR:Row h n 3 .i64 v xs) (hl:xs.length<=1000000) (x2 x3 EF:Value) (c:Nat) (hc:xs.length<=c) {W:Nat->Prop} {n0:Nat} (eE:n0<=n) {Q:Value->H->Nat->Prop} (k:(Value->Value->Value->Value->Value->Value->Value->Value->Value->M Value))
 (hK:∀h1 Vy,Row h1 (n+1) 3 .i64 (.slice (some ⟨n,0,none⟩) xs.length c) (jD xs)->ah W n0 (k v x2 x3 (.slice (some ⟨n,0,none⟩) xs.length c) EF v (.int .i64 (xs.length:Nat)) (.int .i64 (xs.length:Nat)) Vy) h1 (n+1) Q):
 ∀(m i fu:Nat) (h1:H),xs.length-i=m->m<fu->i<=xs.length->(∀b,b<n->h1.get b=h.get b)->h1.get n=some ⟨3,true,ints (part (jD xs) i)⟩->
  ah W n0 (uV lf (aq ai gt lf d) fu k v x2 x3 (.slice (some ⟨n,0,none⟩) xs.length c) EF v (.int .i64 (xs.length:Nat)) (.int .i64 (i:Nat))) h1 (n+1) Q:=by
 intro m
 induction m with
 |zero=>
  intro i fu h1 hm cC hi hk nG
  obtain⟨fu,rfl⟩:∃f,fu=f+1:=⟨fu-1,by omega⟩
  obtain rfl:i=xs.length:=by omega
  rw[uV]
  try simp(disch:=first|omega|assumption|exact aa _) only[ag,ae,RZ,c9]
  rw[<-qc xs,JT]at nG
  refine hK h1 _ (.inr ⟨n,0,c,true,_,by rw[qc],nG,Nat.lt_succ_self n,by rw[kX];omega, ?_,by rw[qc];exact hc⟩)
  rw[gT,kH (by rw[kX];exact ak _)]
  rfl
 |succ m ih=>
  intro i fu h1 hm cC hi hk nG
  obtain⟨fu,rfl⟩:∃f,fu=f+1:=⟨fu-1,by omega⟩
  have fJ:Row h1 (n+1) 3 .i64 v xs:=hR.ax (fg n) hk
  have bf:=fun b hb=>hR.lt (b:=b) hb
  obtain⟨b,off,cap,o,cs,rfl,hg,hb,_,_,_,cI⟩:=fJ.some (by omega)
  have pz:b<n:=bf b ⟨_,_,_,rfl⟩
  have e1:((i:Nat):Int)<((xs.length:Nat):Int):=by omega
  have c1:=cI i (by omega)
  have w1:((i:Nat):Int)+1=((i+1:Nat):Int):=by omega
  have pl:(part (jD xs) i).length=xs.length:=by rw[JR _ (by rw[qc];omega),qc]
  have ps:(part (jD xs) i).set i (if xs.getD i 0<1 then 1 else xs.getD i 0)=part (jD xs) (i+1):=by
   show(part (jD xs) i).set i (EG (xs.getD i 0))=_
   rw[<-afr (by omega),JS (by rw[qc];omega)]
  rw[uV]
  try simp(disch:=first|omega|assumption|exact aa _) only[ag,ae,RZ,e1,hg,c1,nG,ints_set,kX,pl,ps]
  refine⟨by omega,.inl eE, ?_⟩
  rw[w1]
  exact ih (i+1) fu _ (by omega) (by omega) (by omega) (fun b hb=>by rw[aA _ _ (by omega)];exact hk b hb) (get_eq _ _ _)
theorem Vz(lf d n:Nat)(h:H)(v:Value)(xs:List Int)(hR:Row h n 3 .i64 v xs)(nh:3<=xs.length)(xm:xs.length<=258)(hm:eg 0 1099511627776 xs=true)(aw:3000000<=lf)(hd:400<=d):
 ah (fun _=>False) n (aq ai gt lf d 127 #[v]) h n fun v' h' n'=>∃v1 l r,v'= .tuple #[v1,.int .i64 0]∧kD r (jD xs) l∧r<=40∧Row h' n' 3 .i64 v1 l:=by
 obtain⟨d,rfl⟩:∃e,d=e+5:=⟨d-5,by omega⟩
 have dM:=k8.1 hm
 rw[aD (fun _=>RQ) rfl]
 refine ah.aB ?_
 unfold Dj
 have bL:=hR
 obtain⟨a,c,rfl⟩:=hR.len
 have e1:¬((xs.length:Nat):Int)<3:=by omega
 have e2:¬(258:Int)<((xs.length:Nat):Int):=by omega
 try simp(disch:=first|omega|assumption|exact aa _) only[ag,ae,RZ,e1,e2]
 refine xo (TC lf d n h _ xs bL 0 1099511627776 (by omega) aw) (ak _) fun h1 n1 bb bJ=> ?_
 have fJ:=bL.ax bb bJ
 rw[hm,yH,gu]
 try simp(disch:=first|omega|assumption|exact aa _) only[ag,ae,RZ]
 refine Ev.run_make trivial xs.length xs.length _ (ak _) (by omega) ?_
 try simp(disch:=first|omega|assumption|exact aa _) only[ag,ae,RZ]
 refine ofA lf (d+4) n1 h1 _ xs fJ (by omega) _ _ _ xs.length (ak _) bb _ (fun h2 Vy jK=> ?_) xs.length 0 lf _ (by omega) (by omega) (by omega) (fun b hb=>aA _ _ (by omega)) ?_
 ·(try unfold Di);(try dsimp only)
  exact ofB lf (d+4) aw (by omega) _ _ _ _ _ _ _ 40 lf (jD xs) h2 (n1+1) _ (by omega) (ak _) (afs (by omega) xm dM) (by omega) jK
 ·rw[get_eq,JU,qc]
  unfold ints
  rw[Lx]
theorem kD.whole{k:Nat}{w l:List Int}(r:kD k w l):l.length=w.length∧eg 1 20 l=true∧dS l=1048576:=by
 obtain⟨w',hW,so,h,rfl,hl⟩:=r.out
 obtain⟨wf,I,A,B,X,R,dep,D⟩:=hW.Uo so
 have nh:=hW.l2
 rw[Jv]at h
 refine⟨by rw[JQ (by omega),hl],k8.2 fun x hx=>⟨?_,h.2 x hx⟩, ?_⟩
 ·revert x
  unfold l8
  rw[D.mem]
  intro i hi
  have:=D.ge1 hi
  omega
 ·unfold l8 at h⊢
  exact D.share h.2
abbrev RTr:=Int×Nat×Value
def tv(t:RTr):V3:=(.int .i64 t.1,.int .i64 (t.2.1:Nat),t.2.2)
end Go.Proofs.YtdagfcflbphoiaaGreatDoor
namespace Go.Proofs.YtdagfcflbphoiaaGreatDoor
open Ev Hu
section
variable {N:Nat} {w:Nat->Int} {I A B:Nat->Nat} {X R:Nat->List Nat} {dep:Nat->Nat}
end
end Go.Proofs.YtdagfcflbphoiaaGreatDoor
namespace Go.Proofs.YtdagfcflbphoiaaGreatDoor
open Go.RowKit Ev Hu
end Go.Proofs.YtdagfcflbphoiaaGreatDoor
