import Derived.Test.YtcehhgppfahbkaaGreatDoorMad
import Derived.WideShapes
import Derived.WalkLawsBesides
import Derived.Test.YtcehhgppfahbkaaGreatDoorMac
import Derived.Laws.BitsAllLaws
import Derived.IntWalk
namespace Go.Proofs.YtcehhgppfahbkaaGreatDoor
set_option linter.unusedVariables false
set_option linter.unusedSimpArgs false
open Go.RowKit Ev
noncomputable section
def lpA_balerref13_Bits (lf : Nat) (r : RT) : Nat→(V→M V)→V→V→V→V→V→V→V→V→M V
  | 0, _, _, _, _, _, _, _, _, _ => .fail
  | fu + 1, k, a, b, c, d, e, f, g, h => kls h g fun i => ifV i (kix f h fun j => kld j fun l => kit (Value.string { data := #[48, 49, 50, 51, 52, 53] }) l fun j => kcl
   r 142 [e, j] fun m => kcl r 143 [e, m] fun j => ksx (Value.string { data := #[49, 49, 49, 49, 49, 49] }) none (some m) fun e => kad d e fun n => kad n (Value.string {
   data := #[48] }) fun o => kad h (ii 1) fun d => lpA_balerref13_Bits lf r fu k a b c o j f g d) (k d)
def sA_balerref13_Bits : List Nat := [0, 1, 4, 5, 6, 18, 19, 20]
def kcA_balerref13_Bits (lf : Nat) (r : RT) : (V→M V) := fun a => outK [a]
def b_balerref13_Bits (lf : Nat) (r : RT) (a b : V) : M V := kcv .u32 b fun c => kcl r 80 [c, (ii 3)] fun d => kln a fun e => kcv .u32 e fun f => kcl r 80 [f, (ii 15)]
  fun g => kad d g fun h => kln a fun c => lpA_balerref13_Bits lf r lf (kcA_balerref13_Bits lf r) a b (Value.string { data := #[] }) h (Value.string { data := #[48, 49, 50, 51, 52, 53] }) a c (ii 0)
theorem lqA_balerref13_Bits {lf : Nat} {r : RT} (K : KT) : ∀ fu, lpA_balerref13_Bits lf r fu (fun a => K (.exit 0) (zp [5] [a])) = fun a b c d e f g h => loopK (cQ 146
  (pb 7 23) lf r) sA_balerref13_Bits fu (zp sA_balerref13_Bits [a, b, c, d, e, f, g, h]) K
  | 0 => by funext a b c d e f g h; kernel_rfl
  | fu + 1 => by
    have ih := lqA_balerref13_Bits (lf := lf) (r := r) K fu
    funext a b c d e f g h
    rw [lpA_balerref13_Bits]
    simp only [ih]
    kernel_rfl
theorem kqA_balerref13_Bits {lf : Nat} {r : RT} : kcA_balerref13_Bits lf r = (fun a => (tK 146 (pb 6 23) lf r) (.exit 0) (zp [5] [a])) := by kernel_rfl
theorem st_balerref13_Bits {lf : Nat} {r : RT} {a b : V} : evStep Tryz.prog gt lf r 146 #[a, b] = inside (b_balerref13_Bits lf r a b) := by 
  unfold b_balerref13_Bits
  simp only [kqA_balerref13_Bits, lqA_balerref13_Bits]
  kernel_rfl

def lpB_balerref11_Bits (lf : Nat) (r : RT) : Nat→(V→V→V→V→V→V→V→M V)→V→V→V→V→V→V→V→V→V→V→M V
  | 0, _, _, _, _, _, _, _, _, _, _, _ => .fail
  | fu + 1, k, a, b, c, d, e, f, g, h, i, j => kls j (ii 40) fun l => ifV l (ksb e d fun m => kls j m fun n => (fun m => ifV n (kad c (Value.string { data := #[49, 48]
   }) fun o => m o) (m c)) fun c => ksb d e fun m => kls j m fun o => ifV o (kad c (Value.string { data := #[49, 49] }) fun m => kad j (ii 1) fun c =>
   lpB_balerref11_Bits lf r fu k a b m d e f g h i c) (kad j (ii 1) fun m => lpB_balerref11_Bits lf r fu k a b c d e f g h i m)) (k a b c e f g h)
def sB_balerref11_Bits : List Nat := [0, 2, 3, 4, 6, 16, 17, 18, 19, 22]
def KBB_balerref11_Bits (lf : Nat) (r : RT) (k : (V→M V)) (again : V→V→V→V→V→V→V→M V) : (V→V→V→V→V→V→V→M V) := fun a b c d e f g => kad c (Value.string { data := #[48]
  }) fun h => kad g (ii 1) fun c => again a b h d e f c
def lpA_balerref11_Bits (lf : Nat) (r : RT) : Nat→(V→M V)→V→V→V→V→V→V→V→M V
  | 0, _, _, _, _, _, _, _, _ => .fail
  | fu + 1, k, a, b, c, d, e, f, g => kls g f fun h => ifV h (kix e g fun i => kld i fun j => lpB_balerref11_Bits lf r lf (KBB_balerref11_Bits lf r k
   (lpA_balerref11_Bits lf r fu k)) a b c d j e f g h (ii 0)) (k c)
def sA_balerref11_Bits : List Nat := [0, 2, 3, 4, 16, 17, 18]
def kcA_balerref11_Bits (lf : Nat) (r : RT) : (V→M V) := fun a => outK [a]
def b_balerref11_Bits (lf : Nat) (r : RT) (a : V) : M V := kix a (ii 0) fun b => kld b fun c => kcv .u32 c fun d => kcl r 80 [d, (ii 5)] fun e => kix a (ii 0) fun b =>
  kld b fun c => kln a fun b => lpA_balerref11_Bits lf r lf (kcA_balerref11_Bits lf r) a (Value.string { data := #[] }) e c a b (ii 0)
theorem lqB_balerref11_Bits {lf : Nat} {r : RT} (K : KT) : ∀ fu, lpB_balerref11_Bits lf r fu (fun a b c d e f g => K (.exit 2) (zp [0, 2, 3, 6, 16, 17, 18] [a, b, c, d,
  e, f, g])) = fun a b c d e f g h i j => loopK (cQ 147 (pb 16 10647) lf r) sB_balerref11_Bits fu (zp sB_balerref11_Bits [a, b, c, d, e, f, g, h, i, j]) K
  | 0 => by funext a b c d e f g h i j; kernel_rfl
  | fu + 1 => by
    have ih := lqB_balerref11_Bits (lf := lf) (r := r) K fu
    funext a b c d e f g h i j
    rw [lpB_balerref11_Bits]
    simp only [ih]
    kernel_rfl
theorem kqB_balerref11_Bits {lf : Nat} {r : RT} (K : KT) (fu : Nat) : KBB_balerref11_Bits lf r (fun a => K (.exit 0) (zp [3] [a])) (fun a b c d e f g => loopK (cQ 147
  (pb 7 23) lf r) sA_balerref11_Bits fu (zp sA_balerref11_Bits [a, b, c, d, e, f, g]) K) = (fun a b c d e f g => (iK 147 (pb 7 23) (pb 8 83) sA_balerref11_Bits fu K lf
  r) (.exit 2) (zp [0, 2, 3, 6, 16, 17, 18] [a, b, c, d, e, f, g])) := by kernel_rfl
theorem lqA_balerref11_Bits {lf : Nat} {r : RT} (K : KT) : ∀ fu, lpA_balerref11_Bits lf r fu (fun a => K (.exit 0) (zp [3] [a])) = fun a b c d e f g => loopK (cQ 147 (pb
  7 23) lf r) sA_balerref11_Bits fu (zp sA_balerref11_Bits [a, b, c, d, e, f, g]) K
  | 0 => by funext a b c d e f g; kernel_rfl
  | fu + 1 => by
    have ih := lqA_balerref11_Bits (lf := lf) (r := r) K fu
    funext a b c d e f g
    rw [lpA_balerref11_Bits]
    simp only [ih, kqB_balerref11_Bits, lqB_balerref11_Bits]
    kernel_rfl
theorem kqA_balerref11_Bits {lf : Nat} {r : RT} : kcA_balerref11_Bits lf r = (fun a => (tK 147 (pb 6 23) lf r) (.exit 0) (zp [3] [a])) := by kernel_rfl
theorem st_balerref11_Bits {lf : Nat} {r : RT} {a : V} : evStep Tryz.prog gt lf r 147 #[a] = inside (b_balerref11_Bits lf r a) := by 
  unfold b_balerref11_Bits
  simp only [kqA_balerref11_Bits, lqA_balerref11_Bits]
  kernel_rfl

def lpC_balerref10_Codes (lf : Nat) (r : RT) : Nat→(V→V→V→V→V→V→V→V→V→V→M V)→V→V→V→V→V→V→V→V→V→V→V→V→V→V→V→V→M V
  | 0, _, _, _, _, _, _, _, _, _, _, _, _, _, _, _, _, _ => .fail
  | fu + 1, k, a, b, c, d, e, f, g, h, i, j, l, m, n, o, p, q => kls q p fun s => ifV s (kad d (Value.string { data := #[48] }) fun t => kad q (ii 1) fun d =>
   lpC_balerref10_Codes lf r fu k a b c t e f g h i j l m n o p d) (k a b c d e f h i j l)
def sC_balerref10_Codes : List Nat := [0, 2, 3, 4, 5, 6, 7, 12, 15, 16, 17, 18, 24, 26, 27, 28]
def KBC_balerref10_Codes (lf : Nat) (r : RT) (k : (V→V→V→V→V→M V)) (again : V→V→V→V→V→V→V→V→V→M V) : (V→V→V→V→V→V→V→V→V→V→M V) := fun a b c d e f g h i j => kix c f fun
  l => kst l d fun _ => kad j (ii 1) fun l => again a b c d e g h i l
def lpB_balerref10_Codes (lf : Nat) (r : RT) : Nat→(V→V→V→V→V→M V)→V→V→V→V→V→V→V→V→V→M V
  | 0, _, _, _, _, _, _, _, _, _, _ => .fail
  | fu + 1, k, a, b, c, d, e, f, g, h, i => kls i h fun j => ifV j (kix g i fun l => kld l fun m => kne m e fun l => ifV l (kad i (ii 1) fun n => lpB_balerref10_Codes lf
   r fu k a b c d e f g h n) (keq d (Value.string { data := #[] }) fun n => ifV n (lpC_balerref10_Codes lf r lf (KBC_balerref10_Codes lf r k (lpB_balerref10_Codes lf r
   fu k)) a b c d e i m f g h i j l n e (ii 0)) (kcl r 178 [d, e] fun o => kix c i fun d => kst d o fun _ => kad i (ii 1) fun d => lpB_balerref10_Codes lf r fu k a b c o e f g h d))) (k a b c d e)
def sB_balerref10_Codes : List Nat := [0, 2, 3, 4, 5, 12, 15, 16, 17]
def KBB_balerref10_Codes (lf : Nat) (r : RT) (k : (V→M V)) (again : V→V→V→V→V→M V) : (V→V→V→V→V→M V) := fun a b c d e => kad e (ii 1) fun f => again a b c d f
def lpA_balerref10_Codes (lf : Nat) (r : RT) : Nat→(V→M V)→V→V→V→V→V→M V
  | 0, _, _, _, _, _, _ => .fail
  | fu + 1, k, a, b, c, d, e => klq e (ii 20) fun f => ifV f (kln a fun g => lpB_balerref10_Codes lf r lf (KBB_balerref10_Codes lf r k (lpA_balerref10_Codes lf r fu k)) a b c d e f a g (ii 0)) (k c)
def sA_balerref10_Codes : List Nat := [0, 2, 3, 4, 5]
def kcA_balerref10_Codes (lf : Nat) (r : RT) : (V→M V) := fun a => outK [a]
def b_balerref10_Codes (lf : Nat) (r : RT) (a : V) : M V := kln a fun b => kmk 9 [(Value.string { data := #[] })] b b fun c => lpA_balerref10_Codes lf r lf
  (kcA_balerref10_Codes lf r) a nS c (Value.string { data := #[] }) (ii 1)
theorem lqC_balerref10_Codes {lf : Nat} {r : RT} (K : KT) : ∀ fu, lpC_balerref10_Codes lf r fu (fun a b c d e f g h i j => K (.exit 4) (zp [0, 2, 3, 4, 5, 6, 12, 15, 16,
  17] [a, b, c, d, e, f, g, h, i, j])) = fun a b c d e f g h i j l m n o p q => loopK (cQ 148 (pb 25 5661847) lf r) sC_balerref10_Codes fu (zp sC_balerref10_Codes [a, b,
  c, d, e, f, g, h, i, j, l, m, n, o, p, q]) K
  | 0 => by funext a b c d e f g h i j l m n o p q; kernel_rfl
  | fu + 1 => by
    have ih := lqC_balerref10_Codes (lf := lf) (r := r) K fu
    funext a b c d e f g h i j l m n o p q
    rw [lpC_balerref10_Codes]
    simp only [ih]
    kernel_rfl
theorem kqC_balerref10_Codes {lf : Nat} {r : RT} (K : KT) (fu : Nat) : KBC_balerref10_Codes lf r (fun a b c d e => K (.exit 2) (zp [0, 2, 3, 4, 5] [a, b, c, d, e])) (fun
  a b c d e f g h i => loopK (cQ 148 (pb 13 1175) lf r) sB_balerref10_Codes fu (zp sB_balerref10_Codes [a, b, c, d, e, f, g, h, i]) K) = (fun a b c d e f g h i j => (iK
  148 (pb 13 1175) (pb 11 691) sB_balerref10_Codes fu K lf r) (.exit 4) (zp [0, 2, 3, 4, 5, 6, 12, 15, 16, 17] [a, b, c, d, e, f, g, h, i, j])) := by kernel_rfl
theorem lqB_balerref10_Codes {lf : Nat} {r : RT} (K : KT) : ∀ fu, lpB_balerref10_Codes lf r fu (fun a b c d e => K (.exit 2) (zp [0, 2, 3, 4, 5] [a, b, c, d, e])) = fun
  a b c d e f g h i => loopK (cQ 148 (pb 13 1175) lf r) sB_balerref10_Codes fu (zp sB_balerref10_Codes [a, b, c, d, e, f, g, h, i]) K
  | 0 => by funext a b c d e f g h i; kernel_rfl
  | fu + 1 => by
    have ih := lqB_balerref10_Codes (lf := lf) (r := r) K fu
    funext a b c d e f g h i
    rw [lpB_balerref10_Codes]
    simp only [ih, kqC_balerref10_Codes, lqC_balerref10_Codes]
    kernel_rfl
theorem kqB_balerref10_Codes {lf : Nat} {r : RT} (K : KT) (fu : Nat) : KBB_balerref10_Codes lf r (fun a => K (.exit 0) (zp [3] [a])) (fun a b c d e => loopK (cQ 148 (pb
  7 23) lf r) sA_balerref10_Codes fu (zp sA_balerref10_Codes [a, b, c, d, e]) K) = (fun a b c d e => (iK 148 (pb 7 23) (pb 5 9) sA_balerref10_Codes fu K lf r) (.exit 2)
  (zp [0, 2, 3, 4, 5] [a, b, c, d, e])) := by kernel_rfl
theorem lqA_balerref10_Codes {lf : Nat} {r : RT} (K : KT) : ∀ fu, lpA_balerref10_Codes lf r fu (fun a => K (.exit 0) (zp [3] [a])) = fun a b c d e => loopK (cQ 148 (pb 7
  23) lf r) sA_balerref10_Codes fu (zp sA_balerref10_Codes [a, b, c, d, e]) K
  | 0 => by funext a b c d e; kernel_rfl
  | fu + 1 => by
    have ih := lqA_balerref10_Codes (lf := lf) (r := r) K fu
    funext a b c d e
    rw [lpA_balerref10_Codes]
    simp only [ih, kqB_balerref10_Codes, lqB_balerref10_Codes]
    kernel_rfl
theorem kqA_balerref10_Codes {lf : Nat} {r : RT} : kcA_balerref10_Codes lf r = (fun a => (tK 148 (pb 6 23) lf r) (.exit 0) (zp [3] [a])) := by kernel_rfl
theorem st_balerref10_Codes {lf : Nat} {r : RT} {a : V} : evStep Tryz.prog gt lf r 148 #[a] = inside (b_balerref10_Codes lf r a) := by 
  unfold b_balerref10_Codes
  simp only [kqA_balerref10_Codes, lqA_balerref10_Codes]
  kernel_rfl

def b_balerref15_Rotation (lf : Nat) (r : RT) (a b : V) : M V := ksx a (some b) none fun c => ksx a none (some b) fun d => kad c d fun e => outK [e]
theorem st_balerref15_Rotation {lf : Nat} {r : RT} {a b : V} : evStep Tryz.prog gt lf r 151 #[a, b] = inside (b_balerref15_Rotation lf r a b) := by kernel_rfl

def b_balerref15_Ahead (lf : Nat) (r : RT) (a b c : V) : M V := kcl r 151 [a, b] fun d => kcl r 151 [a, c] fun e => kls d e fun f => ifV f (outK [bT]) (keq d e fun g =>
  ifV g (kls b c fun h => outK [h]) (outK [bF]))
theorem st_balerref15_Ahead {lf : Nat} {r : RT} {a b c : V} : evStep Tryz.prog gt lf r 152 #[a, b, c] = inside (b_balerref15_Ahead lf r a b c) := by kernel_rfl

def b_rle_Piece (lf : Nat) (r : RT) (a : V) : M V := kbx 113 a fun b => kfa 1 b fun c => kld c fun d => kls d (ii 1) fun e => ifV e (outK [(Value.string { data := #[]
  }), (ii 1)]) (kfa 1 b fun f => kld f fun g => kgr g (ii 255) fun h => ifV h (outK [(Value.string { data := #[] }), (ii 1)]) (klg 2 b fun c => kcl r 180 [c] fun d => outK [d, (ii 0)]))
theorem st_rle_Piece {lf : Nat} {r : RT} {a : V} : evStep Tryz.prog gt lf r 153 #[a] = inside (b_rle_Piece lf r a) := by kernel_rfl

def b_crc_Sum_Put (lf : Nat) (r : RT) (a b : V) : M V := kpn a nP fun c => ifV c (knn a fun d => kfa 0 d fun e => knn a fun f => kfa 256 f fun g => kld g fun h => kcl r
  181 [e, h, b] fun i => knn a fun j => kfa 256 j fun l => kst l i fun _ => outK []) (outK [])
theorem st_crc_Sum_Put {lf : Nat} {r : RT} {a b : V} : evStep Tryz.prog gt lf r 154 #[a, b] = inside (b_crc_Sum_Put lf r a b) := by kernel_rfl

def b_sorter_Sorter_step (lf : Nat) (r : RT) (a : V) : M V := kcl r 182 [a] fun b => knn a fun b => kfa 6 b fun c => kfa 2 c fun d => kld d fun e => kgr e (ii 0) fun f
  => ifV f (knn a fun g => kfa 9 g fun h => kld h fun i => knn a fun j => kfa 6 j fun l => kfa 1 l fun m => kld m fun n => knn a fun o => kfa 6 o fun p => kfa 0 p fun q
  => kld q fun s => ksb n s fun t => kls i t fun u => (fun b => ifV u (kcl r 183 [a] fun c => b) (knn a fun c => kfa 6 c fun d => kfa 2 d fun e => kld e fun f => kgr f
  (ii 0) fun g => ifV g (kcl r 184 [a] fun c => b) (knn a fun c => kfa 5 c fun d => kld d fun e => kln e fun f => kgr f (ii 0) fun h => ifV h (kcl r 185 [a] fun c => b)
  (kcl r 186 [a] fun c => b)))) (knn a fun b => kfa 14 b fun c => kld c fun d => kad d (ii 1) fun e => knn a fun f => kfa 14 f fun g => kst g e fun _ => outK [])) (knn a
  fun b => kfa 6 b fun c => kfa 2 c fun d => kld d fun e => kgr e (ii 0) fun f => (fun b => ifV f (kcl r 184 [a] fun c => b) (knn a fun c => kfa 5 c fun d => kld d fun e
  => kln e fun g => kgr g (ii 0) fun h => ifV h (kcl r 185 [a] fun c => b) (kcl r 186 [a] fun c => b))) (knn a fun b => kfa 14 b fun c => kld c fun d => kad d (ii 1) fun
  e => knn a fun g => kfa 14 g fun h => kst h e fun _ => outK []))
theorem st_sorter_Sorter_step {lf : Nat} {r : RT} {a : V} : evStep Tryz.prog gt lf r 155 #[a] = inside (b_sorter_Sorter_step lf r a) := by kernel_rfl

def b_slices_Clone_int_int (lf : Nat) (r : RT) (a : V) : M V := kse a nS fun b => ifV b (outK [nS]) (kbs 3 [] 0 [] fun c => kap 3 1 c a fun d => outK [d])
theorem st_slices_Clone_int_int {lf : Nat} {r : RT} {a : V} : evStep Tryz.prog gt lf r 156 #[a] = inside (b_slices_Clone_int_int lf r a) := by kernel_rfl

def b_bwt_ahead (lf : Nat) (r : RT) (a b : V) : M V := keq b (ii 0) fun c => ifV c (klx a fun d => ksb d (ii 1) fun e => kit a e fun f => outK [f]) (ksb b (ii 1) fun d => kit a d fun e => outK [e])
theorem st_bwt_ahead {lf : Nat} {r : RT} {a b : V} : evStep Tryz.prog gt lf r 157 #[a, b] = inside (b_bwt_ahead lf r a b) := by kernel_rfl

def b_mtf_List_touch (lf : Nat) (r : RT) (a b : V) : M V := knn a fun c => kfa 0 c fun d => kld d fun e => kix e b fun f => kld f fun g => knn a fun c => kfa 0 c fun d
  => kld d fun e => kad b (ii 1) fun f => ksc 5 1 e (some (ii 1)) (some f) fun h => knn a fun i => kfa 0 i fun j => kld j fun l => ksc 5 1 l none (some b) fun m => kcp 1
  h m fun n => knn a fun c => kfa 0 c fun d => kld d fun e => kix e (ii 0) fun f => kst f g fun _ => outK [g]
theorem st_mtf_List_touch {lf : Nat} {r : RT} {a b : V} : evStep Tryz.prog gt lf r 159 #[a, b] = inside (b_mtf_List_touch lf r a b) := by kernel_rfl

def lpA_slices_Index_int_int (lf : Nat) (r : RT) : Nat→((M V) × (V→M V))→V→V→V→V→V→M V
  | 0, _, _, _, _, _, _ => .fail
  | fu + 1, k, a, b, c, d, e => kls e d fun f => ifV f (kix a e fun g => kld g fun h => keq b h fun i => ifV i (k.2 e) (kad e (ii 1) fun g => lpA_slices_Index_int_int lf r fu k a b c d g)) (k.1)
def sA_slices_Index_int_int : List Nat := [0, 1, 4, 7, 8]
def kcA_slices_Index_int_int (lf : Nat) (r : RT) : (M V) × (V→M V) := (outK [(ii (-1))], fun a => outK [a])
def b_slices_Index_int_int (lf : Nat) (r : RT) (a b : V) : M V := kln a fun c => lpA_slices_Index_int_int lf r lf (kcA_slices_Index_int_int lf r) a b (ii 0) c (ii 0)
theorem lqA_slices_Index_int_int {lf : Nat} {r : RT} (K : KT) : ∀ fu, lpA_slices_Index_int_int lf r fu ((K (.exit 0) [], fun a => K .ret (zp [4] [a]))) = fun a b c d e
  => loopK (cQ 160 (pb 5 5) lf r) sA_slices_Index_int_int fu (zp sA_slices_Index_int_int [a, b, c, d, e]) K
  | 0 => by funext a b c d e; kernel_rfl
  | fu + 1 => by
    have ih := lqA_slices_Index_int_int (lf := lf) (r := r) K fu
    funext a b c d e
    rw [lpA_slices_Index_int_int]
    simp only [ih]
    kernel_rfl
theorem kqA_slices_Index_int_int {lf : Nat} {r : RT} : kcA_slices_Index_int_int lf r = (((tK 160 (pb 4 5) lf r) (.exit 0) [], fun a => (tK 160 (pb 4 5) lf r) .ret (zp [4] [a]))) := by kernel_rfl
theorem st_slices_Index_int_int {lf : Nat} {r : RT} {a b : V} : evStep Tryz.prog gt lf r 160 #[a, b] = inside (b_slices_Index_int_int lf r a b) := by 
  unfold b_slices_Index_int_int
  simp only [kqA_slices_Index_int_int, lqA_slices_Index_int_int]
  kernel_rfl

def lpA_tables_Of (lf : Nat) (r : RT) : Nat→(V→V→M V)→V→V→V→V→V→V→V→V→V→V→V→M V
  | 0, _, _, _, _, _, _, _, _, _, _, _, _ => .fail
  | fu + 1, k, a, b, c, d, e, f, g, h, i, j, l => kls l (ii 4) fun m => ifV m (kfa 0 h fun n => kld n fun o => kcl r 191 [g, o, b] fun p => kex p 0 fun q => kex p 1 fun
   s => kbd z178 [(0, 1, s), (1, 1, q)] fun n => ksg 2 h n fun _ => kad l (ii 1) fun n => lpA_tables_Of lf r fu k a b c d e f g h i j n) (k c h)
def sA_tables_Of : List Nat := [0, 1, 4, 5, 6, 7, 8, 9, 18, 27, 40]
def kcA_tables_Of (lf : Nat) (r : RT) : (V→V→M V) := fun a b => klg 2 b fun c => ksg 2 a c fun _ => klg 2 a fun b => outK [b, (ii 0)]
def b_tables_Of (lf : Nat) (r : RT) (a b : V) : M V := kal 178 z178 fun c => kcl r 188 [a, b] fun d => kex d 0 fun e => kex d 1 fun f => kne f (ii 0) fun d => ifV d (kbd
  z178 [] fun d => ksg 2 c d fun _ => klg 2 c fun a => outK [a, (ii 1)]) (kln a fun g => keq g (ii 0) fun h => ifV h (kbd z178 [] fun d => ksg 2 c d fun _ => klg 2 c fun
  a => outK [a, (ii 1)]) (kln a fun d => kcl r 167 [d] fun g => kgr g (ii 32767) fun i => ifV i (kbd z178 [] fun d => ksg 2 c d fun _ => klg 2 c fun a => outK [a, (ii
  2)]) (kcl r 189 [a] fun d => kln a fun g => kcl r 190 [e, g] fun j => kbd z178 [(0, 1, j)] fun l => kal 178 z178 fun m => ksg 2 m l fun _ => lpA_tables_Of lf r lf
  (kcA_tables_Of lf r) a b c (ii 0) e f d m h i (ii 0))))
theorem lqA_tables_Of {lf : Nat} {r : RT} (K : KT) : ∀ fu, lpA_tables_Of lf r fu (fun a b => K (.exit 1) (zp [4, 9] [a, b])) = fun a b c d e f g h i j l => loopK (cQ 161
  (pb 9 95) lf r) sA_tables_Of fu (zp sA_tables_Of [a, b, c, d, e, f, g, h, i, j, l]) K
  | 0 => by funext a b c d e f g h i j l; kernel_rfl
  | fu + 1 => by
    have ih := lqA_tables_Of (lf := lf) (r := r) K fu
    funext a b c d e f g h i j l
    rw [lpA_tables_Of]
    simp only [ih]
    kernel_rfl
theorem kqA_tables_Of {lf : Nat} {r : RT} : kcA_tables_Of lf r = (fun a b => (tK 161 (pb 8 95) lf r) (.exit 1) (zp [4, 9] [a, b])) := by kernel_rfl
theorem st_tables_Of {lf : Nat} {r : RT} {a b : V} : evStep Tryz.prog gt lf r 161 #[a, b] = inside (b_tables_Of lf r a b) := by 
  unfold b_tables_Of
  simp only [kqA_tables_Of, lqA_tables_Of]
  kernel_rfl

def b_picks_may (lf : Nat) (r : RT) (a b : V) : M V := kbx 3 b fun c => kld c fun d => kcl r 192 [d] fun e => knt e fun f => ifV f (outK [bF]) (kln a fun g => keq g (ii
  0) fun h => ifV h (outK [bF]) (kln a fun i => kgr i (ii 32767) fun j => ifV j (outK [bF]) (kcl r 193 [a, (Value.func (Go.Fn.func 194) #[] #[c])] fun d => knt d fun e => outK [e])))
theorem st_picks_may {lf : Nat} {r : RT} {a b : V} : evStep Tryz.prog gt lf r 162 #[a, b] = inside (b_picks_may lf r a b) := by kernel_rfl

def lpA_picks_places (lf : Nat) (r : RT) : Nat→(V→M V)→V→V→V→V→V→V→V→M V
  | 0, _, _, _, _, _, _, _, _ => .fail
  | fu + 1, k, a, b, c, d, e, f, g => kls g f fun h => ifV h (kix e g fun i => kld i fun j => kcl r 196 [c, j] fun i => kix d g fun l => kst l i fun _ => kad g (ii 1)
   fun i => lpA_picks_places lf r fu k a b c d e f i) (k d)
def sA_picks_places : List Nat := [0, 2, 3, 4, 11, 12, 13]
def kcA_picks_places (lf : Nat) (r : RT) : (V→M V) := fun a => outK [a]
def b_picks_places (lf : Nat) (r : RT) (a : V) : M V := kcl r 195 [] fun b => kal 237 z237 fun c => ksg 6 c b fun _ => kln a fun b => kmk 3 [(ii 0)] b b fun d => kln a
  fun b => lpA_picks_places lf r lf (kcA_picks_places lf r) a nS c d a b (ii 0)
theorem lqA_picks_places {lf : Nat} {r : RT} (K : KT) : ∀ fu, lpA_picks_places lf r fu (fun a => K (.exit 0) (zp [4] [a])) = fun a b c d e f g => loopK (cQ 163 (pb 7 23)
  lf r) sA_picks_places fu (zp sA_picks_places [a, b, c, d, e, f, g]) K
  | 0 => by funext a b c d e f g; kernel_rfl
  | fu + 1 => by
    have ih := lqA_picks_places (lf := lf) (r := r) K fu
    funext a b c d e f g
    rw [lpA_picks_places]
    simp only [ih]
    kernel_rfl
theorem kqA_picks_places {lf : Nat} {r : RT} : kcA_picks_places lf r = (fun a => (tK 163 (pb 6 23) lf r) (.exit 0) (zp [4] [a])) := by kernel_rfl
theorem st_picks_places {lf : Nat} {r : RT} {a : V} : evStep Tryz.prog gt lf r 163 #[a] = inside (b_picks_places lf r a) := by 
  unfold b_picks_places
  simp only [kqA_picks_places, lqA_picks_places]
  kernel_rfl

def b_delta_may (lf : Nat) (r : RT) (a : V) : M V := kln a fun b => kcl r 197 [b] fun c => ifV c (kcl r 193 [a, (Value.func (.func 198) #[] #[])] fun d => knt d fun e => outK [e]) (outK [bF])
theorem st_delta_may {lf : Nat} {r : RT} {a : V} : evStep Tryz.prog gt lf r 164 #[a] = inside (b_delta_may lf r a) := by kernel_rfl

def lpB_delta_steps (lf : Nat) (r : RT) : Nat→(V→V→V→V→V→V→V→V→V→M V)→V→V→V→V→V→V→V→V→M V
  | 0, _, _, _, _, _, _, _, _, _ => .fail
  | fu + 1, k, a, b, c, d, e, f, g, h => kls c d fun i => ifV i (callV Tryz.prog r b [(ii 2), (ii 2)] fun j => kad c (ii 1) fun j => lpB_delta_steps lf r fu k a b j d e f g h) (k a b c d e f g h i)
def sB_delta_steps : List Nat := [0, 1, 4, 6, 13, 14, 15, 16]
def lpC_delta_steps (lf : Nat) (r : RT) : Nat→(V→V→V→V→V→V→M V)→V→V→V→V→V→V→V→V→V→M V
  | 0, _, _, _, _, _, _, _, _, _, _ => .fail
  | fu + 1, k, a, b, c, d, e, f, g, h, i => kgr c d fun j => ifV j (callV Tryz.prog r b [(ii 3), (ii 2)] fun l => ksb c (ii 1) fun l => lpC_delta_steps lf r fu k a b l d e f g h i) (k a b c e f g)
def sC_delta_steps : List Nat := [0, 1, 4, 6, 13, 14, 15, 16, 21]
def KBC_delta_steps (lf : Nat) (r : RT) (k : (M V)) (again : V→V→V→V→V→V→M V) : (V→V→V→V→V→V→M V) := fun a b c d e f => callV Tryz.prog r b [(ii 0), (ii 1)] fun g => kad f (ii 1) fun g => again a b c d e g
def KBB_delta_steps (lf : Nat) (r : RT) (k : (M V)) (again : V→V→V→V→V→V→M V) : (V→V→V→V→V→V→V→V→V→M V) := fun a b c d e f g h i => lpC_delta_steps lf r lf (KBC_delta_steps lf r k again) a b c d e f g h i
def lpA_delta_steps (lf : Nat) (r : RT) : Nat→(M V)→V→V→V→V→V→V→M V
  | 0, _, _, _, _, _, _, _ => .fail
  | fu + 1, k, a, b, c, d, e, f => kls f e fun g => ifV g (kix d f fun h => kld h fun i => lpB_delta_steps lf r lf (KBB_delta_steps lf r k (lpA_delta_steps lf r fu k)) a b c i d e f g) (k)
def sA_delta_steps : List Nat := [0, 1, 4, 13, 14, 15]
def kcA_delta_steps (lf : Nat) (r : RT) : (M V) := outK []
def b_delta_steps (lf : Nat) (r : RT) (a b : V) : M V := kix a (ii 0) fun c => kld c fun d => callV Tryz.prog r b [d, (ii 5)] fun c => kln a fun c => lpA_delta_steps lf r
  lf (kcA_delta_steps lf r) a b d a c (ii 0)
theorem lqB_delta_steps {lf : Nat} {r : RT} (K : KT) : ∀ fu, lpB_delta_steps lf r fu (fun a b c d e f g h i => K (.exit 2) (zp [0, 1, 4, 6, 13, 14, 15, 16, 21] [a, b, c,
  d, e, f, g, h, i])) = fun a b c d e f g h => loopK (cQ 165 (pb 13 615) lf r) sB_delta_steps fu (zp sB_delta_steps [a, b, c, d, e, f, g, h]) K
  | 0 => by funext a b c d e f g h; kernel_rfl
  | fu + 1 => by
    have ih := lqB_delta_steps (lf := lf) (r := r) K fu
    funext a b c d e f g h
    rw [lpB_delta_steps]
    simp only [ih]
    kernel_rfl
theorem lqC_delta_steps {lf : Nat} {r : RT} (K : KT) : ∀ fu, lpC_delta_steps lf r fu (fun a b c d e f => K (.exit 4) (zp [0, 1, 4, 13, 14, 15] [a, b, c, d, e, f])) = fun
  a b c d e f g h i => loopK (cQ 165 (pb 14 1639) lf r) sC_delta_steps fu (zp sC_delta_steps [a, b, c, d, e, f, g, h, i]) K
  | 0 => by funext a b c d e f g h i; kernel_rfl
  | fu + 1 => by
    have ih := lqC_delta_steps (lf := lf) (r := r) K fu
    funext a b c d e f g h i
    rw [lpC_delta_steps]
    simp only [ih]
    kernel_rfl
theorem kqC_delta_steps {lf : Nat} {r : RT} (K : KT) (fu : Nat) : KBC_delta_steps lf r (K (.exit 0) []) (fun a b c d e f => loopK (cQ 165 (pb 5 7) lf r) sA_delta_steps
  fu (zp sA_delta_steps [a, b, c, d, e, f]) K) = (fun a b c d e f => (iK 165 (pb 5 7) (pb 8 51) sA_delta_steps fu K lf r) (.exit 4) (zp [0, 1, 4, 13, 14, 15] [a, b, c, d, e, f])) := by kernel_rfl
theorem kqB_delta_steps {lf : Nat} {r : RT} (K : KT) (fu : Nat) : KBB_delta_steps lf r (K (.exit 0) []) (fun a b c d e f => loopK (cQ 165 (pb 5 7) lf r) sA_delta_steps
  fu (zp sA_delta_steps [a, b, c, d, e, f]) K) = (fun a b c d e f g h i => (iK 165 (pb 5 7) (pb 7 19) sA_delta_steps fu K lf r) (.exit 2) (zp [0, 1, 4, 6, 13, 14, 15,
  16, 21] [a, b, c, d, e, f, g, h, i])) := by 
  unfold KBB_delta_steps
  simp only [kqC_delta_steps, lqC_delta_steps]
  kernel_rfl
theorem lqA_delta_steps {lf : Nat} {r : RT} (K : KT) : ∀ fu, lpA_delta_steps lf r fu (K (.exit 0) []) = fun a b c d e f => loopK (cQ 165 (pb 5 7) lf r) sA_delta_steps fu (zp sA_delta_steps [a, b, c, d, e, f]) K
  | 0 => by funext a b c d e f; kernel_rfl
  | fu + 1 => by
    have ih := lqA_delta_steps (lf := lf) (r := r) K fu
    funext a b c d e f
    rw [lpA_delta_steps]
    simp only [ih, kqB_delta_steps, kqC_delta_steps, lqB_delta_steps, lqC_delta_steps]
    kernel_rfl
theorem kqA_delta_steps {lf : Nat} {r : RT} : kcA_delta_steps lf r = ((tK 165 (pb 4 7) lf r) (.exit 0) []) := by kernel_rfl
theorem st_delta_steps {lf : Nat} {r : RT} {a b : V} : evStep Tryz.prog gt lf r 165 #[a, b] = inside (b_delta_steps lf r a b) := by 
  unfold b_delta_steps
  simp only [kqA_delta_steps, lqA_delta_steps]
  kernel_rfl

def b_delta_Bits_1 (lf : Nat) (r : RT) (a b c : V) : M V := kld c fun d => kad d b fun e => kst c e fun _ => outK []
theorem st_delta_Bits_1 {lf : Nat} {r : RT} {a b c : V} : evStep Tryz.prog gt lf r 166 #[a, b, c] = inside (b_delta_Bits_1 lf r a b c) := by kernel_rfl

def b_freq_Groups (lf : Nat) (r : RT) (a : V) : M V := klq a (ii 0) fun b => ifV b (outK [(ii 0)]) (ksb a (ii 1) fun c => kqu c (ii 50) fun d => kad d (ii 1) fun e => outK [e])
theorem st_freq_Groups {lf : Nat} {r : RT} {a : V} : evStep Tryz.prog gt lf r 167 #[a] = inside (b_freq_Groups lf r a) := by kernel_rfl

def b_freq_Group (lf : Nat) (r : RT) (a b : V) : M V := kls b (ii 0) fun c => ifV c (outK [nS, (ii 1)]) (kln a fun d => kcl r 167 [d] fun e => kgq b e fun f => ifV f
  (outK [nS, (ii 1)]) (kcl r 200 [a, b, (ii 50)] fun c => outK [c, (ii 0)]))
theorem st_freq_Group {lf : Nat} {r : RT} {a b : V} : evStep Tryz.prog gt lf r 168 #[a, b] = inside (b_freq_Group lf r a b) := by kernel_rfl

def lpA_freq_Cost (lf : Nat) (r : RT) : Nat→((V→M V) × (V→V→M V))→V→V→V→V→V→V→V→V→V→M V
  | 0, _, _, _, _, _, _, _, _, _, _ => .fail
  | fu + 1, k, a, b, c, d, e, f, g, h, i => kls i h fun j => ifV j (kix g i fun l => kld l fun m => kls m (ii 0) fun l => ifV l (k.2 (ii 0) (ii 1)) (kln b fun n => kgq m
   n fun o => ifV o (k.2 (ii 0) (ii 1)) (kix b m fun l => kld l fun n => kcl r 202 [e, n] fun p => kad i (ii 1) fun e => lpA_freq_Cost lf r fu k a b c d p f g h e))) (k.1 e)
def sA_freq_Cost : List Nat := [0, 1, 4, 5, 6, 11, 12, 13, 14]
def kcA_freq_Cost (lf : Nat) (r : RT) : (V→M V) × (V→V→M V) := (fun a => outK [a, (ii 0)], fun a b => outK [a, b])
def b_freq_Cost (lf : Nat) (r : RT) (a b : V) : M V := kcl r 201 [b] fun c => knt c fun d => ifV d (outK [(ii 0), (ii 1)]) (kln a fun c => lpA_freq_Cost lf r lf
  (kcA_freq_Cost lf r) a b (ii 0) (ii 0) (ii 0) d a c (ii 0))
theorem lqA_freq_Cost {lf : Nat} {r : RT} (K : KT) : ∀ fu, lpA_freq_Cost lf r fu ((fun a => K (.exit 0) (zp [6] [a]), fun a b => K .ret (zp [4, 5] [a, b]))) = fun a b c
  d e f g h i => loopK (cQ 169 (pb 7 23) lf r) sA_freq_Cost fu (zp sA_freq_Cost [a, b, c, d, e, f, g, h, i]) K
  | 0 => by funext a b c d e f g h i; kernel_rfl
  | fu + 1 => by
    have ih := lqA_freq_Cost (lf := lf) (r := r) K fu
    funext a b c d e f g h i
    rw [lpA_freq_Cost]
    simp only [ih]
    kernel_rfl
theorem kqA_freq_Cost {lf : Nat} {r : RT} : kcA_freq_Cost lf r = ((fun a => (tK 169 (pb 6 23) lf r) (.exit 0) (zp [6] [a]), fun a b => (tK 169 (pb 6 23) lf r) .ret (zp [4, 5] [a, b]))) := by kernel_rfl
theorem st_freq_Cost {lf : Nat} {r : RT} {a b : V} : evStep Tryz.prog gt lf r 169 #[a, b] = inside (b_freq_Cost lf r a b) := by 
  unfold b_freq_Cost
  simp only [kqA_freq_Cost, lqA_freq_Cost]
  kernel_rfl

def b_delta_Write_1 (lf : Nat) (r : RT) (a b c : V) : M V := kld c fun d => kcv .u32 a fun e => kcl r 56 [d, e, b] fun f => outK []
theorem st_delta_Write_1 {lf : Nat} {r : RT} {a b c : V} : evStep Tryz.prog gt lf r 170 #[a, b, c] = inside (b_delta_Write_1 lf r a b c) := by kernel_rfl

def b_canon_whole (lf : Nat) (r : RT) (a : V) : M V := kcl r 203 [a] fun b => kex b 0 fun c => kex b 1 fun d => keq d (ii 0) fun b => ifV b (keq c (ii 1048576) fun e =>
  ifV e (kcl r 204 [a, (ii 0)] fun f => knt f fun g => outK [g]) (outK [bF])) (outK [bF])
theorem st_canon_whole {lf : Nat} {r : RT} {a : V} : evStep Tryz.prog gt lf r 171 #[a] = inside (b_canon_whole lf r a) := by kernel_rfl

def b_canon_Code_Of (lf : Nat) (r : RT) (a b : V) : M V := kpe a nP fun c => ifV c (outK [(i3 0), (ii 0), (ii 7)]) (kls b (ii 0) fun d => ifV d (outK [(i3 0), (ii 0),
  (ii 1)]) (knn a fun e => kfa 0 e fun f => kld f fun g => kln g fun h => kgq b h fun i => ifV i (outK [(i3 0), (ii 0), (ii 1)]) (knn a fun d => kfa 1 d fun e => kld e
  fun f => kix f b fun g => kld g fun h => knn a fun j => kfa 0 j fun l => kld l fun m => kix m b fun n => kld n fun o => outK [h, o, (ii 0)])))
theorem st_canon_Code_Of {lf : Nat} {r : RT} {a b : V} : evStep Tryz.prog gt lf r 172 #[a, b] = inside (b_canon_Code_Of lf r a b) := by kernel_rfl

def lpB_balerref12_First (lf : Nat) (r : RT) : Nat→(V→V→V→V→V→V→V→V→M V)→V→V→V→V→V→V→V→V→V→V→V→V→V→V→M V
  | 0, _, _, _, _, _, _, _, _, _, _, _, _, _, _, _ => .fail
  | fu + 1, k, a, b, c, d, e, f, g, h, i, j, l, m, n, o => kls o n fun p => ifV p (kix m o fun q => kld q fun s => ksb b (ii 1) fun q => kgr h q fun t => (fun q => ifV t
   (ksb b (ii 1) fun u => q u) (q h)) fun h => kml h d fun q => kqu q b fun u => keq u f fun v => (fun q => ifV v (kb1 3 1 (ii 0) fun u => kap 3 1 g u fun w => q w) (kb1
   3 1 (ii 15) fun u => kap 3 1 g u fun w => q w)) fun g => kad h s fun q => kad o (ii 1) fun h => lpB_balerref12_First lf r fu k a b c d e f g q i j l m n h) (k a b c d e g i j)
def sB_balerref12_First : List Nat := [0, 1, 4, 5, 6, 7, 8, 9, 14, 15, 16, 18, 19, 20]
def KBB_balerref12_First (lf : Nat) (r : RT) (k : (V→M V)) (again : V→V→V→V→V→V→V→M V) : (V→V→V→V→V→V→V→V→M V) := fun a b c d e f g h => kb1 141 1 f fun i => kap 141 1 e
  i fun j => kad h (ii 1) fun e => again a b c d j g e
def lpA_balerref12_First (lf : Nat) (r : RT) : Nat→(V→M V)→V→V→V→V→V→V→V→M V
  | 0, _, _, _, _, _, _, _, _ => .fail
  | fu + 1, k, a, b, c, d, e, f, g => kls g f fun h => ifV h (kln a fun i => lpB_balerref12_First lf r lf (KBB_balerref12_First lf r k (lpA_balerref12_First lf r fu k))
   a b c d e g nS (ii 0) f g h a i (ii 0)) (k e)
def sA_balerref12_First : List Nat := [0, 1, 4, 5, 6, 14, 15]
def kcA_balerref12_First (lf : Nat) (r : RT) : (V→M V) := fun a => outK [a]
def b_balerref12_First (lf : Nat) (r : RT) (a b : V) : M V := kcl r 205 [b] fun c => lpA_balerref12_First lf r lf (kcA_balerref12_First lf r) a b nS c nS c (ii 0)
theorem lqB_balerref12_First {lf : Nat} {r : RT} (K : KT) : ∀ fu, lpB_balerref12_First lf r fu (fun a b c d e f g h => K (.exit 2) (zp [0, 1, 4, 5, 6, 8, 14, 15] [a, b,
  c, d, e, f, g, h])) = fun a b c d e f g h i j l m n o => loopK (cQ 173 (pb 18 47511) lf r) sB_balerref12_First fu (zp sB_balerref12_First [a, b, c, d, e, f, g, h, i, j, l, m, n, o]) K
  | 0 => by funext a b c d e f g h i j l m n o; kernel_rfl
  | fu + 1 => by
    have ih := lqB_balerref12_First (lf := lf) (r := r) K fu
    funext a b c d e f g h i j l m n o
    rw [lpB_balerref12_First]
    simp only [ih]
    kernel_rfl
theorem kqB_balerref12_First {lf : Nat} {r : RT} (K : KT) (fu : Nat) : KBB_balerref12_First lf r (fun a => K (.exit 0) (zp [6] [a])) (fun a b c d e f g => loopK (cQ 173
  (pb 7 23) lf r) sA_balerref12_First fu (zp sA_balerref12_First [a, b, c, d, e, f, g]) K) = (fun a b c d e f g h => (iK 173 (pb 7 23) (pb 10 371) sA_balerref12_First fu
  K lf r) (.exit 2) (zp [0, 1, 4, 5, 6, 8, 14, 15] [a, b, c, d, e, f, g, h])) := by kernel_rfl
theorem lqA_balerref12_First {lf : Nat} {r : RT} (K : KT) : ∀ fu, lpA_balerref12_First lf r fu (fun a => K (.exit 0) (zp [6] [a])) = fun a b c d e f g => loopK (cQ 173
  (pb 7 23) lf r) sA_balerref12_First fu (zp sA_balerref12_First [a, b, c, d, e, f, g]) K
  | 0 => by funext a b c d e f g; kernel_rfl
  | fu + 1 => by
    have ih := lqA_balerref12_First (lf := lf) (r := r) K fu
    funext a b c d e f g
    rw [lpA_balerref12_First]
    simp only [ih, kqB_balerref12_First, lqB_balerref12_First]
    kernel_rfl
theorem kqA_balerref12_First {lf : Nat} {r : RT} : kcA_balerref12_First lf r = (fun a => (tK 173 (pb 6 23) lf r) (.exit 0) (zp [6] [a])) := by kernel_rfl
theorem st_balerref12_First {lf : Nat} {r : RT} {a b : V} : evStep Tryz.prog gt lf r 173 #[a, b] = inside (b_balerref12_First lf r a b) := by 
  unfold b_balerref12_First
  simp only [kqA_balerref12_First, lqA_balerref12_First]
  kernel_rfl

def lpA_balerref08_Counts (lf : Nat) (r : RT) : Nat→(V→M V)→V→V→V→V→V→V→M V
  | 0, _, _, _, _, _, _, _ => .fail
  | fu + 1, k, a, b, c, d, e, f => kls f e fun g => ifV g (kcl r 206 [a, f] fun h => kb1 3 1 h fun i => kap 3 1 d i fun j => kad f (ii 1) fun d => lpA_balerref08_Counts lf r fu k a b c j e d) (k d)
def sA_balerref08_Counts : List Nat := [0, 1, 4, 5, 7, 8]
def kcA_balerref08_Counts (lf : Nat) (r : RT) : (V→M V) := fun a => outK [a]
def b_balerref08_Counts (lf : Nat) (r : RT) (a b : V) : M V := lpA_balerref08_Counts lf r lf (kcA_balerref08_Counts lf r) a b nS nS b (ii 0)
theorem lqA_balerref08_Counts {lf : Nat} {r : RT} (K : KT) : ∀ fu, lpA_balerref08_Counts lf r fu (fun a => K (.exit 0) (zp [5] [a])) = fun a b c d e f => loopK (cQ 174
  (pb 6 11) lf r) sA_balerref08_Counts fu (zp sA_balerref08_Counts [a, b, c, d, e, f]) K
  | 0 => by funext a b c d e f; kernel_rfl
  | fu + 1 => by
    have ih := lqA_balerref08_Counts (lf := lf) (r := r) K fu
    funext a b c d e f
    rw [lpA_balerref08_Counts]
    simp only [ih]
    kernel_rfl
theorem kqA_balerref08_Counts {lf : Nat} {r : RT} : kcA_balerref08_Counts lf r = (fun a => (tK 174 (pb 5 11) lf r) (.exit 0) (zp [5] [a])) := by kernel_rfl
theorem st_balerref08_Counts {lf : Nat} {r : RT} {a b : V} : evStep Tryz.prog gt lf r 174 #[a, b] = inside (b_balerref08_Counts lf r a b) := by 
  unfold b_balerref08_Counts
  simp only [kqA_balerref08_Counts, lqA_balerref08_Counts]
  kernel_rfl

def lpA_balerref08_Groups (lf : Nat) (r : RT) : Nat→(V→M V)→V→V→V→V→V→V→V→M V
  | 0, _, _, _, _, _, _, _, _ => .fail
  | fu + 1, k, a, b, c, d, e, f, g => kls g f fun h => ifV h (kix e g fun i => kld i fun j => kb1 3 1 j fun i => kap 3 1 d i fun l => kln l fun d => keq d (ii 50) fun i
   => ifV i (kb1 141 1 l fun d => kap 141 1 c d fun i => kad g (ii 1) fun c => lpA_balerref08_Groups lf r fu k a b i nS e f c) (kad g (ii 1) fun m => kln a fun n => keq
   m n fun o => ifV o (kb1 141 1 l fun d => kap 141 1 c d fun i => kad g (ii 1) fun c => lpA_balerref08_Groups lf r fu k a b i nS e f c) (kad g (ii 1) fun d =>
   lpA_balerref08_Groups lf r fu k a b c l e f d))) (k c)
def sA_balerref08_Groups : List Nat := [0, 2, 3, 4, 7, 8, 9]
def kcA_balerref08_Groups (lf : Nat) (r : RT) : (V→M V) := fun a => outK [a]
def b_balerref08_Groups (lf : Nat) (r : RT) (a : V) : M V := kln a fun b => lpA_balerref08_Groups lf r lf (kcA_balerref08_Groups lf r) a nS nS nS a b (ii 0)
theorem lqA_balerref08_Groups {lf : Nat} {r : RT} (K : KT) : ∀ fu, lpA_balerref08_Groups lf r fu (fun a => K (.exit 0) (zp [3] [a])) = fun a b c d e f g => loopK (cQ 175
  (pb 7 23) lf r) sA_balerref08_Groups fu (zp sA_balerref08_Groups [a, b, c, d, e, f, g]) K
  | 0 => by funext a b c d e f g; kernel_rfl
  | fu + 1 => by
    have ih := lqA_balerref08_Groups (lf := lf) (r := r) K fu
    funext a b c d e f g
    rw [lpA_balerref08_Groups]
    simp only [ih]
    kernel_rfl
theorem kqA_balerref08_Groups {lf : Nat} {r : RT} : kcA_balerref08_Groups lf r = (fun a => (tK 175 (pb 6 23) lf r) (.exit 0) (zp [3] [a])) := by kernel_rfl
theorem st_balerref08_Groups {lf : Nat} {r : RT} {a : V} : evStep Tryz.prog gt lf r 175 #[a] = inside (b_balerref08_Groups lf r a) := by 
  unfold b_balerref08_Groups
  simp only [kqA_balerref08_Groups, lqA_balerref08_Groups]
  kernel_rfl

def lpA_balerref12_pick (lf : Nat) (r : RT) : Nat→(V→M V)→V→V→V→V→V→V→V→M V
  | 0, _, _, _, _, _, _, _, _ => .fail
  | fu + 1, k, a, b, c, d, e, f, g => kls g f fun h => ifV h (kix e g fun i => kld i fun j => (timed (kcl r 207 [a, j] M.ret)).bind fun i => kix b d fun l => (timed (kld
   l M.ret)).bind fun m => (timed (kcl r 207 [a, m.1] M.ret)).bind fun n => kls i.1 n.1 fun o => chkT ((!(clash3 i.2 m.2) && true) && true) (ifV o (kad g (ii 1) fun d =>
   lpA_balerref12_pick lf r fu k a b c g e f d) (kad g (ii 1) fun i => lpA_balerref12_pick lf r fu k a b c d e f i))) (k d)
def sA_balerref12_pick : List Nat := [0, 1, 4, 5, 8, 9, 10]
def kcA_balerref12_pick (lf : Nat) (r : RT) : (V→M V) := fun a => outK [a]
def b_balerref12_pick (lf : Nat) (r : RT) (a b : V) : M V := kln b fun c => lpA_balerref12_pick lf r lf (kcA_balerref12_pick lf r) a b (ii 0) (ii 0) b c (ii 0)
theorem lqA_balerref12_pick {lf : Nat} {r : RT} (K : KT) : ∀ fu, lpA_balerref12_pick lf r fu (fun a => K (.exit 0) (zp [5] [a])) = fun a b c d e f g => loopK (cQ 176 (pb
  6 11) lf r) sA_balerref12_pick fu (zp sA_balerref12_pick [a, b, c, d, e, f, g]) K
  | 0 => by funext a b c d e f g; kernel_rfl
  | fu + 1 => by
    have ih := lqA_balerref12_pick (lf := lf) (r := r) K fu
    funext a b c d e f g
    rw [lpA_balerref12_pick]
    simp only [ih]
    kernel_rfl
theorem kqA_balerref12_pick {lf : Nat} {r : RT} : kcA_balerref12_pick lf r = (fun a => (tK 176 (pb 5 11) lf r) (.exit 0) (zp [5] [a])) := by kernel_rfl
theorem st_balerref12_pick {lf : Nat} {r : RT} {a b : V} : evStep Tryz.prog gt lf r 176 #[a, b] = inside (b_balerref12_pick lf r a b) := by 
  unfold b_balerref12_pick
  simp only [kqA_balerref12_pick, lqA_balerref12_pick]
  kernel_rfl

def lpA_balerref09_Of (lf : Nat) (r : RT) : Nat→(V→V→V→V→V→V→V→M V)→V→V→V→V→V→V→M V
  | 0, _, _, _, _, _, _, _ => .fail
  | fu + 1, k, a, b, c, d, e, f => kls f e fun g => ifV g (kix d f fun h => kld h fun i => keq i (ii 0) fun h => ifV h (kb1 3 1 (ii 1) fun i => kap 3 1 c i fun j => kad
   f (ii 1) fun c => lpA_balerref09_Of lf r fu k a b j d e c) (kb1 3 1 i fun j => kap 3 1 c j fun l => kad f (ii 1) fun c => lpA_balerref09_Of lf r fu k a b l d e c)) (k a b c d e f g)
def sA_balerref09_Of : List Nat := [0, 2, 3, 7, 8, 9]
def lpB_balerref09_Of (lf : Nat) (r : RT) : Nat→((M V) × (V→M V))→V→V→V→V→V→V→V→V→M V
  | 0, _, _, _, _, _, _, _, _, _ => .fail
  | fu + 1, k, a, b, c, d, e, f, g, h => kls h (ii 100) fun i => ifV i (kcl r 208 [c] fun j => kcl r 209 [j, (ii 1), (ii 20)] fun l => ifV l (k.2 j) (kcl r 210 [c] fun m
   => kad h (ii 1) fun c => lpB_balerref09_Of lf r fu k a b m d e f g c)) (k.1)
def sB_balerref09_Of : List Nat := [0, 2, 3, 7, 8, 9, 10, 20]
def kcB_balerref09_Of (lf : Nat) (r : RT) : (M V) × (V→M V) := (outK [nS], fun a => outK [a])
def kcA_balerref09_Of (lf : Nat) (r : RT) : (V→V→V→V→V→V→V→M V) := fun a b c d e f g => lpB_balerref09_Of lf r lf (kcB_balerref09_Of lf r) a b c d e f g (ii 0)
def b_balerref09_Of (lf : Nat) (r : RT) (a : V) : M V := kln a fun b => lpA_balerref09_Of lf r lf (kcA_balerref09_Of lf r) a nS nS a b (ii 0)
theorem lqA_balerref09_Of {lf : Nat} {r : RT} (K : KT) : ∀ fu, lpA_balerref09_Of lf r fu (fun a b c d e f g => K (.exit 0) (zp [0, 2, 3, 7, 8, 9, 10] [a, b, c, d, e, f,
  g])) = fun a b c d e f => loopK (cQ 177 (pb 6 11) lf r) sA_balerref09_Of fu (zp sA_balerref09_Of [a, b, c, d, e, f]) K
  | 0 => by funext a b c d e f; kernel_rfl
  | fu + 1 => by
    have ih := lqA_balerref09_Of (lf := lf) (r := r) K fu
    funext a b c d e f
    rw [lpA_balerref09_Of]
    simp only [ih]
    kernel_rfl
theorem lqB_balerref09_Of {lf : Nat} {r : RT} (K : KT) : ∀ fu, lpB_balerref09_Of lf r fu ((K (.exit 2) [], fun a => K .ret (zp [2] [a]))) = fun a b c d e f g h => loopK
  (cQ 177 (pb 7 23) lf r) sB_balerref09_Of fu (zp sB_balerref09_Of [a, b, c, d, e, f, g, h]) K
  | 0 => by funext a b c d e f g h; kernel_rfl
  | fu + 1 => by
    have ih := lqB_balerref09_Of (lf := lf) (r := r) K fu
    funext a b c d e f g h
    rw [lpB_balerref09_Of]
    simp only [ih]
    kernel_rfl
theorem kqB_balerref09_Of {lf : Nat} {r : RT} : kcB_balerref09_Of lf r = (((tK 177 (pb 6 23) lf r) (.exit 2) [], fun a => (tK 177 (pb 6 23) lf r) .ret (zp [2] [a]))) := by kernel_rfl
theorem kqA_balerref09_Of {lf : Nat} {r : RT} : kcA_balerref09_Of lf r = (fun a b c d e f g => (tK 177 (pb 5 11) lf r) (.exit 0) (zp [0, 2, 3, 7, 8, 9, 10] [a, b, c, d, e, f, g])) := by 
  unfold kcA_balerref09_Of
  simp only [kqB_balerref09_Of, lqB_balerref09_Of]
  kernel_rfl
theorem st_balerref09_Of {lf : Nat} {r : RT} {a : V} : evStep Tryz.prog gt lf r 177 #[a] = inside (b_balerref09_Of lf r a) := by 
  unfold b_balerref09_Of
  simp only [kqA_balerref09_Of, kqB_balerref09_Of, lqA_balerref09_Of, lqB_balerref09_Of]
  kernel_rfl

def lpA_balerref10_next (lf : Nat) (r : RT) : Nat→(V→V→V→V→V→V→V→M V)→V→V→V→V→V→V→M V
  | 0, _, _, _, _, _, _, _ => .fail
  | fu + 1, k, a, b, c, d, e, f => kgq f (ii 0) fun g => ifV g (kit a f fun h => keq h (i1 49) fun i => kbn i e fun h => (fun l => ifV h (kad (Value.string { data :=
   #[49] }) d fun j => l j) (kad (Value.string { data := #[48] }) d fun j => l j)) fun d => ifV e (ksb f (ii 1) fun e => lpA_balerref10_next lf r fu k a b c d i e) (ksb
   f (ii 1) fun e => lpA_balerref10_next lf r fu k a b c d bF e)) (k a b c d e f g)
def sA_balerref10_next : List Nat := [0, 1, 4, 5, 6, 7]
def lpB_balerref10_next (lf : Nat) (r : RT) : Nat→(V→M V)→V→V→V→V→V→V→V→M V
  | 0, _, _, _, _, _, _, _, _ => .fail
  | fu + 1, k, a, b, c, d, e, f, g => klx d fun h => kls h b fun i => ifV i (kad d (Value.string { data := #[48] }) fun h => lpB_balerref10_next lf r fu k a b c h e f g) (k d)
def sB_balerref10_next : List Nat := [0, 1, 4, 5, 6, 7, 13]
def kcB_balerref10_next (lf : Nat) (r : RT) : (V→M V) := fun a => outK [a]
def kcA_balerref10_next (lf : Nat) (r : RT) : (V→V→V→V→V→V→V→M V) := fun a b c d e f g => lpB_balerref10_next lf r lf (kcB_balerref10_next lf r) a b c d e f g
def b_balerref10_next (lf : Nat) (r : RT) (a b : V) : M V := klx a fun c => ksb c (ii 1) fun d => lpA_balerref10_next lf r lf (kcA_balerref10_next lf r) a b
  (Value.string { data := #[] }) (Value.string { data := #[] }) bT d
theorem lqA_balerref10_next {lf : Nat} {r : RT} (K : KT) : ∀ fu, lpA_balerref10_next lf r fu (fun a b c d e f g => K (.exit 0) (zp [0, 1, 4, 5, 6, 7, 13] [a, b, c, d, e,
  f, g])) = fun a b c d e f => loopK (cQ 178 (pb 7 23) lf r) sA_balerref10_next fu (zp sA_balerref10_next [a, b, c, d, e, f]) K
  | 0 => by funext a b c d e f; kernel_rfl
  | fu + 1 => by
    have ih := lqA_balerref10_next (lf := lf) (r := r) K fu
    funext a b c d e f
    rw [lpA_balerref10_next]
    simp only [ih]
    kernel_rfl
theorem lqB_balerref10_next {lf : Nat} {r : RT} (K : KT) : ∀ fu, lpB_balerref10_next lf r fu (fun a => K (.exit 2) (zp [5] [a])) = fun a b c d e f g => loopK (cQ 178 (pb
  7 15) lf r) sB_balerref10_next fu (zp sB_balerref10_next [a, b, c, d, e, f, g]) K
  | 0 => by funext a b c d e f g; kernel_rfl
  | fu + 1 => by
    have ih := lqB_balerref10_next (lf := lf) (r := r) K fu
    funext a b c d e f g
    rw [lpB_balerref10_next]
    simp only [ih]
    kernel_rfl
theorem kqB_balerref10_next {lf : Nat} {r : RT} : kcB_balerref10_next lf r = (fun a => (tK 178 (pb 6 15) lf r) (.exit 2) (zp [5] [a])) := by kernel_rfl
theorem kqA_balerref10_next {lf : Nat} {r : RT} : kcA_balerref10_next lf r = (fun a b c d e f g => (tK 178 (pb 6 23) lf r) (.exit 0) (zp [0, 1, 4, 5, 6, 7, 13] [a, b, c, d, e, f, g])) := by 
  unfold kcA_balerref10_next
  simp only [kqB_balerref10_next, lqB_balerref10_next]
  kernel_rfl
theorem st_balerref10_next {lf : Nat} {r : RT} {a b : V} : evStep Tryz.prog gt lf r 178 #[a, b] = inside (b_balerref10_next lf r a b) := by 
  unfold b_balerref10_next
  simp only [kqA_balerref10_next, kqB_balerref10_next, lqA_balerref10_next, lqB_balerref10_next]
  kernel_rfl

def b_rle_text (lf : Nat) (r : RT) (a : V) : M V := kbx 113 a fun b => kfa 0 b fun c => kld c fun d => kb1 5 1 d fun e => kts e fun f => kfa 1 b fun c => kld c fun d =>
  kls d (ii 4) fun e => ifV e (kfa 1 b fun c => kld c fun d => kcl r 211 [f, d] fun g => outK [g]) ((timed (kcl r 211 [f, (ii 4)] M.ret)).bind fun c => kfa 1 b fun d =>
  (timed (kld d M.ret)).bind fun g => ksb g.1 (ii 4) fun h => (timed (kcv .u8 h M.ret)).bind fun i => (timed (kb1 5 1 i.1 M.ret)).bind fun j => (timed (kts j.1
  M.ret)).bind fun l => kad c.1 l.1 fun m => chkT ((!(clash3 c.2 g.2) && (!(clash3 c.2 i.2) && (!(clash3 c.2 j.2) && (!(clash3 c.2 l.2) && true)))) && true) (outK [m]))
theorem st_rle_text {lf : Nat} {r : RT} {a : V} : evStep Tryz.prog gt lf r 180 #[a] = inside (b_rle_text lf r a) := by kernel_rfl

def b_crc_step (lf : Nat) (r : RT) (a b c : V) : M V := ksl b (i6 8) fun d => ksr b (i6 24) fun e => kcv .u8 e fun f => kxo f c fun g => knn a fun h => kia 256 h g fun i
  => kld i fun j => kxo d j fun l => outK [l]
theorem st_crc_step {lf : Nat} {r : RT} {a b c : V} : evStep Tryz.prog gt lf r 181 #[a, b, c] = inside (b_crc_step lf r a b c) := by kernel_rfl

def b_sorter_Sorter_join (lf : Nat) (r : RT) (a : V) : M V := knn a fun b => kfa 5 b fun c => kld c fun d => kln d fun e => ksb e (ii 1) fun f => kls f (ii 0) fun b =>
  ifV b (outK []) (knn a fun c => kfa 6 c fun d => kfa 2 d fun e => kld e fun g => kgr g (ii 0) fun h => ifV h (outK []) (knn a fun i => kfa 5 i fun j => kld j fun l =>
  kiy 3 l f fun m => kfa 1 m fun n => kld n fun o => keq o (ii 0) fun p => ifV p (outK []) (knn a fun b => kfa 5 b fun c => kld c fun d => kiy 3 d f fun e => klg 3 e fun
  g => knn a fun h => kfa 6 h fun i => ksg 3 i g fun _ => knn a fun b => kfa 5 b fun c => kld c fun d => ksc 203 3 d none (some f) fun e => knn a fun g => kfa 5 g fun h
  => kst h e fun _ => knn a fun b => kfa 9 b fun c => kst c (ii 0) fun _ => knn a fun b => kfa 10 b fun c => kst c (ii 0) fun _ => knn a fun b => kfa 6 b fun c => kfa 1
  c fun d => kld d fun e => knn a fun g => kfa 11 g fun h => kst h e fun _ => outK [])))
theorem st_sorter_Sorter_join {lf : Nat} {r : RT} {a : V} : evStep Tryz.prog gt lf r 182 #[a] = inside (b_sorter_Sorter_join lf r a) := by kernel_rfl

def b_sorter_Sorter_lay (lf : Nat) (r : RT) (a : V) : M V := knn a fun b => kfa 3 b fun c => kld c fun d => knn a fun e => kfa 9 e fun f => kld f fun g => knn a fun h =>
  kfa 1 h fun i => kld i fun j => knn a fun l => kfa 6 l fun m => kfa 0 m fun n => kld n fun o => knn a fun p => kfa 9 p fun q => kld q fun s => kad o s fun t => kix j t
  fun u => kld u fun v => kix d g fun w => kst w v fun _ => knn a fun b => kfa 9 b fun c => kld c fun d => kad d (ii 1) fun e => knn a fun f => kfa 9 f fun g => kst g e fun _ => outK []
theorem st_sorter_Sorter_lay {lf : Nat} {r : RT} {a : V} : evStep Tryz.prog gt lf r 183 #[a] = inside (b_sorter_Sorter_lay lf r a) := by kernel_rfl

def b_sorter_Sorter_put (lf : Nat) (r : RT) (a : V) : M V := knn a fun b => kfa 6 b fun c => klg 3 c fun d => kal 203 z203 fun e => ksg 3 e d fun _ => kfa 0 e fun b =>
  kld b fun c => knn a fun d => kfa 10 d fun f => kld f fun g => kad c g fun h => knn a fun i => kfa 11 i fun j => kld j fun l => kad h l fun m => kfa 1 e fun n => kld n
  fun o => ksb m o fun p => knn a fun b => kfa 11 b fun c => kld c fun d => kfa 2 e fun f => kld f fun g => keq d g fun h => ifV h (knn a fun b => kfa 1 b fun c => kld c
  fun d => knn a fun f => kfa 3 f fun g => kld g fun h => knn a fun i => kfa 10 i fun j => kld j fun l => kix h l fun m => kld m fun n => kix d p fun o => kst o n fun _
  => knn a fun b => kfa 10 b fun c => kld c fun d => kad d (ii 1) fun f => knn a fun g => kfa 10 g fun h => kst h f fun _ => kfa 2 e fun b => kld b fun c => ksb c (ii 1)
  fun d => keq p d fun f => ifV f (kbd z203 [] fun b => knn a fun c => kfa 6 c fun d => ksg 3 d b fun _ => outK []) (outK [])) (knn a fun i => kfa 10 i fun j => kld j
  fun l => knn a fun m => kfa 9 m fun n => kld n fun o => kls l o fun q => ifV q (knn a fun s => kfa 3 s fun t => kld t fun u => knn a fun v => kfa 10 v fun w => kld w
  fun x => kix u x fun y => kld y fun z => knn a fun A => kfa 1 A fun B => kld B fun C => knn a fun D => kfa 11 D fun E => kld E fun G => kix C G fun J => kld J fun L =>
  kcl r 212 [a, z, L] fun N => knt N fun O => (fun b => ifV O (knn a fun c => kfa 1 c fun d => kld d fun f => knn a fun g => kfa 3 g fun h => kld h fun i => knn a fun j
  => kfa 10 j fun l => kld l fun m => kix i m fun n => kld n fun o => kix f p fun q => kst q o fun _ => knn a fun c => kfa 10 c fun d => kld d fun f => kad f (ii 1) fun
  g => knn a fun h => kfa 10 h fun i => kst i g fun _ => b) (knn a fun c => kfa 1 c fun d => kld d fun f => knn a fun g => kfa 1 g fun h => kld h fun i => knn a fun j =>
  kfa 11 j fun l => kld l fun m => kix i m fun n => kld n fun o => kix f p fun q => kst q o fun _ => knn a fun c => kfa 11 c fun d => kld d fun f => kad f (ii 1) fun g
  => knn a fun h => kfa 11 h fun i => kst i g fun _ => b)) (kfa 2 e fun b => kld b fun c => ksb c (ii 1) fun d => keq p d fun f => ifV f (kbd z203 [] fun b => knn a fun
  c => kfa 6 c fun d => ksg 3 d b fun _ => outK []) (outK []))) (knn a fun b => kfa 1 b fun c => kld c fun d => knn a fun f => kfa 1 f fun g => kld g fun h => knn a fun
  i => kfa 11 i fun j => kld j fun l => kix h l fun m => kld m fun n => kix d p fun o => kst o n fun _ => knn a fun b => kfa 11 b fun c => kld c fun d => kad d (ii 1)
  fun f => knn a fun g => kfa 11 g fun h => kst h f fun _ => kfa 2 e fun b => kld b fun c => ksb c (ii 1) fun d => keq p d fun f => ifV f (kbd z203 [] fun b => knn a fun
  c => kfa 6 c fun d => ksg 3 d b fun _ => outK []) (outK [])))
theorem st_sorter_Sorter_put {lf : Nat} {r : RT} {a : V} : evStep Tryz.prog gt lf r 184 #[a] = inside (b_sorter_Sorter_put lf r a) := by kernel_rfl

def b_sorter_Sorter_begin (lf : Nat) (r : RT) (a : V) : M V := knn a fun b => kfa 5 b fun c => kld c fun d => knn a fun e => kfa 5 e fun f => kld f fun g => kln g fun h
  => ksb h (ii 1) fun i => kiy 3 d i fun j => klg 3 j fun l => kal 203 z203 fun m => ksg 3 m l fun _ => knn a fun b => kfa 5 b fun c => kld c fun d => knn a fun e => kfa
  5 e fun f => kld f fun g => kln g fun h => ksb h (ii 1) fun i => ksc 203 3 d none (some i) fun j => knn a fun l => kfa 5 l fun n => kst n j fun _ => kfa 2 m fun b =>
  kld b fun c => kfa 0 m fun d => kld d fun e => ksb c e fun f => kls f (ii 2) fun g => ifV g (outK []) (kfa 0 m fun b => kld b fun c => kfa 2 m fun d => kld d fun e =>
  kad c e fun f => kqu f (ii 2) fun h => knn a fun b => kfa 5 b fun c => kld c fun d => kfa 0 m fun e => kld e fun f => kfa 2 m fun i => kld i fun j => kbd z203 [(0, 1,
  f), (1, 1, h), (2, 1, j)] fun l => kfa 2 m fun n => kld n fun o => kbd z203 [(0, 1, h), (2, 1, o)] fun p => kfa 0 m fun q => kld q fun s => kbd z203 [(0, 1, s), (2, 1,
  h)] fun t => kbs 203 (catV z203 3) 3 [(0, 3, l), (3, 3, p), (6, 3, t)] fun u => kap 203 3 d u fun v => knn a fun w => kfa 5 w fun x => kst x v fun _ => outK [])
theorem st_sorter_Sorter_begin {lf : Nat} {r : RT} {a : V} : evStep Tryz.prog gt lf r 185 #[a] = inside (b_sorter_Sorter_begin lf r a) := by kernel_rfl

def b_sorter_Sorter_rank (lf : Nat) (r : RT) (a : V) : M V := knn a fun b => kfa 12 b fun c => kld c fun d => keq d (ii 0) fun b => (fun c => ifV b (knn a fun e => kfa
  13 e fun f => kst f (ii 0) fun _ => c) (knn a fun e => kfa 1 e fun f => kld f fun g => kix g d fun h => kld h fun i => knn a fun j => kfa 1 j fun l => kld l fun m =>
  ksb d (ii 1) fun n => kix m n fun o => kld o fun p => kcl r 212 [a, i, p] fun q => ifV q (knn a fun e => kfa 13 e fun f => kld f fun g => kad g (ii 1) fun h => knn a
  fun i => kfa 13 i fun j => kst j h fun _ => c) (c))) (knn a fun c => kfa 3 c fun e => kld e fun f => knn a fun g => kfa 1 g fun h => kld h fun i => kix i d fun j =>
  kld j fun l => knn a fun m => kfa 13 m fun n => kld n fun o => kix f l fun p => kst p o fun _ => knn a fun c => kfa 12 c fun e => kld e fun f => kad f (ii 1) fun g =>
  knn a fun h => kfa 12 h fun i => kst i g fun _ => knn a fun c => kfa 12 c fun e => kld e fun f => knn a fun g => kfa 1 g fun h => kld h fun i => kln i fun j => keq f j
  fun l => ifV l (kcl r 213 [a] fun c => outK []) (outK []))
theorem st_sorter_Sorter_rank {lf : Nat} {r : RT} {a : V} : evStep Tryz.prog gt lf r 186 #[a] = inside (b_sorter_Sorter_rank lf r a) := by kernel_rfl

def lpA_freq_Counts (lf : Nat) (r : RT) : Nat→((V→M V) × (V→V→M V))→V→V→V→V→V→V→V→V→V→M V
  | 0, _, _, _, _, _, _, _, _, _, _ => .fail
  | fu + 1, k, a, b, c, d, e, f, g, h, i => kls i h fun j => ifV j (kix g i fun l => kld l fun m => kls m (ii 0) fun l => ifV l (k.2 nS (ii 1)) (kgq m b fun n => ifV n
   (k.2 nS (ii 1)) (kix e m fun l => kld l fun o => kad o (ii 1) fun p => kix e m fun q => kst q p fun _ => kad i (ii 1) fun l => lpA_freq_Counts lf r fu k a b c d e f g h l))) (k.1 e)
def sA_freq_Counts : List Nat := [0, 1, 4, 5, 6, 14, 17, 18, 19]
def kcA_freq_Counts (lf : Nat) (r : RT) : (V→M V) × (V→V→M V) := (fun a => outK [a, (ii 0)], fun a b => outK [a, b])
def b_freq_Counts (lf : Nat) (r : RT) (a b : V) : M V := kls b (ii 3) fun c => ifV c (outK [nS, (ii 1)]) (kgr b (ii 258) fun d => ifV d (outK [nS, (ii 1)]) (kmk 3 [(ii
  0)] b b fun c => kln a fun e => lpA_freq_Counts lf r lf (kcA_freq_Counts lf r) a b nS (ii 0) c d a e (ii 0)))
theorem lqA_freq_Counts {lf : Nat} {r : RT} (K : KT) : ∀ fu, lpA_freq_Counts lf r fu ((fun a => K (.exit 0) (zp [6] [a]), fun a b => K .ret (zp [4, 5] [a, b]))) = fun a
  b c d e f g h i => loopK (cQ 188 (pb 7 23) lf r) sA_freq_Counts fu (zp sA_freq_Counts [a, b, c, d, e, f, g, h, i]) K
  | 0 => by funext a b c d e f g h i; kernel_rfl
  | fu + 1 => by
    have ih := lqA_freq_Counts (lf := lf) (r := r) K fu
    funext a b c d e f g h i
    rw [lpA_freq_Counts]
    simp only [ih]
    kernel_rfl
theorem kqA_freq_Counts {lf : Nat} {r : RT} : kcA_freq_Counts lf r = ((fun a => (tK 188 (pb 6 23) lf r) (.exit 0) (zp [6] [a]), fun a b => (tK 188 (pb 6 23) lf r) .ret (zp [4, 5] [a, b]))) := by kernel_rfl
theorem st_freq_Counts {lf : Nat} {r : RT} {a b : V} : evStep Tryz.prog gt lf r 188 #[a, b] = inside (b_freq_Counts lf r a b) := by 
  unfold b_freq_Counts
  simp only [kqA_freq_Counts, lqA_freq_Counts]
  kernel_rfl

def lpA_tables_groupsOf (lf : Nat) (r : RT) : Nat→(V→M V)→V→V→V→V→V→M V
  | 0, _, _, _, _, _, _ => .fail
  | fu + 1, k, a, b, c, d, e => kls e d fun f => ifV f (kcl r 168 [a, e] fun g => kex g 0 fun h => kex g 1 fun i => kb1 141 1 h fun g => kap 141 1 c g fun i => kad e (ii
   1) fun c => lpA_tables_groupsOf lf r fu k a b i d c) (k c)
def sA_tables_groupsOf : List Nat := [0, 2, 3, 9, 10]
def kcA_tables_groupsOf (lf : Nat) (r : RT) : (V→M V) := fun a => outK [a]
def b_tables_groupsOf (lf : Nat) (r : RT) (a : V) : M V := kln a fun b => kcl r 167 [b] fun c => lpA_tables_groupsOf lf r lf (kcA_tables_groupsOf lf r) a nS nS c (ii 0)
theorem lqA_tables_groupsOf {lf : Nat} {r : RT} (K : KT) : ∀ fu, lpA_tables_groupsOf lf r fu (fun a => K (.exit 0) (zp [3] [a])) = fun a b c d e => loopK (cQ 189 (pb 6
  11) lf r) sA_tables_groupsOf fu (zp sA_tables_groupsOf [a, b, c, d, e]) K
  | 0 => by funext a b c d e; kernel_rfl
  | fu + 1 => by
    have ih := lqA_tables_groupsOf (lf := lf) (r := r) K fu
    funext a b c d e
    rw [lpA_tables_groupsOf]
    simp only [ih]
    kernel_rfl
theorem kqA_tables_groupsOf {lf : Nat} {r : RT} : kcA_tables_groupsOf lf r = (fun a => (tK 189 (pb 5 11) lf r) (.exit 0) (zp [3] [a])) := by kernel_rfl
theorem st_tables_groupsOf {lf : Nat} {r : RT} {a : V} : evStep Tryz.prog gt lf r 189 #[a] = inside (b_tables_groupsOf lf r a) := by 
  unfold b_tables_groupsOf
  simp only [kqA_tables_groupsOf, lqA_tables_groupsOf]
  kernel_rfl

def lpA_tables_first (lf : Nat) (r : RT) : Nat→(V→V→V→V→V→V→V→V→M V)→V→V→V→V→V→V→V→M V
  | 0, _, _, _, _, _, _, _, _ => .fail
  | fu + 1, k, a, b, c, d, e, f, g => kls g f fun h => ifV h (kln a fun i => kmk 3 [(ii 0)] i i fun j => kix e g fun l => kst l j fun _ => kad g (ii 1) fun i =>
   lpA_tables_first lf r fu k a b c d e f i) (k a b c d e f g h)
def sA_tables_first : List Nat := [0, 1, 4, 5, 6, 18, 19]
def lpC_tables_first (lf : Nat) (r : RT) : Nat→(V→V→V→V→V→V→V→V→V→V→V→V→V→M V)→V→V→V→V→V→V→V→V→V→V→V→V→V→V→V→V→V→V→M V
  | 0, _, _, _, _, _, _, _, _, _, _, _, _, _, _, _, _, _, _, _ => .fail
  | fu + 1, k, a, b, c, d, e, f, g, h, i, j, l, m, n, o, p, q, s, t => kls t s fun u => ifV u (kne t i fun v => ifV v (kix e t fun w => kld w fun x => kix x g fun y =>
   kst y (ii 15) fun _ => kad t (ii 1) fun w => lpC_tables_first lf r fu k a b c d e f g h i j l m n o p q s w) (kad t (ii 1) fun w => lpC_tables_first lf r fu k a b c d
   e f g h i j l m n o p q s w)) (k a b c d e f h j l m n o p)
def sC_tables_first : List Nat := [0, 1, 4, 5, 6, 8, 9, 10, 11, 18, 19, 20, 29, 30, 31, 32, 42, 43]
def KBC_tables_first (lf : Nat) (r : RT) (k : (V→M V)) (again : V→V→V→V→V→V→V→V→V→V→V→V→M V) : (V→V→V→V→V→V→V→V→V→V→V→V→V→M V) := fun a b c d e f g h i j l m n => kad f
  g fun o => ksb b (ii 1) fun p => kmi o p fun q => kad n (ii 1) fun f => again a b c d e q h i j l m f
def lpB_tables_first (lf : Nat) (r : RT) : Nat→(V→M V)→V→V→V→V→V→V→V→V→V→V→V→V→M V
  | 0, _, _, _, _, _, _, _, _, _, _, _, _, _ => .fail
  | fu + 1, k, a, b, c, d, e, f, g, h, i, j, l, m => kls m l fun n => ifV n (kix j m fun o => kld o fun p => kml f d fun o => kqu o b fun q => kln e fun o =>
   lpC_tables_first lf r lf (KBC_tables_first lf r k (lpB_tables_first lf r fu k)) a b c d e f m p q g h i j l m n o (ii 0)) (k e)
def sB_tables_first : List Nat := [0, 1, 4, 5, 6, 8, 18, 19, 20, 29, 30, 31]
def kcB_tables_first (lf : Nat) (r : RT) : (V→M V) := fun a => outK [a]
def kcA_tables_first (lf : Nat) (r : RT) : (V→V→V→V→V→V→V→V→M V) := fun a b c d e f g h => kln a fun i => lpB_tables_first lf r lf (kcB_tables_first lf r) a b c d e (ii 0) f g h a i (ii 0)
def b_tables_first (lf : Nat) (r : RT) (a b : V) : M V := kcl r 214 [b] fun c => kmk 141 [nS] c c fun d => kln d fun e => lpA_tables_first lf r lf (kcA_tables_first lf r) a b nS c d e (ii 0)
theorem lqA_tables_first {lf : Nat} {r : RT} (K : KT) : ∀ fu, lpA_tables_first lf r fu (fun a b c d e f g h => K (.exit 0) (zp [0, 1, 4, 5, 6, 18, 19, 20] [a, b, c, d,
  e, f, g, h])) = fun a b c d e f g => loopK (cQ 190 (pb 7 23) lf r) sA_tables_first fu (zp sA_tables_first [a, b, c, d, e, f, g]) K
  | 0 => by funext a b c d e f g; kernel_rfl
  | fu + 1 => by
    have ih := lqA_tables_first (lf := lf) (r := r) K fu
    funext a b c d e f g
    rw [lpA_tables_first]
    simp only [ih]
    kernel_rfl
theorem lqC_tables_first {lf : Nat} {r : RT} (K : KT) : ∀ fu, lpC_tables_first lf r fu (fun a b c d e f g h i j l m n => K (.exit 4) (zp [0, 1, 4, 5, 6, 8, 10, 18, 19,
  20, 29, 30, 31] [a, b, c, d, e, f, g, h, i, j, l, m, n])) = fun a b c d e f g h i j l m n o p q s t => loopK (cQ 190 (pb 19 91743) lf r) sC_tables_first fu (zp
  sC_tables_first [a, b, c, d, e, f, g, h, i, j, l, m, n, o, p, q, s, t]) K
  | 0 => by funext a b c d e f g h i j l m n o p q s t; kernel_rfl
  | fu + 1 => by
    have ih := lqC_tables_first (lf := lf) (r := r) K fu
    funext a b c d e f g h i j l m n o p q s t
    rw [lpC_tables_first]
    simp only [ih]
    kernel_rfl
theorem kqC_tables_first {lf : Nat} {r : RT} (K : KT) (fu : Nat) : KBC_tables_first lf r (fun a => K (.exit 2) (zp [6] [a])) (fun a b c d e f g h i j l m => loopK (cQ
  190 (pb 9 95) lf r) sB_tables_first fu (zp sB_tables_first [a, b, c, d, e, f, g, h, i, j, l, m]) K) = (fun a b c d e f g h i j l m n => (iK 190 (pb 9 95) (pb 9 179)
  sB_tables_first fu K lf r) (.exit 4) (zp [0, 1, 4, 5, 6, 8, 10, 18, 19, 20, 29, 30, 31] [a, b, c, d, e, f, g, h, i, j, l, m, n])) := by kernel_rfl
theorem lqB_tables_first {lf : Nat} {r : RT} (K : KT) : ∀ fu, lpB_tables_first lf r fu (fun a => K (.exit 2) (zp [6] [a])) = fun a b c d e f g h i j l m => loopK (cQ 190
  (pb 9 95) lf r) sB_tables_first fu (zp sB_tables_first [a, b, c, d, e, f, g, h, i, j, l, m]) K
  | 0 => by funext a b c d e f g h i j l m; kernel_rfl
  | fu + 1 => by
    have ih := lqB_tables_first (lf := lf) (r := r) K fu
    funext a b c d e f g h i j l m
    rw [lpB_tables_first]
    simp only [ih, kqC_tables_first, lqC_tables_first]
    kernel_rfl
theorem kqB_tables_first {lf : Nat} {r : RT} : kcB_tables_first lf r = (fun a => (tK 190 (pb 8 95) lf r) (.exit 2) (zp [6] [a])) := by kernel_rfl
theorem kqA_tables_first {lf : Nat} {r : RT} : kcA_tables_first lf r = (fun a b c d e f g h => (tK 190 (pb 6 23) lf r) (.exit 0) (zp [0, 1, 4, 5, 6, 18, 19, 20] [a, b, c, d, e, f, g, h])) := by 
  unfold kcA_tables_first
  simp only [kqB_tables_first, lqB_tables_first]
  kernel_rfl
theorem st_tables_first {lf : Nat} {r : RT} {a b : V} : evStep Tryz.prog gt lf r 190 #[a, b] = inside (b_tables_first lf r a b) := by 
  unfold b_tables_first
  simp only [kqA_tables_first, kqB_tables_first, lqA_tables_first, lqB_tables_first]
  kernel_rfl

def lpA_tables_round (lf : Nat) (r : RT) : Nat→(V→V→V→V→V→V→V→V→V→V→M V)→V→V→V→V→V→V→V→V→V→M V
  | 0, _, _, _, _, _, _, _, _, _, _ => .fail
  | fu + 1, k, a, b, c, d, e, f, g, h, i => kls i h fun j => ifV j (kmk 3 [(ii 0)] c c fun l => kix g i fun m => kst m l fun _ => kad i (ii 1) fun l => lpA_tables_round
   lf r fu k a b c d e f g h l) (k a b c d e f g h i j)
def sA_tables_round : List Nat := [0, 1, 2, 6, 7, 8, 9, 27, 28]
def lpB_tables_round (lf : Nat) (r : RT) : Nat→(V→V→V→V→V→V→V→V→V→V→V→V→V→V→M V)→V→V→V→V→V→V→V→V→V→V→V→V→V→M V
  | 0, _, _, _, _, _, _, _, _, _, _, _, _, _, _ => .fail
  | fu + 1, k, a, b, c, d, e, f, g, h, i, j, l, m, n => kls n m fun o => ifV o (kix l n fun p => kld p fun q => kcl r 215 [q, b] fun p => kb1 3 1 p fun s => kap 3 1 f s
   fun t => kcl r 188 [q, c] fun f => kex f 0 fun s => kex f 1 fun u => kix g p fun f => kld f fun u => kcl r 216 [u, s] fun v => kex v 0 fun w => kex v 1 fun x => kix g
   p fun f => kst f w fun _ => kad n (ii 1) fun f => lpB_tables_round lf r fu k a b c d e t g h i j l m f) (k a b c d e f g h i j l m n o)
def sB_tables_round : List Nat := [0, 1, 2, 6, 7, 8, 9, 27, 28, 29, 37, 38, 39]
def lpC_tables_round (lf : Nat) (r : RT) : Nat→(V→V→M V)→V→V→V→V→V→V→V→V→V→V→V→V→V→V→V→V→V→V→M V
  | 0, _, _, _, _, _, _, _, _, _, _, _, _, _, _, _, _, _, _, _ => .fail
  | fu + 1, k, a, b, c, d, e, f, g, h, i, j, l, m, n, o, p, q, s, t => kls t s fun u => ifV u (kix q t fun v => kld v fun w => kcl r 217 [w] fun v => kex v 0 fun x =>
   kex v 1 fun y => kb1 141 1 x fun v => kap 141 1 h v fun y => kad t (ii 1) fun h => lpC_tables_round lf r fu k a b c d e f g y i j l m n o p q s h) (k f h)
def sC_tables_round : List Nat := [0, 1, 2, 6, 7, 8, 9, 18, 27, 28, 29, 37, 38, 39, 40, 70, 71, 72]
def kcC_tables_round (lf : Nat) (r : RT) : (V→V→M V) := fun a b => outK [a, b]
def kcB_tables_round (lf : Nat) (r : RT) : (V→V→V→V→V→V→V→V→V→V→V→V→V→V→M V) := fun a b c d e f g h i j l m n o => kln g fun p => lpC_tables_round lf r lf
  (kcC_tables_round lf r) a b c d e f g nS h i j l m n o g p (ii 0)
def kcA_tables_round (lf : Nat) (r : RT) : (V→V→V→V→V→V→V→V→V→V→M V) := fun a b c d e f g h i j => kln a fun l => lpB_tables_round lf r lf (kcB_tables_round lf r) a b c d e f g h i j a l (ii 0)
def b_tables_round (lf : Nat) (r : RT) (a b c : V) : M V := kln b fun d => kmk 141 [nS] d d fun e => kln e fun d => lpA_tables_round lf r lf (kcA_tables_round lf r) a b c nS nS nS e d (ii 0)
theorem lqA_tables_round {lf : Nat} {r : RT} (K : KT) : ∀ fu, lpA_tables_round lf r fu (fun a b c d e f g h i j => K (.exit 0) (zp [0, 1, 2, 6, 7, 8, 9, 27, 28, 29] [a,
  b, c, d, e, f, g, h, i, j])) = fun a b c d e f g h i => loopK (cQ 191 (pb 7 23) lf r) sA_tables_round fu (zp sA_tables_round [a, b, c, d, e, f, g, h, i]) K
  | 0 => by funext a b c d e f g h i; kernel_rfl
  | fu + 1 => by
    have ih := lqA_tables_round (lf := lf) (r := r) K fu
    funext a b c d e f g h i
    rw [lpA_tables_round]
    simp only [ih]
    kernel_rfl
theorem lqB_tables_round {lf : Nat} {r : RT} (K : KT) : ∀ fu, lpB_tables_round lf r fu (fun a b c d e f g h i j l m n o => K (.exit 2) (zp [0, 1, 2, 6, 7, 8, 9, 27, 28,
  29, 37, 38, 39, 40] [a, b, c, d, e, f, g, h, i, j, l, m, n, o])) = fun a b c d e f g h i j l m n => loopK (cQ 191 (pb 8 47) lf r) sB_tables_round fu (zp
  sB_tables_round [a, b, c, d, e, f, g, h, i, j, l, m, n]) K
  | 0 => by funext a b c d e f g h i j l m n; kernel_rfl
  | fu + 1 => by
    have ih := lqB_tables_round (lf := lf) (r := r) K fu
    funext a b c d e f g h i j l m n
    rw [lpB_tables_round]
    simp only [ih]
    kernel_rfl
theorem lqC_tables_round {lf : Nat} {r : RT} (K : KT) : ∀ fu, lpC_tables_round lf r fu (fun a b => K (.exit 4) (zp [8, 18] [a, b])) = fun a b c d e f g h i j l m n o p q
  s t => loopK (cQ 191 (pb 10 191) lf r) sC_tables_round fu (zp sC_tables_round [a, b, c, d, e, f, g, h, i, j, l, m, n, o, p, q, s, t]) K
  | 0 => by funext a b c d e f g h i j l m n o p q s t; kernel_rfl
  | fu + 1 => by
    have ih := lqC_tables_round (lf := lf) (r := r) K fu
    funext a b c d e f g h i j l m n o p q s t
    rw [lpC_tables_round]
    simp only [ih]
    kernel_rfl
theorem kqC_tables_round {lf : Nat} {r : RT} : kcC_tables_round lf r = (fun a b => (tK 191 (pb 9 191) lf r) (.exit 4) (zp [8, 18] [a, b])) := by kernel_rfl
theorem kqB_tables_round {lf : Nat} {r : RT} : kcB_tables_round lf r = (fun a b c d e f g h i j l m n o => (tK 191 (pb 7 47) lf r) (.exit 2) (zp [0, 1, 2, 6, 7, 8, 9,
  27, 28, 29, 37, 38, 39, 40] [a, b, c, d, e, f, g, h, i, j, l, m, n, o])) := by 
  unfold kcB_tables_round
  simp only [kqC_tables_round, lqC_tables_round]
  kernel_rfl
theorem kqA_tables_round {lf : Nat} {r : RT} : kcA_tables_round lf r = (fun a b c d e f g h i j => (tK 191 (pb 6 23) lf r) (.exit 0) (zp [0, 1, 2, 6, 7, 8, 9, 27, 28, 29] [a, b, c, d, e, f, g, h, i, j])) := by 
  unfold kcA_tables_round
  simp only [kqB_tables_round, lqB_tables_round]
  kernel_rfl
theorem st_tables_round {lf : Nat} {r : RT} {a b c : V} : evStep Tryz.prog gt lf r 191 #[a, b, c] = inside (b_tables_round lf r a b c) := by 
  unfold b_tables_round
  simp only [kqA_tables_round, kqB_tables_round, kqC_tables_round, lqA_tables_round, lqB_tables_round, lqC_tables_round]
  kernel_rfl

def b_picks_tabled (lf : Nat) (r : RT) (a : V) : M V := kgq a (ii 2) fun b => ifV b (klq a (ii 6) fun c => outK [c]) (outK [bF])
theorem st_picks_tabled {lf : Nat} {r : RT} {a : V} : evStep Tryz.prog gt lf r 192 #[a] = inside (b_picks_tabled lf r a) := by kernel_rfl

def b_slices_ContainsFunc_int_int (lf : Nat) (r : RT) (a b : V) : M V := kcl r 218 [a, b] fun c => kgq c (ii 0) fun d => outK [d]
theorem st_slices_ContainsFunc_int_int {lf : Nat} {r : RT} {a b : V} : evStep Tryz.prog gt lf r 193 #[a, b] = inside (b_slices_ContainsFunc_int_int lf r a b) := by kernel_rfl

def b_picks_may_1 (lf : Nat) (r : RT) (a b : V) : M V := kls a (ii 0) fun c => ifV c (outK [bT]) (kld b fun d => kgq a d fun e => outK [e])
theorem st_picks_may_1 {lf : Nat} {r : RT} {a b : V} : evStep Tryz.prog gt lf r 194 #[a, b] = inside (b_picks_may_1 lf r a b) := by kernel_rfl

def lpA_picks_fresh (lf : Nat) (r : RT) : Nat→(V→V→M V)→V→V→V→M V
  | 0, _, _, _, _ => .fail
  | fu + 1, k, a, b, c => kls c (ii 6) fun d => ifV d (kia 6 b c fun e => kst e c fun _ => kad c (ii 1) fun e => lpA_picks_fresh lf r fu k a b e) (k a b)
def sA_picks_fresh : List Nat := [0, 1, 3]
def kcA_picks_fresh (lf : Nat) (r : RT) : (V→V→M V) := fun a b => klg 6 b fun c => ksg 6 a c fun _ => klg 6 a fun b => outK [b]
def b_picks_fresh (lf : Nat) (r : RT)  : M V := kal 237 z237 fun a => kal 237 z237 fun b => lpA_picks_fresh lf r lf (kcA_picks_fresh lf r) a b (ii 0)
theorem lqA_picks_fresh {lf : Nat} {r : RT} (K : KT) : ∀ fu, lpA_picks_fresh lf r fu (fun a b => K (.exit 0) (zp [0, 1] [a, b])) = fun a b c => loopK (cQ 195 (pb 6 11)
  lf r) sA_picks_fresh fu (zp sA_picks_fresh [a, b, c]) K
  | 0 => by funext a b c; kernel_rfl
  | fu + 1 => by
    have ih := lqA_picks_fresh (lf := lf) (r := r) K fu
    funext a b c
    rw [lpA_picks_fresh]
    simp only [ih]
    kernel_rfl
theorem kqA_picks_fresh {lf : Nat} {r : RT} : kcA_picks_fresh lf r = (fun a b => (tK 195 (pb 5 11) lf r) (.exit 0) (zp [0, 1] [a, b])) := by kernel_rfl
theorem st_picks_fresh {lf : Nat} {r : RT}  : evStep Tryz.prog gt lf r 195 #[] = inside (b_picks_fresh lf r) := by 
  unfold b_picks_fresh
  simp only [kqA_picks_fresh, lqA_picks_fresh]
  kernel_rfl

def lpA_picks_order_find (lf : Nat) (r : RT) : Nat→(V→V→M V)→V→V→V→V→M V
  | 0, _, _, _, _, _ => .fail
  | fu + 1, k, a, b, c, d => knn a fun e => kia 6 e d fun f => kld f fun g => kne g b fun h => ifV h (kad d (ii 1) fun e => lpA_picks_order_find lf r fu k a b c e) (k a d)
def sA_picks_order_find : List Nat := [0, 1, 4, 5]
def kcA_picks_order_find (lf : Nat) (r : RT) : (V→V→M V) := fun a b => kcl r 219 [a, b] fun c => outK [b]
def b_picks_order_find (lf : Nat) (r : RT) (a b : V) : M V := lpA_picks_order_find lf r lf (kcA_picks_order_find lf r) a b (ii 0) (ii 0)
theorem lqA_picks_order_find {lf : Nat} {r : RT} (K : KT) : ∀ fu, lpA_picks_order_find lf r fu (fun a b => K (.exit 0) (zp [0, 5] [a, b])) = fun a b c d => loopK (cQ 196
  (pb 5 3) lf r) sA_picks_order_find fu (zp sA_picks_order_find [a, b, c, d]) K
  | 0 => by funext a b c d; kernel_rfl
  | fu + 1 => by
    have ih := lqA_picks_order_find (lf := lf) (r := r) K fu
    funext a b c d
    rw [lpA_picks_order_find]
    simp only [ih]
    kernel_rfl
theorem kqA_picks_order_find {lf : Nat} {r : RT} : kcA_picks_order_find lf r = (fun a b => (tK 196 (pb 4 3) lf r) (.exit 0) (zp [0, 5] [a, b])) := by kernel_rfl
theorem st_picks_order_find {lf : Nat} {r : RT} {a b : V} : evStep Tryz.prog gt lf r 196 #[a, b] = inside (b_picks_order_find lf r a b) := by 
  unfold b_picks_order_find
  simp only [kqA_picks_order_find, lqA_picks_order_find]
  kernel_rfl

def b_delta_sized (lf : Nat) (r : RT) (a : V) : M V := kgq a (ii 3) fun b => ifV b (klq a (ii 258) fun c => outK [c]) (outK [bF])
theorem st_delta_sized {lf : Nat} {r : RT} {a : V} : evStep Tryz.prog gt lf r 197 #[a] = inside (b_delta_sized lf r a) := by kernel_rfl

def b_delta_may_1 (lf : Nat) (r : RT) (a : V) : M V := kcl r 199 [a] fun b => knt b fun c => outK [c]
theorem st_delta_may_1 {lf : Nat} {r : RT} {a : V} : evStep Tryz.prog gt lf r 198 #[a] = inside (b_delta_may_1 lf r a) := by kernel_rfl

def b_delta_length (lf : Nat) (r : RT) (a : V) : M V := kgq a (ii 1) fun b => ifV b (klq a (ii 20) fun c => outK [c]) (outK [bF])
theorem st_delta_length {lf : Nat} {r : RT} {a : V} : evStep Tryz.prog gt lf r 199 #[a] = inside (b_delta_length lf r a) := by kernel_rfl

def b_freq_part_int (lf : Nat) (r : RT) (a b c : V) : M V := kml b c fun d => kln a fun e => kad b (ii 1) fun f => kml f c fun g => kmi e g fun h => ksc 3 1 a (some d)
  (some h) fun i => kcl r 156 [i] fun j => outK [j]
theorem st_freq_part_int {lf : Nat} {r : RT} {a b c : V} : evStep Tryz.prog gt lf r 200 #[a, b, c] = inside (b_freq_part_int lf r a b c) := by kernel_rfl

def b_freq_all (lf : Nat) (r : RT) (a : V) : M V := kcl r 193 [a, (Value.func (.func 220) #[] #[])] fun b => knt b fun c => outK [c]
theorem st_freq_all {lf : Nat} {r : RT} {a : V} : evStep Tryz.prog gt lf r 201 #[a] = inside (b_freq_all lf r a) := by kernel_rfl

def b_freq_together (lf : Nat) (r : RT) (a b : V) : M V := kad a b fun c => kmi c (ii 1099511627776) fun d => outK [d]
theorem st_freq_together {lf : Nat} {r : RT} {a b : V} : evStep Tryz.prog gt lf r 202 #[a, b] = inside (b_freq_together lf r a b) := by kernel_rfl

def lpA_lens_Share (lf : Nat) (r : RT) : Nat→(V→M V)→V→V→V→V→V→V→V→V→M V
  | 0, _, _, _, _, _, _, _, _, _ => .fail
  | fu + 1, k, a, b, c, d, e, f, g, h => kls h g fun i => ifV i (kix f h fun j => kld j fun l => ksb (ii 20) l fun j => ksl (ii 1) j fun m => kad d m fun n => kad h (ii
   1) fun d => lpA_lens_Share lf r fu k a b c n e f g d) (k d)
def sA_lens_Share : List Nat := [0, 2, 3, 4, 14, 15, 16, 17]
def kcA_lens_Share (lf : Nat) (r : RT) : (V→M V) := fun a => outK [a, (ii 0)]
def b_lens_Share (lf : Nat) (r : RT) (a : V) : M V := kln a fun b => kgr b (ii 258) fun c => ifV c (outK [(ii 0), (ii 1)]) (kcl r 222 [a, (ii 0), (ii 20)] fun d => knt d
  fun e => ifV e (outK [(ii 0), (ii 1)]) (kln a fun b => lpA_lens_Share lf r lf (kcA_lens_Share lf r) a (ii 0) (ii 0) (ii 0) e a b (ii 0)))
theorem lqA_lens_Share {lf : Nat} {r : RT} (K : KT) : ∀ fu, lpA_lens_Share lf r fu (fun a => K (.exit 0) (zp [4] [a])) = fun a b c d e f g h => loopK (cQ 203 (pb 7 23)
  lf r) sA_lens_Share fu (zp sA_lens_Share [a, b, c, d, e, f, g, h]) K
  | 0 => by funext a b c d e f g h; kernel_rfl
  | fu + 1 => by
    have ih := lqA_lens_Share (lf := lf) (r := r) K fu
    funext a b c d e f g h
    rw [lpA_lens_Share]
    simp only [ih]
    kernel_rfl
theorem kqA_lens_Share {lf : Nat} {r : RT} : kcA_lens_Share lf r = (fun a => (tK 203 (pb 6 23) lf r) (.exit 0) (zp [4] [a])) := by kernel_rfl
theorem st_lens_Share {lf : Nat} {r : RT} {a : V} : evStep Tryz.prog gt lf r 203 #[a] = inside (b_lens_Share lf r a) := by 
  unfold b_lens_Share
  simp only [kqA_lens_Share, lqA_lens_Share]
  kernel_rfl

def b_slices_Contains_int_int (lf : Nat) (r : RT) (a b : V) : M V := kcl r 160 [a, b] fun c => kgq c (ii 0) fun d => outK [d]
theorem st_slices_Contains_int_int {lf : Nat} {r : RT} {a b : V} : evStep Tryz.prog gt lf r 204 #[a, b] = inside (b_slices_Contains_int_int lf r a b) := by kernel_rfl

def b_balerref12_Number (lf : Nat) (r : RT) (a : V) : M V := kls a (ii 200) fun b => ifV b (outK [(ii 2)]) (kls a (ii 600) fun c => ifV c (outK [(ii 3)]) (kls a (ii
  1200) fun d => ifV d (outK [(ii 4)]) (kls a (ii 2400) fun e => ifV e (outK [(ii 5)]) (outK [(ii 6)]))))
theorem st_balerref12_Number {lf : Nat} {r : RT} {a : V} : evStep Tryz.prog gt lf r 205 #[a] = inside (b_balerref12_Number lf r a) := by kernel_rfl

def lpA_balerref08_count (lf : Nat) (r : RT) : Nat→(V→M V)→V→V→V→V→V→V→V→M V
  | 0, _, _, _, _, _, _, _, _ => .fail
  | fu + 1, k, a, b, c, d, e, f, g => kls g f fun h => ifV h (kix e g fun i => kld i fun j => keq b j fun i => ifV i (kad d (ii 1) fun l => kad g (ii 1) fun d =>
   lpA_balerref08_count lf r fu k a b c l e f d) (kad g (ii 1) fun l => lpA_balerref08_count lf r fu k a b c d e f l)) (k d)
def sA_balerref08_count : List Nat := [0, 1, 4, 5, 8, 9, 10]
def kcA_balerref08_count (lf : Nat) (r : RT) : (V→M V) := fun a => outK [a]
def b_balerref08_count (lf : Nat) (r : RT) (a b : V) : M V := kln a fun c => lpA_balerref08_count lf r lf (kcA_balerref08_count lf r) a b (ii 0) (ii 0) a c (ii 0)
theorem lqA_balerref08_count {lf : Nat} {r : RT} (K : KT) : ∀ fu, lpA_balerref08_count lf r fu (fun a => K (.exit 0) (zp [5] [a])) = fun a b c d e f g => loopK (cQ 206
  (pb 6 11) lf r) sA_balerref08_count fu (zp sA_balerref08_count [a, b, c, d, e, f, g]) K
  | 0 => by funext a b c d e f g; kernel_rfl
  | fu + 1 => by
    have ih := lqA_balerref08_count (lf := lf) (r := r) K fu
    funext a b c d e f g
    rw [lpA_balerref08_count]
    simp only [ih]
    kernel_rfl
theorem kqA_balerref08_count {lf : Nat} {r : RT} : kcA_balerref08_count lf r = (fun a => (tK 206 (pb 5 11) lf r) (.exit 0) (zp [5] [a])) := by kernel_rfl
theorem st_balerref08_count {lf : Nat} {r : RT} {a b : V} : evStep Tryz.prog gt lf r 206 #[a, b] = inside (b_balerref08_count lf r a b) := by 
  unfold b_balerref08_count
  simp only [kqA_balerref08_count, lqA_balerref08_count]
  kernel_rfl

def lpB_balerref08_Cost (lf : Nat) (r : RT) : Nat→(V→V→V→V→V→V→V→M V)→V→V→V→V→V→V→V→V→V→V→V→V→M V
  | 0, _, _, _, _, _, _, _, _, _, _, _, _, _ => .fail
  | fu + 1, k, a, b, c, d, e, f, g, h, i, j, l, m => kls m l fun n => ifV n (kad d f fun o => kcl r 223 [o] fun p => kad m (ii 1) fun d => lpB_balerref08_Cost lf r fu k
   a b c p e f g h i j l d) (k a b c d g h i)
def sB_balerref08_Cost : List Nat := [0, 1, 4, 5, 6, 7, 8, 9, 10, 11, 17, 18]
def KBB_balerref08_Cost (lf : Nat) (r : RT) (k : (V→M V)) (again : V→V→V→V→V→V→V→M V) : (V→V→V→V→V→V→V→M V) := fun a b c d e f g => kad g (ii 1) fun h => again a b c d e f h
def lpA_balerref08_Cost (lf : Nat) (r : RT) : Nat→(V→M V)→V→V→V→V→V→V→V→M V
  | 0, _, _, _, _, _, _, _, _ => .fail
  | fu + 1, k, a, b, c, d, e, f, g => kls g f fun h => ifV h (kix e g fun i => kld i fun j => kcl r 206 [a, g] fun i => lpB_balerref08_Cost lf r lf (KBB_balerref08_Cost
   lf r k (lpA_balerref08_Cost lf r fu k)) a b c d g j e f g h i (ii 0)) (k d)
def sA_balerref08_Cost : List Nat := [0, 1, 4, 5, 8, 9, 10]
def kcA_balerref08_Cost (lf : Nat) (r : RT) : (V→M V) := fun a => outK [a]
def b_balerref08_Cost (lf : Nat) (r : RT) (a b : V) : M V := kln b fun c => lpA_balerref08_Cost lf r lf (kcA_balerref08_Cost lf r) a b (ii 0) (ii 0) b c (ii 0)
theorem lqB_balerref08_Cost {lf : Nat} {r : RT} (K : KT) : ∀ fu, lpB_balerref08_Cost lf r fu (fun a b c d e f g => K (.exit 2) (zp [0, 1, 4, 5, 8, 9, 10] [a, b, c, d, e,
  f, g])) = fun a b c d e f g h i j l m => loopK (cQ 207 (pb 14 3275) lf r) sB_balerref08_Cost fu (zp sB_balerref08_Cost [a, b, c, d, e, f, g, h, i, j, l, m]) K
  | 0 => by funext a b c d e f g h i j l m; kernel_rfl
  | fu + 1 => by
    have ih := lqB_balerref08_Cost (lf := lf) (r := r) K fu
    funext a b c d e f g h i j l m
    rw [lpB_balerref08_Cost]
    simp only [ih]
    kernel_rfl
theorem kqB_balerref08_Cost {lf : Nat} {r : RT} (K : KT) (fu : Nat) : KBB_balerref08_Cost lf r (fun a => K (.exit 0) (zp [5] [a])) (fun a b c d e f g => loopK (cQ 207
  (pb 6 11) lf r) sA_balerref08_Cost fu (zp sA_balerref08_Cost [a, b, c, d, e, f, g]) K) = (fun a b c d e f g => (iK 207 (pb 6 11) (pb 7 51) sA_balerref08_Cost fu K lf
  r) (.exit 2) (zp [0, 1, 4, 5, 8, 9, 10] [a, b, c, d, e, f, g])) := by kernel_rfl
theorem lqA_balerref08_Cost {lf : Nat} {r : RT} (K : KT) : ∀ fu, lpA_balerref08_Cost lf r fu (fun a => K (.exit 0) (zp [5] [a])) = fun a b c d e f g => loopK (cQ 207 (pb
  6 11) lf r) sA_balerref08_Cost fu (zp sA_balerref08_Cost [a, b, c, d, e, f, g]) K
  | 0 => by funext a b c d e f g; kernel_rfl
  | fu + 1 => by
    have ih := lqA_balerref08_Cost (lf := lf) (r := r) K fu
    funext a b c d e f g
    rw [lpA_balerref08_Cost]
    simp only [ih, kqB_balerref08_Cost, lqB_balerref08_Cost]
    kernel_rfl
theorem kqA_balerref08_Cost {lf : Nat} {r : RT} : kcA_balerref08_Cost lf r = (fun a => (tK 207 (pb 5 11) lf r) (.exit 0) (zp [5] [a])) := by kernel_rfl
theorem st_balerref08_Cost {lf : Nat} {r : RT} {a b : V} : evStep Tryz.prog gt lf r 207 #[a, b] = inside (b_balerref08_Cost lf r a b) := by 
  unfold b_balerref08_Cost
  simp only [kqA_balerref08_Cost, lqA_balerref08_Cost]
  kernel_rfl

def lpA_balerref09_Depths (lf : Nat) (r : RT) : Nat→(V→V→V→V→V→V→V→V→M V)→V→V→V→V→V→V→V→M V
  | 0, _, _, _, _, _, _, _, _ => .fail
  | fu + 1, k, a, b, c, d, e, f, g => kls g f fun h => ifV h (kix e g fun i => kld i fun j => kb1 3 1 g fun i => kbd z250 [(0, 1, j), (1, 1, g), (2, 1, i)] fun l => kb1
   250 3 l fun m => kap 250 3 d m fun n => kad g (ii 1) fun d => lpA_balerref09_Depths lf r fu k a b c n e f d) (k a b c d e f g h)
def sA_balerref09_Depths : List Nat := [0, 2, 3, 4, 18, 19, 20]
def lpC_balerref09_Depths (lf : Nat) (r : RT) : Nat→(V→V→V→V→V→V→V→V→V→V→V→V→V→M V)→V→V→V→V→V→V→V→V→V→V→V→V→V→V→V→V→V→V→V→M V
  | 0, _, _, _, _, _, _, _, _, _, _, _, _, _, _, _, _, _, _, _, _ => .fail
  | fu + 1, k, a, b, c, d, e, f, g, h, i, j, l, m, n, o, p, q, s, t, u => kls u t fun v => ifV v (kix s u fun w => kld w fun x => kix e x fun w => kld w fun y => kad y
   (ii 1) fun z => kix e x fun A => kst A z fun _ => kad u (ii 1) fun w => lpC_balerref09_Depths lf r fu k a b c d e f g h i j l m n o p q s t w) (k a b c d e f h j l m n o p)
def sC_balerref09_Depths : List Nat := [0, 2, 3, 4, 7, 8, 9, 10, 11, 12, 13, 18, 19, 20, 21, 39, 66, 67, 68]
def KBC_balerref09_Depths (lf : Nat) (r : RT) (k : (V→M V)) (again : V→V→V→V→V→V→V→V→V→V→M V) : (V→V→V→V→V→V→V→V→V→V→V→V→V→M V) := fun a b c d e f g h i j l m n => kfa 0
  g fun o => kld o fun p => kfa 0 h fun q => kld q fun s => kad p s fun t => kbd z250 [(0, 1, t), (1, 1, f), (2, 1, i)] fun u => kb1 250 3 u fun v => kap 250 3 d v fun w
  => kad f (ii 1) fun d => again a b c w e d j l m n
def lpB_balerref09_Depths (lf : Nat) (r : RT) : Nat→(V→M V)→V→V→V→V→V→V→V→V→V→V→M V
  | 0, _, _, _, _, _, _, _, _, _, _, _ => .fail
  | fu + 1, k, a, b, c, d, e, f, g, h, i, j => kln d fun l => kgr l (ii 1) fun m => ifV m (kcl r 224 [d] fun l => kiy 3 d l fun n => klg 3 n fun o => kal 250 z250 fun p
   => ksg 3 p o fun _ => kcl r 225 [d, l] fun n => kcl r 224 [n] fun d => kiy 3 n d fun o => klg 3 o fun q => kal 250 z250 fun s => ksg 3 s q fun _ => kcl r 225 [n, d]
   fun o => kfa 2 p fun n => kld n fun q => kap 3 1 nS q fun t => kfa 2 s fun n => kld n fun q => kap 3 1 t q fun u => kln u fun n => lpC_balerref09_Depths lf r lf
   (KBC_balerref09_Depths lf r k (lpB_balerref09_Depths lf r fu k)) a b c o e f l p d s u g h i j m u n (ii 0)) (k e)
def sB_balerref09_Depths : List Nat := [0, 2, 3, 4, 7, 8, 18, 19, 20, 21]
def kcB_balerref09_Depths (lf : Nat) (r : RT) : (V→M V) := fun a => outK [a]
def kcA_balerref09_Depths (lf : Nat) (r : RT) : (V→V→V→V→V→V→V→V→M V) := fun a b c d e f g h => kmk 3 [(ii 0)] c c fun i => lpB_balerref09_Depths lf r lf (kcB_balerref09_Depths lf r) a b c d i c e f g h
def b_balerref09_Depths (lf : Nat) (r : RT) (a : V) : M V := kln a fun b => kln a fun c => lpA_balerref09_Depths lf r lf (kcA_balerref09_Depths lf r) a nS b nS a c (ii 0)
theorem lqA_balerref09_Depths {lf : Nat} {r : RT} (K : KT) : ∀ fu, lpA_balerref09_Depths lf r fu (fun a b c d e f g h => K (.exit 0) (zp [0, 2, 3, 4, 18, 19, 20, 21] [a,
  b, c, d, e, f, g, h])) = fun a b c d e f g => loopK (cQ 208 (pb 7 23) lf r) sA_balerref09_Depths fu (zp sA_balerref09_Depths [a, b, c, d, e, f, g]) K
  | 0 => by funext a b c d e f g; kernel_rfl
  | fu + 1 => by
    have ih := lqA_balerref09_Depths (lf := lf) (r := r) K fu
    funext a b c d e f g
    rw [lpA_balerref09_Depths]
    simp only [ih]
    kernel_rfl
theorem lqC_balerref09_Depths {lf : Nat} {r : RT} (K : KT) : ∀ fu, lpC_balerref09_Depths lf r fu (fun a b c d e f g h i j l m n => K (.exit 4) (zp [0, 2, 3, 4, 7, 8, 10,
  12, 13, 18, 19, 20, 21] [a, b, c, d, e, f, g, h, i, j, l, m, n])) = fun a b c d e f g h i j l m n o p q s t u => loopK (cQ 208 (pb 24 3144255) lf r)
  sC_balerref09_Depths fu (zp sC_balerref09_Depths [a, b, c, d, e, f, g, h, i, j, l, m, n, o, p, q, s, t, u]) K
  | 0 => by funext a b c d e f g h i j l m n o p q s t u; kernel_rfl
  | fu + 1 => by
    have ih := lqC_balerref09_Depths (lf := lf) (r := r) K fu
    funext a b c d e f g h i j l m n o p q s t u
    rw [lpC_balerref09_Depths]
    simp only [ih]
    kernel_rfl
theorem kqC_balerref09_Depths {lf : Nat} {r : RT} (K : KT) (fu : Nat) : KBC_balerref09_Depths lf r (fun a => K (.exit 2) (zp [7] [a])) (fun a b c d e f g h i j => loopK
  (cQ 208 (pb 9 63) lf r) sB_balerref09_Depths fu (zp sB_balerref09_Depths [a, b, c, d, e, f, g, h, i, j]) K) = (fun a b c d e f g h i j l m n => (iK 208 (pb 9 63) (pb
  14 6141) sB_balerref09_Depths fu K lf r) (.exit 4) (zp [0, 2, 3, 4, 7, 8, 10, 12, 13, 18, 19, 20, 21] [a, b, c, d, e, f, g, h, i, j, l, m, n])) := by kernel_rfl
theorem lqB_balerref09_Depths {lf : Nat} {r : RT} (K : KT) : ∀ fu, lpB_balerref09_Depths lf r fu (fun a => K (.exit 2) (zp [7] [a])) = fun a b c d e f g h i j => loopK
  (cQ 208 (pb 9 63) lf r) sB_balerref09_Depths fu (zp sB_balerref09_Depths [a, b, c, d, e, f, g, h, i, j]) K
  | 0 => by funext a b c d e f g h i j; kernel_rfl
  | fu + 1 => by
    have ih := lqB_balerref09_Depths (lf := lf) (r := r) K fu
    funext a b c d e f g h i j
    rw [lpB_balerref09_Depths]
    simp only [ih, kqC_balerref09_Depths, lqC_balerref09_Depths]
    kernel_rfl
theorem kqB_balerref09_Depths {lf : Nat} {r : RT} : kcB_balerref09_Depths lf r = (fun a => (tK 208 (pb 8 63) lf r) (.exit 2) (zp [7] [a])) := by kernel_rfl
theorem kqA_balerref09_Depths {lf : Nat} {r : RT} : kcA_balerref09_Depths lf r = (fun a b c d e f g h => (tK 208 (pb 6 23) lf r) (.exit 0) (zp [0, 2, 3, 4, 18, 19, 20, 21] [a, b, c, d, e, f, g, h])) := by 
  unfold kcA_balerref09_Depths
  simp only [kqB_balerref09_Depths, lqB_balerref09_Depths]
  kernel_rfl
theorem st_balerref09_Depths {lf : Nat} {r : RT} {a : V} : evStep Tryz.prog gt lf r 208 #[a] = inside (b_balerref09_Depths lf r a) := by 
  unfold b_balerref09_Depths
  simp only [kqA_balerref09_Depths, kqB_balerref09_Depths, lqA_balerref09_Depths, lqB_balerref09_Depths]
  kernel_rfl

def lpA_balerref09_May (lf : Nat) (r : RT) : Nat→((M V) × (V→M V))→V→V→V→V→V→V→V→M V
  | 0, _, _, _, _, _, _, _, _ => .fail
  | fu + 1, k, a, b, c, d, e, f, g => kls g f fun h => ifV h (kix e g fun i => kld i fun j => kls j b fun i => ifV i (k.2 bF) (kgr j c fun l => ifV l (k.2 bF) (kad g (ii
   1) fun i => lpA_balerref09_May lf r fu k a b c d e f i))) (k.1)
def sA_balerref09_May : List Nat := [0, 1, 2, 6, 9, 10, 11]
def kcA_balerref09_May (lf : Nat) (r : RT) : (M V) × (V→M V) := (outK [bT], fun a => outK [a])
def b_balerref09_May (lf : Nat) (r : RT) (a b c : V) : M V := kln a fun d => lpA_balerref09_May lf r lf (kcA_balerref09_May lf r) a b c bF a d (ii 0)
theorem lqA_balerref09_May {lf : Nat} {r : RT} (K : KT) : ∀ fu, lpA_balerref09_May lf r fu ((K (.exit 0) [], fun a => K .ret (zp [6] [a]))) = fun a b c d e f g => loopK
  (cQ 209 (pb 5 5) lf r) sA_balerref09_May fu (zp sA_balerref09_May [a, b, c, d, e, f, g]) K
  | 0 => by funext a b c d e f g; kernel_rfl
  | fu + 1 => by
    have ih := lqA_balerref09_May (lf := lf) (r := r) K fu
    funext a b c d e f g
    rw [lpA_balerref09_May]
    simp only [ih]
    kernel_rfl
theorem kqA_balerref09_May {lf : Nat} {r : RT} : kcA_balerref09_May lf r = (((tK 209 (pb 4 5) lf r) (.exit 0) [], fun a => (tK 209 (pb 4 5) lf r) .ret (zp [6] [a]))) := by kernel_rfl
theorem st_balerref09_May {lf : Nat} {r : RT} {a b c : V} : evStep Tryz.prog gt lf r 209 #[a, b, c] = inside (b_balerref09_May lf r a b c) := by 
  unfold b_balerref09_May
  simp only [kqA_balerref09_May, lqA_balerref09_May]
  kernel_rfl

def lpA_balerref09_Halved (lf : Nat) (r : RT) : Nat→(V→M V)→V→V→V→V→V→V→M V
  | 0, _, _, _, _, _, _, _ => .fail
  | fu + 1, k, a, b, c, d, e, f => kls f e fun g => ifV g (kix d f fun h => kld h fun i => kls i (ii 0) fun h => (fun l => ifV h (l (ii 0)) (l i)) fun i => kqu i (ii 2)
   fun j => kad j (ii 1) fun l => kb1 3 1 l fun m => kap 3 1 c m fun n => kad f (ii 1) fun c => lpA_balerref09_Halved lf r fu k a b n d e c) (k c)
def sA_balerref09_Halved : List Nat := [0, 2, 3, 6, 7, 8]
def kcA_balerref09_Halved (lf : Nat) (r : RT) : (V→M V) := fun a => outK [a]
def b_balerref09_Halved (lf : Nat) (r : RT) (a : V) : M V := kln a fun b => lpA_balerref09_Halved lf r lf (kcA_balerref09_Halved lf r) a nS nS a b (ii 0)
theorem lqA_balerref09_Halved {lf : Nat} {r : RT} (K : KT) : ∀ fu, lpA_balerref09_Halved lf r fu (fun a => K (.exit 0) (zp [3] [a])) = fun a b c d e f => loopK (cQ 210
  (pb 6 11) lf r) sA_balerref09_Halved fu (zp sA_balerref09_Halved [a, b, c, d, e, f]) K
  | 0 => by funext a b c d e f; kernel_rfl
  | fu + 1 => by
    have ih := lqA_balerref09_Halved (lf := lf) (r := r) K fu
    funext a b c d e f
    rw [lpA_balerref09_Halved]
    simp only [ih]
    kernel_rfl
theorem kqA_balerref09_Halved {lf : Nat} {r : RT} : kcA_balerref09_Halved lf r = (fun a => (tK 210 (pb 5 11) lf r) (.exit 0) (zp [3] [a])) := by kernel_rfl
theorem st_balerref09_Halved {lf : Nat} {r : RT} {a : V} : evStep Tryz.prog gt lf r 210 #[a] = inside (b_balerref09_Halved lf r a) := by 
  unfold b_balerref09_Halved
  simp only [kqA_balerref09_Halved, lqA_balerref09_Halved]
  kernel_rfl

def b_sorter_Sorter_above (lf : Nat) (r : RT) (a b c : V) : M V := kcl r 232 [a, b] fun d => kcl r 232 [a, c] fun e => kal 31 z31 fun f => kal 31 z31 fun g => ksg 2 f d
  fun _ => ksg 2 g e fun _ => kia 2 f (ii 0) fun d => kld d fun e => kia 2 g (ii 0) fun h => kld h fun i => kgr e i fun j => ifV j (outK [bT]) (kia 2 f (ii 0) fun l =>
  kld l fun m => kia 2 g (ii 0) fun n => kld n fun o => keq m o fun p => ifV p (kia 2 f (ii 1) fun q => kld q fun s => kia 2 g (ii 1) fun t => kld t fun u => kgr s u fun v => outK [v]) (outK [bF]))
theorem st_sorter_Sorter_above {lf : Nat} {r : RT} {a b c : V} : evStep Tryz.prog gt lf r 212 #[a, b, c] = inside (b_sorter_Sorter_above lf r a b c) := by kernel_rfl

def b_sorter_Sorter_pass (lf : Nat) (r : RT) (a : V) : M V := knn a fun b => kfa 2 b fun c => kld c fun d => knn a fun b => kfa 3 b fun c => kld c fun e => knn a fun f
  => kfa 2 f fun g => kst g e fun _ => knn a fun b => kfa 3 b fun c => kst c d fun _ => knn a fun b => kfa 12 b fun c => kst c (ii 0) fun _ => knn a fun b => kfa 13 b
  fun c => kld c fun e => knn a fun f => kfa 1 f fun g => kld g fun h => kln h fun i => ksb i (ii 1) fun j => keq e j fun l => ifV l (knn a fun b => kfa 15 b fun c =>
  kst c bT fun _ => outK []) (knn a fun m => kfa 4 m fun n => kld n fun o => knn a fun p => kfa 1 p fun q => kld q fun s => kln s fun t => kgq o t fun u => ifV u (knn a
  fun b => kfa 15 b fun c => kst c bT fun _ => outK []) (knn a fun b => kfa 4 b fun c => kld c fun e => kml (ii 2) e fun f => kma (ii 1) f fun g => knn a fun h => kfa 4
  h fun i => kst i g fun _ => knn a fun b => kfa 5 b fun c => kld c fun e => knn a fun f => kfa 1 f fun g => kld g fun h => kln h fun i => kbd z203 [(0, 1, (ii 0)), (2,
  1, i)] fun j => kb1 203 3 j fun l => kap 203 3 e l fun m => knn a fun n => kfa 5 n fun o => kst o m fun _ => outK []))
theorem st_sorter_Sorter_pass {lf : Nat} {r : RT} {a : V} : evStep Tryz.prog gt lf r 213 #[a] = inside (b_sorter_Sorter_pass lf r a) := by kernel_rfl

def lpA_tables_Number (lf : Nat) (r : RT) : Nat→(V→M V)→V→V→V→V→V→M V
  | 0, _, _, _, _, _, _ => .fail
  | fu + 1, k, a, b, c, d, e => kls e (ii 4) fun f => ifV f (kiv 4 d e fun g => kgq a g fun h => ifV h (kad c (ii 1) fun i => kad e (ii 1) fun c => lpA_tables_Number lf
   r fu k a b i d c) (kad e (ii 1) fun i => lpA_tables_Number lf r fu k a b c d i)) (k c)
def sA_tables_Number : List Nat := [0, 2, 3, 6, 7]
def kcA_tables_Number (lf : Nat) (r : RT) : (V→M V) := fun a => outK [a]
def b_tables_Number (lf : Nat) (r : RT) (a : V) : M V := klg 4 (Value.pointer (some ⟨1, 0, none⟩)) fun b => lpA_tables_Number lf r lf (kcA_tables_Number lf r) a (ii 0) (ii 2) b (ii 0)
theorem lqA_tables_Number {lf : Nat} {r : RT} (K : KT) : ∀ fu, lpA_tables_Number lf r fu (fun a => K (.exit 0) (zp [3] [a])) = fun a b c d e => loopK (cQ 214 (pb 6 11)
  lf r) sA_tables_Number fu (zp sA_tables_Number [a, b, c, d, e]) K
  | 0 => by funext a b c d e; kernel_rfl
  | fu + 1 => by
    have ih := lqA_tables_Number (lf := lf) (r := r) K fu
    funext a b c d e
    rw [lpA_tables_Number]
    simp only [ih]
    kernel_rfl
theorem kqA_tables_Number {lf : Nat} {r : RT} : kcA_tables_Number lf r = (fun a => (tK 214 (pb 5 11) lf r) (.exit 0) (zp [3] [a])) := by kernel_rfl
theorem st_tables_Number {lf : Nat} {r : RT} {a : V} : evStep Tryz.prog gt lf r 214 #[a] = inside (b_tables_Number lf r a) := by 
  unfold b_tables_Number
  simp only [kqA_tables_Number, lqA_tables_Number]
  kernel_rfl

def lpA_tables_pick (lf : Nat) (r : RT) : Nat→(V→M V)→V→V→V→V→V→V→V→V→M V
  | 0, _, _, _, _, _, _, _, _, _ => .fail
  | fu + 1, k, a, b, c, d, e, f, g, h => kls h g fun i => ifV i (kix f h fun j => kld j fun l => kcl r 169 [a, l] fun j => kex j 0 fun m => kex j 1 fun n => kls m e fun
   j => ifV j (kad h (ii 1) fun d => lpA_tables_pick lf r fu k a b c h m f g d) (kad h (ii 1) fun n => lpA_tables_pick lf r fu k a b c d e f g n)) (k d)
def sA_tables_pick : List Nat := [0, 1, 4, 5, 6, 11, 12, 13]
def kcA_tables_pick (lf : Nat) (r : RT) : (V→M V) := fun a => outK [a]
def b_tables_pick (lf : Nat) (r : RT) (a b : V) : M V := kln b fun c => lpA_tables_pick lf r lf (kcA_tables_pick lf r) a b (ii 0) (ii 0) (ii 1099511627776) b c (ii 0)
theorem lqA_tables_pick {lf : Nat} {r : RT} (K : KT) : ∀ fu, lpA_tables_pick lf r fu (fun a => K (.exit 0) (zp [5] [a])) = fun a b c d e f g h => loopK (cQ 215 (pb 6 11)
  lf r) sA_tables_pick fu (zp sA_tables_pick [a, b, c, d, e, f, g, h]) K
  | 0 => by funext a b c d e f g h; kernel_rfl
  | fu + 1 => by
    have ih := lqA_tables_pick (lf := lf) (r := r) K fu
    funext a b c d e f g h
    rw [lpA_tables_pick]
    simp only [ih]
    kernel_rfl
theorem kqA_tables_pick {lf : Nat} {r : RT} : kcA_tables_pick lf r = (fun a => (tK 215 (pb 5 11) lf r) (.exit 0) (zp [5] [a])) := by kernel_rfl
theorem st_tables_pick {lf : Nat} {r : RT} {a b : V} : evStep Tryz.prog gt lf r 215 #[a, b] = inside (b_tables_pick lf r a b) := by 
  unfold b_tables_pick
  simp only [kqA_tables_pick, lqA_tables_pick]
  kernel_rfl

def lpA_freq_Add (lf : Nat) (r : RT) : Nat→(V→M V)→V→V→V→V→V→V→V→V→M V
  | 0, _, _, _, _, _, _, _, _, _ => .fail
  | fu + 1, k, a, b, c, d, e, f, g, h => kls h g fun i => ifV i (kix a h fun j => kld j fun l => kix b h fun m => kld m fun n => kcl r 202 [l, n] fun o => kix e h fun p
   => kst p o fun _ => kad h (ii 1) fun j => lpA_freq_Add lf r fu k a b c d e f g j) (k e)
def sA_freq_Add : List Nat := [0, 1, 4, 5, 6, 22, 27, 28]
def kcA_freq_Add (lf : Nat) (r : RT) : (V→M V) := fun a => outK [a, (ii 0)]
def b_freq_Add (lf : Nat) (r : RT) (a b : V) : M V := kln a fun c => kln b fun d => kne c d fun e => ifV e (outK [nS, (ii 1)]) (kcl r 201 [a] fun f => knt f fun g => ifV
  g (outK [nS, (ii 1)]) (kcl r 201 [b] fun h => knt h fun i => ifV i (outK [nS, (ii 1)]) (kln a fun c => kmk 3 [(ii 0)] c c fun d => kln d fun c => lpA_freq_Add lf r lf
  (kcA_freq_Add lf r) a b nS (ii 0) d i c (ii 0))))
theorem lqA_freq_Add {lf : Nat} {r : RT} (K : KT) : ∀ fu, lpA_freq_Add lf r fu (fun a => K (.exit 0) (zp [6] [a])) = fun a b c d e f g h => loopK (cQ 216 (pb 7 23) lf r)
  sA_freq_Add fu (zp sA_freq_Add [a, b, c, d, e, f, g, h]) K
  | 0 => by funext a b c d e f g h; kernel_rfl
  | fu + 1 => by
    have ih := lqA_freq_Add (lf := lf) (r := r) K fu
    funext a b c d e f g h
    rw [lpA_freq_Add]
    simp only [ih]
    kernel_rfl
theorem kqA_freq_Add {lf : Nat} {r : RT} : kcA_freq_Add lf r = (fun a => (tK 216 (pb 6 23) lf r) (.exit 0) (zp [6] [a])) := by kernel_rfl
theorem st_freq_Add {lf : Nat} {r : RT} {a b : V} : evStep Tryz.prog gt lf r 216 #[a, b] = inside (b_freq_Add lf r a b) := by 
  unfold b_freq_Add
  simp only [kqA_freq_Add, lqA_freq_Add]
  kernel_rfl

def lpA_lens_Of (lf : Nat) (r : RT) : Nat→(V→V→V→V→V→V→V→V→V→M V)→V→V→V→V→V→V→V→V→M V
  | 0, _, _, _, _, _, _, _, _, _ => .fail
  | fu + 1, k, a, b, c, d, e, f, g, h => kls h g fun i => ifV i (kix f h fun j => kld j fun l => kma l (ii 1) fun j => kix d h fun m => kst m j fun _ => kad h (ii 1) fun
   j => lpA_lens_Of lf r fu k a b c d e f g j) (k a b c d e f g h i)
def sA_lens_Of : List Nat := [0, 2, 3, 4, 20, 24, 25, 26]
def lpB_lens_Of (lf : Nat) (r : RT) : Nat→(V→V→M V)→V→V→V→V→V→V→V→V→V→M V
  | 0, _, _, _, _, _, _, _, _, _, _ => .fail
  | fu + 1, k, a, b, c, d, e, f, g, h, i => kcl r 233 [d] fun j => kcl r 234 [j] fun l => klq l (ii 20) fun m => ifV m (kcl r 156 [j] fun l => k l (ii 0)) (kcl r 235 [d]
   fun l => lpB_lens_Of lf r fu k a b c l e f g h i)
def sB_lens_Of : List Nat := [0, 2, 3, 4, 20, 24, 25, 26, 27]
def kcB_lens_Of (lf : Nat) (r : RT) : (V→V→M V) := fun a b => outK [a, b]
def kcA_lens_Of (lf : Nat) (r : RT) : (V→V→V→V→V→V→V→V→V→M V) := fun a b c d e f g h i => lpB_lens_Of lf r lf (kcB_lens_Of lf r) a b c d e f g h i
def b_lens_Of (lf : Nat) (r : RT) (a : V) : M V := kln a fun b => kls b (ii 3) fun c => ifV c (outK [nS, (ii 1)]) (kln a fun d => kgr d (ii 258) fun e => ifV e (outK
  [nS, (ii 1)]) (kcl r 222 [a, (ii 0), (ii 1099511627776)] fun f => knt f fun g => ifV g (outK [nS, (ii 1)]) (kln a fun b => kmk 3 [(ii 0)] b b fun c => kln a fun b =>
  lpA_lens_Of lf r lf (kcA_lens_Of lf r) a nS (ii 0) c g a b (ii 0))))
theorem lqA_lens_Of {lf : Nat} {r : RT} (K : KT) : ∀ fu, lpA_lens_Of lf r fu (fun a b c d e f g h i => K (.exit 0) (zp [0, 2, 3, 4, 20, 24, 25, 26, 27] [a, b, c, d, e,
  f, g, h, i])) = fun a b c d e f g h => loopK (cQ 217 (pb 7 23) lf r) sA_lens_Of fu (zp sA_lens_Of [a, b, c, d, e, f, g, h]) K
  | 0 => by funext a b c d e f g h; kernel_rfl
  | fu + 1 => by
    have ih := lqA_lens_Of (lf := lf) (r := r) K fu
    funext a b c d e f g h
    rw [lpA_lens_Of]
    simp only [ih]
    kernel_rfl
theorem lqB_lens_Of {lf : Nat} {r : RT} (K : KT) : ∀ fu, lpB_lens_Of lf r fu (fun a b => K .ret (zp [2, 3] [a, b])) = fun a b c d e f g h i => loopK (cQ 217 (pb 6 15) lf
  r) sB_lens_Of fu (zp sB_lens_Of [a, b, c, d, e, f, g, h, i]) K
  | 0 => by funext a b c d e f g h i; kernel_rfl
  | fu + 1 => by
    have ih := lqB_lens_Of (lf := lf) (r := r) K fu
    funext a b c d e f g h i
    rw [lpB_lens_Of]
    simp only [ih]
    kernel_rfl
theorem kqB_lens_Of {lf : Nat} {r : RT} : kcB_lens_Of lf r = (fun a b => (tK 217 (pb 5 15) lf r) .ret (zp [2, 3] [a, b])) := by kernel_rfl
theorem kqA_lens_Of {lf : Nat} {r : RT} : kcA_lens_Of lf r = (fun a b c d e f g h i => (tK 217 (pb 6 23) lf r) (.exit 0) (zp [0, 2, 3, 4, 20, 24, 25, 26, 27] [a, b, c, d, e, f, g, h, i])) := by 
  unfold kcA_lens_Of
  simp only [kqB_lens_Of, lqB_lens_Of]
  kernel_rfl
theorem st_lens_Of {lf : Nat} {r : RT} {a : V} : evStep Tryz.prog gt lf r 217 #[a] = inside (b_lens_Of lf r a) := by 
  unfold b_lens_Of
  simp only [kqA_lens_Of, kqB_lens_Of, lqA_lens_Of, lqB_lens_Of]
  kernel_rfl

def lpA_slices_IndexFunc_int_int (lf : Nat) (r : RT) : Nat→((M V) × (V→M V))→V→V→V→V→V→M V
  | 0, _, _, _, _, _, _ => .fail
  | fu + 1, k, a, b, c, d, e => kls e d fun f => ifV f (kix a e fun g => kld g fun h => callV Tryz.prog r b [h] fun i => ifV i (k.2 e) (kad e (ii 1) fun g =>
   lpA_slices_IndexFunc_int_int lf r fu k a b c d g)) (k.1)
def sA_slices_IndexFunc_int_int : List Nat := [0, 1, 4, 7, 8]
def kcA_slices_IndexFunc_int_int (lf : Nat) (r : RT) : (M V) × (V→M V) := (outK [(ii (-1))], fun a => outK [a])
def b_slices_IndexFunc_int_int (lf : Nat) (r : RT) (a b : V) : M V := kln a fun c => lpA_slices_IndexFunc_int_int lf r lf (kcA_slices_IndexFunc_int_int lf r) a b (ii 0) c (ii 0)
theorem lqA_slices_IndexFunc_int_int {lf : Nat} {r : RT} (K : KT) : ∀ fu, lpA_slices_IndexFunc_int_int lf r fu ((K (.exit 0) [], fun a => K .ret (zp [4] [a]))) = fun a b
  c d e => loopK (cQ 218 (pb 5 5) lf r) sA_slices_IndexFunc_int_int fu (zp sA_slices_IndexFunc_int_int [a, b, c, d, e]) K
  | 0 => by funext a b c d e; kernel_rfl
  | fu + 1 => by
    have ih := lqA_slices_IndexFunc_int_int (lf := lf) (r := r) K fu
    funext a b c d e
    rw [lpA_slices_IndexFunc_int_int]
    simp only [ih]
    kernel_rfl
theorem kqA_slices_IndexFunc_int_int {lf : Nat} {r : RT} : kcA_slices_IndexFunc_int_int lf r = (((tK 218 (pb 4 5) lf r) (.exit 0) [], fun a => (tK 218 (pb 4 5) lf r) .ret (zp [4] [a]))) := by kernel_rfl
theorem st_slices_IndexFunc_int_int {lf : Nat} {r : RT} {a b : V} : evStep Tryz.prog gt lf r 218 #[a, b] = inside (b_slices_IndexFunc_int_int lf r a b) := by 
  unfold b_slices_IndexFunc_int_int
  simp only [kqA_slices_IndexFunc_int_int, lqA_slices_IndexFunc_int_int]
  kernel_rfl

def lpA_picks_order_touch (lf : Nat) (r : RT) : Nat→(V→V→M V)→V→V→V→V→V→M V
  | 0, _, _, _, _, _, _ => .fail
  | fu + 1, k, a, b, c, d, e => kgr e (ii 0) fun f => ifV f (ksb e (ii 1) fun g => knn a fun h => kia 6 h g fun i => kld i fun j => knn a fun l => kia 6 l e fun m => kst
   m j fun _ => ksb e (ii 1) fun g => lpA_picks_order_touch lf r fu k a b c d g) (k a d)
def sA_picks_order_touch : List Nat := [0, 1, 4, 5, 6]
def kcA_picks_order_touch (lf : Nat) (r : RT) : (V→V→M V) := fun a b => knn a fun c => kia 6 c (ii 0) fun d => kst d b fun _ => outK [b]
def b_picks_order_touch (lf : Nat) (r : RT) (a b : V) : M V := knn a fun c => kia 6 c b fun d => kld d fun e => lpA_picks_order_touch lf r lf (kcA_picks_order_touch lf r) a b (ii 0) e b
theorem lqA_picks_order_touch {lf : Nat} {r : RT} (K : KT) : ∀ fu, lpA_picks_order_touch lf r fu (fun a b => K (.exit 0) (zp [0, 5] [a, b])) = fun a b c d e => loopK (cQ
  219 (pb 6 11) lf r) sA_picks_order_touch fu (zp sA_picks_order_touch [a, b, c, d, e]) K
  | 0 => by funext a b c d e; kernel_rfl
  | fu + 1 => by
    have ih := lqA_picks_order_touch (lf := lf) (r := r) K fu
    funext a b c d e
    rw [lpA_picks_order_touch]
    simp only [ih]
    kernel_rfl
theorem kqA_picks_order_touch {lf : Nat} {r : RT} : kcA_picks_order_touch lf r = (fun a b => (tK 219 (pb 5 11) lf r) (.exit 0) (zp [0, 5] [a, b])) := by kernel_rfl
theorem st_picks_order_touch {lf : Nat} {r : RT} {a b : V} : evStep Tryz.prog gt lf r 219 #[a, b] = inside (b_picks_order_touch lf r a b) := by 
  unfold b_picks_order_touch
  simp only [kqA_picks_order_touch, lqA_picks_order_touch]
  kernel_rfl

def b_freq_all_1 (lf : Nat) (r : RT) (a : V) : M V := kcl r 221 [a] fun b => knt b fun c => outK [c]
theorem st_freq_all_1 {lf : Nat} {r : RT} {a : V} : evStep Tryz.prog gt lf r 220 #[a] = inside (b_freq_all_1 lf r a) := by kernel_rfl

def b_freq_may (lf : Nat) (r : RT) (a : V) : M V := kgq a (ii 0) fun b => ifV b (klq a (ii 1099511627776) fun c => outK [c]) (outK [bF])
theorem st_freq_may {lf : Nat} {r : RT} {a : V} : evStep Tryz.prog gt lf r 221 #[a] = inside (b_freq_may lf r a) := by kernel_rfl

def b_lens_between (lf : Nat) (r : RT) (a b c : V) : M V := kbx 3 b fun d => kbx 3 c fun e => kcl r 193 [a, (Value.func (Go.Fn.func 236) #[] #[d, e])] fun f => knt f fun g => outK [g]
theorem st_lens_between {lf : Nat} {r : RT} {a b c : V} : evStep Tryz.prog gt lf r 222 #[a, b, c] = inside (b_lens_between lf r a b c) := by kernel_rfl

def b_balerref08_most (lf : Nat) (r : RT) (a : V) : M V := kgr a (ii 1099511627776) fun b => ifV b (outK [(ii 1099511627776)]) (outK [a])
theorem st_balerref08_most {lf : Nat} {r : RT} {a : V} : evStep Tryz.prog gt lf r 223 #[a] = inside (b_balerref08_most lf r a) := by kernel_rfl

def lpA_balerref09_least (lf : Nat) (r : RT) : Nat→(V→M V)→V→V→V→V→V→V→M V
  | 0, _, _, _, _, _, _, _ => .fail
  | fu + 1, k, a, b, c, d, e, f => kls f e fun g => ifV g (kiy 3 d f fun h => klg 3 h fun i => kal 250 z250 fun j => ksg 3 j i fun _ => klg 3 j fun h => kiy 3 a c fun i
   => klg 3 i fun l => kcl r 237 [h, l] fun m => ifV m (kad f (ii 1) fun c => lpA_balerref09_least lf r fu k a b f d e c) (kad f (ii 1) fun h => lpA_balerref09_least lf r fu k a b c d e h)) (k c)
def sA_balerref09_least : List Nat := [0, 2, 3, 6, 7, 8]
def kcA_balerref09_least (lf : Nat) (r : RT) : (V→M V) := fun a => outK [a]
def b_balerref09_least (lf : Nat) (r : RT) (a : V) : M V := kln a fun b => lpA_balerref09_least lf r lf (kcA_balerref09_least lf r) a (ii 0) (ii 0) a b (ii 0)
theorem lqA_balerref09_least {lf : Nat} {r : RT} (K : KT) : ∀ fu, lpA_balerref09_least lf r fu (fun a => K (.exit 0) (zp [3] [a])) = fun a b c d e f => loopK (cQ 224 (pb
  6 11) lf r) sA_balerref09_least fu (zp sA_balerref09_least [a, b, c, d, e, f]) K
  | 0 => by funext a b c d e f; kernel_rfl
  | fu + 1 => by
    have ih := lqA_balerref09_least (lf := lf) (r := r) K fu
    funext a b c d e f
    rw [lpA_balerref09_least]
    simp only [ih]
    kernel_rfl
theorem kqA_balerref09_least {lf : Nat} {r : RT} : kcA_balerref09_least lf r = (fun a => (tK 224 (pb 5 11) lf r) (.exit 0) (zp [3] [a])) := by kernel_rfl
theorem st_balerref09_least {lf : Nat} {r : RT} {a : V} : evStep Tryz.prog gt lf r 224 #[a] = inside (b_balerref09_least lf r a) := by 
  unfold b_balerref09_least
  simp only [kqA_balerref09_least, lqA_balerref09_least]
  kernel_rfl

def lpA_balerref09_without (lf : Nat) (r : RT) : Nat→(V→M V)→V→V→V→V→V→V→V→M V
  | 0, _, _, _, _, _, _, _, _ => .fail
  | fu + 1, k, a, b, c, d, e, f, g => kls g f fun h => ifV h (kiy 3 e g fun i => klg 3 i fun j => kal 250 z250 fun l => ksg 3 l j fun _ => kne g b fun i => ifV i (klg 3
   l fun j => kb1 250 3 j fun m => kap 250 3 d m fun n => kad g (ii 1) fun d => lpA_balerref09_without lf r fu k a b c n e f d) (kad g (ii 1) fun j => lpA_balerref09_without lf r fu k a b c d e f j)) (k d)
def sA_balerref09_without : List Nat := [0, 1, 4, 5, 8, 9, 10]
def kcA_balerref09_without (lf : Nat) (r : RT) : (V→M V) := fun a => outK [a]
def b_balerref09_without (lf : Nat) (r : RT) (a b : V) : M V := kln a fun c => lpA_balerref09_without lf r lf (kcA_balerref09_without lf r) a b nS nS a c (ii 0)
theorem lqA_balerref09_without {lf : Nat} {r : RT} (K : KT) : ∀ fu, lpA_balerref09_without lf r fu (fun a => K (.exit 0) (zp [5] [a])) = fun a b c d e f g => loopK (cQ
  225 (pb 6 11) lf r) sA_balerref09_without fu (zp sA_balerref09_without [a, b, c, d, e, f, g]) K
  | 0 => by funext a b c d e f g; kernel_rfl
  | fu + 1 => by
    have ih := lqA_balerref09_without (lf := lf) (r := r) K fu
    funext a b c d e f g
    rw [lpA_balerref09_without]
    simp only [ih]
    kernel_rfl
theorem kqA_balerref09_without {lf : Nat} {r : RT} : kcA_balerref09_without lf r = (fun a => (tK 225 (pb 5 11) lf r) (.exit 0) (zp [5] [a])) := by kernel_rfl
theorem st_balerref09_without {lf : Nat} {r : RT} {a b : V} : evStep Tryz.prog gt lf r 225 #[a, b] = inside (b_balerref09_without lf r a b) := by 
  unfold b_balerref09_without
  simp only [kqA_balerref09_without, lqA_balerref09_without]
  kernel_rfl

def b_sorter_Sorter_key (lf : Nat) (r : RT) (a b : V) : M V := kal 31 z31 fun c => knn a fun d => kfa 4 d fun e => kld e fun f => keq f (ii 0) fun g => ifV g (knn a fun
  d => kfa 0 d fun e => kld e fun f => kit f b fun h => kcv .i64 h fun i => kbd z31 [(0, 1, i), (1, 1, (ii 0))] fun j => ksg 2 c j fun _ => klg 2 c fun a => outK [a])
  (knn a fun d => kfa 2 d fun e => kld e fun f => kix f b fun h => kld h fun i => knn a fun j => kfa 2 j fun l => kld l fun m => knn a fun n => kfa 4 n fun o => kld o
  fun p => kad b p fun q => knn a fun s => kfa 0 s fun t => kld t fun u => klx u fun v => krm q v fun w => kix m w fun x => kld x fun y => kbd z31 [(0, 1, i), (1, 1, y)]
  fun z => ksg 2 c z fun _ => klg 2 c fun a => outK [a])
theorem st_sorter_Sorter_key {lf : Nat} {r : RT} {a b : V} : evStep Tryz.prog gt lf r 232 #[a, b] = inside (b_sorter_Sorter_key lf r a b) := by kernel_rfl

def lpA_lens_depths (lf : Nat) (r : RT) : Nat→(V→V→V→V→V→V→M V)→V→V→V→V→V→M V
  | 0, _, _, _, _, _, _ => .fail
  | fu + 1, k, a, b, c, d, e => kls e d fun f => ifV f (kcl r 244 [c] fun g => kcl r 244 [c] fun h => kcl r 245 [c, g, h] fun i => kad e (ii 1) fun h => lpA_lens_depths lf r fu k a b c d h) (k a b c d e f)
def sA_lens_depths : List Nat := [0, 2, 3, 11, 12]
def lpB_lens_depths (lf : Nat) (r : RT) : Nat→(V→V→M V)→V→V→V→V→V→V→V→V→M V
  | 0, _, _, _, _, _, _, _, _, _ => .fail
  | fu + 1, k, a, b, c, d, e, f, g, h => kgq e (ii 0) fun i => ifV i (knn c fun j => kfa 1 j fun l => kld l fun m => kix m e fun n => kld n fun o => kix d o fun p => kld
   p fun q => kad q (ii 1) fun s => kix d e fun t => kst t s fun _ => ksb e (ii 1) fun j => lpB_lens_depths lf r fu k a b c d j f g h) (k a d)
def sB_lens_depths : List Nat := [0, 2, 3, 5, 6, 11, 12, 13]
def kcB_lens_depths (lf : Nat) (r : RT) : (V→V→M V) := fun a b => kln a fun c => ksc 3 1 b none (some c) fun d => outK [d]
def kcA_lens_depths (lf : Nat) (r : RT) : (V→V→V→V→V→V→M V) := fun a b c d e f => knn c fun g => kfa 0 g fun h => kld h fun i => kln i fun j => kmk 3 [(ii 0)] j j fun l
  => kln l fun g => ksb g (ii 2) fun h => lpB_lens_depths lf r lf (kcB_lens_depths lf r) a b c l h d e f
def b_lens_depths (lf : Nat) (r : RT) (a : V) : M V := kcl r 243 [a] fun b => kln a fun c => ksb c (ii 1) fun d => lpA_lens_depths lf r lf (kcA_lens_depths lf r) a nS b d (ii 0)
theorem lqA_lens_depths {lf : Nat} {r : RT} (K : KT) : ∀ fu, lpA_lens_depths lf r fu (fun a b c d e f => K (.exit 0) (zp [0, 2, 3, 11, 12, 13] [a, b, c, d, e, f])) = fun
  a b c d e => loopK (cQ 233 (pb 6 11) lf r) sA_lens_depths fu (zp sA_lens_depths [a, b, c, d, e]) K
  | 0 => by funext a b c d e; kernel_rfl
  | fu + 1 => by
    have ih := lqA_lens_depths (lf := lf) (r := r) K fu
    funext a b c d e
    rw [lpA_lens_depths]
    simp only [ih]
    kernel_rfl
theorem lqB_lens_depths {lf : Nat} {r : RT} (K : KT) : ∀ fu, lpB_lens_depths lf r fu (fun a b => K (.exit 2) (zp [0, 5] [a, b])) = fun a b c d e f g h => loopK (cQ 233
  (pb 8 47) lf r) sB_lens_depths fu (zp sB_lens_depths [a, b, c, d, e, f, g, h]) K
  | 0 => by funext a b c d e f g h; kernel_rfl
  | fu + 1 => by
    have ih := lqB_lens_depths (lf := lf) (r := r) K fu
    funext a b c d e f g h
    rw [lpB_lens_depths]
    simp only [ih]
    kernel_rfl
theorem kqB_lens_depths {lf : Nat} {r : RT} : kcB_lens_depths lf r = (fun a b => (tK 233 (pb 7 47) lf r) (.exit 2) (zp [0, 5] [a, b])) := by kernel_rfl
theorem kqA_lens_depths {lf : Nat} {r : RT} : kcA_lens_depths lf r = (fun a b c d e f => (tK 233 (pb 5 11) lf r) (.exit 0) (zp [0, 2, 3, 11, 12, 13] [a, b, c, d, e, f])) := by 
  unfold kcA_lens_depths
  simp only [kqB_lens_depths, lqB_lens_depths]
  kernel_rfl
theorem st_lens_depths {lf : Nat} {r : RT} {a : V} : evStep Tryz.prog gt lf r 233 #[a] = inside (b_lens_depths lf r a) := by 
  unfold b_lens_depths
  simp only [kqA_lens_depths, kqB_lens_depths, lqA_lens_depths, lqB_lens_depths]
  kernel_rfl

def lpA_lens_Longest (lf : Nat) (r : RT) : Nat→(V→M V)→V→V→V→V→V→V→M V
  | 0, _, _, _, _, _, _, _ => .fail
  | fu + 1, k, a, b, c, d, e, f => kls f e fun g => ifV g (kix d f fun h => kld h fun i => kma c i fun h => kad f (ii 1) fun c => lpA_lens_Longest lf r fu k a b h d e c) (k c)
def sA_lens_Longest : List Nat := [0, 2, 3, 6, 7, 8]
def kcA_lens_Longest (lf : Nat) (r : RT) : (V→M V) := fun a => outK [a]
def b_lens_Longest (lf : Nat) (r : RT) (a : V) : M V := kln a fun b => lpA_lens_Longest lf r lf (kcA_lens_Longest lf r) a (ii 0) (ii 0) a b (ii 0)
theorem lqA_lens_Longest {lf : Nat} {r : RT} (K : KT) : ∀ fu, lpA_lens_Longest lf r fu (fun a => K (.exit 0) (zp [3] [a])) = fun a b c d e f => loopK (cQ 234 (pb 6 11)
  lf r) sA_lens_Longest fu (zp sA_lens_Longest [a, b, c, d, e, f]) K
  | 0 => by funext a b c d e f; kernel_rfl
  | fu + 1 => by
    have ih := lqA_lens_Longest (lf := lf) (r := r) K fu
    funext a b c d e f
    rw [lpA_lens_Longest]
    simp only [ih]
    kernel_rfl
theorem kqA_lens_Longest {lf : Nat} {r : RT} : kcA_lens_Longest lf r = (fun a => (tK 234 (pb 5 11) lf r) (.exit 0) (zp [3] [a])) := by kernel_rfl
theorem st_lens_Longest {lf : Nat} {r : RT} {a : V} : evStep Tryz.prog gt lf r 234 #[a] = inside (b_lens_Longest lf r a) := by 
  unfold b_lens_Longest
  simp only [kqA_lens_Longest, lqA_lens_Longest]
  kernel_rfl

def lpA_lens_Halved (lf : Nat) (r : RT) : Nat→(V→M V)→V→V→V→V→V→V→M V
  | 0, _, _, _, _, _, _, _ => .fail
  | fu + 1, k, a, b, c, d, e, f => kls f e fun g => ifV g (kix d f fun h => kld h fun i => kma i (ii 0) fun h => kqu h (ii 2) fun j => kad j (ii 1) fun l => kix c f fun
   m => kst m l fun _ => kad f (ii 1) fun h => lpA_lens_Halved lf r fu k a b c d e h) (k c)
def sA_lens_Halved : List Nat := [0, 2, 3, 9, 10, 11]
def kcA_lens_Halved (lf : Nat) (r : RT) : (V→M V) := fun a => outK [a]
def b_lens_Halved (lf : Nat) (r : RT) (a : V) : M V := kln a fun b => kmk 3 [(ii 0)] b b fun c => kln a fun b => lpA_lens_Halved lf r lf (kcA_lens_Halved lf r) a nS c a b (ii 0)
theorem lqA_lens_Halved {lf : Nat} {r : RT} (K : KT) : ∀ fu, lpA_lens_Halved lf r fu (fun a => K (.exit 0) (zp [3] [a])) = fun a b c d e f => loopK (cQ 235 (pb 6 11) lf
  r) sA_lens_Halved fu (zp sA_lens_Halved [a, b, c, d, e, f]) K
  | 0 => by funext a b c d e f; kernel_rfl
  | fu + 1 => by
    have ih := lqA_lens_Halved (lf := lf) (r := r) K fu
    funext a b c d e f
    rw [lpA_lens_Halved]
    simp only [ih]
    kernel_rfl
theorem kqA_lens_Halved {lf : Nat} {r : RT} : kcA_lens_Halved lf r = (fun a => (tK 235 (pb 5 11) lf r) (.exit 0) (zp [3] [a])) := by kernel_rfl
theorem st_lens_Halved {lf : Nat} {r : RT} {a : V} : evStep Tryz.prog gt lf r 235 #[a] = inside (b_lens_Halved lf r a) := by 
  unfold b_lens_Halved
  simp only [kqA_lens_Halved, lqA_lens_Halved]
  kernel_rfl

def b_lens_between_1 (lf : Nat) (r : RT) (a b c : V) : M V := kld b fun d => kls a d fun e => ifV e (outK [bT]) (kld c fun f => kgr a f fun g => outK [g])
theorem st_lens_between_1 {lf : Nat} {r : RT} {a b c : V} : evStep Tryz.prog gt lf r 236 #[a, b, c] = inside (b_lens_between_1 lf r a b c) := by kernel_rfl

def b_balerref09_less (lf : Nat) (r : RT) (a b : V) : M V := kbx 250 a fun c => kbx 250 b fun d => kfa 0 c fun e => kld e fun f => kfa 0 d fun g => kld g fun h => kls f
  h fun i => ifV i (outK [bT]) (kfa 0 c fun j => kld j fun l => kfa 0 d fun m => kld m fun n => keq l n fun o => ifV o (kfa 1 c fun p => kld p fun q => kfa 1 d fun s =>
  kld s fun t => kls q t fun u => outK [u]) (outK [bF]))
theorem st_balerref09_less {lf : Nat} {r : RT} {a b : V} : evStep Tryz.prog gt lf r 237 #[a, b] = inside (b_balerref09_less lf r a b) := by kernel_rfl

def lpA_lens_treesOf (lf : Nat) (r : RT) : Nat→(V→V→M V)→V→V→V→V→V→V→M V
  | 0, _, _, _, _, _, _, _ => .fail
  | fu + 1, k, a, b, c, d, e, f => kls f e fun g => ifV g (knn d fun h => kfa 2 h fun i => kld i fun j => kb1 3 1 f fun l => kap 3 1 j l fun m => knn d fun n => kfa 2 n
   fun o => kst o m fun _ => knn d fun h => kfa 1 h fun i => kld i fun j => kb1 3 1 (ii (-1)) fun l => kap 3 1 j l fun m => knn d fun n => kfa 1 n fun o => kst o m fun _
   => kad f (ii 1) fun h => lpA_lens_treesOf lf r fu k a b c d e h) (k b d)
def sA_lens_treesOf : List Nat := [0, 1, 2, 3, 12, 13]
def kcA_lens_treesOf (lf : Nat) (r : RT) : (V→V→M V) := fun a b => knn b fun c => kfa 2 c fun d => kld d fun e => kcl r 248 [e, (Value.func (Go.Fn.func 249) #[] #[a])] fun f => outK [b]
def b_lens_treesOf (lf : Nat) (r : RT) (a : V) : M V := kbx 141 a fun b => (timed (kld b M.ret)).bind fun c => (timed (kcl r 156 [c.1] M.ret)).bind fun d => (timed (kld
  b M.ret)).bind fun e => kln e.1 fun f => kbd z276 [(0, 1, d.1), (3, 1, f)] fun g => (timed (kbx 276 g M.ret)).bind fun h => chkT ((!(clash3 d.2 e.2) && true) && true)
  (kld b fun c => kln c fun d => lpA_lens_treesOf lf r lf (kcA_lens_treesOf lf r) a b nP h.1 d (ii 0))
theorem lqA_lens_treesOf {lf : Nat} {r : RT} (K : KT) : ∀ fu, lpA_lens_treesOf lf r fu (fun a b => K (.exit 0) (zp [1, 3] [a, b])) = fun a b c d e f => loopK (cQ 243 (pb
  6 11) lf r) sA_lens_treesOf fu (zp sA_lens_treesOf [a, b, c, d, e, f]) K
  | 0 => by funext a b c d e f; kernel_rfl
  | fu + 1 => by
    have ih := lqA_lens_treesOf (lf := lf) (r := r) K fu
    funext a b c d e f
    rw [lpA_lens_treesOf]
    simp only [ih]
    kernel_rfl
theorem kqA_lens_treesOf {lf : Nat} {r : RT} : kcA_lens_treesOf lf r = (fun a b => (tK 243 (pb 5 11) lf r) (.exit 0) (zp [1, 3] [a, b])) := by kernel_rfl
theorem st_lens_treesOf {lf : Nat} {r : RT} {a : V} : evStep Tryz.prog gt lf r 243 #[a] = inside (b_lens_treesOf lf r a) := by 
  unfold b_lens_treesOf
  simp only [kqA_lens_treesOf, lqA_lens_treesOf]
  kernel_rfl

def b_lens_trees_least (lf : Nat) (r : RT) (a : V) : M V := knn a fun b => kfa 3 b fun c => kld c fun d => knn a fun e => kfa 0 e fun f => kld f fun g => kln g fun h =>
  keq d h fun i => ifV i (knn a fun b => kfa 2 b fun c => kld c fun d => kix d (ii 0) fun e => kld e fun f => knn a fun b => kfa 2 b fun c => kld c fun d => ksc 3 1 d
  (some (ii 1)) none fun e => knn a fun g => kfa 2 g fun h => kst h e fun _ => outK [f]) (knn a fun j => kfa 2 j fun l => kld l fun m => kln m fun n => kgr n (ii 0) fun
  o => ifV o (knn a fun p => kfa 0 p fun q => kld q fun s => knn a fun t => kfa 2 t fun u => kld u fun v => kix v (ii 0) fun w => kld w fun x => kix s x fun y => kld y
  fun z => knn a fun A => kfa 0 A fun B => kld B fun C => knn a fun D => kfa 3 D fun E => kld E fun G => kix C G fun J => kld J fun L => klq z L fun N => ifV N (knn a
  fun b => kfa 2 b fun c => kld c fun d => kix d (ii 0) fun e => kld e fun f => knn a fun b => kfa 2 b fun c => kld c fun d => ksc 3 1 d (some (ii 1)) none fun e => knn
  a fun g => kfa 2 g fun h => kst h e fun _ => outK [f]) (knn a fun b => kfa 3 b fun c => kld c fun d => kad d (ii 1) fun e => knn a fun f => kfa 3 f fun g => kst g e
  fun _ => knn a fun b => kfa 3 b fun c => kld c fun d => ksb d (ii 1) fun e => outK [e])) (knn a fun b => kfa 3 b fun c => kld c fun d => kad d (ii 1) fun e => knn a
  fun f => kfa 3 f fun g => kst g e fun _ => knn a fun b => kfa 3 b fun c => kld c fun d => ksb d (ii 1) fun e => outK [e]))
theorem st_lens_trees_least {lf : Nat} {r : RT} {a : V} : evStep Tryz.prog gt lf r 244 #[a] = inside (b_lens_trees_least lf r a) := by kernel_rfl

def b_lens_trees_join (lf : Nat) (r : RT) (a b c : V) : M V := knn a fun d => kfa 1 d fun e => kld e fun f => knn a fun g => kfa 0 g fun h => kld h fun i => kln i fun j
  => kix f b fun l => kst l j fun _ => knn a fun d => kfa 1 d fun e => kld e fun f => knn a fun g => kfa 0 g fun h => kld h fun i => kln i fun j => kix f c fun l => kst
  l j fun _ => knn a fun d => kfa 0 d fun e => kld e fun f => knn a fun g => kfa 0 g fun h => kld h fun i => kix i b fun j => kld j fun l => knn a fun m => kfa 0 m fun n
  => kld n fun o => kix o c fun p => kld p fun q => kad l q fun s => kb1 3 1 s fun t => kap 3 1 f t fun u => knn a fun v => kfa 0 v fun w => kst w u fun _ => knn a fun d
  => kfa 1 d fun e => kld e fun f => kb1 3 1 (ii (-1)) fun g => kap 3 1 f g fun h => knn a fun i => kfa 1 i fun j => kst j h fun _ => outK []
theorem st_lens_trees_join {lf : Nat} {r : RT} {a b c : V} : evStep Tryz.prog gt lf r 245 #[a, b, c] = inside (b_lens_trees_join lf r a b c) := by kernel_rfl

def b_slices_SortStableFunc_int_int (lf : Nat) (r : RT) (a b : V) : M V := kln a fun c => kcl r 251 [a, c, b] fun d => outK []
theorem st_slices_SortStableFunc_int_int {lf : Nat} {r : RT} {a b : V} : evStep Tryz.prog gt lf r 248 #[a, b] = inside (b_slices_SortStableFunc_int_int lf r a b) := by kernel_rfl

def b_lens_treesOf_1 (lf : Nat) (r : RT) (a b c : V) : M V := kld c fun d => kix d a fun e => kld e fun f => kld c fun g => kix g b fun h => kld h fun i => kcl r 250 [f, i] fun j => outK [j]
theorem st_lens_treesOf_1 {lf : Nat} {r : RT} {a b c : V} : evStep Tryz.prog gt lf r 249 #[a, b, c] = inside (b_lens_treesOf_1 lf r a b c) := by kernel_rfl

def b_cmp_Compare_int (lf : Nat) (r : RT) (a b : V) : M V := kcl r 252 [a] fun c => kcl r 252 [b] fun d => ifV c (ifV d (outK [(ii 0)]) (outK [(ii (-1))])) (ifV d (outK
  [(ii 1)]) (kls a b fun e => ifV e (outK [(ii (-1))]) (kgr a b fun f => ifV f (outK [(ii 1)]) (outK [(ii 0)]))))
theorem st_cmp_Compare_int {lf : Nat} {r : RT} {a b : V} : evStep Tryz.prog gt lf r 250 #[a, b] = inside (b_cmp_Compare_int lf r a b) := by kernel_rfl

def lpA_slices_stableCmpFunc_int (lf : Nat) (r : RT) : Nat→(V→V→V→V→V→V→V→M V)→V→V→V→V→V→V→M V
  | 0, _, _, _, _, _, _, _ => .fail
  | fu + 1, k, a, b, c, d, e, f => klq f b fun g => ifV g (kcl r 253 [a, e, f, c] fun h => kad f d fun e => lpA_slices_stableCmpFunc_int lf r fu k a b c d f e) (k a b c d e f g)
def sA_slices_stableCmpFunc_int : List Nat := [0, 1, 2, 6, 7, 8]
def lpC_slices_stableCmpFunc_int (lf : Nat) (r : RT) : Nat→(V→V→V→V→V→V→V→M V)→V→V→V→V→V→V→V→V→M V
  | 0, _, _, _, _, _, _, _, _, _ => .fail
  | fu + 1, k, a, b, c, d, e, f, g, h => klq f b fun i => ifV i (kad e d fun j => kcl r 254 [a, e, j, f, c] fun l => kml (ii 2) d fun e => kad f e fun j =>
   lpC_slices_stableCmpFunc_int lf r fu k a b c d f j g h) (k a b c d e f g)
def sC_slices_stableCmpFunc_int : List Nat := [0, 1, 2, 6, 7, 8, 13, 30]
def KBC_slices_stableCmpFunc_int (lf : Nat) (r : RT) (k : (M V)) (again : V→V→V→V→V→V→V→M V) : (V→V→V→V→V→V→V→M V) := fun a b c d e f g => kad e d fun h => kls h b fun i
  => ifV i (kcl r 254 [a, e, h, b, c] fun j => kml d (ii 2) fun j => again a b c j e f g) (kml d (ii 2) fun j => again a b c j e f g)
def lpB_slices_stableCmpFunc_int (lf : Nat) (r : RT) : Nat→(M V)→V→V→V→V→V→V→V→M V
  | 0, _, _, _, _, _, _, _, _ => .fail
  | fu + 1, k, a, b, c, d, e, f, g => kls d b fun h => ifV h (kml (ii 2) d fun i => lpC_slices_stableCmpFunc_int lf r lf (KBC_slices_stableCmpFunc_int lf r k
   (lpB_slices_stableCmpFunc_int lf r fu k)) a b c d (ii 0) i g h) (k)
def sB_slices_stableCmpFunc_int : List Nat := [0, 1, 2, 6, 7, 8, 13]
def kcB_slices_stableCmpFunc_int (lf : Nat) (r : RT) : (M V) := outK []
def kcA_slices_stableCmpFunc_int (lf : Nat) (r : RT) : (V→V→V→V→V→V→V→M V) := fun a b c d e f g => kcl r 253 [a, e, b, c] fun h => lpB_slices_stableCmpFunc_int lf r lf
  (kcB_slices_stableCmpFunc_int lf r) a b c d e f g
def b_slices_stableCmpFunc_int (lf : Nat) (r : RT) (a b c : V) : M V := lpA_slices_stableCmpFunc_int lf r lf (kcA_slices_stableCmpFunc_int lf r) a b c (ii 20) (ii 0) (ii 20)
theorem lqA_slices_stableCmpFunc_int {lf : Nat} {r : RT} (K : KT) : ∀ fu, lpA_slices_stableCmpFunc_int lf r fu (fun a b c d e f g => K (.exit 0) (zp [0, 1, 2, 6, 7, 8,
  13] [a, b, c, d, e, f, g])) = fun a b c d e f => loopK (cQ 251 (pb 5 3) lf r) sA_slices_stableCmpFunc_int fu (zp sA_slices_stableCmpFunc_int [a, b, c, d, e, f]) K
  | 0 => by funext a b c d e f; kernel_rfl
  | fu + 1 => by
    have ih := lqA_slices_stableCmpFunc_int (lf := lf) (r := r) K fu
    funext a b c d e f
    rw [lpA_slices_stableCmpFunc_int]
    simp only [ih]
    kernel_rfl
theorem lqC_slices_stableCmpFunc_int {lf : Nat} {r : RT} (K : KT) : ∀ fu, lpC_slices_stableCmpFunc_int lf r fu (fun a b c d e f g => K (.exit 4) (zp [0, 1, 2, 6, 7, 8,
  13] [a, b, c, d, e, f, g])) = fun a b c d e f g h => loopK (cQ 251 (pb 12 335) lf r) sC_slices_stableCmpFunc_int fu (zp sC_slices_stableCmpFunc_int [a, b, c, d, e, f, g, h]) K
  | 0 => by funext a b c d e f g h; kernel_rfl
  | fu + 1 => by
    have ih := lqC_slices_stableCmpFunc_int (lf := lf) (r := r) K fu
    funext a b c d e f g h
    rw [lpC_slices_stableCmpFunc_int]
    simp only [ih]
    kernel_rfl
theorem kqC_slices_stableCmpFunc_int {lf : Nat} {r : RT} (K : KT) (fu : Nat) : KBC_slices_stableCmpFunc_int lf r (K (.exit 2) []) (fun a b c d e f g => loopK (cQ 251 (pb
  6 15) lf r) sB_slices_stableCmpFunc_int fu (zp sB_slices_stableCmpFunc_int [a, b, c, d, e, f, g]) K) = (fun a b c d e f g => (iK 251 (pb 6 15) (pb 5 5)
  sB_slices_stableCmpFunc_int fu K lf r) (.exit 4) (zp [0, 1, 2, 6, 7, 8, 13] [a, b, c, d, e, f, g])) := by kernel_rfl
theorem lqB_slices_stableCmpFunc_int {lf : Nat} {r : RT} (K : KT) : ∀ fu, lpB_slices_stableCmpFunc_int lf r fu (K (.exit 2) []) = fun a b c d e f g => loopK (cQ 251 (pb
  6 15) lf r) sB_slices_stableCmpFunc_int fu (zp sB_slices_stableCmpFunc_int [a, b, c, d, e, f, g]) K
  | 0 => by funext a b c d e f g; kernel_rfl
  | fu + 1 => by
    have ih := lqB_slices_stableCmpFunc_int (lf := lf) (r := r) K fu
    funext a b c d e f g
    rw [lpB_slices_stableCmpFunc_int]
    simp only [ih, kqC_slices_stableCmpFunc_int, lqC_slices_stableCmpFunc_int]
    kernel_rfl
theorem kqB_slices_stableCmpFunc_int {lf : Nat} {r : RT} : kcB_slices_stableCmpFunc_int lf r = ((tK 251 (pb 5 15) lf r) (.exit 2) []) := by kernel_rfl
theorem kqA_slices_stableCmpFunc_int {lf : Nat} {r : RT} : kcA_slices_stableCmpFunc_int lf r = (fun a b c d e f g => (tK 251 (pb 4 3) lf r) (.exit 0) (zp [0, 1, 2, 6, 7, 8, 13] [a, b, c, d, e, f, g])) := by 
  unfold kcA_slices_stableCmpFunc_int
  simp only [kqB_slices_stableCmpFunc_int, lqB_slices_stableCmpFunc_int]
  kernel_rfl
theorem st_slices_stableCmpFunc_int {lf : Nat} {r : RT} {a b c : V} : evStep Tryz.prog gt lf r 251 #[a, b, c] = inside (b_slices_stableCmpFunc_int lf r a b c) := by 
  unfold b_slices_stableCmpFunc_int
  simp only [kqA_slices_stableCmpFunc_int, kqB_slices_stableCmpFunc_int, lqA_slices_stableCmpFunc_int, lqB_slices_stableCmpFunc_int]
  kernel_rfl

def b_cmp_isNaN_int (lf : Nat) (r : RT) (a : V) : M V := kne a a fun b => outK [b]
theorem st_cmp_isNaN_int {lf : Nat} {r : RT} {a : V} : evStep Tryz.prog gt lf r 252 #[a] = inside (b_cmp_isNaN_int lf r a) := by kernel_rfl

def lpB_slices_insertionSortCmpFunc_int (lf : Nat) (r : RT) : Nat→(V→V→V→V→V→M V)→V→V→V→V→V→V→V→M V
  | 0, _, _, _, _, _, _, _, _ => .fail
  | fu + 1, k, a, b, c, d, e, f, g => kgr f b fun h => ifV h (kix a f fun i => kld i fun j => ksb f (ii 1) fun l => kix a l fun m => kld m fun n => callV Tryz.prog r d
   [j, n] fun o => kls o (ii 0) fun p => ifV p (ksb f (ii 1) fun h => ksb f (ii 1) fun i => kix a i fun j => kld j fun l => kix a f fun m => kld m fun n => kix a f fun o
   => kst o l fun _ => kix a h fun q => kst q n fun _ => ksb f (ii 1) fun h => lpB_slices_insertionSortCmpFunc_int lf r fu k a b c d e h g) (k a b c d e)) (k a b c d e)
def sB_slices_insertionSortCmpFunc_int : List Nat := [0, 1, 2, 3, 8, 9, 14]
def KBB_slices_insertionSortCmpFunc_int (lf : Nat) (r : RT) (k : (M V)) (again : V→V→V→V→V→M V) : (V→V→V→V→V→M V) := fun a b c d e => kad e (ii 1) fun f => again a b c d f
def lpA_slices_insertionSortCmpFunc_int (lf : Nat) (r : RT) : Nat→(M V)→V→V→V→V→V→M V
  | 0, _, _, _, _, _, _ => .fail
  | fu + 1, k, a, b, c, d, e => kls e c fun f => ifV f (lpB_slices_insertionSortCmpFunc_int lf r lf (KBB_slices_insertionSortCmpFunc_int lf r k
   (lpA_slices_insertionSortCmpFunc_int lf r fu k)) a b c d e e f) (k)
def sA_slices_insertionSortCmpFunc_int : List Nat := [0, 1, 2, 3, 8]
def kcA_slices_insertionSortCmpFunc_int (lf : Nat) (r : RT) : (M V) := outK []
def b_slices_insertionSortCmpFunc_int (lf : Nat) (r : RT) (a b c d : V) : M V := kad b (ii 1) fun e => lpA_slices_insertionSortCmpFunc_int lf r lf (kcA_slices_insertionSortCmpFunc_int lf r) a b c d e
theorem lqB_slices_insertionSortCmpFunc_int {lf : Nat} {r : RT} (K : KT) : ∀ fu, lpB_slices_insertionSortCmpFunc_int lf r fu (fun a b c d e => K (.exit 2) (zp [0, 1, 2,
  3, 8] [a, b, c, d, e])) = fun a b c d e f g => loopK (cQ 253 (pb 9 73) lf r) sB_slices_insertionSortCmpFunc_int fu (zp sB_slices_insertionSortCmpFunc_int [a, b, c, d, e, f, g]) K
  | 0 => by funext a b c d e f g; kernel_rfl
  | fu + 1 => by
    have ih := lqB_slices_insertionSortCmpFunc_int (lf := lf) (r := r) K fu
    funext a b c d e f g
    rw [lpB_slices_insertionSortCmpFunc_int]
    simp only [ih]
    kernel_rfl
theorem kqB_slices_insertionSortCmpFunc_int {lf : Nat} {r : RT} (K : KT) (fu : Nat) : KBB_slices_insertionSortCmpFunc_int lf r (K (.exit 0) []) (fun a b c d e => loopK
  (cQ 253 (pb 3 1) lf r) sA_slices_insertionSortCmpFunc_int fu (zp sA_slices_insertionSortCmpFunc_int [a, b, c, d, e]) K) = (fun a b c d e => (iK 253 (pb 3 1) (pb 5 9)
  sA_slices_insertionSortCmpFunc_int fu K lf r) (.exit 2) (zp [0, 1, 2, 3, 8] [a, b, c, d, e])) := by kernel_rfl
theorem lqA_slices_insertionSortCmpFunc_int {lf : Nat} {r : RT} (K : KT) : ∀ fu, lpA_slices_insertionSortCmpFunc_int lf r fu (K (.exit 0) []) = fun a b c d e => loopK
  (cQ 253 (pb 3 1) lf r) sA_slices_insertionSortCmpFunc_int fu (zp sA_slices_insertionSortCmpFunc_int [a, b, c, d, e]) K
  | 0 => by funext a b c d e; kernel_rfl
  | fu + 1 => by
    have ih := lqA_slices_insertionSortCmpFunc_int (lf := lf) (r := r) K fu
    funext a b c d e
    rw [lpA_slices_insertionSortCmpFunc_int]
    simp only [ih, kqB_slices_insertionSortCmpFunc_int, lqB_slices_insertionSortCmpFunc_int]
    kernel_rfl
theorem kqA_slices_insertionSortCmpFunc_int {lf : Nat} {r : RT} : kcA_slices_insertionSortCmpFunc_int lf r = ((tK 253 (pb 2 1) lf r) (.exit 0) []) := by kernel_rfl
theorem st_slices_insertionSortCmpFunc_int {lf : Nat} {r : RT} {a b c d : V} : evStep Tryz.prog gt lf r 253 #[a, b, c, d] = inside (b_slices_insertionSortCmpFunc_int lf r a b c d) := by 
  unfold b_slices_insertionSortCmpFunc_int
  simp only [kqA_slices_insertionSortCmpFunc_int, lqA_slices_insertionSortCmpFunc_int]
  kernel_rfl

def lpA_slices_symMergeCmpFunc_int (lf : Nat) (r : RT) : Nat→(V→V→V→V→V→V→V→V→V→M V)→V→V→V→V→V→V→V→V→M V
  | 0, _, _, _, _, _, _, _, _, _ => .fail
  | fu + 1, k, a, b, c, d, e, f, g, h => kls f g fun i => ifV i (kad f g fun j => kcv .u64 j fun l => ksr l (i6 1) fun m => kcv .i64 m fun n => kix a n fun j => kld j
   fun l => kix a b fun m => kld m fun o => callV Tryz.prog r e [l, o] fun p => kls p (ii 0) fun q => ifV q (kad n (ii 1) fun j => lpA_slices_symMergeCmpFunc_int lf r fu
   k a b c d e j g h) (lpA_slices_symMergeCmpFunc_int lf r fu k a b c d e f n h)) (k a b c d e f g h i)
def sA_slices_symMergeCmpFunc_int : List Nat := [0, 1, 2, 3, 4, 10, 11, 28]
def lpB_slices_symMergeCmpFunc_int (lf : Nat) (r : RT) : Nat→(V→V→V→V→V→V→V→V→V→V→M V)→V→V→V→V→V→V→V→V→V→M V
  | 0, _, _, _, _, _, _, _, _, _, _ => .fail
  | fu + 1, k, a, b, c, d, e, f, g, h, i => kls f g fun j => ifV j (kad f g fun l => kcv .u64 l fun m => ksr m (i6 1) fun n => kcv .i64 n fun o => kix a c fun l => kld l
   fun m => kix a o fun n => kld n fun p => callV Tryz.prog r e [m, p] fun q => kls q (ii 0) fun s => knt s fun t => ifV t (kad o (ii 1) fun l =>
   lpB_slices_symMergeCmpFunc_int lf r fu k a b c d e l g h i) (lpB_slices_symMergeCmpFunc_int lf r fu k a b c d e f o h i)) (k a b c d e f g h i j)
def sB_slices_symMergeCmpFunc_int : List Nat := [0, 1, 2, 3, 4, 14, 15, 28, 80]
def lpC_slices_symMergeCmpFunc_int (lf : Nat) (r : RT) : Nat→(V→V→V→V→V→V→V→V→M V)→V→V→V→V→V→V→V→V→V→V→V→V→V→M V
  | 0, _, _, _, _, _, _, _, _, _, _, _, _, _, _ => .fail
  | fu + 1, k, a, b, c, d, e, f, g, h, i, j, l, m, n => kls h i fun o => ifV o (kad h i fun p => kcv .u64 p fun q => ksr q (i6 1) fun s => kcv .i64 s fun t => ksb j t
   fun p => kix a p fun q => kld q fun s => kix a t fun u => kld u fun v => callV Tryz.prog r e [s, v] fun w => kls w (ii 0) fun x => knt x fun y => ifV y (kad t (ii 1)
   fun p => lpC_slices_symMergeCmpFunc_int lf r fu k a b c d e f g p i j l m n) (lpC_slices_symMergeCmpFunc_int lf r fu k a b c d e f g h t j l m n)) (k a b c d e f g h)
def sC_slices_symMergeCmpFunc_int : List Nat := [0, 1, 2, 3, 4, 18, 19, 20, 21, 22, 28, 80, 140]
def lpD_slices_symMergeCmpFunc_int (lf : Nat) (r : RT) : Nat→(M V)→V→V→V→V→V→V→V→V→V→V→M V
  | 0, _, _, _, _, _, _, _, _, _, _, _ => .fail
  | fu + 1, k, a, b, c, d, e, f, g, h, i, j => ksb f (ii 1) fun l => kls h l fun m => ifV m (kad h (ii 1) fun l => kad h (ii 1) fun n => kix a n fun o => kld o fun p =>
   kix a h fun q => kld q fun s => kix a h fun t => kst t p fun _ => kix a l fun u => kst u s fun _ => kad h (ii 1) fun l => lpD_slices_symMergeCmpFunc_int lf r fu k a b c d e f g l i j) (k)
def sD_slices_symMergeCmpFunc_int : List Nat := [0, 1, 2, 3, 4, 10, 11, 13, 28, 33]
def lpE_slices_symMergeCmpFunc_int (lf : Nat) (r : RT) : Nat→(M V)→V→V→V→V→V→V→V→V→V→V→V→M V
  | 0, _, _, _, _, _, _, _, _, _, _, _, _ => .fail
  | fu + 1, k, a, b, c, d, e, f, g, h, i, j, l => kgr h f fun m => ifV m (ksb h (ii 1) fun n => ksb h (ii 1) fun o => kix a o fun p => kld p fun q => kix a h fun s =>
   kld s fun t => kix a h fun u => kst u q fun _ => kix a n fun v => kst v t fun _ => ksb h (ii 1) fun n => lpE_slices_symMergeCmpFunc_int lf r fu k a b c d e f g n i j l) (k)
def sE_slices_symMergeCmpFunc_int : List Nat := [0, 1, 2, 3, 4, 14, 15, 17, 28, 80, 85]
def kcE_slices_symMergeCmpFunc_int (lf : Nat) (r : RT) : (M V) := outK []
def kcD_slices_symMergeCmpFunc_int (lf : Nat) (r : RT) : (M V) := outK []
def kcC_slices_symMergeCmpFunc_int (lf : Nat) (r : RT) : (V→V→V→V→V→V→V→V→M V) := fun a b c d e f g h => ksb g h fun i => kls h c fun j => ifV j (kls c i fun l => (fun m
  => ifV l (kcl r 255 [a, h, c, i, e] fun j => m) (m)) (kls b h fun j => ifV j (kls h f fun m => (fun n => ifV m (kcl r 254 [a, b, h, f, e] fun j => n) (n)) (kls f i fun
  j => ifV j (kls i d fun n => ifV n (kcl r 254 [a, f, i, d, e] fun j => outK []) (outK [])) (outK []))) (kls f i fun j => ifV j (kls i d fun m => ifV m (kcl r 254 [a,
  f, i, d, e] fun j => outK []) (outK [])) (outK [])))) (kls b h fun j => ifV j (kls h f fun l => (fun m => ifV l (kcl r 254 [a, b, h, f, e] fun j => m) (m)) (kls f i
  fun j => ifV j (kls i d fun m => ifV m (kcl r 254 [a, f, i, d, e] fun j => outK []) (outK [])) (outK []))) (kls f i fun j => ifV j (kls i d fun l => ifV l (kcl r 254
  [a, f, i, d, e] fun j => outK []) (outK [])) (outK [])))
def kcB_slices_symMergeCmpFunc_int (lf : Nat) (r : RT) : (V→V→V→V→V→V→V→V→V→V→M V) := fun a b c d e f g h i j => lpE_slices_symMergeCmpFunc_int lf r lf
  (kcE_slices_symMergeCmpFunc_int lf r) a b c d e f g c h i j
def kcA_slices_symMergeCmpFunc_int (lf : Nat) (r : RT) : (V→V→V→V→V→V→V→V→V→M V) := fun a b c d e f g h i => lpD_slices_symMergeCmpFunc_int lf r lf (kcD_slices_symMergeCmpFunc_int lf r) a b c d e f g b h i
def b_slices_symMergeCmpFunc_int (lf : Nat) (r : RT) (a b c d e : V) : M V := ksb c b fun f => keq f (ii 1) fun g => ifV g (lpA_slices_symMergeCmpFunc_int lf r lf
  (kcA_slices_symMergeCmpFunc_int lf r) a b c d e c d g) (ksb d c fun f => keq f (ii 1) fun h => ifV h (lpB_slices_symMergeCmpFunc_int lf r lf
  (kcB_slices_symMergeCmpFunc_int lf r) a b c d e b c g h) (kad b d fun f => kcv .u64 f fun i => ksr i (i6 1) fun j => kcv .i64 j fun l => kad l c fun f => kgr c l fun i
  => (fun m => ifV i (ksb f d fun j => m j l) (m b c)) fun m j => ksb f (ii 1) fun n => lpC_slices_symMergeCmpFunc_int lf r lf (kcC_slices_symMergeCmpFunc_int lf r) a b c d e l f m j n g h i))
theorem lqA_slices_symMergeCmpFunc_int {lf : Nat} {r : RT} (K : KT) : ∀ fu, lpA_slices_symMergeCmpFunc_int lf r fu (fun a b c d e f g h i => K (.exit 0) (zp [0, 1, 2, 3,
  4, 10, 11, 28, 33] [a, b, c, d, e, f, g, h, i])) = fun a b c d e f g h => loopK (cQ 254 (pb 8 26) lf r) sA_slices_symMergeCmpFunc_int fu (zp sA_slices_symMergeCmpFunc_int [a, b, c, d, e, f, g, h]) K
  | 0 => by funext a b c d e f g h; kernel_rfl
  | fu + 1 => by
    have ih := lqA_slices_symMergeCmpFunc_int (lf := lf) (r := r) K fu
    funext a b c d e f g h
    rw [lpA_slices_symMergeCmpFunc_int]
    simp only [ih]
    kernel_rfl
theorem lqB_slices_symMergeCmpFunc_int {lf : Nat} {r : RT} (K : KT) : ∀ fu, lpB_slices_symMergeCmpFunc_int lf r fu (fun a b c d e f g h i j => K (.exit 4) (zp [0, 1, 2,
  3, 4, 14, 15, 28, 80, 85] [a, b, c, d, e, f, g, h, i, j])) = fun a b c d e f g h i => loopK (cQ 254 (pb 9 53) lf r) sB_slices_symMergeCmpFunc_int fu (zp
  sB_slices_symMergeCmpFunc_int [a, b, c, d, e, f, g, h, i]) K
  | 0 => by funext a b c d e f g h i; kernel_rfl
  | fu + 1 => by
    have ih := lqB_slices_symMergeCmpFunc_int (lf := lf) (r := r) K fu
    funext a b c d e f g h i
    rw [lpB_slices_symMergeCmpFunc_int]
    simp only [ih]
    kernel_rfl
theorem lqC_slices_symMergeCmpFunc_int {lf : Nat} {r : RT} (K : KT) : ∀ fu, lpC_slices_symMergeCmpFunc_int lf r fu (fun a b c d e f g h => K (.exit 8) (zp [0, 1, 2, 3,
  4, 18, 19, 20] [a, b, c, d, e, f, g, h])) = fun a b c d e f g h i j l m n => loopK (cQ 254 (pb 10 127) lf r) sC_slices_symMergeCmpFunc_int fu (zp
  sC_slices_symMergeCmpFunc_int [a, b, c, d, e, f, g, h, i, j, l, m, n]) K
  | 0 => by funext a b c d e f g h i j l m n; kernel_rfl
  | fu + 1 => by
    have ih := lqC_slices_symMergeCmpFunc_int (lf := lf) (r := r) K fu
    funext a b c d e f g h i j l m n
    rw [lpC_slices_symMergeCmpFunc_int]
    simp only [ih]
    kernel_rfl
theorem lqD_slices_symMergeCmpFunc_int {lf : Nat} {r : RT} (K : KT) : ∀ fu, lpD_slices_symMergeCmpFunc_int lf r fu (K (.exit 2) []) = fun a b c d e f g h i j => loopK
  (cQ 254 (pb 10 186) lf r) sD_slices_symMergeCmpFunc_int fu (zp sD_slices_symMergeCmpFunc_int [a, b, c, d, e, f, g, h, i, j]) K
  | 0 => by funext a b c d e f g h i j; kernel_rfl
  | fu + 1 => by
    have ih := lqD_slices_symMergeCmpFunc_int (lf := lf) (r := r) K fu
    funext a b c d e f g h i j
    rw [lpD_slices_symMergeCmpFunc_int]
    simp only [ih]
    kernel_rfl
theorem lqE_slices_symMergeCmpFunc_int {lf : Nat} {r : RT} (K : KT) : ∀ fu, lpE_slices_symMergeCmpFunc_int lf r fu (K (.exit 6) []) = fun a b c d e f g h i j l => loopK
  (cQ 254 (pb 11 373) lf r) sE_slices_symMergeCmpFunc_int fu (zp sE_slices_symMergeCmpFunc_int [a, b, c, d, e, f, g, h, i, j, l]) K
  | 0 => by funext a b c d e f g h i j l; kernel_rfl
  | fu + 1 => by
    have ih := lqE_slices_symMergeCmpFunc_int (lf := lf) (r := r) K fu
    funext a b c d e f g h i j l
    rw [lpE_slices_symMergeCmpFunc_int]
    simp only [ih]
    kernel_rfl
theorem kqE_slices_symMergeCmpFunc_int {lf : Nat} {r : RT} : kcE_slices_symMergeCmpFunc_int lf r = ((tK 254 (pb 10 373) lf r) (.exit 6) []) := by kernel_rfl
theorem kqD_slices_symMergeCmpFunc_int {lf : Nat} {r : RT} : kcD_slices_symMergeCmpFunc_int lf r = ((tK 254 (pb 9 186) lf r) (.exit 2) []) := by kernel_rfl
theorem kqC_slices_symMergeCmpFunc_int {lf : Nat} {r : RT} : kcC_slices_symMergeCmpFunc_int lf r = (fun a b c d e f g h => (tK 254 (pb 9 127) lf r) (.exit 8) (zp [0, 1,
  2, 3, 4, 18, 19, 20] [a, b, c, d, e, f, g, h])) := by kernel_rfl
theorem kqB_slices_symMergeCmpFunc_int {lf : Nat} {r : RT} : kcB_slices_symMergeCmpFunc_int lf r = (fun a b c d e f g h i j => (tK 254 (pb 8 53) lf r) (.exit 4) (zp [0,
  1, 2, 3, 4, 14, 15, 28, 80, 85] [a, b, c, d, e, f, g, h, i, j])) := by 
  unfold kcB_slices_symMergeCmpFunc_int
  simp only [kqE_slices_symMergeCmpFunc_int, lqE_slices_symMergeCmpFunc_int]
  kernel_rfl
theorem kqA_slices_symMergeCmpFunc_int {lf : Nat} {r : RT} : kcA_slices_symMergeCmpFunc_int lf r = (fun a b c d e f g h i => (tK 254 (pb 7 26) lf r) (.exit 0) (zp [0, 1,
  2, 3, 4, 10, 11, 28, 33] [a, b, c, d, e, f, g, h, i])) := by 
  unfold kcA_slices_symMergeCmpFunc_int
  simp only [kqD_slices_symMergeCmpFunc_int, lqD_slices_symMergeCmpFunc_int]
  kernel_rfl
theorem st_slices_symMergeCmpFunc_int {lf : Nat} {r : RT} {a b c d e : V} : evStep Tryz.prog gt lf r 254 #[a, b, c, d, e] = inside (b_slices_symMergeCmpFunc_int lf r a b c d e) := by 
  unfold b_slices_symMergeCmpFunc_int
  simp only [kqA_slices_symMergeCmpFunc_int, kqB_slices_symMergeCmpFunc_int, kqC_slices_symMergeCmpFunc_int, kqD_slices_symMergeCmpFunc_int,
   kqE_slices_symMergeCmpFunc_int, lqA_slices_symMergeCmpFunc_int, lqB_slices_symMergeCmpFunc_int, lqC_slices_symMergeCmpFunc_int, lqD_slices_symMergeCmpFunc_int, lqE_slices_symMergeCmpFunc_int]
  kernel_rfl

def lpA_slices_rotateCmpFunc_int (lf : Nat) (r : RT) : Nat→(V→V→V→V→M V)→V→V→V→V→V→V→V→M V
  | 0, _, _, _, _, _, _, _, _ => .fail
  | fu + 1, k, a, b, c, d, e, f, g => kne f g fun h => ifV h (kgr f g fun i => ifV i (ksb c f fun j => kcl r 256 [a, j, c, g, e] fun l => ksb f g fun j =>
   lpA_slices_rotateCmpFunc_int lf r fu k a b c d e j g) (ksb c f fun j => kad c g fun l => ksb l f fun m => kcl r 256 [a, j, m, f, e] fun n => ksb g f fun j =>
   lpA_slices_rotateCmpFunc_int lf r fu k a b c d e f j)) (k a c e f)
def sA_slices_rotateCmpFunc_int : List Nat := [0, 1, 2, 3, 4, 10, 11]
def kcA_slices_rotateCmpFunc_int (lf : Nat) (r : RT) : (V→V→V→V→M V) := fun a b c d => ksb b d fun e => kcl r 256 [a, e, b, d, c] fun f => outK []
def b_slices_rotateCmpFunc_int (lf : Nat) (r : RT) (a b c d e : V) : M V := ksb c b fun f => ksb d c fun g => lpA_slices_rotateCmpFunc_int lf r lf (kcA_slices_rotateCmpFunc_int lf r) a b c d e f g
theorem lqA_slices_rotateCmpFunc_int {lf : Nat} {r : RT} (K : KT) : ∀ fu, lpA_slices_rotateCmpFunc_int lf r fu (fun a b c d => K (.exit 0) (zp [0, 2, 4, 10] [a, b, c,
  d])) = fun a b c d e f g => loopK (cQ 255 (pb 5 3) lf r) sA_slices_rotateCmpFunc_int fu (zp sA_slices_rotateCmpFunc_int [a, b, c, d, e, f, g]) K
  | 0 => by funext a b c d e f g; kernel_rfl
  | fu + 1 => by
    have ih := lqA_slices_rotateCmpFunc_int (lf := lf) (r := r) K fu
    funext a b c d e f g
    rw [lpA_slices_rotateCmpFunc_int]
    simp only [ih]
    kernel_rfl
theorem kqA_slices_rotateCmpFunc_int {lf : Nat} {r : RT} : kcA_slices_rotateCmpFunc_int lf r = (fun a b c d => (tK 255 (pb 4 3) lf r) (.exit 0) (zp [0, 2, 4, 10] [a, b, c, d])) := by kernel_rfl
theorem st_slices_rotateCmpFunc_int {lf : Nat} {r : RT} {a b c d e : V} : evStep Tryz.prog gt lf r 255 #[a, b, c, d, e] = inside (b_slices_rotateCmpFunc_int lf r a b c d e) := by 
  unfold b_slices_rotateCmpFunc_int
  simp only [kqA_slices_rotateCmpFunc_int, lqA_slices_rotateCmpFunc_int]
  kernel_rfl

def lpA_slices_swapRangeCmpFunc_int (lf : Nat) (r : RT) : Nat→(M V)→V→V→V→V→V→M V
  | 0, _, _, _, _, _, _ => .fail
  | fu + 1, k, a, b, c, d, e => kls e d fun f => ifV f (kad b e fun g => kad c e fun h => kad c e fun i => kix a i fun j => kld j fun l => kad b e fun m => kix a m fun n
   => kld n fun o => kix a g fun p => kst p l fun _ => kix a h fun q => kst q o fun _ => kad e (ii 1) fun g => lpA_slices_swapRangeCmpFunc_int lf r fu k a b c d g) (k)
def sA_slices_swapRangeCmpFunc_int : List Nat := [0, 1, 2, 3, 10]
def kcA_slices_swapRangeCmpFunc_int (lf : Nat) (r : RT) : (M V) := outK []
def b_slices_swapRangeCmpFunc_int (lf : Nat) (r : RT) (a b c d e : V) : M V := lpA_slices_swapRangeCmpFunc_int lf r lf (kcA_slices_swapRangeCmpFunc_int lf r) a b c d (ii 0)
theorem lqA_slices_swapRangeCmpFunc_int {lf : Nat} {r : RT} (K : KT) : ∀ fu, lpA_slices_swapRangeCmpFunc_int lf r fu (K (.exit 0) []) = fun a b c d e => loopK (cQ 256
  (pb 3 1) lf r) sA_slices_swapRangeCmpFunc_int fu (zp sA_slices_swapRangeCmpFunc_int [a, b, c, d, e]) K
  | 0 => by funext a b c d e; kernel_rfl
  | fu + 1 => by
    have ih := lqA_slices_swapRangeCmpFunc_int (lf := lf) (r := r) K fu
    funext a b c d e
    rw [lpA_slices_swapRangeCmpFunc_int]
    simp only [ih]
    kernel_rfl
theorem kqA_slices_swapRangeCmpFunc_int {lf : Nat} {r : RT} : kcA_slices_swapRangeCmpFunc_int lf r = ((tK 256 (pb 2 1) lf r) (.exit 0) []) := by kernel_rfl
theorem st_slices_swapRangeCmpFunc_int {lf : Nat} {r : RT} {a b c d e : V} : evStep Tryz.prog gt lf r 256 #[a, b, c, d, e] = inside (b_slices_swapRangeCmpFunc_int lf r a b c d e) := by 
  unfold b_slices_swapRangeCmpFunc_int
  simp only [kqA_slices_swapRangeCmpFunc_int, lqA_slices_swapRangeCmpFunc_int]
  kernel_rfl

end
end Go.Proofs.YtcehhgppfahbkaaGreatDoor
namespace Go.Proofs.YtcehhgppfahbkaaGreatDoor.Hu
set_option linter.unusedVariables false
set_option linter.unusedSimpArgs false

end Go.Proofs.YtcehhgppfahbkaaGreatDoor.Hu
namespace Go.Proofs.YtcehhgppfahbkaaGreatDoor
set_option linter.unusedVariables false
set_option linter.unusedSimpArgs false
open Go.RowKit Ev Hu

theorem wrap_succ {x : Nat} (h : x < 9223372036854775807) : IntKind.i64.wrap ((x : Int) + 1) = ((x + 1 : Nat) : Int) := by rw [wrap_id (by omega) (by omega)]; rfl
theorem wrap_pred {x : Nat} (h : x < 9223372036854775807) : IntKind.i64.wrap (((x + 1 : Nat) : Int) - 1) = ((x : Nat) : Int) := by rw [wrap_id (by omega) (by omega)]; omega
theorem RZ : type_of% (aI @RXA (aI @RXB (aI @wrap_id (aI @wrap_succ (aI @wrap_pred (aI @zr3 (aI @zr31 (aI @zr42 (aI @zr51 (aI @zr71 (aI @zr73 (aI @zr80 (aI @zr93 (aI @zr104 (aI @zr109 (aI @zr113 (aI @zr116 (aI @zr123 (aI @zr127 (aI @zr133 (aI @zr155 (aI @zr163 (aI @zr178 (aI @zr184 (aI @zr195 (aI @zr203 (aI @zr205 (aI @zr211 (aI @zr237 (aI @zr250 (@zr276))))))))))))))))))))))))))))))) := aI @RXA (aI @RXB (aI @wrap_id (aI @wrap_succ (aI @wrap_pred (aI @zr3 (aI @zr31 (aI @zr42 (aI @zr51 (aI @zr71 (aI @zr73 (aI @zr80 (aI @zr93 (aI @zr104 (aI @zr109 (aI @zr113 (aI @zr116 (aI @zr123 (aI @zr127 (aI @zr133 (aI @zr155 (aI @zr163 (aI @zr178 (aI @zr184 (aI @zr195 (aI @zr203 (aI @zr205 (aI @zr211 (aI @zr237 (aI @zr250 (@zr276))))))))))))))))))))))))))))))
theorem jA {F p q : Prop} (f : F) (x : q) (e : F → p = q := by intro f; conv => lhs; (try simp (disch := first | omega | assumption) only [Nat.reduceAdd, Nat.reduceLT, RZ, f])) : p := (e f).mpr x
theorem jB {p q : Prop} (x : q) (e : p = q := by conv => lhs; (try simp (disch := first | omega | assumption) only [Nat.reduceAdd, Nat.reduceLT, RZ])) : p := e.mpr x
theorem jC {F p : Prop} (f : F) (e : F → p := by intro f; (try simp (disch := first | omega | assumption) only [Nat.reduceAdd, Nat.reduceLT, RZ, f])) : p := e f
theorem jE {p : Prop} (e : p := by (try simp (disch := first | omega | assumption) only [Nat.reduceAdd, Nat.reduceLT, RZ])) : p := e
end Go.Proofs.YtcehhgppfahbkaaGreatDoor
namespace Go.Proofs.YtcehhgppfahbkaaGreatDoor
set_option linter.unusedVariables false
set_option linter.unusedSimpArgs false
open Go.RowKit Ev Sp

def nV (l : List Nat) : List Value := l.map fun (x : Nat) => Value.int .i64 (x : Int)
theorem nV_len (l : List Nat) : (nV l).length = l.length := List.length_map _
theorem nV_at {l : List Nat} {i : Nat} (h : i < l.length) : (nV l)[i]? = some (.int .i64 ((l.getD i 0 : Nat) : Int)) := by
  unfold nV
  rw [List.getElem?_map, List.getElem?_eq_getElem h, List.getD_eq_getElem?_getD, List.getElem?_eq_getElem h]
  rfl
theorem nV_set (l : List Nat) (i x : Nat) : (nV l).set i (.int .i64 (x : Int)) = nV (l.set i x) := by unfold nV; rw [List.map_set]
abbrev bA (l : List UInt8) : ByteArray := ⟨l.toArray⟩
theorem bA_size (l : List UInt8) : (bA l).size = l.length := by simp [ByteArray.size]
structure Sm where
  p : Nat
  o : Nat
  c : Nat
  a : Nat
  k : Nat
  cp : Nat
def pV (p : Nat × Nat × Nat) : List Value := [.int .i64 (p.1 : Int), .int .i64 (p.2.1 : Int), .int .i64 (p.2.2 : Int)]
def skV (l : List (Nat × Nat × Nat)) : List (List Value) := l.reverse.map pV
theorem skV_len (l : List (Nat × Nat × Nat)) : (skV l).length = l.length := by unfold skV; simp
theorem skV_cons (p : Nat × Nat × Nat) (l : List (Nat × Nat × Nat)) : skV (p :: l) = skV l ++ [pV p] := by unfold skV; simp
theorem skV_top (p : Nat × Nat × Nat) (l : List (Nat × Nat × Nat)) : (skV (p :: l)).getD l.length [] = pV p := by
  rw [skV_cons, List.getD_eq_getElem?_getD, List.getElem?_append_right (by rw [skV_len]; exact Nat.le_refl _), skV_len, Nat.sub_self]
  rfl
def soB (l : List UInt8) (x : SS) (m : Sm) : AB := ⟨205, true, [.string ⟨l.toArray⟩, .slice (some ⟨m.o, 0, none⟩) l.length l.length, .slice (some ⟨m.c, 0, none⟩) l.length l.length, .slice (some ⟨m.a, 0, none⟩) l.length l.length, .int .i64 (x.reach : Int), .slice (some ⟨m.k, 0, none⟩) x.stk.length m.cp, .int .i64 (x.lo : Int), .int .i64 (x.mid : Int), .int .i64 (x.hi : Int), .int .i64 (x.laid : Int), .int .i64 (x.one : Int), .int .i64 (x.two : Int), .int .i64 (x.rnk : Int), .int .i64 (x.last : Int), .int .i64 (x.steps : Int), .bool x.done]⟩
structure SoAt (h : H) (n : Nat) (L : Nat → Nat) (l : List UInt8) (x : SS) (m : Sm) : Prop where
  get : h.get m.p = some (soB l x m)
  lp : m.p < n
  lo : m.o < n
  lc : m.c < n
  la : m.a < n
  o : h.get m.o = some ⟨3, true, nV x.ord⟩
  c : h.get m.c = some ⟨3, true, nV x.cls⟩
  a : h.get m.a = some ⟨3, true, nV x.asd⟩
  ca : m.c ≠ m.a
  k : Pre h n 203 3 m.k m.cp (skV x.stk)
  kc : x.done = false → CAP ≤ m.cp ∨ m.cp = 1 ∧ x.stk = [(0, 0, l.length)]
  Lp : L m.p = 21
  Lo : L m.o = 22
  Lc : L m.c = 23
  La : L m.a = 23
  Lk : L m.k = 24
def WS (L : Nat → Nat) : Nat → Prop := fun c => 21 ≤ L c ∧ L c ≤ 24
theorem WS_of {L : Nat → Nat} {c i : Nat} (h : L c = i) (h1 : 21 ≤ i) (h2 : i ≤ 24) : WS L c := by unfold WS; omega
theorem lab_ne {L : Nat → Nat} {a b i j : Nat} (ha : L a = i) (hb : L b = j) (h : i ≠ j) : a ≠ b := fun e => h (by rw [← ha, ← hb, e])
theorem SoAt.keep {h h' : H} {n n' : Nat} {L L' : Nat → Nat} {l : List UInt8} {x : SS} {m : Sm} (y : SoAt h n L l x m) (hn : n ≤ n') (hL : ∀ c, c < n → L' c = L c) (hk : ∀ c, c < n → 21 ≤ L c → L c ≤ 24 → h'.get c = h.get c) : SoAt h' n' L' l x m := by
  have kk : ∀ {c i}, c < n → L c = i → 21 ≤ i → i ≤ 24 → h'.get c = h.get c := fun hc hl h1 h2 => hk _ hc (by omega) (by omega)
  exact ⟨(kk y.lp y.Lp (by decide) (by decide)).trans y.get, Nat.lt_of_lt_of_le y.lp hn, Nat.lt_of_lt_of_le y.lo hn, Nat.lt_of_lt_of_le y.lc hn, Nat.lt_of_lt_of_le y.la hn,
    (kk y.lo y.Lo (by decide) (by decide)).trans y.o, (kk y.lc y.Lc (by decide) (by decide)).trans y.c, (kk y.la y.La (by decide) (by decide)).trans y.a, y.ca,
    y.k.keep hn (kk y.k.lt y.Lk (by decide) (by decide)), y.kc, (hL _ y.lp).trans y.Lp, (hL _ y.lo).trans y.Lo, (hL _ y.lc).trans y.Lc, (hL _ y.la).trans y.La, (hL _ y.k.lt).trans y.Lk⟩
theorem rem_nat (a b : Nat) : ((a : Nat) : Int).tmod ((b : Nat) : Int) = ((a % b : Nat) : Int) := (Int.ofNat_tmod a b).symm
section
variable {lf d n : Nat} {h : H} {L : Nat → Nat} {l : List UInt8} {x : SS} {m : Sm}
theorem s_soKey (y : SoAt h n L l x m) {a : Nat} (ha : a < l.length) (cl : x.cls.length = l.length) (hr : x.reach ≤ 2 * l.length) (hN : l.length ≤ 900000) : Run (fun _ => False) n (evCall2 Tryz.prog gt lf (d + 1) 232 #[.pointer (some ⟨m.p, 0, none⟩), .int .i64 (a : Int)]) h n fun v' _ _ => v' = .agg #[.int .i64 ((keyS (bA l) x.reach x.cls a).1 : Int), .int .i64 ((keyS (bA l) x.reach x.cls a).2 : Int)] := by
  rw [shOf (fun _ => st_sorter_Sorter_key) rfl]
  refine Run.inside_ ?_
  unfold b_sorter_Sorter_key
  refine run_alloc rfl _ ?_
  have hp := y.lp
  have np : m.p ≠ n := by omega
  have nc : m.c ≠ n := by have := y.lc; omega
  have lp : m.p < n + 1 := by omega
  have lc : m.c < n + 1 := by have := y.lc; omega
  have g := (get_ne h (some ⟨31, true, z31⟩) np).trans y.get
  have gc := (get_ne h (some ⟨31, true, z31⟩) nc).trans y.c
  have gn := get_eq h n (some ⟨31, true, z31⟩)
  unfold soB at g
  have bs := bA_size l
  generalize h.set n (some ⟨31, true, z31⟩) = h1 at g gc gn ⊢
  unfold keyS
  by_cases c0 : x.reach = 0
  · have e0 : (((x.reach : Nat) : Int) == 0) = true := by rw [c0]; rfl
    have a1 : ((a : Nat) : Int) < ((l.length : Nat) : Int) := by omega
    have u := (l.getD a 0).toNat_lt
    have w1 : IntKind.i64.wrap (((l.getD a 0).toNat : Nat) : Int) = (((l.getD a 0).toNat : Nat) : Int) := wrap_id (by omega) (by omega)
    rw [if_pos c0]
    try simp (disch := first | omega | assumption) only [Nat.reduceAdd, Nat.reduceLT, RZ, g, e0, a1, w1]
    refine run_staF (sz := 2) trivial (vs := [.int .i64 (((l.getD a 0).toNat : Nat) : Int), .int .i64 0]) rfl rfl rfl gn (by omega) (.inl (by omega)) _ fun h2 g2 k2 => ?_
    exact run_ldaF trivial trivial g2 rfl (by omega) rfl
  · have e0 : (((x.reach : Nat) : Int) == 0) = false := beq_eq_false_iff_ne.2 (by omega)
    have a1 : ((a : Nat) : Int) < ((l.length : Nat) : Int) := by omega
    have w1 : IntKind.i64.wrap (((a : Nat) : Int) + ((x.reach : Nat) : Int)) = ((a + x.reach : Nat) : Int) := by rw [wrap_id (by omega) (by omega)]; rfl
    have r1 := rem_nat (a + x.reach) l.length
    have l0 : ¬ ((l.length : Nat) : Int) = 0 := by omega
    have lm : (a + x.reach) % l.length < l.length := Nat.mod_lt _ (by omega)
    have a2 : (((a + x.reach) % l.length : Nat) : Int) < ((l.length : Nat) : Int) := by omega
    have v1 := nV_at (l := x.cls) (i := a) (by omega)
    have v2 := nV_at (l := x.cls) (i := (a + x.reach) % l.length) (by omega)
    rw [if_neg c0, bs]
    generalize (a + x.reach) % l.length = q at *
    try simp (disch := first | omega | assumption) only [Nat.reduceAdd, Nat.reduceLT, RZ, g, gc, e0, a1, w1, r1, l0, a2, v1, v2, ne_eq, not_false_eq_true]
    refine run_staF (sz := 2) trivial (vs := [.int .i64 ((x.cls.getD a 0 : Nat) : Int), .int .i64 ((x.cls.getD q 0 : Nat) : Int)]) rfl rfl rfl gn (by omega) (.inl (by omega)) _ fun h2 g2 k2 => ?_
    exact run_ldaF trivial trivial g2 rfl (by omega) rfl
theorem s_soAbove (y : SoAt h n L l x m) {a b : Nat} (ha : a < l.length) (hb : b < l.length) (cl : x.cls.length = l.length) (hr : x.reach ≤ 2 * l.length) (hN : l.length ≤ 900000) : Run (fun _ => False) n (evCall2 Tryz.prog gt lf (d + 2) 212 #[.pointer (some ⟨m.p, 0, none⟩), .int .i64 (a : Int), .int .i64 (b : Int)]) h n fun v' _ _ => v' = .bool (abS (bA l) x a b) := by
  rw [shOf (fun _ => st_sorter_Sorter_above) rfl]
  refine Run.inside_ ?_
  unfold b_sorter_Sorter_above
  refine run_call okd (s_soKey (lf := lf) (d := d) y ha cl hr hN) (Nat.le_refl _) (fun _ _ h => h.elim) fun v1 h1 n1 hn1 fr1 hq1 => ?_
  subst hq1
  have y1 : SoAt h1 n1 L l x m := y.keep hn1 (fun _ _ => rfl) fun c hc _ _ => fr1 c hc id
  refine run_call okd (s_soKey (lf := lf) (d := d) y1 hb cl hr hN) (by omega) (fun _ _ h => h.elim) fun v2 h2 n2 hn2 fr2 hq2 => ?_
  subst hq2
  unfold abS gtP
  generalize (keyS (bA l) x.reach x.cls a).1 = a1
  generalize (keyS (bA l) x.reach x.cls a).2 = a2
  generalize (keyS (bA l) x.reach x.cls b).1 = b1
  generalize (keyS (bA l) x.reach x.cls b).2 = b2
  refine run_alloc rfl _ ?_
  refine run_alloc rfl _ ?_
  refine run_staF (sz := 2) trivial (vs := [.int .i64 (a1 : Int), .int .i64 (a2 : Int)]) rfl rfl rfl ((get_ne _ _ (by omega)).trans (get_eq _ n2 _)) (by omega) (.inl (by omega)) _ fun h3 g3 k3 => ?_
  refine run_staF (sz := 2) trivial (vs := [.int .i64 (b1 : Int), .int .i64 (b2 : Int)]) rfl rfl rfl ((k3 (n2 + 1) (by omega)).trans (get_eq _ _ _)) (by omega) (.inl (by omega)) _ fun h4 g4 k4 => ?_
  have g5 := (k4 n2 (by omega)).trans g3
  have q1 : n2 < n2 + 1 + 1 := by omega
  have q2 : n2 + 1 < n2 + 1 + 1 := by omega
  have i1 : (0 : Int) < 2 := by decide
  have i2 : (1 : Int) < 2 := by decide
  have t1 : (1 : Int).toNat = 1 := rfl
  by_cases c1 : b1 < a1
  · have e1 : ((b1 : Nat) : Int) < ((a1 : Nat) : Int) := by omega
    rw [decide_eq_true c1]
    try simp (disch := first | omega | assumption) only [Nat.reduceAdd, Nat.reduceLT, RZ, g5, g4, e1, i1, i2]
    all_goals (first | trivial | rfl | exact ⟨rfl, rfl, rfl⟩ | exact ⟨rfl, rfl⟩)
  · have e1 : ¬ ((b1 : Nat) : Int) < ((a1 : Nat) : Int) := by omega
    rw [decide_eq_false c1]
    by_cases c2 : a1 = b1
    · have e2 : (((a1 : Nat) : Int) == ((b1 : Nat) : Int)) = true := by rw [c2]; exact beq_iff_eq.2 rfl
      have e3 : (a1 == b1) = true := by rw [c2]; exact beq_iff_eq.2 rfl
      have e4 : decide (((b2 : Nat) : Int) < ((a2 : Nat) : Int)) = decide (b2 < a2) := by
        by_cases c : b2 < a2
        · rw [decide_eq_true c, decide_eq_true (by omega)]
        · rw [decide_eq_false c, decide_eq_false (by omega)]
      rw [e3]
      try simp (disch := first | omega | assumption) only [Nat.reduceAdd, Nat.reduceLT, RZ, g5, g4, e1, e2, e4, i1, i2, t1]
      all_goals (first | trivial | rfl | exact ⟨rfl, rfl, rfl⟩ | exact ⟨rfl, rfl⟩)
    · have e2 : (((a1 : Nat) : Int) == ((b1 : Nat) : Int)) = false := beq_eq_false_iff_ne.2 (by omega)
      have e3 : (a1 == b1) = false := beq_eq_false_iff_ne.2 c2
      rw [e3]
      try simp (disch := first | omega | assumption) only [Nat.reduceAdd, Nat.reduceLT, RZ, g5, g4, e1, e2, i1, i2]
      all_goals (first | trivial | rfl | exact ⟨rfl, rfl, rfl⟩ | exact ⟨rfl, rfl⟩)
end
end Go.Proofs.YtcehhgppfahbkaaGreatDoor
namespace Go.Proofs.YtcehhgppfahbkaaGreatDoor
set_option linter.unusedVariables false
set_option linter.unusedSimpArgs false
open Go.RowKit Ev Sp

theorem skV_app (a b : List (Nat × Nat × Nat)) : skV (a ++ b) = skV b ++ skV a := by unfold skV; simp
section
variable {lf d n : Nat} {h : H} {L : Nat → Nat} {l : List UInt8} {x : SS} {m : Sm}
theorem SoAt.upd (y : SoAt h n L l x m) {h' : H} {x' : SS} (gp : h'.get m.p = some (soB l x' m)) (go : h'.get m.o = some ⟨3, true, nV x'.ord⟩) (gc : h'.get m.c = some ⟨3, true, nV x'.cls⟩) (ga : h'.get m.a = some ⟨3, true, nV x'.asd⟩) (gk : h'.get m.k = h.get m.k) {us : List (Nat × Nat × Nat)} (hs : x.stk = us ++ x'.stk) (kc : x'.done = false → CAP ≤ m.cp ∨ m.cp = 1 ∧ x'.stk = [(0, 0, l.length)]) {n' : Nat} (hn : n ≤ n') : SoAt h' n' L l x' m := by
  refine ⟨gp, Nat.lt_of_lt_of_le y.lp hn, Nat.lt_of_lt_of_le y.lo hn, Nat.lt_of_lt_of_le y.lc hn, Nat.lt_of_lt_of_le y.la hn, go, gc, ga, y.ca, ?_, kc, y.Lp, y.Lo, y.Lc, y.La, y.Lk⟩
  have k := y.k
  rw [hs, skV_app] at k
  exact (k.cut rfl).keep hn gk
theorem SoAt.put (y : SoAt h n L l x m) {h' : H} {x' : SS} (gp : h'.get m.p = some (soB l x' m)) (hk : ∀ c, c < n → c ≠ m.p → h'.get c = h.get c) (e1 : x'.ord = x.ord) (e2 : x'.cls = x.cls) (e3 : x'.asd = x.asd) {us : List (Nat × Nat × Nat)} (hs : x.stk = us ++ x'.stk) (kc : x'.done = false → CAP ≤ m.cp ∨ m.cp = 1 ∧ x'.stk = [(0, 0, l.length)]) {n' : Nat} (hn : n ≤ n') : SoAt h' n' L l x' m :=
  y.upd gp ((hk _ y.lo (lab_ne y.Lo y.Lp (by decide))).trans (by rw [e1]; exact y.o)) ((hk _ y.lc (lab_ne y.Lc y.Lp (by decide))).trans (by rw [e2]; exact y.c)) ((hk _ y.la (lab_ne y.La y.Lp (by decide))).trans (by rw [e3]; exact y.a)) (hk _ y.k.lt (lab_ne y.Lk y.Lp (by decide))) hs kc hn
theorem s_soJoin (y : SoAt h n L l x m) (hl : x.stk.length ≤ 1000000000000) (h0 : x.done = false) : Run (WS L) n (evCall2 Tryz.prog gt lf (d + 1) 182 #[.pointer (some ⟨m.p, 0, none⟩)]) h n fun _ h' n' => n' = n ∧ SoAt h' n L l (joinS x) m := by
  have g := y.get
  have hp := y.lp
  have wp : WS L m.p := WS_of y.Lp (by decide) (by decide)
  unfold soB at g
  rw [shOf (fun _ => st_sorter_Sorter_join) rfl]
  refine Run.inside_ ?_
  unfold b_sorter_Sorter_join
  cases hs : x.stk with
  | nil =>
    rw [hs] at g
    have w1 : IntKind.i64.wrap (((0 : Nat) : Int) - 1) = -1 := rfl
    have c1 : (-1 : Int) < 0 := by decide
    have e : joinS x = x := by unfold joinS; rw [hs]
    rw [e]
    try simp (disch := first | omega | assumption) only [Nat.reduceAdd, Nat.reduceLT, RZ, g, w1, c1]
    exact y
  | cons p r =>
    rw [hs, List.length_cons] at g hl
    have w1 : IntKind.i64.wrap (((r.length + 1 : Nat) : Int) - 1) = ((r.length : Nat) : Int) := by rw [wrap_id (by omega) (by omega)]; omega
    have c1 : ¬ ((r.length : Nat) : Int) < 0 := by omega
    by_cases c2 : 0 < x.hi
    · have e2 : (0 : Int) < ((x.hi : Nat) : Int) := by omega
      have e : joinS x = x := by
        unfold joinS
        rw [hs]
        dsimp only
        rw [if_neg (by omega)]
      rw [e]
      try simp (disch := first | omega | assumption) only [Nat.reduceAdd, Nat.reduceLT, RZ, g, w1, c1, e2]
      exact y
    have e2 : ¬ (0 : Int) < ((x.hi : Nat) : Int) := by omega
    have kN : (skV x.stk).length = r.length + 1 := by rw [skV_len, hs]; rfl
    obtain ⟨cs, gk, k1⟩ := y.k.cell (i := r.length) (j := 1) (by omega) (by decide)
    have top : (skV x.stk).getD r.length [] = pV p := by rw [hs]; exact skV_top p r
    rw [top, Nat.zero_add] at k1
    have k1 : cs[r.length * 3 + 1]? = some (.int .i64 (p.2.1 : Int)) := k1
    have lk := y.k.lt
    have i1 : ((r.length : Nat) : Int) < ((r.length + 1 : Nat) : Int) := by omega
    by_cases c3 : p.2.1 = 0
    · have e3 : (((p.2.1 : Nat) : Int) == 0) = true := by rw [c3]; rfl
      have e : joinS x = x := by
        unfold joinS
        rw [hs]
        dsimp only
        rw [if_neg (by omega)]
      rw [e]
      try simp (disch := first | omega | assumption) only [Nat.reduceAdd, Nat.reduceLT, RZ, g, w1, c1, e2, i1, gk, k1, e3]
      exact y
    have e3 : (((p.2.1 : Nat) : Int) == 0) = false := beq_eq_false_iff_ne.2 (by omega)
    have ej : joinS x = { x with lo := p.1, mid := p.2.1, hi := p.2.2, stk := r, laid := 0, one := 0, two := p.2.1 } := by
      unfold joinS
      rw [hs]
      dsimp only
      rw [if_pos ⟨by omega, c3⟩]
    try simp (disch := first | omega | assumption) only [Nat.reduceAdd, Nat.reduceLT, RZ, g, w1, c1, e2, i1, gk, k1, e3]
    refine run_elQ y.k (i := r.length) (by omega) _ ?_
    rw [top]
    try simp (disch := first | omega | assumption) only [Nat.reduceAdd, Nat.reduceLT, RZ, g]
    refine run_sta trivial (vs := pV p) rfl rfl rfl g hp (show 6 + 3 ≤ 16 by decide) (.inr wp) _ fun h1 g1 f1 => ?_
    have g1 : h1.get m.p = some ⟨205, true, [.string ⟨l.toArray⟩, .slice (some ⟨m.o, 0, none⟩) l.length l.length, .slice (some ⟨m.c, 0, none⟩) l.length l.length, .slice (some ⟨m.a, 0, none⟩) l.length l.length, .int .i64 (x.reach : Int), .slice (some ⟨m.k, 0, none⟩) (r.length + 1) m.cp, .int .i64 (p.1 : Int), .int .i64 (p.2.1 : Int), .int .i64 (p.2.2 : Int), .int .i64 (x.laid : Int), .int .i64 (x.one : Int), .int .i64 (x.two : Int), .int .i64 (x.rnk : Int), .int .i64 (x.last : Int), .int .i64 (x.steps : Int), .bool x.done]⟩ := g1
    have pk := y.k.keep (Nat.le_refl n) (f1 m.k (lab_ne y.Lk y.Lp (by decide)))
    try simp (disch := first | omega | assumption) only [Nat.reduceAdd, Nat.reduceLT, RZ, g1]
    refine run_cutP pk (N := (r.length + 1)) kN (m := r.length) (by omega) _ ?_
    try simp (disch := first | omega | assumption) only [Nat.reduceAdd, Nat.reduceLT, RZ, g1, wp, or_true, true_and]
    rw [ej]
    refine y.put (x' := { x with lo := p.1, mid := p.2.1, hi := p.2.2, stk := r, laid := 0, one := 0, two := p.2.1 }) (us := [p]) ?_ (fun c _ hc => by rw [get_ne _ _ hc, get_ne _ _ hc, get_ne _ _ hc, get_ne _ _ hc]; exact f1 c hc) rfl rfl rfl hs (fun hd => ?_) (Nat.le_refl n)
    · rw [get_eq]
      rfl
    · rcases y.kc hd with q | ⟨_, q⟩
      · exact .inl q
      · rw [hs] at q
        cases q
        exact absurd rfl c3
theorem s_soLay (y : SoAt h n L l x m) (h1 : x.lo + x.laid < l.length) (h2 : x.laid < l.length) (ol : x.ord.length = l.length) (al : x.asd.length = l.length) (hN : l.length ≤ 900000) : Run (WS L) n (evCall2 Tryz.prog gt lf (d + 1) 183 #[.pointer (some ⟨m.p, 0, none⟩)]) h n fun _ h' n' => n' = n ∧ SoAt h' n L l (layS x) m := by
  have g := y.get
  have hp := y.lp
  have lo := y.lo
  have la := y.la
  have go := y.o
  have ga := y.a
  have wp : WS L m.p := WS_of y.Lp (by decide) (by decide)
  have wa : WS L m.a := WS_of y.La (by decide) (by decide)
  have oa : m.o ≠ m.a := lab_ne y.Lo y.La (by decide)
  have op : m.o ≠ m.p := lab_ne y.Lo y.Lp (by decide)
  have ap : m.a ≠ m.p := lab_ne y.La y.Lp (by decide)
  have pa : m.p ≠ m.a := Ne.symm ap
  unfold soB at g
  rw [shOf (fun _ => st_sorter_Sorter_lay) rfl]
  refine Run.inside_ ?_
  unfold b_sorter_Sorter_lay
  have w1 : IntKind.i64.wrap (((x.lo : Nat) : Int) + ((x.laid : Nat) : Int)) = ((x.lo + x.laid : Nat) : Int) := by rw [wrap_id (by omega) (by omega)]; rfl
  have w2 : IntKind.i64.wrap (((x.laid : Nat) : Int) + 1) = ((x.laid + 1 : Nat) : Int) := by rw [wrap_id (by omega) (by omega)]; rfl
  have i1 : ((x.lo + x.laid : Nat) : Int) < ((l.length : Nat) : Int) := by omega
  have i2 : ((x.laid : Nat) : Int) < ((l.length : Nat) : Int) := by omega
  have v1 := nV_at (l := x.ord) (i := x.lo + x.laid) (by omega)
  have nl : x.laid < (nV x.asd).length := by rw [nV_len]; omega
  try simp (disch := first | omega | assumption) only [Nat.reduceAdd, Nat.reduceLT, RZ, g, go, ga, w1, w2, i1, i2, v1, nl, wa, wp, pa, nV_set, or_true, true_and, ne_eq, not_false_eq_true]
  refine y.upd (x' := layS x) (us := []) ?_ ?_ ?_ ?_ ?_ rfl y.kc (Nat.le_refl n)
  · rw [get_eq]
    rfl
  · rw [get_ne _ _ op, get_ne _ _ oa]
    exact go
  · rw [get_ne _ _ (lab_ne y.Lc y.Lp (by decide)), get_ne _ _ y.ca]
    exact y.c
  · rw [get_ne _ _ ap, get_eq]
    rfl
  · rw [get_ne _ _ (lab_ne y.Lk y.Lp (by decide)), get_ne _ _ (lab_ne y.Lk y.La (by decide))]
end
end Go.Proofs.YtcehhgppfahbkaaGreatDoor
namespace Go.Proofs.YtcehhgppfahbkaaGreatDoor
set_option linter.unusedVariables false
set_option linter.unusedSimpArgs false
open Go.RowKit Ev Sp

section
variable {lf d n : Nat} {h : H} {L : Nat → Nat} {l : List UInt8} {x : SS} {m : Sm}
theorem put_tail {W : Nat → Prop} {n0 : Nat} (y : SoAt h n L l x m) {e pt : Nat} (ge : h.get e = some ⟨203, true, [.int .i64 (x.lo : Int), .int .i64 (x.mid : Int), .int .i64 (x.hi : Int)]⟩) (he : e < n) (hi : 1 ≤ x.hi) (h9 : x.hi ≤ 900000) (wp : W m.p) (ht : pt ≤ 10000000) (kc : x.done = false → CAP ≤ m.cp ∨ m.cp = 1 ∧ x.stk = [(0, 0, l.length)]) : Run W n0 (kld (.pointer (some ⟨e, 2, none⟩)) fun c => ksb c (ii 1) fun d => keq (.int .i64 (pt : Int)) d fun f => ifV f (ksg 3 (.pointer (some ⟨m.p, 6, none⟩)) (.agg #[ii 0, ii 0, ii 0]) fun _ => outK []) (outK [])) h n fun _ h' n' => n' = n ∧ SoAt h' n L l (endS x (pt + 1 == x.hi)) m := by
  have g := y.get
  have hp := y.lp
  unfold soB at g
  have w1 : IntKind.i64.wrap (((x.hi : Nat) : Int) - 1) = ((x.hi - 1 : Nat) : Int) := by rw [wrap_id (by omega) (by omega)]; omega
  by_cases c : pt + 1 = x.hi
  · have z : (((pt : Nat) : Int) == ((x.hi - 1 : Nat) : Int)) = true := beq_iff_eq.2 (by omega)
    have z2 : (pt + 1 == x.hi) = true := beq_iff_eq.2 c
    rw [z2]
    try simp (disch := first | omega | assumption) only [Nat.reduceAdd, Nat.reduceLT, RZ, ge, w1, z]
    refine run_sta trivial (vs := pV (0, 0, 0)) rfl rfl rfl g hp (show 6 + 3 ≤ 16 by decide) (.inr wp) _ fun h1 g1 f1 => ?_
    try simp (disch := first | omega | assumption) only [Nat.reduceAdd, Nat.reduceLT, RZ]
    exact y.put (x' := endS x true) (us := []) (g1.trans rfl) (fun c _ hc => f1 c hc) rfl rfl rfl rfl kc (Nat.le_refl n)
  · have z : (((pt : Nat) : Int) == ((x.hi - 1 : Nat) : Int)) = false := beq_eq_false_iff_ne.2 (by omega)
    have z2 : (pt + 1 == x.hi) = false := beq_eq_false_iff_ne.2 c
    rw [z2]
    try simp (disch := first | omega | assumption) only [Nat.reduceAdd, Nat.reduceLT, RZ, ge, w1, z]
    exact y
set_option maxHeartbeats 1000000 in
theorem s_soPut (y : SoAt h n L l x m) (mo : MergeOk l.length x) (full : x.laid = x.mid - x.lo) (ol : x.ord.length = l.length) (cl : x.cls.length = l.length) (al : x.asd.length = l.length) (ord : ∀ i, i < l.length → x.ord.getD i 0 < l.length) (hr : x.reach ≤ 2 * l.length) (hN : l.length ≤ 900000) : Run (WS L) n (evCall2 Tryz.prog gt lf (d + 3) 184 #[.pointer (some ⟨m.p, 0, none⟩)]) h n fun _ h' n' => SoAt h' n' L l (Sp.putS (bA l) x) m := by
  obtain ⟨m1, m2, m3, m4, m5, m6, m7, m8, m9, m10⟩ := mo
  have g := y.get
  have hp := y.lp
  have wp : WS L m.p := WS_of y.Lp (by decide) (by decide)
  have wo : WS L m.o := WS_of y.Lo (by decide) (by decide)
  have op : m.o ≠ m.p := lab_ne y.Lo y.Lp (by decide)
  have po : m.p ≠ m.o := Ne.symm op
  have co : m.c ≠ m.o := lab_ne y.Lc y.Lo (by decide)
  have cp : m.c ≠ m.p := lab_ne y.Lc y.Lp (by decide)
  have ao : m.a ≠ m.o := lab_ne y.La y.Lo (by decide)
  have ap : m.a ≠ m.p := lab_ne y.La y.Lp (by decide)
  have ko : m.k ≠ m.o := lab_ne y.Lk y.Lo (by decide)
  have kp : m.k ≠ m.p := lab_ne y.Lk y.Lp (by decide)
  unfold soB at g
  rw [shOf (fun _ => st_sorter_Sorter_put) rfl]
  refine Run.inside_ ?_
  unfold b_sorter_Sorter_put
  try simp (disch := first | omega | assumption) only [Nat.reduceAdd, Nat.reduceLT, RZ]
  refine run_klg m.p 6 _ g hp (show 6 + 3 ≤ 16 by decide) ?_
  try simp (disch := first | omega | assumption) only [Nat.reduceAdd, Nat.reduceLT, RZ]
  refine run_alloc rfl _ ?_
  refine run_staF (sz := 3) trivial (vs := pV (x.lo, x.mid, x.hi)) rfl rfl rfl (get_eq _ _ _) (by omega) (.inl (by omega)) _ fun h2 g2 k2 => ?_
  have ge : h2.get n = some ⟨203, true, [.int .i64 (x.lo : Int), .int .i64 (x.mid : Int), .int .i64 (x.hi : Int)]⟩ := g2
  have y2 : SoAt h2 (n + 1) L l x m := y.keep (by omega) (fun _ _ => rfl) fun c hc _ _ => (k2 c (by omega)).trans (get_ne _ _ (by omega))
  clear g2 k2
  have g := y2.get
  have hp := y2.lp
  have lo := y2.lo
  have la := y2.la
  have go := y2.o
  have ga := y2.a
  have np : m.p ≠ n := by have := y.lp; omega
  have no : m.o ≠ n := by have := y.lo; omega
  have pn := Ne.symm np
  have on := Ne.symm no
  have nn : n < n + 1 := Nat.lt_succ_self n
  unfold soB at g
  obtain ⟨pt, hto⟩ : ∃ pt, toS x = pt := ⟨_, rfl⟩
  have hto2 : x.lo + x.one + x.two - x.mid = pt := hto
  have tl : pt < l.length := by omega
  have w1 : IntKind.i64.wrap (((x.lo : Nat) : Int) + ((x.one : Nat) : Int)) = ((x.lo + x.one : Nat) : Int) := by rw [wrap_id (by omega) (by omega)]; rfl
  have w2 : IntKind.i64.wrap (((x.lo + x.one : Nat) : Int) + ((x.two : Nat) : Int)) = ((x.lo + x.one + x.two : Nat) : Int) := by rw [wrap_id (by omega) (by omega)]; rfl
  have w3 : IntKind.i64.wrap (((x.lo + x.one + x.two : Nat) : Int) - ((x.mid : Nat) : Int)) = ((pt : Nat) : Int) := by rw [wrap_id (by omega) (by omega)]; omega
  have w4 : IntKind.i64.wrap (((x.one : Nat) : Int) + 1) = ((x.one + 1 : Nat) : Int) := by rw [wrap_id (by omega) (by omega)]; rfl
  have w5 : IntKind.i64.wrap (((x.two : Nat) : Int) + 1) = ((x.two + 1 : Nat) : Int) := by rw [wrap_id (by omega) (by omega)]; rfl
  have i0 : ((pt : Nat) : Int) < ((l.length : Nat) : Int) := by omega
  have nl : pt < (nV x.ord).length := by rw [nV_len]; omega
  try simp (disch := first | omega | assumption) only [Nat.reduceAdd, Nat.reduceLT, RZ, g, ge, nn, w1, w2, w3]
  obtain ⟨T, hT⟩ : ∃ T : M Value, T = (kld (.pointer (some ⟨n, 2, none⟩)) fun c => ksb c (ii 1) fun d => keq (.int .i64 (pt : Int)) d fun f => ifV f (ksg 3 (.pointer (some ⟨m.p, 6, none⟩)) (.agg #[ii 0, ii 0, ii 0]) fun _ => outK []) (outK [])) := ⟨_, rfl⟩
  rw [← hT]
  -- what is left behind one that was put
  have fin : ∀ (h' : H) (n' : Nat) (x1 : SS), n + 1 ≤ n' → h'.get m.p = some (soB l x1 m) → h'.get m.o = some ⟨3, true, nV x1.ord⟩ → (∀ c, c < n + 1 → c ≠ m.p → c ≠ m.o → h'.get c = h2.get c) → x1.cls = x.cls → x1.asd = x.asd → x1.stk = x.stk → x1.lo = x.lo → x1.mid = x.mid → x1.hi = x.hi → x1.done = x.done → Run (WS L) n T h' n' fun _ h'' n'' => SoAt h'' n'' L l (endS x1 (pt + 1 == x1.hi)) m := by
    intro h' n' x1 hn gp go1 hk e1 e2 e3 e4 e5 e6 e7
    have y1 : SoAt h' n' L l x1 m := y2.upd (x' := x1) (us := []) gp go1 ((hk _ y2.lc cp co).trans (by rw [e1]; exact y2.c)) ((hk _ la ap ao).trans (by rw [e2]; exact ga)) (hk _ y2.k.lt kp ko) (by rw [e3]; rfl) (fun q => by rw [e3]; exact y2.kc (e7 ▸ q)) hn
    rw [hT]
    refine (put_tail (W := WS L) (n0 := n) y1 (e := n) (pt := pt) (by rw [hk n nn pn on, e4, e5, e6]; exact ge) (by omega) (by rw [e6]; omega) (by rw [e6]; omega) wp (by omega) y1.kc).mono fun v8 h8 n8 _ q => ?_
    rw [q.1]
    exact q.2
  unfold Sp.putS
  rw [hto]
  by_cases c1 : x.two = x.hi
  · have z1 : (((x.two : Nat) : Int) == ((x.hi : Nat) : Int)) = true := by rw [c1]; exact beq_iff_eq.2 rfl
    have tk : takeS (bA l) x = true := by
      unfold takeS
      rw [show (x.two == x.hi) = true from beq_iff_eq.2 c1]
      rfl
    have i1 : ((x.one : Nat) : Int) < ((l.length : Nat) : Int) := by omega
    have v1 := nV_at (l := x.asd) (i := x.one) (by omega)
    rw [if_pos tk]
    try simp (disch := first | omega | assumption) only [Nat.reduceAdd, Nat.reduceLT, RZ, g, ge, go, ga, nn, w4, z1, i0, i1, v1, nl, wo, wp, po, nV_set, or_true, true_and, ne_eq, not_false_eq_true]
    refine fin _ _ _ (Nat.le_refl _) ?_ ?_ ?_ rfl rfl rfl rfl rfl rfl rfl
    · rw [get_eq]; rfl
    · rw [get_ne _ _ op, get_eq]
    · intro c hc q1 q2
      rw [get_ne _ _ q1, get_ne _ _ q2]
  have z1 : (((x.two : Nat) : Int) == ((x.hi : Nat) : Int)) = false := beq_eq_false_iff_ne.2 (by omega)
  have z1' : (x.two == x.hi) = false := beq_eq_false_iff_ne.2 c1
  have i2 : ((x.two : Nat) : Int) < ((l.length : Nat) : Int) := by omega
  have v2 := nV_at (l := x.ord) (i := x.two) (by omega)
  by_cases c2 : x.one < x.laid
  · have z2 : ((x.one : Nat) : Int) < ((x.laid : Nat) : Int) := by omega
    have i1 : ((x.one : Nat) : Int) < ((l.length : Nat) : Int) := by omega
    have v1 := nV_at (l := x.asd) (i := x.one) (by omega)
    try simp (disch := first | omega | assumption) only [Nat.reduceAdd, Nat.reduceLT, RZ, g, ge, go, ga, nn, z1, z2, i1, i2, v1, v2]
    refine run_call okd (s_soAbove (lf := lf) (d := d) y2 (m10 x.one c2) (ord x.two (by omega)) cl hr hN) (by omega) (fun _ _ h => h.elim) fun v3 h3 n3 hn3 fr3 hq3 => ?_
    subst hq3
    have y3 : SoAt h3 n3 L l x m := y2.keep hn3 (fun _ _ => rfl) fun c hc _ _ => fr3 c hc id
    have g := y3.get
    have hp := y3.lp
    have lo := y3.lo
    have la := y3.la
    have go := y3.o
    have ga := y3.a
    unfold soB at g
    cases ab : abS (bA l) x (x.asd.getD x.one 0) (x.ord.getD x.two 0) with
    | false =>
      have tk : takeS (bA l) x = true := by
        unfold takeS
        rw [ab, decide_eq_true c2]
        simp
      rw [if_pos tk]
      try simp (disch := first | omega | assumption) only [Nat.reduceAdd, Nat.reduceLT, RZ, g, go, ga, w4, i0, i1, v1, nl, wo, wp, po, nV_set, or_true, true_and, ne_eq, not_false_eq_true, Bool.not_false]
      refine fin _ _ _ hn3 ?_ ?_ ?_ rfl rfl rfl rfl rfl rfl rfl
      · rw [get_eq]; rfl
      · rw [get_ne _ _ op, get_eq]
      · intro c hc q1 q2
        rw [get_ne _ _ q1, get_ne _ _ q2]
        exact fr3 c hc id
    | true =>
      have tk : ¬ takeS (bA l) x = true := by
        unfold takeS
        rw [ab, decide_eq_true c2, z1']
        simp
      rw [if_neg tk]
      try simp (disch := first | omega | assumption) only [Nat.reduceAdd, Nat.reduceLT, RZ, g, go, ga, w5, i0, i2, v2, nl, wo, wp, po, nV_set, or_true, true_and, ne_eq, not_false_eq_true, Bool.not_true]
      refine fin _ _ _ hn3 ?_ ?_ ?_ rfl rfl rfl rfl rfl rfl rfl
      · rw [get_eq]; rfl
      · rw [get_ne _ _ op, get_eq]
      · intro c hc q1 q2
        rw [get_ne _ _ q1, get_ne _ _ q2]
        exact fr3 c hc id
  · have z2 : ¬ ((x.one : Nat) : Int) < ((x.laid : Nat) : Int) := by omega
    have tk : ¬ takeS (bA l) x = true := by
      unfold takeS
      rw [decide_eq_false c2, z1']
      simp
    rw [if_neg tk]
    try simp (disch := first | omega | assumption) only [Nat.reduceAdd, Nat.reduceLT, RZ, g, ge, go, ga, nn, w5, z1, z2, i0, i2, v2, nl, wo, wp, po, nV_set, or_true, true_and, ne_eq, not_false_eq_true]
    refine fin _ _ _ (Nat.le_refl _) ?_ ?_ ?_ rfl rfl rfl rfl rfl rfl rfl
    · rw [get_eq]; rfl
    · rw [get_ne _ _ op, get_eq]
    · intro c hc q1 q2
      rw [get_ne _ _ q1, get_ne _ _ q2]
end
end Go.Proofs.YtcehhgppfahbkaaGreatDoor
namespace Go.Proofs.YtcehhgppfahbkaaGreatDoor
set_option linter.unusedVariables false
set_option linter.unusedSimpArgs false
open Go.RowKit Ev Sp

def SoPost (L : Nat → Nat) (n : Nat) (l : List UInt8) (x' : SS) (m : Sm) (h' : H) (n' : Nat) : Prop := ∃ L' m', (∀ c, c < n → L' c = L c) ∧ m'.p = m.p ∧ SoAt h' n' L' l x' m'
section
variable {lf d n : Nat} {h : H} {L : Nat → Nat} {l : List UInt8} {x : SS} {m : Sm}
theorem SoAt.stack (y : SoAt h n L l x m) {h' : H} {n' k cp : Nat} {x' : SS} {m' : Sm} (hm : m' = { m with k := k, cp := cp } ∨ m' = { m with c := m.a, a := m.c, k := k, cp := cp }) (gp : h'.get m.p = some (soB l x' m')) (go : h'.get m.o = some ⟨3, true, nV x'.ord⟩) (gc : h'.get m'.c = some ⟨3, true, nV x'.cls⟩) (ga : h'.get m'.a = some ⟨3, true, nV x'.asd⟩) (pk : Pre h' n' 203 3 k cp (skV x'.stk)) (hcp : CAP ≤ cp) (hk : n ≤ k) (hn : n ≤ n') : SoPost L n l x' m h' n' := by
  have e0 : ∀ c, c < n → (if c < n then L c else 24) = L c := fun c hc => if_pos hc
  refine ⟨fun c => if c < n then L c else 24, m', e0, ?_, ?_⟩
  · rcases hm with rfl | rfl <;> rfl
  · have lk : (if k < n then L k else 24) = 24 := if_neg (by omega)
    rcases hm with rfl | rfl
    · exact ⟨gp, Nat.lt_of_lt_of_le y.lp hn, Nat.lt_of_lt_of_le y.lo hn, Nat.lt_of_lt_of_le y.lc hn, Nat.lt_of_lt_of_le y.la hn, go, gc, ga, y.ca, pk, fun _ => .inl hcp, (e0 _ y.lp).trans y.Lp, (e0 _ y.lo).trans y.Lo, (e0 _ y.lc).trans y.Lc, (e0 _ y.la).trans y.La, lk⟩
    · exact ⟨gp, Nat.lt_of_lt_of_le y.lp hn, Nat.lt_of_lt_of_le y.lo hn, Nat.lt_of_lt_of_le y.la hn, Nat.lt_of_lt_of_le y.lc hn, go, gc, ga, Ne.symm y.ca, pk, fun _ => .inl hcp, (e0 _ y.lp).trans y.Lp, (e0 _ y.lo).trans y.Lo, (e0 _ y.la).trans y.La, (e0 _ y.lc).trans y.Lc, lk⟩
theorem SoAt.post (y : SoAt h n L l x m) {h' : H} {n' : Nat} {x' : SS} (z : SoAt h' n' L l x' m) : SoPost L n l x' m h' n' := ⟨L, m, fun _ _ => rfl, rfl, z⟩
theorem s_soBegin (y : SoAt h n L l x m) {p : Nat × Nat × Nat} {r : List (Nat × Nat × Nat)} (hs : x.stk = p :: r) (p1 : p.1 ≤ p.2.2) (p2 : p.2.2 ≤ l.length) (h2 : 2 ≤ l.length) (hd : x.done = false) (hl : x.stk.length ≤ 1000000000000) (hN : l.length ≤ 900000) : Run (WS L) n (evCall2 Tryz.prog gt lf (d + 1) 185 #[.pointer (some ⟨m.p, 0, none⟩)]) h n fun _ h' n' => SoPost L n l (beginS x) m h' n' := by
  have g := y.get
  have hp := y.lp
  have wp : WS L m.p := WS_of y.Lp (by decide) (by decide)
  have wk : WS L m.k := WS_of y.Lk (by decide) (by decide)
  have kp : m.k ≠ m.p := lab_ne y.Lk y.Lp (by decide)
  unfold soB at g
  rw [hs, List.length_cons] at g hl
  rw [shOf (fun _ => st_sorter_Sorter_begin) rfl]
  refine Run.inside_ ?_
  unfold b_sorter_Sorter_begin
  have w1 : IntKind.i64.wrap (((r.length + 1 : Nat) : Int) - 1) = ((r.length : Nat) : Int) := by rw [wrap_id (by omega) (by omega)]; omega
  have kN : (skV x.stk).length = r.length + 1 := by rw [skV_len, hs]; rfl
  have top : (skV x.stk).getD r.length [] = pV p := by rw [hs]; exact skV_top p r
  have i1 : ((r.length : Nat) : Int) < ((r.length + 1 : Nat) : Int) := by omega
  try simp (disch := first | omega | assumption) only [Nat.reduceAdd, Nat.reduceLT, RZ, g, w1, i1]
  refine run_elQ y.k (i := r.length) (by omega) _ ?_
  rw [top]
  refine run_alloc rfl _ ?_
  refine run_staF (sz := 3) trivial (vs := pV p) rfl rfl rfl (get_eq _ _ _) (by omega) (.inl (by omega)) _ fun h2' g2 k2 => ?_
  have ge : h2'.get n = some ⟨203, true, [.int .i64 (p.1 : Int), .int .i64 (p.2.1 : Int), .int .i64 (p.2.2 : Int)]⟩ := g2
  have y2 : SoAt h2' (n + 1) L l x m := y.keep (by omega) (fun _ _ => rfl) fun c hc _ _ => (k2 c (by omega)).trans (get_ne _ _ (by omega))
  clear g2 k2
  have g := y2.get
  have hp := y2.lp
  have np : m.p ≠ n := by have := y.lp; omega
  have pn := Ne.symm np
  have nn : n < n + 1 := Nat.lt_succ_self n
  unfold soB at g
  rw [hs, List.length_cons] at g
  try simp (disch := first | omega | assumption) only [Nat.reduceAdd, Nat.reduceLT, RZ, g, w1]
  refine run_cutP y2.k kN (m := r.length) (by omega) _ ?_
  have w2 : IntKind.i64.wrap (((p.2.2 : Nat) : Int) - ((p.1 : Nat) : Int)) = ((p.2.2 - p.1 : Nat) : Int) := by rw [wrap_id (by omega) (by omega)]; omega
  have cpC : CAP ≤ m.cp ∨ m.cp = 1 ∧ p = (0, 0, l.length) ∧ r = [] := by
    rcases y.kc hd with q | ⟨q1, q2⟩
    · exact .inl q
    · rw [hs] at q2
      exact .inr ⟨q1, (List.cons.inj q2).1, (List.cons.inj q2).2⟩
  by_cases c : p.2.2 - p.1 < 2
  · have z : ((p.2.2 - p.1 : Nat) : Int) < 2 := by omega
    have eb : beginS x = { x with stk := r } := by
      unfold beginS
      rw [hs]
      dsimp only
      rw [if_pos c]
    rw [eb]
    try simp (disch := first | omega | assumption) only [Nat.reduceAdd, Nat.reduceLT, RZ, g, ge, w2, z, nn, wp, np, pn, or_true, true_and, ne_eq, not_false_eq_true]
    refine y.post (y2.put (x' := { x with stk := r }) (us := [p]) ?_ (fun c _ hc => by rw [get_ne _ _ hc]) rfl rfl rfl hs (fun _ => .inl ?_) (Nat.le_refl _))
    · rw [get_eq]
      rfl
    · rcases cpC with q | ⟨_, q, _⟩
      · exact q
      · rw [q] at c
        dsimp only at c
        omega
  · have z : ¬ ((p.2.2 - p.1 : Nat) : Int) < 2 := by omega
    obtain ⟨mid, hmid⟩ : ∃ mid, (p.1 + p.2.2) / 2 = mid := ⟨_, rfl⟩
    have w3 : IntKind.i64.wrap (((p.1 : Nat) : Int) + ((p.2.2 : Nat) : Int)) = ((p.1 + p.2.2 : Nat) : Int) := by rw [wrap_id (by omega) (by omega)]; rfl
    have w4 : IntKind.i64.wrap (((p.1 + p.2.2 : Nat) : Int).tdiv 2) = ((mid : Nat) : Int) := by rw [show (2 : Int) = ((2 : Nat) : Int) from rfl, ← Int.ofNat_tdiv, hmid, wrap_id (by omega) (by omega)]
    have eb : beginS x = { x with stk := (p.1, 0, mid) :: (mid, 0, p.2.2) :: (p.1, mid, p.2.2) :: r } := by
      unfold beginS
      rw [hs]
      dsimp only
      rw [if_neg c, hmid]
    rw [eb]
    try simp (disch := first | omega | assumption) only [Nat.reduceAdd, Nat.reduceLT, RZ, g, ge, w2, w3, w4, z, nn, wp, np, pn, or_true, true_and, ne_eq, not_false_eq_true]
    refine run_kbs (cs := [pV (p.1, mid, p.2.2), pV (mid, 0, p.2.2), pV (p.1, 0, mid)].flatten) rfl _ ?_
    have key : ∀ h3 : H, h3.get m.p = some (soB l { x with stk := r } m) → (∀ c, c ≠ m.p → h3.get c = h2'.get c) → Run (WS L) n (kap 203 3 (.slice (some ⟨m.k, 0, none⟩) r.length m.cp) (.slice (some ⟨n + 1, 0, none⟩) 3 3) fun v => kst (.pointer (some ⟨m.p, 5, none⟩)) v fun _ => outK []) (h3.set (n + 1) (some ⟨203, true, [pV (p.1, mid, p.2.2), pV (mid, 0, p.2.2), pV (p.1, 0, mid)].flatten⟩)) (n + 1 + 1) fun _ h' n' => SoPost L n l { x with stk := (p.1, 0, mid) :: (mid, 0, p.2.2) :: (p.1, mid, p.2.2) :: r } m h' n' := fun h3 g3 k3 => by
      have lk := y.k.lt
      have pk := (y2.k.cut (us := skV r) (vs := [pV p]) (by rw [hs, skV_cons])).keep (h' := h3.set (n + 1) (some ⟨203, true, [pV (p.1, mid, p.2.2), pV (mid, 0, p.2.2), pV (p.1, 0, mid)].flatten⟩)) (n' := n + 1 + 1) (by omega) (by rw [get_ne _ _ (by omega)]; exact k3 _ kp)
      have e3 : skV ((p.1, 0, mid) :: (mid, 0, p.2.2) :: (p.1, mid, p.2.2) :: r) = skV r ++ [pV (p.1, mid, p.2.2), pV (mid, 0, p.2.2), pV (p.1, 0, mid)] := by simp only [skV_cons, List.append_assoc, List.cons_append, List.nil_append]
      refine run_appP pk (N := r.length) (M' := 3) (us := [pV (p.1, mid, p.2.2), pV (mid, 0, p.2.2), pV (p.1, 0, mid)]) (skV_len r) rfl (by intro t ht; simp only [List.mem_cons, List.not_mem_nil, or_false] at ht; rcases ht with rfl | rfl | rfl <;> rfl) (Nat.zero_lt_succ _) rfl (get_eq _ _ _) (by omega) (by omega) (by
        rcases cpC with q | ⟨q, _, _⟩
        · exact .inl q
        · exact .inr (by omega)) (.inr wk) _ fun h4 pk4 k4 => ?_
      have g4 : h4.get m.p = some (soB l { x with stk := r } m) := (k4 _ (by omega) (Ne.symm kp)).trans ((get_ne _ _ (by omega)).trans g3)
      unfold soB at g4
      have hp4 : m.p < n + 1 + 1 + 1 := by omega
      try simp (disch := first | omega | assumption) only [Nat.reduceAdd, Nat.reduceLT, RZ, g4, wp, or_true, true_and]
      have kk : ∀ c, c < n → c ≠ m.p → c ≠ m.k → (h4.set m.p (some (soB l { x with stk := (p.1, 0, mid) :: (mid, 0, p.2.2) :: (p.1, mid, p.2.2) :: r } { m with k := n + 1 + 1, cp := CAP + (r.length + 3) }))).get c = h2'.get c := fun c hc q1 q2 => by rw [get_ne _ _ q1, k4 _ (by omega) q2, get_ne _ _ (by omega), k3 _ q1]
      exact y.stack (m' := { m with k := n + 1 + 1, cp := CAP + (r.length + 3) }) (.inl rfl) (get_eq _ _ _) ((kk _ y.lo (lab_ne y.Lo y.Lp (by decide)) (lab_ne y.Lo y.Lk (by decide))).trans y2.o) ((kk _ y.lc (lab_ne y.Lc y.Lp (by decide)) (lab_ne y.Lc y.Lk (by decide))).trans y2.c) ((kk _ y.la (lab_ne y.La y.Lp (by decide)) (lab_ne y.La y.Lk (by decide))).trans y2.a) (by rw [e3]; exact pk4.keep (Nat.le_refl _) (get_ne _ _ (by omega))) (by omega) (by omega) (by omega)
    exact key _ (get_eq _ _ _) fun c hc => get_ne _ _ hc
end
end Go.Proofs.YtcehhgppfahbkaaGreatDoor
namespace Go.Proofs.YtcehhgppfahbkaaGreatDoor
set_option linter.unusedVariables false
set_option linter.unusedSimpArgs false
open Go.RowKit Ev Sp

section
variable {lf d n : Nat} {h : H} {L : Nat → Nat} {l : List UInt8} {x : SS} {m : Sm}
theorem s_soPass (y : SoAt h n L l x m) (hs : x.stk = []) (ol : x.ord.length = l.length) (h2 : 2 ≤ l.length) (hN : l.length ≤ 900000) (hl : x.last ≤ l.length) (hr : x.reach ≤ 2 * l.length) (hd : x.done = false) : Run (WS L) n (evCall2 Tryz.prog gt lf (d + 1) 213 #[.pointer (some ⟨m.p, 0, none⟩)]) h n fun _ h' n' => SoPost L n l (passS x) m h' n' := by
  have g := y.get
  have hp := y.lp
  have wp : WS L m.p := WS_of y.Lp (by decide) (by decide)
  have wk : WS L m.k := WS_of y.Lk (by decide) (by decide)
  have kp : m.k ≠ m.p := lab_ne y.Lk y.Lp (by decide)
  have op : m.o ≠ m.p := lab_ne y.Lo y.Lp (by decide)
  have cp : m.c ≠ m.p := lab_ne y.Lc y.Lp (by decide)
  have ap : m.a ≠ m.p := lab_ne y.La y.Lp (by decide)
  have cpC : CAP ≤ m.cp := by
    rcases y.kc hd with q | ⟨_, q⟩
    · exact q
    · rw [hs] at q; cases q
  unfold soB at g
  rw [hs, List.length_nil] at g
  rw [shOf (fun _ => st_sorter_Sorter_pass) rfl]
  refine Run.inside_ ?_
  unfold b_sorter_Sorter_pass
  have w1 : IntKind.i64.wrap (((l.length : Nat) : Int) - 1) = ((l.length - 1 : Nat) : Int) := by rw [wrap_id (by omega) (by omega)]; omega
  -- it is done
  have dn : ∀ h' : H, x.last + 1 = x.ord.length ∨ x.ord.length ≤ x.reach → h'.get m.p = some (soB l (passS x) { m with c := m.a, a := m.c }) → (∀ c, c ≠ m.p → h'.get c = h.get c) → SoPost L n l (passS x) m h' n := fun h' c g1 k1 => by
    have e : passS x = { x with cls := x.asd, asd := x.cls, rnk := 0, done := true } := by unfold passS; rw [if_pos c]
    rw [e] at g1 ⊢
    exact ⟨L, { m with c := m.a, a := m.c }, fun _ _ => rfl, rfl, ⟨g1, hp, y.lo, y.la, y.lc, (k1 _ op).trans y.o, (k1 _ ap).trans y.a, (k1 _ cp).trans y.c, Ne.symm y.ca, y.k.keep (Nat.le_refl n) (k1 _ kp), fun q => (by cases q), y.Lp, y.Lo, y.La, y.Lc, y.Lk⟩⟩
  by_cases c1 : x.last + 1 = x.ord.length
  · have z1 : (((x.last : Nat) : Int) == ((l.length - 1 : Nat) : Int)) = true := beq_iff_eq.2 (by omega)
    try simp (disch := first | omega | assumption) only [Nat.reduceAdd, Nat.reduceLT, RZ, g, w1, z1, wp, or_true, true_and]
    refine dn _ (.inl c1) ?_ (fun c hc => by rw [get_ne _ _ hc, get_ne _ _ hc, get_ne _ _ hc, get_ne _ _ hc])
    rw [get_eq]
    unfold passS
    rw [if_pos (.inl c1)]
    unfold soB
    dsimp only
    rw [hs]
    rfl
  have z1 : (((x.last : Nat) : Int) == ((l.length - 1 : Nat) : Int)) = false := beq_eq_false_iff_ne.2 (by omega)
  by_cases c2 : x.ord.length ≤ x.reach
  · have z2 : ((l.length : Nat) : Int) ≤ ((x.reach : Nat) : Int) := by omega
    try simp (disch := first | omega | assumption) only [Nat.reduceAdd, Nat.reduceLT, RZ, g, w1, z1, z2, wp, or_true, true_and]
    refine dn _ (.inr c2) ?_ (fun c hc => by rw [get_ne _ _ hc, get_ne _ _ hc, get_ne _ _ hc, get_ne _ _ hc])
    rw [get_eq]
    unfold passS
    rw [if_pos (.inr c2)]
    unfold soB
    dsimp only
    rw [hs]
    rfl
  have z2 : ¬ ((l.length : Nat) : Int) ≤ ((x.reach : Nat) : Int) := by omega
  have w2 : IntKind.i64.wrap (2 * ((x.reach : Nat) : Int)) = ((2 * x.reach : Nat) : Int) := by rw [wrap_id (by omega) (by omega)]; rfl
  have zm : (if (1 : Int) < ((2 * x.reach : Nat) : Int) then ((2 * x.reach : Nat) : Int) else 1) = ((max 1 (2 * x.reach) : Nat) : Int) := by split <;> omega
  have e : passS x = { x with cls := x.asd, asd := x.cls, rnk := 0, reach := max 1 (2 * x.reach), stk := [(0, 0, l.length)] } := by
    unfold passS
    rw [if_neg (fun q => q.elim c1 c2), hs, ol]
  rw [e]
  try simp (disch := first | omega | assumption) only [Nat.reduceAdd, Nat.reduceLT, RZ, g, w1, w2, zm, z1, z2, wp, or_true, true_and]
  refine run_kb1S (vs := pV (0, 0, l.length)) rfl _ ?_
  have key : ∀ h3 : H, h3.get m.p = some (soB l { x with cls := x.asd, asd := x.cls, rnk := 0, reach := max 1 (2 * x.reach) } { m with c := m.a, a := m.c }) → (∀ c, c ≠ m.p → h3.get c = h.get c) → Run (WS L) n (kap 203 3 (.slice (some ⟨m.k, 0, none⟩) 0 m.cp) (.slice (some ⟨n, 0, none⟩) 1 1) fun v => kst (.pointer (some ⟨m.p, 5, none⟩)) v fun _ => outK []) (h3.set n (some ⟨203, true, pV (0, 0, l.length)⟩)) (n + 1) fun _ h' n' => SoPost L n l { x with cls := x.asd, asd := x.cls, rnk := 0, reach := max 1 (2 * x.reach), stk := [(0, 0, l.length)] } m h' n' := fun h3 g3 k3 => by
    have lk := y.k.lt
    have pk := y.k.keep (h' := h3.set n (some ⟨203, true, pV (0, 0, l.length)⟩)) (n' := n + 1) (by omega) (by rw [get_ne _ _ (by omega)]; exact k3 _ kp)
    rw [hs] at pk
    refine run_appP pk (N := 0) (M' := 1) (us := [pV (0, 0, l.length)]) rfl rfl (by intro t ht; rw [List.mem_singleton.1 ht]; rfl) (Nat.zero_lt_succ _) rfl ((get_eq _ _ _).trans rfl) (by omega) (by omega) (.inl cpC) (.inr wk) _ fun h4 pk4 k4 => ?_
    have g4 := (k4 m.p (by omega) (Ne.symm kp)).trans ((get_ne _ _ (by omega)).trans g3)
    unfold soB at g4
    have hp4 : m.p < n + 1 + 1 := by omega
    try simp (disch := first | omega | assumption) only [Nat.reduceAdd, Nat.reduceLT, RZ, g4, wp, or_true, true_and]
    have kk : ∀ (B : AB) c, c < n → c ≠ m.p → c ≠ m.k → (h4.set m.p (some B)).get c = h.get c := fun B c hc q1 q2 => by rw [get_ne _ _ q1, k4 _ (by omega) q2, get_ne _ _ (by omega), k3 _ q1]
    refine y.stack (k := n + 1) (cp := CAP + (0 + 1)) (m' := { m with c := m.a, a := m.c, k := n + 1, cp := CAP + (0 + 1) }) (.inr rfl) (get_eq _ _ _) ((kk _ _ y.lo op (lab_ne y.Lo y.Lk (by decide))).trans y.o) ((kk _ _ y.la ap (lab_ne y.La y.Lk (by decide))).trans y.a) ((kk _ _ y.lc cp (lab_ne y.Lc y.Lk (by decide))).trans y.c) (pk4.keep (Nat.le_refl _) (get_ne _ _ (by omega))) (by omega) (by omega) (by omega)
  refine key _ ((get_eq _ _ _).trans ?_) fun c hc => by rw [get_ne _ _ hc, get_ne _ _ hc, get_ne _ _ hc, get_ne _ _ hc]
  unfold soB
  dsimp only
  rw [hs]
  rfl
set_option maxHeartbeats 1000000 in
theorem s_soRank (y : SoAt h n L l x m) (hs : x.stk = []) (ol : x.ord.length = l.length) (cl : x.cls.length = l.length) (al : x.asd.length = l.length) (ord : ∀ i, i < l.length → x.ord.getD i 0 < l.length) (h2 : 2 ≤ l.length) (hN : l.length ≤ 900000) (hr : x.reach ≤ 2 * l.length) (hd : x.done = false) (rn : x.rnk < l.length) (hla : lastS (bA l) x ≤ x.rnk) (hll : x.last ≤ l.length) : Run (WS L) n (evCall2 Tryz.prog gt lf (d + 3) 186 #[.pointer (some ⟨m.p, 0, none⟩)]) h n fun _ h' n' => SoPost L n l (rankS (bA l) x) m h' n' := by
  have g := y.get
  have hp := y.lp
  have lo := y.lo
  have la := y.la
  have wp : WS L m.p := WS_of y.Lp (by decide) (by decide)
  have wa : WS L m.a := WS_of y.La (by decide) (by decide)
  have op : m.o ≠ m.p := lab_ne y.Lo y.Lp (by decide)
  have oa : m.o ≠ m.a := lab_ne y.Lo y.La (by decide)
  have ap : m.a ≠ m.p := lab_ne y.La y.Lp (by decide)
  have pa : m.p ≠ m.a := Ne.symm ap
  have cp : m.c ≠ m.p := lab_ne y.Lc y.Lp (by decide)
  have kp : m.k ≠ m.p := lab_ne y.Lk y.Lp (by decide)
  have ka : m.k ≠ m.a := lab_ne y.Lk y.La (by decide)
  have go := y.o
  unfold soB at g
  rw [shOf (fun _ => st_sorter_Sorter_rank) rfl]
  refine Run.inside_ ?_
  unfold b_sorter_Sorter_rank
  have i1 : ((x.rnk : Nat) : Int) < ((l.length : Nat) : Int) := by omega
  have v1 := nV_at (l := x.ord) (i := x.rnk) (by omega)
  have orn := ord x.rnk rn
  have i3 : ((x.ord.getD x.rnk 0 : Nat) : Int) < ((l.length : Nat) : Int) := by omega
  have w4 : IntKind.i64.wrap (((x.rnk : Nat) : Int) + 1) = ((x.rnk + 1 : Nat) : Int) := by rw [wrap_id (by omega) (by omega)]; rfl
  have gaL : x.ord.getD x.rnk 0 < (nV x.asd).length := by rw [nV_len]; omega
  -- what is left behind a class that was made
  have mk : ∀ (h1 : H) (n1 : Nat), n ≤ n1 → SoAt h1 n1 L l x m → ∀ h' : H, h'.get m.p = some (soB l (classS (bA l) x) m) → h'.get m.a = some ⟨3, true, nV (classS (bA l) x).asd⟩ → (∀ c, c ≠ m.p → c ≠ m.a → h'.get c = h1.get c) → SoAt h' n1 L l (classS (bA l) x) m := fun h1 n1 hn1 y1 h' gp ga k1 =>
    y1.upd (x' := classS (bA l) x) (us := []) gp ((k1 _ op oa).trans y1.o) ((k1 _ cp y.ca).trans y1.c) ga (k1 _ kp ka) rfl (fun q => y1.kc q) (Nat.le_refl _)
  have fin : ∀ (h' : H) (n' : Nat), n ≤ n' → SoAt h' n' L l (classS (bA l) x) m → x.rnk + 1 = l.length → Run (WS L) n (kcl (evCall2 Tryz.prog gt lf (d + 2)) 213 [.pointer (some ⟨m.p, 0, none⟩)] fun c => outK []) h' n' fun _ h'' n'' => SoPost L n l (rankS (bA l) x) m h'' n'' := by
    intro h' n' hn' y2 c
    have er : rankS (bA l) x = passS (classS (bA l) x) := by
      unfold rankS
      exact if_pos (show x.rnk + 1 = x.ord.length by omega)
    refine run_call okd (s_soPass (lf := lf) (d := d + 1) y2 hs ol h2 hN (by show lastS (bA l) x ≤ _; omega) hr hd) hn' (fun b _ hb => .inr hb) fun v8 h8 n8 hn8 fr8 hq8 => ?_
    try simp (disch := first | omega | assumption) only [Nat.reduceAdd, Nat.reduceLT, RZ]
    rw [er]
    obtain ⟨L', m', e1, e2, e3⟩ := hq8
    exact ⟨L', m', fun c hc => e1 c (by omega), e2, e3⟩
  have er0 : x.rnk + 1 ≠ l.length → rankS (bA l) x = classS (bA l) x := fun c => by
    unfold rankS
    exact if_neg (show ¬ x.rnk + 1 = x.ord.length by omega)
  have zc : ∀ c : x.rnk + 1 = l.length, (((x.rnk + 1 : Nat) : Int) == ((l.length : Nat) : Int)) = true := fun c => beq_iff_eq.2 (by omega)
  have zd : ∀ c : x.rnk + 1 ≠ l.length, (((x.rnk + 1 : Nat) : Int) == ((l.length : Nat) : Int)) = false := fun c => beq_eq_false_iff_ne.2 (by omega)
  by_cases c0 : x.rnk = 0
  · have z0 : (((x.rnk : Nat) : Int) == 0) = true := by rw [c0]; rfl
    have el : lastS (bA l) x = 0 := by unfold lastS; rw [if_pos c0]
    have ga := y.a
    by_cases c : x.rnk + 1 = l.length
    · have z := zc c
      try simp (disch := first | omega | assumption) only [Nat.reduceAdd, Nat.reduceLT, RZ, g, go, ga, z0, z, i1, v1, i3, w4, gaL, wa, wp, pa, op, oa, ap, nV_set, or_true, true_and, ne_eq, not_false_eq_true]
      refine fin _ _ (Nat.le_refl n) (mk h n (Nat.le_refl n) y _ ?_ ?_ fun c q1 q2 => by rw [get_ne _ _ q1, get_ne _ _ q2, get_ne _ _ q1]) c
      · rw [get_eq]; unfold classS soB; dsimp only; rw [el]; try rfl
      · rw [get_ne _ _ ap, get_eq]; unfold classS; dsimp only; rw [el, ← nV_set]; rfl
    · have z := zd c
      rw [er0 c]
      try simp (disch := first | omega | assumption) only [Nat.reduceAdd, Nat.reduceLT, RZ, g, go, ga, z0, z, i1, v1, i3, w4, gaL, wa, wp, pa, op, oa, ap, nV_set, or_true, true_and, ne_eq, not_false_eq_true]
      refine y.post (mk h n (Nat.le_refl n) y _ ?_ ?_ fun c q1 q2 => by rw [get_ne _ _ q1, get_ne _ _ q2, get_ne _ _ q1])
      · rw [get_eq]; unfold classS soB; dsimp only; rw [el]; try rfl
      · rw [get_ne _ _ ap, get_eq]; unfold classS; dsimp only; rw [el, ← nV_set]; rfl
  have z0 : (((x.rnk : Nat) : Int) == 0) = false := beq_eq_false_iff_ne.2 (by omega)
  have w1 : IntKind.i64.wrap (((x.rnk : Nat) : Int) - 1) = ((x.rnk - 1 : Nat) : Int) := by rw [wrap_id (by omega) (by omega)]; omega
  have v2 := nV_at (l := x.ord) (i := x.rnk - 1) (by omega)
  have i2 : ((x.rnk - 1 : Nat) : Int) < ((l.length : Nat) : Int) := by omega
  have w5 : IntKind.i64.wrap (((x.last : Nat) : Int) + 1) = ((x.last + 1 : Nat) : Int) := by rw [wrap_id (by omega) (by omega)]; rfl
  try simp (disch := first | omega | assumption) only [Nat.reduceAdd, Nat.reduceLT, RZ, g, go, z0, w1, i1, i2, v1, v2]
  refine run_call okd (s_soAbove (lf := lf) (d := d) y orn (ord (x.rnk - 1) (by omega)) cl hr hN) (Nat.le_refl n) (fun _ _ h => h.elim) fun v3 h3 n3 hn3 fr3 hq3 => ?_
  subst hq3
  have y3 : SoAt h3 n3 L l x m := y.keep hn3 (fun _ _ => rfl) fun c hc _ _ => fr3 c hc id
  have g := y3.get
  have hp := y3.lp
  have lo := y3.lo
  have la := y3.la
  have go := y3.o
  have ga := y3.a
  unfold soB at g
  cases ab : abS (bA l) x (x.ord.getD x.rnk 0) (x.ord.getD (x.rnk - 1) 0) with
  | true =>
    have el : lastS (bA l) x = x.last + 1 := by unfold lastS; rw [if_neg c0, if_pos ab]
    by_cases c : x.rnk + 1 = l.length
    · have z := zc c
      try simp (disch := first | omega | assumption) only [Nat.reduceAdd, Nat.reduceLT, RZ, g, go, ga, z, i1, v1, i3, w4, w5, gaL, wa, wp, pa, op, oa, ap, nV_set, or_true, true_and, ne_eq, not_false_eq_true]
      refine fin _ _ hn3 (mk h3 n3 hn3 y3 _ ?_ ?_ fun c q1 q2 => by rw [get_ne _ _ q1, get_ne _ _ q2, get_ne _ _ q1]) c
      · rw [get_eq]; unfold classS soB; dsimp only; rw [el]; try rfl
      · rw [get_ne _ _ ap, get_eq]; unfold classS; dsimp only; rw [el]
    · have z := zd c
      rw [er0 c]
      try simp (disch := first | omega | assumption) only [Nat.reduceAdd, Nat.reduceLT, RZ, g, go, ga, z, i1, v1, i3, w4, w5, gaL, wa, wp, pa, op, oa, ap, nV_set, or_true, true_and, ne_eq, not_false_eq_true]
      refine ⟨L, m, fun _ _ => rfl, rfl, mk h3 n3 hn3 y3 _ ?_ ?_ fun c q1 q2 => by rw [get_ne _ _ q1, get_ne _ _ q2, get_ne _ _ q1]⟩
      · rw [get_eq]; unfold classS soB; dsimp only; rw [el]; try rfl
      · rw [get_ne _ _ ap, get_eq]; unfold classS; dsimp only; rw [el]
  | false =>
    have el : lastS (bA l) x = x.last := by unfold lastS; rw [if_neg c0, if_neg (by rw [ab]; decide)]
    by_cases c : x.rnk + 1 = l.length
    · have z := zc c
      try simp (disch := first | omega | assumption) only [Nat.reduceAdd, Nat.reduceLT, RZ, g, go, ga, z, i1, v1, i3, w4, gaL, wa, wp, pa, op, oa, ap, nV_set, or_true, true_and, ne_eq, not_false_eq_true]
      refine fin _ _ hn3 (mk h3 n3 hn3 y3 _ ?_ ?_ fun c q1 q2 => by rw [get_ne _ _ q1, get_ne _ _ q2]) c
      · rw [get_eq]; unfold classS soB; dsimp only; rw [el]; try rfl
      · rw [get_ne _ _ ap, get_eq]; unfold classS; dsimp only; rw [el]
    · have z := zd c
      rw [er0 c]
      try simp (disch := first | omega | assumption) only [Nat.reduceAdd, Nat.reduceLT, RZ, g, go, ga, z, i1, v1, i3, w4, gaL, wa, wp, pa, op, oa, ap, nV_set, or_true, true_and, ne_eq, not_false_eq_true]
      refine ⟨L, m, fun _ _ => rfl, rfl, mk h3 n3 hn3 y3 _ ?_ ?_ fun c q1 q2 => by rw [get_ne _ _ q1, get_ne _ _ q2]⟩
      · rw [get_eq]; unfold classS soB; dsimp only; rw [el]; try rfl
      · rw [get_ne _ _ ap, get_eq]; unfold classS; dsimp only; rw [el]
end
end Go.Proofs.YtcehhgppfahbkaaGreatDoor
namespace Go.Proofs.YtcehhgppfahbkaaGreatDoor
set_option linter.unusedVariables false
set_option linter.unusedSimpArgs false
open Go.RowKit Ev Sp

theorem act_steps (s : ByteArray) (x : SS) : (actS s x).steps = x.steps := by
  unfold actS layS Sp.putS endS beginS rankS passS classS
  repeat' split
  all_goals rfl
theorem join_steps (x : SS) : (joinS x).steps = x.steps := by
  unfold joinS
  repeat' split
  all_goals rfl
structure SoOk (l : List UInt8) (x : SS) : Prop where
  ok : ∃ mm, Ok l.length mm x
  stk : x.stk.length ≤ 10000000000
  stp : x.steps ≤ 10000000000
theorem so_ok {l : List UInt8} (hN : l.length ≤ 900000) {j : Nat} (hj : j < stepsR (bA l)) : SoOk l (AtS (bA l) j) := by
  have hs := bA_size l
  have h0 := Ok.start (bA l).size 20 (bits20 _ (by omega))
  obtain ⟨a1, a2, _⟩ := all_done (bA l) (by omega)
  have h2 : ¬ (bA l).size < 2 := by
    intro h3
    have : stepsR (bA l) = 0 := by unfold stepsR; rw [if_pos h3]
    omega
  obtain ⟨m, q1, q2⟩ := reach_at (bA l) _ h0 j (fun i hi => a1 i (by omega))
  have e := q2 (a1 j hj)
  have ht := total_start (bA l).size 20 (by omega) (bits20 _ (by omega))
  have h4 : (bA l).size * ((4 + 3 * 20) * (20 + 2)) ≤ 900000 * ((4 + 3 * 20) * (20 + 2)) := Nat.mul_le_mul_right _ (by omega)
  have h5 := stk_le q1
  have h6 := AtS_steps (bA l) j
  rw [hs] at q1
  exact ⟨⟨m, q1⟩, by omega, by omega⟩
theorem SoPost.trans {L L' : Nat → Nat} {n n1 n2 : Nat} {l : List UInt8} {x2 : SS} {m m' : Sm} {h2 : H} (hn : n ≤ n1) (hL : ∀ c, c < n → L' c = L c) (hp : m'.p = m.p) (q : SoPost L' n1 l x2 m' h2 n2) : SoPost L n l x2 m h2 n2 := by
  obtain ⟨L2, m2, e1, e2, e3⟩ := q
  exact ⟨L2, m2, fun c hc => (e1 c (by omega)).trans (hL c hc), e2.trans hp, e3⟩
section
variable {lf d n : Nat} {h : H} {L : Nat → Nat} {l : List UInt8} {x : SS} {m : Sm}
theorem s_soStep (y : SoAt h n L l x m) (so : SoOk l x) (hd : x.done = false) (h2 : 2 ≤ l.length) (hN : l.length ≤ 900000) : Run (WS L) n (evCall2 Tryz.prog gt lf (d + 4) 155 #[.pointer (some ⟨m.p, 0, none⟩)]) h n fun _ h' n' => SoPost L n l (stepS (bA l) x) m h' n' := by
  obtain ⟨⟨mm, ok⟩, sk, ss⟩ := so
  rw [shOf (fun _ => st_sorter_Sorter_step) rfl]
  refine Run.inside_ ?_
  unfold b_sorter_Sorter_step
  obtain ⟨T, hT⟩ : ∃ T : M Value, T = (knn (.pointer (some ⟨m.p, 0, none⟩)) fun b => kfa 14 b fun c => kld c fun d => kad d (ii 1) fun e => knn (.pointer (some ⟨m.p, 0, none⟩)) fun f => kfa 14 f fun g => kst g e fun _ => outK []) := ⟨_, rfl⟩
  rw [← hT]
  have w1 : IntKind.i64.wrap (((x.steps : Nat) : Int) + 1) = ((x.steps + 1 : Nat) : Int) := by rw [wrap_id (by omega) (by omega)]; rfl
  have tail : ∀ (x' : SS) (h' : H) (n' : Nat), n ≤ n' → x'.steps = x.steps → SoPost L n l x' m h' n' → Run (WS L) n T h' n' fun _ h'' n'' => SoPost L n l { x' with steps := x.steps + 1 } m h'' n'' := by
    rintro x' h' n' hn' hs' ⟨L', m', e1, e2, y'⟩
    have g := y'.get
    have hp := y'.lp
    unfold soB at g
    rw [hs', e2] at g
    rw [e2] at hp
    have wp : WS L m.p := WS_of y.Lp (by decide) (by decide)
    rw [hT]
    try simp (disch := first | omega | assumption) only [Nat.reduceAdd, Nat.reduceLT, RZ, g, w1, wp, or_true, true_and]
    refine ⟨L', m', e1, e2, ?_⟩
    have := y'.put (h' := h'.set m.p (some (soB l { x' with steps := x.steps + 1 } m'))) (x' := { x' with steps := x.steps + 1 }) (us := []) (by rw [e2]; exact get_eq _ _ _) (fun c _ hc => get_ne _ _ (by rw [e2] at hc; exact hc)) rfl rfl rfl rfl y'.kc (Nat.le_refl n')
    exact this
  clear hT
  refine run_call okd (s_soJoin (lf := lf) (d := d + 2) y (by omega) hd) (Nat.le_refl n) (fun b _ hb => .inr hb) fun v1 h1 n1 hn1 fr1 hq1 => ?_
  obtain ⟨rfl, y1⟩ := hq1
  have okj := ok.join
  have dj : (joinS x).done = false := by rw [join_done]; exact hd
  have sj := join_steps x
  have kj : (joinS x).stk.length ≤ 10000000000 := by
    unfold joinS
    split
    · exact sk
    · rename_i p r hs
      split
      · rw [hs, List.length_cons] at sk
        show r.length ≤ _
        omega
      · exact sk
  have es : stepS (bA l) x = { actS (bA l) (joinS x) with steps := x.steps + 1 } := rfl
  have ast := act_steps (bA l) (joinS x)
  rw [sj] at ast
  have jt := fun p r (hs : (joinS x).stk = p :: r) h0 => join_top hs h0 ok
  rw [es]
  generalize joinS x = z at y1 okj dj sj kj ast jt ⊢
  have g := y1.get
  have hp := y1.lp
  unfold soB at g
  unfold actS at ast ⊢
  have ww : ∀ b, b < n1 → WS L b → n1 ≤ b ∨ WS L b := fun b _ hb => .inr hb
  by_cases c1 : 0 < z.hi
  · have z1 : (0 : Int) < ((z.hi : Nat) : Int) := by omega
    have mo := okj.merge.resolve_left (by omega)
    obtain ⟨m1, m2, m3, m4, m5, m6, m7, m8, m9, m10⟩ := mo
    have mo := okj.merge.resolve_left (by omega)
    have w2 : IntKind.i64.wrap (((z.mid : Nat) : Int) - ((z.lo : Nat) : Int)) = ((z.mid - z.lo : Nat) : Int) := by rw [wrap_id (by omega) (by omega)]; omega
    rw [if_pos c1] at ast ⊢
    by_cases c2 : z.laid < z.mid - z.lo
    · have z2 : ((z.laid : Nat) : Int) < ((z.mid - z.lo : Nat) : Int) := by omega
      rw [if_pos c2] at ast ⊢
      try simp (disch := first | omega | assumption) only [Nat.reduceAdd, Nat.reduceLT, RZ, g, z1, w2, z2]
      refine run_call okd (s_soLay (lf := lf) (d := d + 2) y1 (by omega) (by omega) okj.ol okj.al hN) (Nat.le_refl n1) ww fun v8 h8 n8 hn8 fr8 hq8 => ?_
      obtain ⟨rfl, y8⟩ := hq8
      exact tail _ _ _ (Nat.le_refl _) ast (y1.post y8)
    · have z2 : ¬ ((z.laid : Nat) : Int) < ((z.mid - z.lo : Nat) : Int) := by omega
      rw [if_neg c2] at ast ⊢
      try simp (disch := first | omega | assumption) only [Nat.reduceAdd, Nat.reduceLT, RZ, g, z1, w2, z2]
      refine run_call okd (s_soPut (lf := lf) (d := d) y1 mo (by omega) okj.ol okj.cl okj.al okj.ord (by have := okj.rle; omega) hN) (Nat.le_refl n1) ww fun v8 h8 n8 hn8 fr8 hq8 => ?_
      exact tail _ _ _ hn8 ast ⟨L, m, fun _ _ => rfl, rfl, hq8⟩
  · have z1 : ¬ (0 : Int) < ((z.hi : Nat) : Int) := by omega
    have h0 : z.hi = 0 := by omega
    rw [if_neg c1] at ast ⊢
    cases hs : z.stk with
    | nil =>
      rw [hs] at ast g
      have rn := okj.rnk dj
      have la := okj.last
      have lS := lastS_le (bA l) okj
      try simp (disch := first | omega | assumption) only [Nat.reduceAdd, Nat.reduceLT, RZ, g, z1, Int.lt_irrefl]
      refine run_call okd (s_soRank (lf := lf) (d := d) y1 hs okj.ol okj.cl okj.al okj.ord h2 hN okj.rle dj rn lS la) (Nat.le_refl n1) ww fun v8 h8 n8 hn8 fr8 hq8 => ?_
      exact tail _ _ _ hn8 ast hq8
    | cons p r =>
      rw [hs] at ast g
      rw [List.length_cons] at g
      have pk := okj.stk p (by rw [hs]; simp)
      have z3 : (0 : Int) < ((r.length + 1 : Nat) : Int) := by omega
      try simp (disch := first | omega | assumption) only [Nat.reduceAdd, Nat.reduceLT, RZ, g, z1, z3]
      refine run_call okd (s_soBegin (lf := lf) (d := d + 2) y1 hs pk.1 pk.2.1 h2 dj (by omega) hN) (Nat.le_refl n1) ww fun v8 h8 n8 hn8 fr8 hq8 => ?_
      exact tail _ _ _ hn8 ast hq8
def goneS (l : List UInt8) (j : Nat) (bud : Int) : Nat := min bud.toNat (stepsR (bA l) - j)
theorem s_soSteps {j : Nat} (y : SoAt h n L l (AtS (bA l) j) m) (hj : j ≤ stepsR (bA l)) (hN : l.length ≤ 900000) (bud : Int) (hb : bud ≤ 1000000000000) (hlf : stepsR (bA l) < lf) : Run (WS L) n (evCall2 Tryz.prog gt lf (d + 5) 121 #[.pointer (some ⟨m.p, 0, none⟩), .int .i64 bud]) h n fun v' h' n' => v' = .int .i64 (goneS l j bud : Int) ∧ SoPost L n l (AtS (bA l) (j + goneS l j bud)) m h' n' := by
  have g := y.get
  have hp := y.lp
  have sl := steps_le (bA l) (by rw [bA_size]; exact hN)
  unfold soB at g
  rw [AtS_steps] at g
  rw [shOf (fun _ => st_sorter_Sorter_Step) rfl]
  refine Run.inside_ ?_
  unfold b_sorter_Sorter_Step
  try simp (disch := first | omega | assumption) only [Nat.reduceAdd, Nat.reduceLT, RZ, g]
  obtain ⟨G, hG⟩ : ∃ G, goneS l j bud = G := ⟨_, rfl⟩
  have hG2 : G = min bud.toNat (stepsR (bA l) - j) := hG.symm
  rw [hG]
  refine run_for G (fun fu i (_ : Unit) => lpA_sorter_Sorter_Step lf (evCall2 Tryz.prog gt lf (d + 4)) fu (kcA_sorter_Sorter_Step lf (evCall2 Tryz.prog gt lf (d + 4))) (.pointer (some ⟨m.p, 0, none⟩)) (.int .i64 bud) (.int .i64 0) (.int .i64 (j : Int)) (.bool false)) (fun i _ h' n' => n ≤ n' ∧ SoPost L n l (AtS (bA l) (j + i)) m h' n') ?_ ?_ lf 0 () h n (Nat.zero_le _) (by omega) ⟨Nat.le_refl n, ⟨L, m, fun _ _ => rfl, rfl, y⟩⟩
  · rintro fu _ h' n' ⟨q1, L', m', e1, e2, y'⟩
    have g := y'.get
    have hp := y'.lp
    unfold soB at g
    rw [AtS_steps, e2] at g
    rw [e2] at hp
    have w1 : IntKind.i64.wrap (((j + G : Nat) : Int) - ((j : Nat) : Int)) = ((G : Nat) : Int) := by rw [wrap_id (by omega) (by omega)]; omega
    rw [lpA_sorter_Sorter_Step]
    cases hd : (AtS (bA l) (j + G)).done with
    | true =>
      rw [hd] at g
      try simp (disch := first | omega | assumption) only [Nat.reduceAdd, Nat.reduceLT, RZ, g, Bool.not_true]
      unfold kcA_sorter_Sorter_Step
      try simp (disch := first | omega | assumption) only [Nat.reduceAdd, Nat.reduceLT, RZ, g, w1]
      exact ⟨L', m', e1, e2, y'⟩
    | false =>
      rw [hd] at g
      have c : ¬ ((G : Nat) : Int) < bud := by
        intro c
        have : j + G = stepsR (bA l) := by omega
        rw [this, is_done (bA l) (by rw [bA_size]; exact hN)] at hd
        cases hd
      try simp (disch := first | omega | assumption) only [Nat.reduceAdd, Nat.reduceLT, RZ, g, Bool.not_false, w1, c]
      unfold kcA_sorter_Sorter_Step
      try simp (disch := first | omega | assumption) only [Nat.reduceAdd, Nat.reduceLT, RZ, g, w1]
      exact ⟨L', m', e1, e2, y'⟩
  · rintro fu i _ h' n' hi ⟨q1, L', m', e1, e2, y'⟩ next
    have g := y'.get
    have hp := y'.lp
    have hjs : j + i < stepsR (bA l) := by omega
    have nd := not_done (bA l) (by rw [bA_size]; exact hN) (j + i) hjs
    have h2 : 2 ≤ l.length := by
      refine Decidable.byContradiction fun q => ?_
      have : stepsR (bA l) = 0 := by unfold stepsR; rw [if_pos (by rw [bA_size]; omega)]
      omega
    have ss := s_soStep (lf := lf) (d := d) y' (so_ok hN hjs) nd h2 hN
    unfold soB at g
    rw [AtS_steps, nd, e2] at g
    rw [e2] at hp ss
    have w1 : IntKind.i64.wrap (((j + i : Nat) : Int) - ((j : Nat) : Int)) = ((i : Nat) : Int) := by rw [wrap_id (by omega) (by omega)]; omega
    have c : ((i : Nat) : Int) < bud := by omega
    rw [lpA_sorter_Sorter_Step]
    try simp (disch := first | omega | assumption) only [Nat.reduceAdd, Nat.reduceLT, RZ, g, Bool.not_false, w1, c]
    refine run_call okd ss q1 (fun b hb hw => ?_) fun v8 h8 n8 hn8 fr8 hq8 => ?_
    · by_cases hbn : b < n
      · refine .inr ?_
        unfold WS at hw ⊢
        rw [e1 b hbn] at hw
        exact hw
      · exact .inl (by omega)
    · refine next () h8 n8 ⟨by omega, ?_⟩
      rw [← Nat.add_assoc, AtS_succ]
      exact SoPost.trans q1 e1 e2 hq8
end
end Go.Proofs.YtcehhgppfahbkaaGreatDoor
namespace Go.Proofs.YtcehhgppfahbkaaGreatDoor
set_option linter.unusedVariables false
set_option linter.unusedSimpArgs false
open Go.RowKit Hu

theorem getD_mid (P X Q : List Nat) (i j : Nat) (hj : j = P.length + i) (hi : i < X.length) : (P ++ X ++ Q).getD j 0 = X.getD i 0 := by
  subst hj
  rw [List.getD_eq_getElem?_getD, List.getD_eq_getElem?_getD, List.append_assoc, List.getElem?_append_right (by omega), Nat.add_sub_cancel_left, List.getElem?_append_left hi]

end Go.Proofs.YtcehhgppfahbkaaGreatDoor
namespace Go.Proofs.YtcehhgppfahbkaaGreatDoor
set_option linter.unusedVariables false
set_option linter.unusedSimpArgs false
open Go.RowKit Ev Hu

structure EnvT (h : H) (n g pw : Nat) (ws : List Int) : Prop where
  ex : ∃ wb off cap e1 o1 e2 o2 cs, h.get pw = some ⟨e1, o1, [.slice (some ⟨wb, off, none⟩) ws.length cap]⟩ ∧ h.get wb = some ⟨e2, o2, cs⟩ ∧ wb < n ∧ wb ≠ g ∧ ∀ i, i < ws.length → cs[off + i]? = some (.int .i64 (ws.getD i 0))
  pn : pw < n
  pg : pw ≠ g
end Go.Proofs.YtcehhgppfahbkaaGreatDoor
namespace Go.Proofs.YtcehhgppfahbkaaGreatDoor
set_option linter.unusedVariables false
set_option linter.unusedSimpArgs false
open Go.RowKit Ev Hu

end Go.Proofs.YtcehhgppfahbkaaGreatDoor
namespace Go.Proofs.YtcehhgppfahbkaaGreatDoor
set_option linter.unusedVariables false
set_option linter.unusedSimpArgs false
open Go.RowKit Ev Hu

end Go.Proofs.YtcehhgppfahbkaaGreatDoor
namespace Go.Proofs.YtcehhgppfahbkaaGreatDoor
set_option linter.unusedVariables false
set_option linter.unusedSimpArgs false
open Go.RowKit Ev Hu

end Go.Proofs.YtcehhgppfahbkaaGreatDoor
namespace Go.Proofs.YtcehhgppfahbkaaGreatDoor
set_option linter.unusedVariables false
set_option linter.unusedSimpArgs false
open Go.RowKit Ev Hu

end Go.Proofs.YtcehhgppfahbkaaGreatDoor
namespace Go.Proofs.YtcehhgppfahbkaaGreatDoor
set_option linter.unusedVariables false
set_option linter.unusedSimpArgs false
open Go.RowKit Ev Hu

section
variable (lf g cap pw N : Nat) (ws : List Int) (hlf : 3000000 ≤ lf) (hNb : N ≤ 1000000) (d n : Nat) (h : H) (xs : List Nat) (hN : xs.length = N) (hE : EnvT h n g pw ws) (hg : g < n) (hin : ∀ z ∈ xs, z < ws.length)
variable {W : Nat → Prop} {n0 : Nat} (hn0 : n0 ≤ n) (hW : n0 ≤ g ∨ W g) {R : Value → H → Nat → Prop} 
include hlf hNb hN hE hg hin hn0 hW
end

end Go.Proofs.YtcehhgppfahbkaaGreatDoor
namespace Go.Proofs.YtcehhgppfahbkaaGreatDoor
set_option linter.unusedVariables false
set_option linter.unusedSimpArgs false
open Go.RowKit Ev Hu

theorem s_Clone (lf d n : Nat) (h : H) (v : Value) (xs : List Int) (hR : Row h n 3 .i64 v xs) (h0 : 0 < xs.length) (hl : xs.length ≤ 1000000) :
    Run (fun _ => False) n (evCall2 Tryz.prog gt lf (d + 1) 156 #[v]) h n fun v' h' n' => (0 < xs.length → Own h' n n' 3 v' (intsV .i64 xs)) ∧ Row h' n' 3 .i64 v' xs ∧ ∀ b, InBlk v' b → n ≤ b := by
  rw [shOf (fun _ => st_slices_Clone_int_int) rfl]
  refine Run.inside_ ?_
  unfold b_slices_Clone_int_int
  rcases hR with ⟨a, c, rfl, _, rfl⟩ | ⟨b, off, cap, o, cs, rfl, hg, hb, hle, ht, hc⟩
  · exact absurd h0 (by simp)
  · try simp (disch := first | omega | assumption) only [Nat.reduceAdd, Nat.reduceLT, RZ]
    refine run_lit0 trivial _ ?_
    have hg' : (h.set n (some ⟨3, true, []⟩)).get b = some ⟨3, o, cs⟩ := by rw [get_ne _ _ (by omega)]; exact hg
    by_cases h00 : xs.length = 0
    · have hx : xs = [] := List.length_eq_zero_iff.1 h00
      subst hx
      refine app_none (news := []) trivial rfl _ _ _ _ ?_
      try simp (disch := first | omega | assumption) only [Nat.reduceAdd, Nat.reduceLT, RZ]
      refine ⟨fun q => absurd q (by simp), .inr ⟨n, 0, 0, true, [], rfl, get_eq _ _ _, by omega, by simp, by simp [intsV], by simp⟩, fun b hb => by rw [hb.inj]; exact Nat.le_refl n⟩
    · have s : Src (h.set n (some ⟨3, true, []⟩)) (n + 1) (.slice (some ⟨b, off, none⟩) xs.length cap) (intsV .i64 xs) := ⟨b, off, cap, _, by rw [intsV_len], hg', by omega, by rw [intsV_len]; exact hle, by rw [intsV_len]; exact ht⟩
      refine app_copy trivial s (by rw [intsV_len]; omega) (intsV_one _ _) (get_eq _ _ _) rfl (Nat.lt_succ_self n) 0 0 (by simp) rfl (by rw [intsV_len]; omega) (by unfold CAP; omega) (by rw [intsV_len]; omega) _ ?_
      try simp (disch := first | omega | assumption) only [Nat.reduceAdd, Nat.reduceLT, RZ]
      have ho : Own ((h.set n (some ⟨3, true, []⟩)).set (n + 1) (some ⟨3, true, [] ++ intsV .i64 xs⟩)) n (n + 1 + 1) 3 (.slice (some ⟨n + 1, 0, none⟩) (intsV .i64 xs).length (CAP + (intsV .i64 xs).length)) (intsV .i64 xs) := .inr ⟨n + 1, rfl, by rw [get_eq]; rfl, by omega, by omega⟩
      exact ⟨fun _ => ho, ho.row, fun b hb => by rw [hb.inj]; omega⟩

end Go.Proofs.YtcehhgppfahbkaaGreatDoor
namespace Go.Proofs.YtcehhgppfahbkaaGreatDoor
set_option linter.unusedVariables false
set_option linter.unusedSimpArgs false

end Go.Proofs.YtcehhgppfahbkaaGreatDoor
namespace Go.Proofs.YtcehhgppfahbkaaGreatDoor
set_option linter.unusedVariables false
set_option linter.unusedSimpArgs false
open Go.RowKit Ev Hu

end Go.Proofs.YtcehhgppfahbkaaGreatDoor
namespace Go.Proofs.YtcehhgppfahbkaaGreatDoor
set_option linter.unusedVariables false
set_option linter.unusedSimpArgs false
open Go.RowKit Ev Hu

end Go.Proofs.YtcehhgppfahbkaaGreatDoor
namespace Go.Proofs.YtcehhgppfahbkaaGreatDoor
set_option linter.unusedVariables false
set_option linter.unusedSimpArgs false
open Go

def bn (b : Bool) : Nat := if b then 1 else 0
theorem bn_lt (b : Bool) : bn b < 2 := by cases b <;> decide
def num : List Bool → Nat → Nat
  | [], a => a
  | b :: l, a => num l (2 * a + bn b)
theorem num_app : ∀ (l m : List Bool) (a : Nat), num (l ++ m) a = num m (num l a)
  | [], _, _ => rfl
  | b :: l, m, a => num_app l m _
theorem num_lt : ∀ (l : List Bool) (a k : Nat), a < 2 ^ k → num l a < 2 ^ (k + l.length)
  | [], a, k, h => h
  | b :: l, a, k, h => by
    have := bn_lt b
    have := num_lt l (2 * a + bn b) (k + 1) (by rw [Nat.pow_succ]; omega)
    rw [List.length_cons, show k + (l.length + 1) = k + 1 + l.length by omega]
    exact this
theorem num0_lt (l : List Bool) : num l 0 < 2 ^ l.length := by
  have := num_lt l 0 0 (by decide)
  rwa [Nat.zero_add] at this
def fieldB : Nat → Nat → List Bool
  | _, 0 => []
  | v, n + 1 => fieldB (v / 2) n ++ [decide (v % 2 = 1)]
theorem fieldB_len : ∀ (n v : Nat), (fieldB v n).length = n
  | 0, _ => rfl
  | n + 1, v => by simp [fieldB, fieldB_len n]
theorem bn_mod (v : Nat) : bn (decide (v % 2 = 1)) = v % 2 := by
  unfold bn
  by_cases h : v % 2 = 1 <;> simp [h] <;> omega
def pushB (s : List Nat × List Bool) (b : Bool) : List Nat × List Bool := if s.2.length = 7 then (s.1 ++ [num (s.2 ++ [b]) 0], []) else (s.1, s.2 ++ [b])
def pushBs (s : List Nat × List Bool) (l : List Bool) : List Nat × List Bool := l.foldl pushB s
theorem pushBs_app (s : List Nat × List Bool) (l m : List Bool) : pushBs s (l ++ m) = pushBs (pushBs s l) m := by unfold pushBs; rw [List.foldl_append]
theorem pushB_wlen (s : List Nat × List Bool) (b : Bool) : (pushB s b).1.length ≤ s.1.length + 1 := by
  unfold pushB
  split <;> simp
theorem pushBs_wlen : ∀ (l : List Bool) (s : List Nat × List Bool), (pushBs s l).1.length ≤ s.1.length + l.length
  | [], s => Nat.le_refl _
  | b :: l, s => by
    have h1 := pushB_wlen s b
    have h2 := pushBs_wlen l (pushB s b)
    show (pushBs (pushB s b) l).1.length ≤ _
    rw [List.length_cons]
    omega
def restN (r : List Bool) : Nat := num r 0 * 2 ^ (8 - r.length)
theorem restN_lt {r : List Bool} (h : r.length ≤ 8) : restN r < 256 := by
  have h1 := num0_lt r
  have h2 : 2 ^ r.length * 2 ^ (8 - r.length) = 256 := by rw [← Nat.pow_add, show r.length + (8 - r.length) = 8 by omega]
  unfold restN
  calc num r 0 * 2 ^ (8 - r.length) < 2 ^ r.length * 2 ^ (8 - r.length) := Nat.mul_lt_mul_of_pos_right h1 (Nat.two_pow_pos _)
    _ = 256 := h2
theorem restN_push {r : List Bool} (h : r.length < 8) (b : Bool) : restN r ||| (bn b * 2 ^ (7 - r.length)) = restN (r ++ [b]) := by
  have hb : bn b * 2 ^ (7 - r.length) < 2 ^ (8 - r.length) := by
    rw [show 8 - r.length = 7 - r.length + 1 by omega, Nat.pow_succ, Nat.mul_comm _ 2]
    have := Nat.two_pow_pos (7 - r.length)
    exact Nat.mul_lt_mul_of_pos_right (bn_lt b) this
  unfold restN
  rw [Nat.mul_comm (num r 0), ← Nat.two_pow_add_eq_or_of_lt hb, num_app]
  show _ = (2 * num r 0 + bn b) * 2 ^ (8 - (r ++ [b]).length)
  rw [List.length_append, List.length_singleton, show 8 - r.length = 7 - r.length + 1 by omega, show 8 - (r.length + 1) = 7 - r.length by omega, Nat.pow_succ, Nat.add_mul]
  congr 1
  rw [Nat.mul_comm (2 ^ (7 - r.length)) 2, Nat.mul_assoc, Nat.mul_assoc, Nat.mul_comm (2 ^ (7 - r.length))]

theorem or8 {a b : Nat} (ha : a < 256) (hb : b < 256) : IntKind.u8.wrap ((BitVec.ofInt IntKind.u8.bits (a : Int) ||| BitVec.ofInt IntKind.u8.bits (b : Int)).toNat : Int) = ((a ||| b : Nat) : Int) := u8_or_nat a b ha hb
theorem w8 {x : Nat} (h : x < 256) : IntKind.u8.wrap (x : Int) = (x : Int) := IntWalk.u8_in _ (by omega)
theorem w32 {x : Nat} (h : x < 4294967296) : IntKind.u32.wrap (x : Int) = (x : Int) := IntWalk.u32_in _ (by omega)
theorem shl8 {b k : Nat} (hb : b < 2) (hk : k ≤ 7) : IntKind.u8.wrap ((b : Int) * 2 ^ (min ((k : Int)).toNat (IntKind.u8).bits)) = ((b * 2 ^ k : Nat) : Int) := by
  have e : min ((k : Int)).toNat (IntKind.u8).bits = k := by rw [Int.toNat_natCast]; exact Nat.min_eq_left (Nat.le_trans hk (by decide))
  rw [e]
  have hp : 2 ^ k ≤ 2 ^ 7 := Nat.pow_le_pow_right (by decide) hk
  have : b * 2 ^ k < 256 := by
    have : b * 2 ^ k ≤ 1 * 2 ^ 7 := Nat.mul_le_mul (by omega) hp
    omega
  have e2 : (b : Int) * 2 ^ k = ((b * 2 ^ k : Nat) : Int) := by push_cast; rfl
  rw [e2]
  exact w8 this
theorem fdiv_pow (v k : Nat) (kd : Nat) (h : k ≤ kd) : ((v : Int)).fdiv (2 ^ (min ((k : Int)).toNat kd)) = ((v / 2 ^ k : Nat) : Int) := by
  have e : min ((k : Int)).toNat kd = k := by rw [Int.toNat_natCast]; exact Nat.min_eq_left h
  rw [e]
  have e2 : ((2 : Int) ^ k) = ((2 ^ k : Nat) : Int) := by push_cast; rfl
  rw [e2, Int.fdiv_eq_ediv_of_nonneg _ (Int.natCast_nonneg _)]
  rfl
theorem and32_1 {a : Nat} (ha : a < 4294967296) : IntKind.u32.wrap ((BitVec.ofInt IntKind.u32.bits (a : Int) &&& BitVec.ofInt IntKind.u32.bits (1 : Int)).toNat : Int) = ((a % 2 : Nat) : Int) := by
  have h1 : (BitVec.ofInt 32 (a : Int)).toNat = a := by rw [BitVec.ofInt_natCast, BitVec.toNat_ofNat]; exact Nat.mod_eq_of_lt (by omega)
  show IntKind.u32.wrap ((BitVec.ofInt 32 (a : Int) &&& BitVec.ofInt 32 (1 : Int)).toNat : Int) = _
  rw [BitVec.toNat_and, h1]
  have h2 : (BitVec.ofInt 32 (1 : Int)).toNat = 1 := by decide
  rw [h2, Nat.and_one_is_mod]
  exact w32 (by omega)

end Go.Proofs.YtcehhgppfahbkaaGreatDoor
namespace Go.Proofs.YtcehhgppfahbkaaGreatDoor.Cn
set_option linter.unusedVariables false
set_option linter.unusedSimpArgs false
open Go

def cn (ln : List Nat) (n : Nat) : Nat := ln.countP fun x => x == n
def cnTo (ln : List Nat) (n i : Nat) : Nat := cn (ln.take i) n
def firstC (ln : List Nat) : Nat → Nat
  | 0 => 0
  | n + 1 => 2 * (firstC ln n + cn ln n)
def codeC (ln : List Nat) (i : Nat) : Nat := firstC ln (ln.getD i 0) + cnTo ln (ln.getD i 0) i
def krT (ln : List Nat) : Nat → Nat
  | 0 => 0
  | n + 1 => krT ln n + cn ln n * 2 ^ (20 - n)
structure Wh (ln : List Nat) : Prop where
  lo : ∀ x ∈ ln, 1 ≤ x ∧ x ≤ 20
  kr : krT ln 21 = 1048576
section
variable {ln : List Nat} (w : Wh ln)
include w
theorem Wh.at {i : Nat} (h : i < ln.length) : 1 ≤ ln.getD i 0 ∧ ln.getD i 0 ≤ 20 := by
  rw [List.getD_eq_getElem?_getD, List.getElem?_eq_getElem h]
  exact w.lo _ (List.getElem_mem h)
end
def getC (ln : List Nat) (bs : List Bool) : Option Nat := (List.range ln.length).find? fun i => decide (ln.getD i 0 ≤ bs.length) && decide (num (bs.take (ln.getD i 0)) 0 = codeC ln i)
end Go.Proofs.YtcehhgppfahbkaaGreatDoor.Cn
namespace Go.Proofs.YtcehhgppfahbkaaGreatDoor.Cn
set_option linter.unusedVariables false
set_option linter.unusedSimpArgs false
open Go

theorem field_at : ∀ (n v r : Nat) (h : r < n), (fieldB v n)[r]? = some (decide (v / 2 ^ (n - 1 - r) % 2 = 1))
  | 0, _, _, h => absurd h (Nat.not_lt_zero _)
  | n + 1, v, r, h => by
    show (fieldB (v / 2) n ++ [decide (v % 2 = 1)])[r]? = _
    by_cases e : r < n
    · rw [List.getElem?_append_left (by rw [fieldB_len]; exact e), field_at n (v / 2) r e, Nat.div_div_eq_div_mul, ← Nat.pow_succ', show (n - 1 - r).succ = n + 1 - 1 - r by omega]
    · have : r = n := by omega
      subst this
      rw [List.getElem?_append_right (by rw [fieldB_len]; exact Nat.le_refl _), fieldB_len, Nat.sub_self, show r + 1 - 1 - r = 0 by omega, Nat.pow_zero, Nat.div_one]
      rfl
theorem shl32 {a : Nat} (ha : 2 * a < 4294967296) : IntKind.u32.wrap ((a : Int) * 2 ^ (min ((1 : Int)).toNat (IntKind.u32).bits)) = ((2 * a : Nat) : Int) := by
  have e : min ((1 : Int)).toNat (IntKind.u32).bits = 1 := by decide
  rw [e]
  have : (a : Int) * 2 ^ 1 = ((2 * a : Nat) : Int) := by omega
  rw [this]
  exact w32 ha
end Go.Proofs.YtcehhgppfahbkaaGreatDoor.Cn
namespace Go.Proofs.YtcehhgppfahbkaaGreatDoor
set_option linter.unusedVariables false
set_option linter.unusedSimpArgs false
open Go.RowKit Ev Cn

section
variable {lf d n p : Nat} {h : H} {S : List UInt8} {D A : Nat}
end
end Go.Proofs.YtcehhgppfahbkaaGreatDoor
namespace Go.Proofs.YtcehhgppfahbkaaGreatDoor
set_option linter.unusedVariables false
set_option linter.unusedSimpArgs false
open Hu

section
variable {N : Nat} {X R : Nat → List Nat} {A B : Nat → Nat}
end
end Go.Proofs.YtcehhgppfahbkaaGreatDoor
namespace Go.Proofs.YtcehhgppfahbkaaGreatDoor
set_option linter.unusedVariables false
set_option linter.unusedSimpArgs false
open Hu

section
variable {N : Nat} {w : Nat → Int} {I A B : Nat → Nat} {X R : Nat → List Nat}
end
end Go.Proofs.YtcehhgppfahbkaaGreatDoor
namespace Go.Proofs.YtcehhgppfahbkaaGreatDoor
set_option linter.unusedVariables false
set_option linter.unusedSimpArgs false
open Hu

section
variable {ws : List Int} {D : List Nat} {w : Nat → Int} {I A B : Nat → Nat} {X R : Nat → List Nat} {dep : Nat → Nat}
end

end Go.Proofs.YtcehhgppfahbkaaGreatDoor
namespace Go.Proofs.YtcehhgppfahbkaaGreatDoor
set_option linter.unusedVariables false
set_option linter.unusedSimpArgs false
open Go.RowKit Ev Hu

def part (L : List Int) (i : Nat) : List Int := L.take i ++ List.replicate (L.length - i) 0
end Go.Proofs.YtcehhgppfahbkaaGreatDoor
namespace Go.Proofs.YtcehhgppfahbkaaGreatDoor
set_option linter.unusedVariables false
set_option linter.unusedSimpArgs false
open Hu

end Go.Proofs.YtcehhgppfahbkaaGreatDoor
namespace Go.Proofs.YtcehhgppfahbkaaGreatDoor
set_option linter.unusedVariables false
set_option linter.unusedSimpArgs false
open Go.RowKit Ev Hu

theorem ext0 (a b : Value) : evExtract (.tuple #[a, b]) 0 = some a := rfl
theorem ext1 (a b : Value) : evExtract (.tuple #[a, b]) 1 = some b := rfl
end Go.Proofs.YtcehhgppfahbkaaGreatDoor
namespace Go.Proofs.YtcehhgppfahbkaaGreatDoor
set_option linter.unusedVariables false
set_option linter.unusedSimpArgs false
open Go.RowKit Ev Cn

def iN (ln : List Nat) : List Int := ln.map fun (x : Nat) => (x : Int)
theorem iN_len (ln : List Nat) : (iN ln).length = ln.length := by unfold iN; simp
theorem iN_at {ln : List Nat} {i : Nat} : (iN ln).getD i 0 = (ln.getD i 0 : Int) := by
  unfold iN
  rw [List.getD_eq_getElem?_getD, List.getElem?_map, List.getD_eq_getElem?_getD]
  cases ln[i]? <;> rfl
section
variable (lf d n : Nat) (h : H) (hlf : 3000000 ≤ lf)
include hlf
end
end Go.Proofs.YtcehhgppfahbkaaGreatDoor
namespace Go.Proofs.YtcehhgppfahbkaaGreatDoor
set_option linter.unusedVariables false
set_option linter.unusedSimpArgs false
open Go.RowKit Ev Sp Cn

theorem nV_iN (l : List Nat) : nV l = intsV .i64 (iN l) := by
  unfold nV intsV iN
  rw [List.map_map]
  rfl
section
variable {lf d n : Nat} {h : H} {L : Nat → Nat} {l : List UInt8} {x : SS} {m : Sm}
theorem s_soDone (y : SoAt h n L l x m) : Run (fun _ => False) n (evCall2 Tryz.prog gt lf (d + 1) 122 #[.pointer (some ⟨m.p, 0, none⟩)]) h n fun v' h' n' => v' = .bool x.done ∧ h' = h ∧ n' = n := by
  have g := y.get
  have hp := y.lp
  unfold soB at g
  rw [shOf (fun _ => st_sorter_Sorter_Done) rfl]
  refine Run.inside_ ?_
  unfold b_sorter_Sorter_Done
  try simp (disch := first | omega | assumption) only [Nat.reduceAdd, Nat.reduceLT, RZ, g]
theorem s_soOrder (y : SoAt h n L l x m) (hd : x.done = true) (ol : x.ord.length = l.length) (h1 : 1 ≤ l.length) (hN : l.length ≤ 900000) : Run (fun _ => False) n (evCall2 Tryz.prog gt lf (d + 2) 123 #[.pointer (some ⟨m.p, 0, none⟩)]) h n fun v' h' n' => Own h' n n' 3 v' (nV x.ord) := by
  have g := y.get
  have hp := y.lp
  have sd := s_soDone (lf := lf) (d := d) y
  rw [hd] at sd
  unfold soB at g
  rw [shOf (fun _ => st_sorter_Sorter_Order) rfl]
  refine Run.inside_ ?_
  unfold b_sorter_Sorter_Order
  refine run_same sd (Nat.le_refl n) (fun _ _ h => h.elim) ?_
  have hR : Row h n 3 .i64 (.slice (some ⟨m.o, 0, none⟩) l.length l.length) (iN x.ord) := by
    refine .inr ⟨m.o, 0, l.length, true, nV x.ord, by rw [iN_len, ol], y.o, y.lo, ?_, ?_, by rw [iN_len]; omega⟩
    · rw [iN_len, nV_len]; omega
    · rw [List.drop_zero, nV_iN, iN_len]
      exact List.take_of_length_le (by rw [intsV_len, iN_len]; exact Nat.le_refl _)
  try simp (disch := first | omega | assumption) only [Nat.reduceAdd, Nat.reduceLT, RZ, g, Bool.not_true]
  refine run_call okd (s_Clone lf d n h _ (iN x.ord) hR (by rw [iN_len]; omega) (by rw [iN_len]; omega)) (Nat.le_refl _) (fun _ _ h => h.elim) fun v1 h2 n2 hn2 fr2 hq => ?_
  try simp (disch := first | omega | assumption) only [Nat.reduceAdd, Nat.reduceLT, RZ]
  rw [nV_iN]
  exact hq.1 (by rw [iN_len]; omega)
theorem nV_rep (n : Nat) : List.replicate n (Value.int .i64 0) = nV (List.replicate n 0) := by
  unfold nV
  rw [List.map_replicate]
  rfl
def upS (n i : Nat) : List Nat := (List.range n).map fun k => if k < i then k else 0
theorem upS_len (n i : Nat) : (upS n i).length = n := by unfold upS; simp
theorem upS_0 (n : Nat) : upS n 0 = List.replicate n 0 := by
  unfold upS
  refine List.eq_replicate_iff.2 ⟨by simp, fun b hb => ?_⟩
  obtain ⟨k, _, rfl⟩ := List.mem_map.1 hb
  rfl
theorem upS_n (n : Nat) : upS n n = List.range n := by
  unfold upS
  conv => rhs; rw [← List.map_id (List.range n)]
  refine List.map_congr_left fun k hk => ?_
  rw [if_pos (List.mem_range.1 hk)]
  rfl
theorem upS_set {n i : Nat} (h : i < n) : (upS n i).set i i = upS n (i + 1) := by
  refine List.ext_getElem (by simp [upS]) fun k h1 h2 => ?_
  have e : ∀ j (hj : k < (upS n j).length), (upS n j)[k] = if k < j then k else 0 := fun j hj => by simp [upS]
  rw [List.getElem_set, e (i + 1), e i (by rw [List.length_set] at h1; exact h1)]
  by_cases c : i = k
  · rw [if_pos c, if_pos (by omega)]; exact c
  · rw [if_neg c]
    by_cases c2 : k < i
    · rw [if_pos c2, if_pos (by omega)]
    · rw [if_neg c2, if_neg (by omega)]
theorem s_soNew (h1 : 1 ≤ l.length) (hN : l.length ≤ 900000) (hlf : l.length < lf) (L : Nat → Nat) : Run (fun _ => False) n (evCall2 Tryz.prog gt lf (d + 1) 120 #[.string ⟨l.toArray⟩]) h n fun v' h' n' => ∃ L' m, v' = .tuple #[.pointer (some ⟨m.p, 0, none⟩), .int .i64 0] ∧ (∀ c, c < n → L' c = L c) ∧ (∀ c, n ≤ c → 21 ≤ L' c ∧ L' c ≤ 24) ∧ n ≤ m.p ∧ SoAt h' n' L' l (AtS (bA l) 0) m := by
  rw [shOf (fun _ => st_sorter_New) rfl]
  refine Run.inside_ ?_
  unfold b_sorter_New
  have c1 : ¬ (900000 : Int) < ((l.length : Nat) : Int) := by omega
  try simp (disch := first | omega | assumption) only [Nat.reduceAdd, Nat.reduceLT, RZ, c1]
  refine Ev.run_make trivial (e := 3) (z := .int .i64 0) l.length l.length _ (Nat.le_refl _) (by omega) ?_
  refine Ev.run_make trivial (e := 3) (z := .int .i64 0) l.length l.length _ (Nat.le_refl _) (by omega) ?_
  refine Ev.run_make trivial (e := 3) (z := .int .i64 0) l.length l.length _ (Nat.le_refl _) (by omega) ?_
  try simp (disch := first | omega | assumption) only [Nat.reduceAdd, Nat.reduceLT, RZ]
  refine run_box trivial _ _ ?_
  try simp (disch := first | omega | assumption) only [Nat.reduceAdd, Nat.reduceLT, RZ]
  obtain ⟨B, hB⟩ : ∃ B : AB, B = ⟨205, true, [.string ⟨l.toArray⟩, .slice (some ⟨n, 0, none⟩) l.length l.length, .slice (some ⟨n + 1, 0, none⟩) l.length l.length, .slice (some ⟨n + 1 + 1, 0, none⟩) l.length l.length, ii 0, nS, ii 0, ii 0, ii 0, ii 0, ii 0, ii 0, ii 0, ii 0, ii 0, .bool (decide (((l.length : Nat) : Int) < 2))]⟩ := ⟨_, rfl⟩
  rw [← hB]
  refine run_for l.length (fun fu i (_ : Unit) => lpA_sorter_New lf (evCall2 Tryz.prog gt lf d) fu (kcA_sorter_New lf (evCall2 Tryz.prog gt lf d)) (.string ⟨l.toArray⟩) nP (ii 0) (.int .i64 (l.length : Int)) (.pointer (some ⟨n + 1 + 1 + 1, 0, none⟩)) (.bool false) (.int .i64 (l.length : Int)) (.int .i64 (i : Int)))
    (fun i _ h' n' => n' = n + 1 + 1 + 1 + 1 ∧ h'.get n = some ⟨3, true, nV (upS l.length i)⟩ ∧ h'.get (n + 1) = some ⟨3, true, nV (List.replicate l.length 0)⟩ ∧ h'.get (n + 1 + 1) = some ⟨3, true, nV (List.replicate l.length 0)⟩ ∧ h'.get (n + 1 + 1 + 1) = some B) ?_ ?_ lf 0 () _ _ (Nat.zero_le _) (by omega) ⟨rfl, ?_, ?_, ?_, get_eq _ _ _⟩
  · rintro fu _ h' n' ⟨rfl, q1, q2, q3, q4⟩
    rw [upS_n] at q1
    rw [hB] at q4
    rw [lpA_sorter_New]
    try simp (disch := first | omega | assumption) only [Nat.reduceAdd, Nat.reduceLT, RZ, Int.lt_irrefl]
    unfold kcA_sorter_New
    try simp (disch := first | omega | assumption) only [Nat.reduceAdd, Nat.reduceLT, RZ]
    refine run_kb1S (vs := pV (0, 0, l.length)) rfl _ ?_
    have q5 := (get_ne h' (some ⟨203, true, pV (0, 0, l.length)⟩) (show n + 1 + 1 + 1 ≠ n + 1 + 1 + 1 + 1 by omega)).trans q4
    try simp (disch := first | omega | assumption) only [Nat.reduceAdd, Nat.reduceLT, RZ, q5, Nat.le_refl, or_false, true_and, true_or]
    have e0 : AtS (bA l) 0 = startS l.length := by
      show startS (bA l).size = _
      rw [bA_size]
    have ed : decide (((l.length : Nat) : Int) < 2) = decide (l.length < 2) := by
      by_cases c : l.length < 2
      · rw [decide_eq_true c, decide_eq_true (by omega)]
      · rw [decide_eq_false c, decide_eq_false (by omega)]
    rw [e0, ed]
    have ne : ∀ {c : Nat}, c ≠ n + 1 + 1 + 1 → c ≠ n + 1 + 1 + 1 + 1 → ∀ A B : AB, ((h'.set (n + 1 + 1 + 1 + 1) (some A)).set (n + 1 + 1 + 1) (some B)).get c = h'.get c := fun h1 h2 A B => by rw [get_ne _ _ h1, get_ne _ _ h2]
    refine ⟨by omega, fun c => if c < n then L c else if c = n then 22 else if c = n + 1 then 23 else if c = n + 1 + 1 then 23 else if c = n + 1 + 1 + 1 then 21 else 24, ⟨n + 1 + 1 + 1, n, n + 1, n + 1 + 1, n + 1 + 1 + 1 + 1, 1⟩, rfl, fun c hc => if_pos hc, fun c hc => ?_, by show n ≤ n + 1 + 1 + 1; omega, ?_⟩
    · dsimp only
      rw [if_neg (by omega)]
      repeat' split
      all_goals exact ⟨by decide, by decide⟩
    · have lt : ¬ n + 1 < n := by omega
      have lt2 : ¬ n + 1 + 1 < n := by omega
      have lt3 : ¬ n + 1 + 1 + 1 < n := by omega
      have lt4 : ¬ n + 1 + 1 + 1 + 1 < n := by omega
      refine ⟨get_eq _ _ _, by show n + 1 + 1 + 1 < _; omega, by show n < _; omega, by show n + 1 < _; omega, by show n + 1 + 1 < _; omega, (ne (c := n) (by omega) (by omega) _ _).trans q1, (ne (c := n + 1) (by omega) (by omega) _ _).trans q2, (ne (c := n + 1 + 1) (by omega) (by omega) _ _).trans q3, by show n + 1 ≠ n + 1 + 1; omega, ?_, fun _ => .inr ⟨rfl, rfl⟩, ?_, ?_, ?_, ?_, ?_⟩
      · refine ⟨⟨pV (0, 0, l.length), (get_ne _ _ (by show n + 1 + 1 + 1 + 1 ≠ _; omega)).trans (get_eq _ _ _), Nat.le_refl 3, rfl⟩, by show n + 1 + 1 + 1 + 1 < _; omega, fun t ht => ?_, Nat.le_refl 1⟩
        rw [show skV (startS l.length).stk = [pV (0, 0, l.length)] from rfl] at ht
        rw [List.mem_singleton.1 ht]
        rfl
      · dsimp only
        rw [if_neg lt3, if_neg (by omega), if_neg (by omega), if_neg (by omega), if_pos rfl]
      · dsimp only
        rw [if_neg (by omega), if_pos rfl]
      · dsimp only
        rw [if_neg lt, if_neg (by omega), if_pos rfl]
      · dsimp only
        rw [if_neg lt2, if_neg (by omega), if_neg (by omega), if_pos rfl]
      · dsimp only
        rw [if_neg lt4, if_neg (by omega), if_neg (by omega), if_neg (by omega), if_neg (by omega)]
  · rintro fu i _ h' n' hi ⟨rfl, q1, q2, q3, q4⟩ next
    have q5 := q4
    rw [hB] at q5
    have i1 : ((i : Nat) : Int) < ((l.length : Nat) : Int) := by omega
    have w1 : ((i : Nat) : Int) + 1 = ((i + 1 : Nat) : Int) := rfl
    have nl : i < (nV (upS l.length i)).length := by rw [nV_len, upS_len]; exact hi
    have ne : n + 1 + 1 + 1 ≠ n := by omega
    rw [lpA_sorter_New]
    try simp (disch := first | omega | assumption) only [Nat.reduceAdd, Nat.reduceLT, RZ, q5, q1, i1, nl, ne, nV_set, Nat.le_refl, or_false, true_and, true_or]
    rw [w1]
    refine next () _ _ ⟨rfl, ?_, ?_, ?_, ?_⟩
    · rw [get_eq, upS_set hi]
    · rw [get_ne _ _ (by omega)]; exact q2
    · rw [get_ne _ _ (by omega)]; exact q3
    · rw [get_ne _ _ (by omega)]; exact q4
  · rw [get_ne _ _ (by omega), get_ne _ _ (by omega), get_ne _ _ (by omega), get_eq, upS_0, nV_rep]
  · rw [get_ne _ _ (by omega), get_ne _ _ (by omega), get_eq, nV_rep]
  · rw [get_ne _ _ (by omega), get_eq, nV_rep]
end
end Go.Proofs.YtcehhgppfahbkaaGreatDoor
namespace Go.Proofs.YtcehhgppfahbkaaGreatDoor
set_option linter.unusedVariables false
set_option linter.unusedSimpArgs false
open Go.RowKit Ev Cn

section
variable (lf d n : Nat) (h : H) (hlf : 3000000 ≤ lf)
include hlf
end
end Go.Proofs.YtcehhgppfahbkaaGreatDoor
namespace Go.Proofs.YtcehhgppfahbkaaGreatDoor
set_option linter.unusedVariables false
set_option linter.unusedSimpArgs false
open Go.RowKit Ev Cn

section
variable {lf d n p c lo hi : Nat} {h : H} {S : List UInt8} {D A : Nat} {ln : List Nat}
end
end Go.Proofs.YtcehhgppfahbkaaGreatDoor
namespace Go.Proofs.YtcehhgppfahbkaaGreatDoor
set_option linter.unusedVariables false
set_option linter.unusedSimpArgs false
open Go.RowKit Ev Cn

inductive St (α : Type)
  | short
  | bad (e : Int)
  | ok (a : α) (used : Nat)
section
variable {lf d n p q lo size now : Nat} {h : H} {S : List UInt8} {D A : Nat} {lv : Value} {lens : List Nat} {wrong : Bool}
end
end Go.Proofs.YtcehhgppfahbkaaGreatDoor
namespace Go.Proofs.YtcehhgppfahbkaaGreatDoor
set_option linter.unusedVariables false
set_option linter.unusedSimpArgs false
open Go.RowKit Ev Cn

section
variable {α β : Type} {E : En → Prop} {m : M α} {k : α → M β} {h h1 : H} {n n1 : Nat} {a : α} {L : List En} {Q : β → H → Nat → Prop}
end
section
variable {β : Type} {E : En → Prop} {h h1 : H} {n n1 : Nat} {Q : β → H → Nat → Prop} {P : Program}
end
section
variable {β : Type} {W : Nat → Prop} {n0 : Nat} {h : H} {n : Nat} {Q : β → H → Nat → Prop} {P : Program}
theorem insB_bind {m : M Value} (f : Value → M β) : insB m f = (insB m M.ret).bind f := by
  rw [insB_eq, insB_eq]
  funext h n
  unfold M.bind M.ret
  cases inside m h n with
  | none => rfl
  | some r => simp
theorem timed_pushW {T : Prop} (c : T) {e : TypeId} {x : Value} (hx : one x = true) {lo : Nat} {v : Value} {cs : List Value} (o : Own h lo n e v cs) (hm : cs.length + 1 ≤ 1099511627776) (hw : ∀ b, InBlk v b → n0 ≤ b ∨ W b) (K : Value × Tk → Value × Tk → M β)
    (y : ∀ w T1 T2 h', h'.get (n + 1) = some ⟨e, true, cs ++ [x]⟩ → (∀ b, b < n → ¬ InBlk v b → h'.get b = h.get b) → Run W n0 (K (w, T1) (.slice (some ⟨n + 1, 0, none⟩) (cs.length + 1) (CAP + (cs.length + 1)), T2)) h' (n + 2) Q) :
    Run W n0 ((timed (kb1 e 1 x M.ret)).bind fun a => (timed (kap e 1 v a.1 M.ret)).bind fun b => K a b) h n Q := by
  obtain ⟨a, h2, n2, L, e1, e2, e3, e4⟩ := run_pushW (Q := fun v' h' n' => v' = Value.slice (some ⟨n + 1, 0, none⟩) (cs.length + 1) (CAP + (cs.length + 1)) ∧ n' = n + 2 ∧ h'.get (n + 1) = some ⟨e, true, cs ++ [x]⟩ ∧ ∀ b, b < n → ¬ InBlk v b → h'.get b = h.get b) c hx o hm hw M.ret fun h' g k => (run_ret _).2 ⟨rfl, rfl, g, k⟩
  have e0 : kb1 e 1 x (fun w => kap e 1 v w M.ret) = (kb1 e 1 x M.ret).bind fun w => kap e 1 v w M.ret := by
    unfold kb1
    split
    · exact insB_bind _
    · rfl
  rw [e0] at e1
  obtain ⟨w, h3, n3, L3, L4, eB, eA, rfl⟩ := Ev.bind_some e1
  obtain ⟨rfl, rfl, g, k⟩ := e4
  obtain ⟨b, h5, n5, L7, f1, f2, f3, f4⟩ := y w ⟨n, n3, L3⟩ ⟨n3, n + 2, L4⟩ _ g k
  refine ⟨b, h5, n5, _, bind_run (timed_run eB) (bind_run (timed_run eA) f1), by omega, fun r hr => ?_, f4⟩
  simp only [List.mem_append] at hr e3
  rcases hr with hr | hr | hr
  · exact e3 r (.inl hr)
  · exact e3 r (.inr hr)
  · exact f3 r hr
end

section
variable {lf d n q : Nat} {h : H} {e : TypeId} {A O Z : List Value} {i : Nat}
end
end Go.Proofs.YtcehhgppfahbkaaGreatDoor
