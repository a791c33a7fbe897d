/- Layer 23: a press that is fed, and ended, and goes no step. -/
import Derived.Test.YthhhkplbjcknkaaGreatDoorQd
namespace Go.Proofs.YthhhkplbjcknkaaGreatDoor
set_option linter.unusedVariables false
set_option linter.unusedSimpArgs false
open Go.RowKit Ev
section
variable {lf d n : Nat} {h : H}
theorem s_pFeed {n0 p l W : Nat} {s t : List UInt8} {fl : Bool} {bl : Value} (x : PrAt h n n0 p (W : Int) s false fl bl l) (hs : s.length ≤ W) (hW : W ≤ 1048576) (ht : t.length ≤ 1048576) : Run (fun b => b = p) n (evCall2 Tryz.prog gt lf (d + 1) 26 #[.pointer (some ⟨p, 0, none⟩), .string ⟨t.toArray⟩]) h n fun v h' n' => v = .int .i64 ((min t.length (W - s.length) : Nat) : Int) ∧ n' = n ∧ PrAt h' n n0 p (W : Int) (s ++ t.take (min t.length (W - s.length))) false fl bl l := by
  obtain ⟨sp, c, q, st, room, gp, gsp, gq, h1, h2, h3, h4, h5, h6, hp, hsp, hq⟩ := x.ex
  rw [sh_press_Press_Feed]
  refine Run.inside_ ?_
  unfold b_press_Press_Feed
  unfold prB at gp
  generalize hk : min t.length (W - s.length) = k
  have e1 : (if (W : Int) - (s.length : Int) < (t.length : Int) then (W : Int) - (s.length : Int) else (t.length : Int)) = (k : Int) := by split <;> omega
  have hkt : k ≤ t.length := by omega
  have hl : s.length + (t.take k).length ≤ 9223372036854775807 := by simp; omega
  try simp (disch := first | omega | assumption | exact one_int _ _ | exact one_slice _ _ _ | exact one_ptr _ | exact one_bool _ | exact one_string _) only [RXA, RXB, Nat.reduceAdd, Nat.reduceLT, wrap_id, wrap_succ, wrap_pred, FX1, FX2, FX3, Int.reduceBEq, Int.reduceBNe, Int.reduceLT, Int.reduceLE, Int.reduceEq, Int.reduceNe, Int.reduceAdd, Int.reduceSub, Int.reduceMul, Int.reduceNeg, gp, e1]
  refine ⟨sp, c, q, st, room, by rw [get_eq]; unfold prB; simp, ?_, ?_, h1, h2, h3, h4, h5, h6, hp, hsp, hq⟩
  · rw [get_ne _ _ (Ne.symm h1)]; exact gsp
  · rw [get_ne _ _ (Ne.symm h2)]; exact gq
/-- an ended one: only that matters -/
def EndAt (h : H) (n p : Nat) : Prop := ∃ win s sp fl bl st out, h.get p = some (prB win s true sp fl bl st out) ∧ p < n
theorem s_pFeed2 {p : Nat} (x : EndAt h n p) (t : Value) : Run (fun _ => False) n (evCall2 Tryz.prog gt lf (d + 1) 26 #[.pointer (some ⟨p, 0, none⟩), t]) h n fun v h' n' => v = .int .i64 0 ∧ h' = h ∧ n' = n := by
  obtain ⟨win, s, sp, fl, bl, st, out, gp, hp⟩ := x
  rw [sh_press_Press_Feed]
  refine Run.inside_ ?_
  unfold b_press_Press_Feed
  unfold prB at gp
  try simp (disch := first | omega | assumption | exact one_int _ _ | exact one_slice _ _ _ | exact one_ptr _ | exact one_bool _ | exact one_string _) only [RXA, RXB, Nat.reduceAdd, Nat.reduceLT, wrap_id, wrap_succ, wrap_pred, FX1, FX2, FX3, Int.reduceBEq, Int.reduceBNe, Int.reduceLT, Int.reduceLE, Int.reduceEq, Int.reduceNe, Int.reduceAdd, Int.reduceSub, Int.reduceMul, Int.reduceNeg, gp]
theorem s_pEnd2 {p : Nat} (x : EndAt h n p) : Run (fun _ => False) n (evCall2 Tryz.prog gt lf (d + 1) 29 #[.pointer (some ⟨p, 0, none⟩)]) h n fun v h' n' => v = .int .i64 7 ∧ h' = h ∧ n' = n := by
  obtain ⟨win, s, sp, fl, bl, st, out, gp, hp⟩ := x
  rw [sh_press_Press_End]
  refine Run.inside_ ?_
  unfold b_press_Press_End
  unfold prB at gp
  try simp (disch := first | omega | assumption | exact one_int _ _ | exact one_slice _ _ _ | exact one_ptr _ | exact one_bool _ | exact one_string _) only [RXA, RXB, Nat.reduceAdd, Nat.reduceLT, wrap_id, wrap_succ, wrap_pred, FX1, FX2, FX3, Int.reduceBEq, Int.reduceBNe, Int.reduceLT, Int.reduceLE, Int.reduceEq, Int.reduceNe, Int.reduceAdd, Int.reduceSub, Int.reduceMul, Int.reduceNeg, gp]
theorem s_piece0 : Run (fun _ => False) n (evCall2 Tryz.prog gt lf (d + 1) 233 #[.agg #[.int .u8 0, .int .i64 0]]) h n fun v _ _ => v = .tuple #[.string ⟨([] : List UInt8).toArray⟩, .int .i64 1] := by
  rw [sh_rle_Piece]
  refine Run.inside_ ?_
  unfold b_rle_Piece
  refine run_box sz166 _ _ ?_
  try simp (disch := first | omega | assumption | exact one_int _ _ | exact one_slice _ _ _ | exact one_ptr _ | exact one_bool _ | exact one_string _) only [RXA, RXB, Nat.reduceAdd, Nat.reduceLT, wrap_id, wrap_succ, wrap_pred, FX1, FX2, FX3, Int.reduceBEq, Int.reduceBNe, Int.reduceLT, Int.reduceLE, Int.reduceEq, Int.reduceNe, Int.reduceAdd, Int.reduceSub, Int.reduceMul, Int.reduceNeg]
theorem s_pkEnd {q : Nat} (gq : h.get q = some (pkB 0 0)) (hq : q < n) : Run (fun b => b = q) n (evCall2 Tryz.prog gt lf (d + 3) 170 #[.pointer (some ⟨q, 0, none⟩)]) h n fun v h' _ => v = .string ⟨([] : List UInt8).toArray⟩ := by
  rw [sh_feed_Packer_End]
  refine Run.inside_ ?_
  unfold b_feed_Packer_End
  try simp (disch := first | omega | assumption | exact one_int _ _ | exact one_slice _ _ _ | exact one_ptr _ | exact one_bool _ | exact one_string _) only [RXA, RXB, Nat.reduceAdd, Nat.reduceLT, wrap_id, wrap_succ, wrap_pred, FX1, FX2, FX3, Int.reduceBEq, Int.reduceBNe, Int.reduceLT, Int.reduceLE, Int.reduceEq, Int.reduceNe, Int.reduceAdd, Int.reduceSub, Int.reduceMul, Int.reduceNeg]
  refine run_inl (sh_feed_Packer_close lf (d + 1) _) (Nat.le_refl _) ?_
  unfold b_feed_Packer_close
  have gq' := gq
  unfold pkB at gq'
  try simp (disch := first | omega | assumption | exact one_int _ _ | exact one_slice _ _ _ | exact one_ptr _ | exact one_bool _ | exact one_string _) only [RXA, RXB, Nat.reduceAdd, Nat.reduceLT, wrap_id, wrap_succ, wrap_pred, FX1, FX2, FX3, Int.reduceBEq, Int.reduceBNe, Int.reduceLT, Int.reduceLE, Int.reduceEq, Int.reduceNe, Int.reduceAdd, Int.reduceSub, Int.reduceMul, Int.reduceNeg]
  refine run_lda aga166 sz166 _ _ _ gq' hq (by simp) ?_
  refine run_call okd (s_piece0 (d := d)) (Nat.le_refl _) (fun _ _ h => h.elim) ?_
  rintro _ h1 n1 hn1 fr rfl
  have g1 : h1.get q = some (pkB 0 0) := by rw [fr q hq id, gq]
  unfold pkB at g1
  rw [ext0, ext1]
  try simp (disch := first | omega | assumption | exact one_int _ _ | exact one_slice _ _ _ | exact one_ptr _ | exact one_bool _ | exact one_string _) only [RXA, RXB, Nat.reduceAdd, Nat.reduceLT, wrap_id, wrap_succ, wrap_pred, FX1, FX2, FX3, Int.reduceBEq, Int.reduceBNe, Int.reduceLT, Int.reduceLE, Int.reduceEq, Int.reduceNe, Int.reduceAdd, Int.reduceSub, Int.reduceMul, Int.reduceNeg]
  have hle : 0 + 2 ≤ ([.int .u8 ((0 : Nat) : Int), .int .i64 ((0 : Nat) : Int)] : List Value).length := by decide
  have hc : (Value.agg #[.int .u8 0, .int .i64 0]).cells.toList = [Value.int .u8 0, Value.int .i64 0] := rfl
  have hw : n ≤ q ∨ (fun b => b = q) q := .inr rfl
  have st := fun (k : Value → M Value) (Q : Value → H → Nat → Prop) => run_sta (P := Tryz.prog) (W := fun b => b = q) (n0 := n) (n := n1) (k := k) (Q := Q) (off := 0) sz166 hc rfl rfl g1 (by omega) hle hw
  refine st _ _ fun h' _ _ => ?_
  try simp (disch := first | omega | assumption | exact one_int _ _ | exact one_slice _ _ _ | exact one_ptr _ | exact one_bool _ | exact one_string _) only [RXA, RXB, Nat.reduceAdd, Nat.reduceLT, wrap_id, wrap_succ, wrap_pred, FX1, FX2, FX3, Int.reduceBEq, Int.reduceBNe, Int.reduceLT, Int.reduceLE, Int.reduceEq, Int.reduceNe, Int.reduceAdd, Int.reduceSub, Int.reduceMul, Int.reduceNeg]
  intro _
  trivial
theorem s_close0 {p c q : Nat} {room : Int} (gp : h.get p = some (spB c q room)) (hp : p < n) : Run (fun _ => False) n (evCall2 Tryz.prog gt lf (d + 1) 172 #[.pointer (some ⟨p, 0, none⟩)]) h n fun v _ _ => v = .tuple #[.agg #[.string ⟨#[]⟩, .int .u32 0, .int .i64 0], .bool false] := by
  rw [sh_split_begun_close]
  refine Run.inside_ ?_
  unfold b_split_begun_close
  refine run_alloc zr111 _ ?_
  have g1 : ∀ B : Option AB, (h.set n B).get p = some (spB c q room) := fun B => by rw [get_ne _ _ (by omega)]; exact gp
  unfold spB at g1
  try simp (disch := first | omega | assumption | exact one_int _ _ | exact one_slice _ _ _ | exact one_ptr _ | exact one_bool _ | exact one_string _) only [RXA, RXB, Nat.reduceAdd, Nat.reduceLT, wrap_id, wrap_succ, wrap_pred, FX1, FX2, FX3, Int.reduceBEq, Int.reduceBNe, Int.reduceLT, Int.reduceLE, Int.reduceEq, Int.reduceNe, Int.reduceAdd, Int.reduceSub, Int.reduceMul, Int.reduceNeg, g1, Int.natCast_zero]
  refine run_sta sz111 (v := .agg #[.string ⟨#[]⟩, .int .u32 0, .int .i64 0]) (vs := [.string ⟨#[]⟩, .int .u32 0, .int .i64 0]) rfl rfl rfl (get_eq _ _ _) (by omega) (Nat.le_refl 3) (.inl (Nat.le_refl _)) _ fun h' gn _ => ?_
  refine run_lda0 aga111 sz111 _ _ _ gn (by omega) (Nat.le_refl 3) ?_
  try simp (disch := first | omega | assumption | exact one_int _ _ | exact one_slice _ _ _ | exact one_ptr _ | exact one_bool _ | exact one_string _) only [RXA, RXB, Nat.reduceAdd, Nat.reduceLT, wrap_id, wrap_succ, wrap_pred, FX1, FX2, FX3, Int.reduceBEq, Int.reduceBNe, Int.reduceLT, Int.reduceLE, Int.reduceEq, Int.reduceNe, Int.reduceAdd, Int.reduceSub, Int.reduceMul, Int.reduceNeg]
  rfl
theorem s_spEnd {p c q : Nat} {room : Int} (gp : h.get p = some (spB c q room)) (hp : p < n) (gq : h.get q = some (pkB 0 0)) (hq : q < n) (hpq : p ≠ q) : Run (fun b => b = q) n (evCall2 Tryz.prog gt lf (d + 4) 123 #[.pointer (some ⟨p, 0, none⟩)]) h n fun v _ _ => v = .slice none 0 0 := by
  rw [sh_split_Splitter_End]
  refine Run.inside_ ?_
  unfold b_split_Splitter_End
  have gp0 := gp
  unfold spB at gp0
  try simp (disch := first | omega | assumption | exact one_int _ _ | exact one_slice _ _ _ | exact one_ptr _ | exact one_bool _ | exact one_string _) only [RXA, RXB, Nat.reduceAdd, Nat.reduceLT, wrap_id, wrap_succ, wrap_pred, FX1, FX2, FX3, Int.reduceBEq, Int.reduceBNe, Int.reduceLT, Int.reduceLE, Int.reduceEq, Int.reduceNe, Int.reduceAdd, Int.reduceSub, Int.reduceMul, Int.reduceNeg, gp0]
  refine run_call okd (s_Row gq hq) (Nat.le_refl _) (fun _ _ h => h.elim) ?_
  rintro _ h1 n1 hn1 fr1 rfl
  refine run_alloc zr166 _ ?_
  refine run_sta sz166 (v := .agg #[.int .u8 0, .int .i64 0]) (vs := [.int .u8 0, .int .i64 0]) rfl rfl rfl (get_eq _ _ _) (by omega) (Nat.le_refl 2) (.inl hn1) _ fun h2 gn k2 => ?_
  have gp2 : h2.get p = some (spB c q room) := by rw [k2 p (by omega), get_ne _ _ (by omega), fr1 p hp id, gp]
  have gq2 : h2.get q = some (pkB 0 0) := by rw [k2 q (by omega), get_ne _ _ (by omega), fr1 q hq id, gq]
  have gp2' := gp2
  unfold spB at gp2'
  try simp (disch := first | omega | assumption | exact one_int _ _ | exact one_slice _ _ _ | exact one_ptr _ | exact one_bool _ | exact one_string _) only [RXA, RXB, Nat.reduceAdd, Nat.reduceLT, wrap_id, wrap_succ, wrap_pred, FX1, FX2, FX3, Int.reduceBEq, Int.reduceBNe, Int.reduceLT, Int.reduceLE, Int.reduceEq, Int.reduceNe, Int.reduceAdd, Int.reduceSub, Int.reduceMul, Int.reduceNeg, gp2']
  refine run_call okd (s_pkEnd gq2 (by omega)) (by omega) (fun b _ hb => .inr hb) ?_
  rintro _ h3 n3 hn3 fr3 rfl
  have gp3 : h3.get p = some (spB c q room) := by rw [fr3 p (by omega) hpq, gp2]
  have es : (ByteArray.mk #[]) = ⟨([] : List UInt8).toArray⟩ := rfl
  try simp (disch := first | omega | assumption | exact one_int _ _ | exact one_slice _ _ _ | exact one_ptr _ | exact one_bool _ | exact one_string _) only [RXA, RXB, Nat.reduceAdd, Nat.reduceLT, wrap_id, wrap_succ, wrap_pred, FX1, FX2, FX3, Int.reduceBEq, Int.reduceBNe, Int.reduceLT, Int.reduceLE, Int.reduceEq, Int.reduceNe, Int.reduceAdd, Int.reduceSub, Int.reduceMul, Int.reduceNeg, es]
  refine run_call okd (s_close0 gp3 (by omega)) (by omega) (fun _ _ h => h.elim) ?_
  rintro _ h4 n4 hn4 fr4 rfl
  rw [ext0, ext1]
  try simp (disch := first | omega | assumption | exact one_int _ _ | exact one_slice _ _ _ | exact one_ptr _ | exact one_bool _ | exact one_string _) only [RXA, RXB, Nat.reduceAdd, Nat.reduceLT, wrap_id, wrap_succ, wrap_pred, FX1, FX2, FX3, Int.reduceBEq, Int.reduceBNe, Int.reduceLT, Int.reduceLE, Int.reduceEq, Int.reduceNe, Int.reduceAdd, Int.reduceSub, Int.reduceMul, Int.reduceNeg]
  refine run_alloc zr111 _ ?_
  refine run_sta sz111 (v := .agg #[.string ⟨#[]⟩, .int .u32 0, .int .i64 0]) (vs := [.string ⟨#[]⟩, .int .u32 0, .int .i64 0]) rfl rfl rfl (get_eq _ _ _) (by omega) (Nat.le_refl 3) (.inl (by omega)) _ fun h5 _ _ => ?_
  try simp (disch := first | omega | assumption | exact one_int _ _ | exact one_slice _ _ _ | exact one_ptr _ | exact one_bool _ | exact one_string _) only [RXA, RXB, Nat.reduceAdd, Nat.reduceLT, wrap_id, wrap_succ, wrap_pred, FX1, FX2, FX3, Int.reduceBEq, Int.reduceBNe, Int.reduceLT, Int.reduceLE, Int.reduceEq, Int.reduceNe, Int.reduceAdd, Int.reduceSub, Int.reduceMul, Int.reduceNeg]
theorem s_pEnd {n0 p l : Nat} {win : Int} {s : List UInt8} (x : PrAt h n n0 p win s false false (.slice none 0 0) l) : Run (fun b => n0 ≤ b) n (evCall2 Tryz.prog gt lf (d + 6) 29 #[.pointer (some ⟨p, 0, none⟩)]) h n fun v h' n' => v = .int .i64 0 ∧ EndAt h' n' p := by
  obtain ⟨sp, c, q, st, room, gp, gsp, gq, h1, h2, h3, h4, h5, h6, hp, hsp, hq⟩ := x.ex
  rw [sh_press_Press_End]
  refine Run.inside_ ?_
  unfold b_press_Press_End
  unfold prB at gp
  try simp (disch := first | omega | assumption | exact one_int _ _ | exact one_slice _ _ _ | exact one_ptr _ | exact one_bool _ | exact one_string _) only [RXA, RXB, Nat.reduceAdd, Nat.reduceLT, wrap_id, wrap_succ, wrap_pred, FX1, FX2, FX3, Int.reduceBEq, Int.reduceBNe, Int.reduceLT, Int.reduceLE, Int.reduceEq, Int.reduceNe, Int.reduceAdd, Int.reduceSub, Int.reduceMul, Int.reduceNeg, gp, h4, or_true]
  refine run_inl (sh_press_Press_flush lf (d + 4) _) (Nat.le_refl _) ?_
  unfold b_press_Press_flush
  have gp1 : (h.set p (some (prB win s true sp false (.slice none 0 0) st (hd4 l)))).get p = some (prB win s true sp false (.slice none 0 0) st (hd4 l)) := get_eq _ _ _
  have gsp1 : (h.set p (some (prB win s true sp false (.slice none 0 0) st (hd4 l)))).get sp = some (spB c q room) := by rw [get_ne _ _ (Ne.symm h1)]; exact gsp
  have gq1 : (h.set p (some (prB win s true sp false (.slice none 0 0) st (hd4 l)))).get q = some (pkB 0 0) := by rw [get_ne _ _ (Ne.symm h2)]; exact gq
  have hset : h.set p (some ⟨109, true, [.int .i64 win, .string ⟨s.toArray⟩, .bool true, .pointer (some ⟨sp, 0, none⟩), .bool false, .slice none 0 0, .pointer none, .int .i64 0, .pointer (some ⟨st, 0, none⟩), .string ⟨(hd4 l).toArray⟩, .bool false, .int .i64 0]⟩) = h.set p (some (prB win s true sp false (.slice none 0 0) st (hd4 l))) := rfl
  rw [hset]
  generalize h.set p (some (prB win s true sp false (.slice none 0 0) st (hd4 l))) = h0 at gp1 gsp1 gq1
  have gp2 := gp1
  unfold prB at gp1
  have es : (ByteArray.mk #[]) = ⟨([] : List UInt8).toArray⟩ := rfl
  by_cases hs : s = []
  · subst hs
    try simp (disch := first | omega | assumption | exact one_int _ _ | exact one_slice _ _ _ | exact one_ptr _ | exact one_bool _ | exact one_string _) only [RXA, RXB, Nat.reduceAdd, Nat.reduceLT, wrap_id, wrap_succ, wrap_pred, FX1, FX2, FX3, Int.reduceBEq, Int.reduceBNe, Int.reduceLT, Int.reduceLE, Int.reduceEq, Int.reduceNe, Int.reduceAdd, Int.reduceSub, Int.reduceMul, Int.reduceNeg, gp1, es]
    refine timed_ld_call ag106 _ _ _ gp1 hp rfl fun T0 t1 t2 t3 => ?_
    try simp (disch := first | omega | assumption | exact one_int _ _ | exact one_slice _ _ _ | exact one_ptr _ | exact one_bool _ | exact one_string _) only [RXA, RXB, Nat.reduceAdd, Nat.reduceLT, wrap_id, wrap_succ, wrap_pred, FX1, FX2, FX3, Int.reduceBEq, Int.reduceBNe, Int.reduceLT, Int.reduceLE, Int.reduceEq, Int.reduceNe, Int.reduceAdd, Int.reduceSub, Int.reduceMul, Int.reduceNeg]
    refine timed_ldB ag101 _ _ _ gp1 hp (Nat.le_refl _) rfl fun T1 r1 => ?_
    try simp (disch := first | omega | assumption | exact one_int _ _ | exact one_slice _ _ _ | exact one_ptr _ | exact one_bool _ | exact one_string _) only [RXA, RXB, Nat.reduceAdd, Nat.reduceLT, wrap_id, wrap_succ, wrap_pred, FX1, FX2, FX3, Int.reduceBEq, Int.reduceBNe, Int.reduceLT, Int.reduceLE, Int.reduceEq, Int.reduceNe, Int.reduceAdd, Int.reduceSub, Int.reduceMul, Int.reduceNeg]
    refine timed_callW okd (s_spEnd gsp1 hsp gq1 hq h3) (Nat.le_refl _) (fun b _ hb => .inr (by omega)) ?_
    rintro _ g1 m1 T2 hm1 fr rfl u1 u2 u3
    have g3 : g1.get p = some ⟨109, true, [.int .i64 win, .string ⟨([] : List UInt8).toArray⟩, .bool true, .pointer (some ⟨sp, 0, none⟩), .bool false, .slice none 0 0, .pointer none, .int .i64 0, .pointer (some ⟨st, 0, none⟩), .string ⟨(hd4 l).toArray⟩, .bool false, .int .i64 0]⟩ := by rw [fr p hp (by omega), gp1]
    have ea : evAppend Tryz.prog 106 (.slice none 0 0) (.slice none 0 0) = M.ret (.slice none 0 0) := by kernel_rfl
    try simp (disch := first | omega | assumption | exact one_int _ _ | exact one_slice _ _ _ | exact one_ptr _ | exact one_bool _ | exact one_string _) only [RXA, RXB, Nat.reduceAdd, Nat.reduceLT, wrap_id, wrap_succ, wrap_pred, FX1, FX2, FX3, Int.reduceBEq, Int.reduceBNe, Int.reduceLT, Int.reduceLE, Int.reduceEq, Int.reduceNe, Int.reduceAdd, Int.reduceSub, Int.reduceMul, Int.reduceNeg]
    rw [ea]
    try simp (disch := first | omega | assumption | exact one_int _ _ | exact one_slice _ _ _ | exact one_ptr _ | exact one_bool _ | exact one_string _) only [RXA, RXB, Nat.reduceAdd, Nat.reduceLT, wrap_id, wrap_succ, wrap_pred, FX1, FX2, FX3, Int.reduceBEq, Int.reduceBNe, Int.reduceLT, Int.reduceLE, Int.reduceEq, Int.reduceNe, Int.reduceAdd, Int.reduceSub, Int.reduceMul, Int.reduceNeg]
    refine timed_retB (m := 0) _ _ (Nat.zero_le _) fun T3 r3 => ?_
    try simp (disch := first | omega | assumption | exact one_int _ _ | exact one_slice _ _ _ | exact one_ptr _ | exact one_bool _ | exact one_string _) only [RXA, RXB, Nat.reduceAdd, Nat.reduceLT, wrap_id, wrap_succ, wrap_pred, FX1, FX2, FX3, Int.reduceBEq, Int.reduceBNe, Int.reduceLT, Int.reduceLE, Int.reduceEq, Int.reduceNe, Int.reduceAdd, Int.reduceSub, Int.reduceMul, Int.reduceNeg]
    refine timed_any (Q' := fun _ h' n' => h' = g1.set p (some ⟨109, true, [.int .i64 win, .string ⟨([] : List UInt8).toArray⟩, .bool true, .pointer (some ⟨sp, 0, none⟩), .bool false, .slice none 0 0, .pointer none, .int .i64 0, .pointer (some ⟨st, 0, none⟩), .string ⟨(hd4 l).toArray⟩, .bool false, .int .i64 0]⟩) ∧ n' = m1) (run_st sz106 p 5 (.slice none 0 0) _ g3 (by omega) (by simp) rfl (.inr h4) ((run_ret _).2 ⟨rfl, rfl⟩)) ?_
    rintro _ _ _ T4 _ ⟨rfl, rfl⟩
    have hcl : Tk.clash T0 T2 = false := clash_ld_wr (W' := fun b => b = q) t1 t2 t3 u1 u2 u3 hp h2
    try simp (disch := first | omega | assumption | exact one_int _ _ | exact one_slice _ _ _ | exact one_ptr _ | exact one_bool _ | exact one_string _) only [RXA, RXB, Nat.reduceAdd, Nat.reduceLT, wrap_id, wrap_succ, wrap_pred, FX1, FX2, FX3, Int.reduceBEq, Int.reduceBNe, Int.reduceLT, Int.reduceLE, Int.reduceEq, Int.reduceNe, Int.reduceAdd, Int.reduceSub, Int.reduceMul, Int.reduceNeg, hcl, h4, or_true]
    intro _
    try simp (disch := first | omega | assumption | exact one_int _ _ | exact one_slice _ _ _ | exact one_ptr _ | exact one_bool _ | exact one_string _) only [RXA, RXB, Nat.reduceAdd, Nat.reduceLT, wrap_id, wrap_succ, wrap_pred, FX1, FX2, FX3, Int.reduceBEq, Int.reduceBNe, Int.reduceLT, Int.reduceLE, Int.reduceEq, Int.reduceNe, Int.reduceAdd, Int.reduceSub, Int.reduceMul, Int.reduceNeg]
    exact ⟨win, [], sp, true, .slice none 0 0, st, hd4 l, get_eq _ _ _, by omega⟩
  · try simp (disch := first | omega | assumption | exact one_int _ _ | exact one_slice _ _ _ | exact one_ptr _ | exact one_bool _ | exact one_string _) only [RXA, RXB, Nat.reduceAdd, Nat.reduceLT, wrap_id, wrap_succ, wrap_pred, FX1, FX2, FX3, Int.reduceBEq, Int.reduceBNe, Int.reduceLT, Int.reduceLE, Int.reduceEq, Int.reduceNe, Int.reduceAdd, Int.reduceSub, Int.reduceMul, Int.reduceNeg, gp1, es, hs]
    intro _
    try simp (disch := first | omega | assumption | exact one_int _ _ | exact one_slice _ _ _ | exact one_ptr _ | exact one_bool _ | exact one_string _) only [RXA, RXB, Nat.reduceAdd, Nat.reduceLT, wrap_id, wrap_succ, wrap_pred, FX1, FX2, FX3, Int.reduceBEq, Int.reduceBNe, Int.reduceLT, Int.reduceLE, Int.reduceEq, Int.reduceNe, Int.reduceAdd, Int.reduceSub, Int.reduceMul, Int.reduceNeg]
    exact ⟨win, s, sp, false, .slice none 0 0, st, hd4 l, gp2, hp⟩
end

end Go.Proofs.YthhhkplbjcknkaaGreatDoor
