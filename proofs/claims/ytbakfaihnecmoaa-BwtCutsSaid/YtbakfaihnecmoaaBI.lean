/- The statement BwtCuts. -/
import Derived.Test.YtbakfaihnecmoaaBH
namespace Go.Proofs.Ytbakfaihnecmoaa
set_option linter.unusedVariables false
set_option linter.unusedSimpArgs false
open Go.RowKit Sp Pl

/-- a turner that a call has made, and so many steps that it has gone -/
def TO (w : World) (gt : Nat) (s : ByteArray) (n : Nat) (wr : World) : Prop := TOwn w.heap.size gt s n wr ∧ Below w.heap.size w wr
theorem TO.below {w wr w' : World} {gt n : Nat} {s : ByteArray} (h : TO w gt s n wr) (hb : Below wr.heap.size wr w') : TO w gt s n w' := ⟨h.1.below hb, kt h.2 hb⟩
theorem TO.step {w wr : World} {gt n : Nat} {s : ByteArray} (h : TO w gt s n wr) (hs : s.size ≤ 900000) (h1 : 1 ≤ s.size) (hn : n ≤ stepsR s + s.size) (b : Int) :
    Calls Try.prog 35 #[.pointer (some ⟨gt, 0, none⟩), .int .i64 b] wr fun e w' => e = .returned (.int .i64 (goneT s n b : Nat)) ∧ TO w gt s (n + goneT s n b) w' :=
  (b_Step h.1 hs h1 hn h.2.size b).mono fun _ _ ⟨he, ht, hb⟩ => ⟨he, ht, h.2.trans hb⟩
theorem TO.new (s : ByteArray) (w : World) (hs : s.size ≤ 900000) (h1 : 1 ≤ s.size) : Calls Try.prog 34 #[.string s] w fun e w' => ∃ gt, e = .returned (.tuple #[.pointer (some ⟨gt, 0, none⟩), .int .i64 0]) ∧ TO w gt s 0 w' :=
  (b_New s w hs h1).mono fun _ _ ⟨⟨gt, he, ht⟩, hb⟩ => ⟨gt, he, ⟨false, ht⟩, hb⟩

theorem s_Step_done {w : World} {F : Nat → Prop} {g : Nat} {s : ByteArray} (hn : s.size ≤ 900000) (h : SIn w F g s (AtS s (stepsR s))) (b : Int) :
    Calls Try.prog 21 #[.pointer (some ⟨g, 0, none⟩), .int .i64 b] w fun e w' => e = .returned (.int .i64 0) ∧ w = w' := by
  have hT := steps_le s hn
  obtain ⟨go, gc, ga, sv, h, _⟩ := h
  have c14 := h.main.at_ (v := .int .i64 ((AtS s (stepsR s)).steps : Nat)) 14 rfl
  have c15 := h.main.at_ (v := .bool (AtS s (stepsR s)).done) 15 rfl
  rw [AtS_steps] at c14
  rw [is_done s hn] at c15
  clear h
  generalize stepsR s = T at *
  go_enter Try.func21, Try.ntmps21
  go_wp2
  go_loopw [12] (fun v wr => wr = w) (fun _ _ => 0)
  case atStart => rfl
  case round =>
    subst hrel
    go_wp2_with fail
    go_ret
    exact ⟨ret_int (by omega), rfl⟩
theorem b_Step_full {B : Nat} {w : World} {gt : Nat} {s : ByteArray} {n : Nat} (h : TOwn B gt s n w) (hs : s.size ≤ 900000) (h1 : 1 ≤ s.size) (hn : n = stepsR s + s.size) (b : Int) (hb : 1 ≤ b) :
    Calls Try.prog 35 #[.pointer (some ⟨gt, 0, none⟩), .int .i64 b] w fun e w' => e = .returned (.int .i64 0) ∧ Below w.heap.size w w' := by
  have hd : decide (b < 1) = false := by simp; omega
  have HBD := Lib.hid (h.toDone hs (by omega) true (by simp; omega))
  obtain ⟨set, F, g, ordv, lastv, h⟩ := h
  cases set with
  | false => have := (h.unset rfl).2; omega
  | true =>
    obtain ⟨hle, p, cap, rfl, hr, p1, p2, p3⟩ := h.isset rfl
    have c1 : w.cell? ⟨gt, 1, none⟩ = some (.pointer (some ⟨g, 0, none⟩)) := h.main.at_ 1 rfl
    have c2 : w.cell? ⟨gt, 2, none⟩ = some (.slice (some p) s.size cap) := h.main.at_ 2 rfl
    have hsor := h.sor
    rw [show min n (stepsR s) = stepsR s by omega] at hsor
    have HST := Lib.hid (s_Step_done hs hsor b)
    have hsd := s_Done _ hsor
    rw [is_done s hs] at hsd
    have HSD := Lib.hid hsd
    have hnil : ∀ w : World, Sem.run Try.prog (binOp .eql 23 (.slice (some p) s.size cap) (.slice none 0 0)) w = .ok (.bool false) w := fun w => Lib.run_eql_slice_nil w 23 3 (some p) s.size cap 0 0 Try.underlying23
    have hb0 : decide (0 < b) = true := by simp; omega
    clear h hr hsor hsd
    go_enter Try.func35, Try.ntmps35
    go_wp2_with fail
    refine HST.out.mono ?_
    rintro e w1 ⟨rfl, rfl⟩
    go_wp2_with fail
    go_loopw [5] (fun v wr => v = .int .i64 0 ∧ wr = w) (fun _ _ => 0)
    case atStart => exact ⟨rfl, rfl⟩
    case round =>
      obtain ⟨rfl, rfl⟩ := hrel
      go_wp2_with fail
      refine HSD.out.mono ?_
      rintro e w1 ⟨rfl, rfl⟩
      go_wp2_with fail
      refine HBD.out.mono ?_
      rintro e w2 ⟨rfl, hb2⟩
      go_wp2_with fail
      go_ret
      exact ⟨rfl, hb2⟩

set_option maxRecDepth 100000 in
theorem law_BCuts_big (s : ByteArray) (a : Option Addr) (cap : Nat) (xs : List Int) (w : World) (hm : s.size ≤ maxLen) (hx : xs.length ≤ maxLen) (h : 30 < s.size ∨ s.size = 0 ∨ 1 ≤ s.size ∧ s.size ≤ 30 ∧ 20 < xs.length) :
    Calls Try.prog 12 #[.string s, .slice a xs.length cap] w fun e w' => e = .returned (.bool true) ∧ Below w.heap.size w w' := by
  unfold maxLen at hm hx
  rcases h with h | h | ⟨h0, h1, h2⟩
  · have hd : decide (30 < (s.size : Int)) = true := by simp; omega
    go_enter Try.func12, Try.ntmps12
    go_wp2_with (first | (go_at_call 28; refine (turn_banana _).mono ?_; rintro e w' ⟨rfl, hb⟩))
    go_ret
    exact ⟨rfl, hb⟩
  · obtain rfl := empty_is h
    go_enter Try.func12, Try.ntmps12
    go_wp2_with (first | (go_at_call 28; refine (turn_banana _).mono ?_; rintro e w' ⟨rfl, hb⟩))
    go_ret
    exact ⟨rfl, hb⟩
  · have hd : decide (30 < (s.size : Int)) = false := by simp; omega
    have he := nonempty_of s h0
    have he2 : ¬ s.toList = [] := by intro e; rw [e] at he; cases he
    have hd2 : decide (20 < (xs.length : Int)) = true := by simp; omega
    go_enter Try.func12, Try.ntmps12
    go_wp2_with (first | (go_at_call 28; refine (turn_banana _).mono ?_; rintro e w' ⟨rfl, hb⟩))
    go_ret
    exact ⟨rfl, hb⟩

set_option maxRecDepth 100000 in
set_option maxHeartbeats 2000000 in
theorem law_BCuts (s : ByteArray) (a : Option Addr) (cap : Nat) (xs : List Int) (w : World) (hs : s.size ≤ 30) (h1 : 1 ≤ s.size) (hx : xs.length ≤ 20) (hr : NumsAt .i64 w a xs) (hwf : ∀ n ∈ xs, -9223372036854775808 ≤ n ∧ n ≤ 9223372036854775807) :
    Calls Try.prog 12 #[.string s, .slice a xs.length cap] w fun e w' => e = .returned (.bool true) ∧ Below w.heap.size w w' := by
  have hd : decide (30 < (s.size : Int)) = false := by simp; omega
  have hd2 : decide (20 < (xs.length : Int)) = false := by simp; omega
  have he := nonempty_of s h1
  have he2 : ¬ s.toList = [] := by intro e; rw [e] at he; cases he
  have HN := Lib.hid (TO.new s w (by omega) h1)
  have HT := Lib.hid (fun w => r_Steps s w (by omega))
  have HT2 := Lib.hid (fun w => r_Steps17 s w (by omega))
  have hTl := steps_le s (by omega)
  obtain ⟨L, hL⟩ : ∃ L, lastStr s = L := ⟨_, rfl⟩
  obtain ⟨o, ho⟩ : ∃ o, origTo s s.size = o := ⟨_, rfl⟩
  have HR17 := Lib.hid (fun w => r_Of17 s w (by omega) L o hL ho)
  have HO : Hid (∀ (wr : World) (gt n : Nat), TO w gt s n wr → n ≤ stepsR s + s.size → ∀ b, Calls Try.prog 35 #[.pointer (some ⟨gt, 0, none⟩), .int .i64 b] wr fun e w' => e = .returned (.int .i64 (goneT s n b : Nat)) ∧ TO w gt s (n + goneT s n b) w') := fun wr gt n h hn b => h.step (by omega) h1 hn b
  have HQ1 : Hid (∀ (wr : World) (gt n : Nat), TO w gt s n wr → ∀ d : Bool, n ≤ stepsR s + s.size → (n == stepsR s + s.size) = d → Calls Try.prog 36 #[.pointer (some ⟨gt, 0, none⟩)] wr fun e w' => e = .returned (.bool d) ∧ Below wr.heap.size wr w') := fun wr gt n h d hn hd => h.1.toDone (by omega) hn d (by rw [← hd, Bool.eq_iff_iff, beq_iff_eq, beq_iff_eq]; omega)
  have HQ2 : Hid (∀ (wr : World) (gt n : Nat), TO w gt s n wr → n ≤ stepsR s + s.size → Calls Try.prog 38 #[.pointer (some ⟨gt, 0, none⟩)] wr fun e w' => e = .returned (.int .i64 (n : Nat)) ∧ Below wr.heap.size wr w') := fun wr gt n h hn => h.1.toSteps (by omega) hn
  have HQ3 : Hid (∀ (wr : World) (gt n : Nat), TO w gt s n wr → n ≤ stepsR s + s.size → Calls Try.prog 39 #[.pointer (some ⟨gt, 0, none⟩)] wr fun e w' => e = .returned (.int .i64 (3 * (s.size : Nat) + ((n - stepsR s : Nat) : Int))) ∧ Below wr.heap.size wr w') := fun wr gt n h hn => h.1.toHeld (by omega) hn
  have HQ4 : Hid (∀ (wr : World) (gt n : Nat), TO w gt s n wr → n < stepsR s + s.size → Calls Try.prog 40 #[.pointer (some ⟨gt, 0, none⟩)] wr fun e w' => e = .returned (.tuple #[.string ⟨#[]⟩, .int .i64 0]) ∧ Below wr.heap.size wr w') := fun wr gt n h hn => h.1.toNot (by omega) hn
  have HQ5 : Hid (∀ (wr : World) (gt n : Nat), TO w gt s n wr → n = stepsR s + s.size → Calls Try.prog 40 #[.pointer (some ⟨gt, 0, none⟩)] wr fun e w' => e = .returned (.tuple #[.string L, .int .i64 (o : Nat)]) ∧ Below wr.heap.size wr w') := fun wr gt n h hn => h.1.toResult (by omega) hn h1 L o hL ho
  have HQ6 : Hid (∀ (wr : World) (gt n : Nat), TO w gt s n wr → n = stepsR s + s.size → Calls Try.prog 35 #[.pointer (some ⟨gt, 0, none⟩), .int .i64 1] wr fun e w' => e = .returned (.int .i64 0) ∧ Below wr.heap.size wr w') := fun wr gt n h hn => b_Step_full h.1 (by omega) h1 hn 1 (by omega)
  have HGK : Hid (∀ n b, goneT s n b = (min b ((stepsR s + s.size - n : Nat) : Int)).toNat) := fun n b => rfl
  obtain ⟨T, hT⟩ : ∃ T, stepsR s + s.size = T := ⟨_, rfl⟩
  obtain ⟨S1, hS1⟩ : ∃ S1, stepsR s = S1 := ⟨_, rfl⟩
  rw [hT] at HT2 HO HQ1 HQ2 HQ3 HQ4 HQ5 HQ6 HGK
  rw [hS1] at HT HQ3 hT hTl
  have hT1 : S1 ≤ T := by omega
  have hT2 : T ≤ 1267200030 := by omega
  have hT3 : T = S1 + s.size := hT.symm
  have HTT := Lib.hid hT3
  clear hT hT3 hS1 hL ho
  have HR := Lib.hid hr
  have HW := Lib.hid hwf
  clear hr hwf
  go_enter Try.func12, Try.ntmps12
  go_wp2_with fail
  refine HN.out.mono ?_
  rintro e w1 ⟨gt, rfl, hs1⟩
  have hs1 := Lib.hid hs1
  go_wp2_with fail
  refine (HT.out _).mono ?_
  rintro e w2 ⟨rfl, hb2⟩
  have hs2 := Lib.hid (hs1.out.below hb2)
  go_wp2_with fail
  refine (HT2.out _).mono ?_
  rintro e w3 ⟨rfl, hb3⟩
  have hs3 := Lib.hid (hs2.out.below hb3)
  go_wp2_with fail
  go_loopw [9, 42] (fun gn i wr => ∃ j G : Nat, j ≤ 400 ∧ i = .int .i64 (j : Nat) ∧ gn = .int .i64 (G : Nat) ∧ G ≤ T ∧ Hid (TO w gt s G wr)) (fun _ i _ => 400 - (intOf i).toNat)
  case atStart => exact ⟨0, 0, by omega, rfl, rfl, by omega, hs3⟩
  case round =>
    obtain ⟨wo, rfl⟩ : ∃ wo : World, wo = wr := ⟨_, rfl⟩
    obtain ⟨j, G, hj, rfl, rfl, hG, hO⟩ := hrel
    by_cases hlt : j < 400
    · have hj4 : decide ((j : Int) < 400) = true := by simp; omega
      go_wp2_with fail
      go_loopw [9, 46] (fun gn i wr => ∃ k G : Nat, k ≤ xs.length ∧ i = .int .i64 (k : Nat) ∧ gn = .int .i64 (G : Nat) ∧ G ≤ T ∧ Hid (TO w gt s G wr)) (fun _ i _ => xs.length - (intOf i).toNat)
      case atStart => exact ⟨0, G, by omega, rfl, rfl, hG, hO⟩
      case round =>
        clear hO hG
        obtain ⟨k, G, hk, rfl, rfl, hG, hO⟩ := hrel
        by_cases hlt2 : k < xs.length
        · obtain ⟨b0, off, rfl, hc⟩ := (HR.out.keeps (Keeps.of_below (F := fun _ => False) hO.out.2) (fun _ _ _ => id)).some (by omega)
          have c1 := hc k hlt2
          have hb3 := HW.out (xs.getD k 0) (by rw [List.getD_eq_getElem?_getD, List.getElem?_eq_getElem hlt2]; exact List.getElem_mem hlt2)
          generalize xs.getD k 0 = b at *
          obtain ⟨hb3, hb4⟩ := hb3
          clear hc
          obtain ⟨m, hm⟩ : ∃ m : Int, min b ((T : Int) - (G : Int)) = m := ⟨_, rfl⟩
          have hIf : (if (T : Int) - (G : Int) < b then (T : Int) - (G : Int) else b) = m := by split <;> omega
          have hst := HO.out wr gt G hO.out hG b
          have hml : m ≤ 1267200030 := by omega
          have hml2 : -9223372036854775808 ≤ m := by omega
          by_cases hm0 : m ≤ 0
          · have hW0 : goneT s G b = 0 := by rw [HGK.out]; omega
            rw [hW0] at hst
            have hG2 : G ≤ T := hG
            clear hm hW0
            have HST : Hid (Calls Try.prog 35 #[.pointer (some ⟨gt, 0, none⟩), .int .i64 b] wr fun e w' => e = .returned (.int .i64 0) ∧ TO w gt s G w') := hst
            clear hst
            go_wp2_with fail
            refine HST.out.mono ?_
            rintro e w3 ⟨rfl, hO3⟩
            have HQs := Lib.hid (HQ2.out w3 gt G hO3 hG2)
            have hO4 := Lib.hid hO3
            clear HST hO hO3
            obtain ⟨M, hM⟩ : ∃ M : Nat, G - S1 = M := ⟨_, rfl⟩
            have HMM := Lib.hid hM
            have hIf3 : (if (G : Int) - (S1 : Int) ≤ 0 then 0 else (G : Int) - (S1 : Int)) = (M : Nat) := by split <;> omega
            have hIf4 : (if S1 < G then (G : Int) - (S1 : Int) else 0) = (M : Nat) := by split <;> omega
            have hMl : M ≤ 30 := by have := HTT.out; omega
            clear hM
            by_cases hE : G = T
            · subst hE
              have HQd : Hid (∀ w5, Below w3.heap.size w3 w5 → Calls Try.prog 36 #[.pointer (some ⟨gt, 0, none⟩)] w5 fun e w' => e = .returned (.bool true) ∧ Below w5.heap.size w5 w') := fun w5 hb => HQ1.out w5 gt G (hO4.out.below hb) true (Nat.le_refl _) (by simp)
              have HQh : Hid (∀ w5, Below w3.heap.size w3 w5 → Calls Try.prog 39 #[.pointer (some ⟨gt, 0, none⟩)] w5 fun e w' => e = .returned (.int .i64 (3 * (s.size : Nat) + (M : Nat))) ∧ Below w5.heap.size w5 w') := fun w5 hb => by
                have := HQ3.out w5 gt G (hO4.out.below hb) (Nat.le_refl _)
                rw [HMM.out] at this
                exact this
              have HQr : Hid (∀ w5, Below w3.heap.size w3 w5 → Calls Try.prog 40 #[.pointer (some ⟨gt, 0, none⟩)] w5 fun e w' => e = .returned (.tuple #[.string L, .int .i64 (o : Nat)]) ∧ Below w5.heap.size w5 w') := fun w5 hb => HQ5.out w5 gt G (hO4.out.below hb) rfl
              go_wp2_with fail
              refine HQs.out.mono ?_
              rintro e w5 ⟨rfl, hb5⟩
              go_wp2_with fail
              refine (HQd.out w5 hb5).mono ?_
              rintro e w6 ⟨rfl, hb6⟩
              go_wp2_with fail
              refine (HQh.out w6 (kt hb5 hb6)).mono ?_
              rintro e w7 ⟨rfl, hb7⟩
              go_wp2_with fail
              refine (HQr.out w7 (kt (kt hb5 hb6) hb7)).mono ?_
              rintro e w8 ⟨rfl, hb8⟩
              have hO5 := Lib.hid (hO4.out.below (kt (kt (kt hb5 hb6) hb7) hb8))
              go_wp2_with fail
              exact ⟨⟨k + 1, G, by omega, by go_num, rfl, hG2, hO5⟩, by simp [intOf]; omega⟩
            · have HQd : Hid (∀ w5, Below w3.heap.size w3 w5 → Calls Try.prog 36 #[.pointer (some ⟨gt, 0, none⟩)] w5 fun e w' => e = .returned (.bool false) ∧ Below w5.heap.size w5 w') := fun w5 hb => HQ1.out w5 gt G (hO4.out.below hb) false hG2 (by simpa using hE)
              have HQh : Hid (∀ w5, Below w3.heap.size w3 w5 → Calls Try.prog 39 #[.pointer (some ⟨gt, 0, none⟩)] w5 fun e w' => e = .returned (.int .i64 (3 * (s.size : Nat) + (M : Nat))) ∧ Below w5.heap.size w5 w') := fun w5 hb => by
                have := HQ3.out w5 gt G (hO4.out.below hb) hG2
                rw [HMM.out] at this
                exact this
              have hlt3 : G < T := by omega
              have HQr : Hid (∀ w5, Below w3.heap.size w3 w5 → Calls Try.prog 40 #[.pointer (some ⟨gt, 0, none⟩)] w5 fun e w' => e = .returned (.tuple #[.string ⟨#[]⟩, .int .i64 0]) ∧ Below w5.heap.size w5 w') := fun w5 hb => HQ4.out w5 gt G (hO4.out.below hb) hlt3
              have e1 : ((G : Int) == (T : Int)) = false := by simp; omega
              have e2 : decide (G < T) = true := by simp; omega
              have e3 : decide ((G : Int) < (T : Int)) = true := by simp; omega
              clear hE
              go_wp2_with fail
              refine HQs.out.mono ?_
              rintro e w5 ⟨rfl, hb5⟩
              go_wp2_with fail
              refine (HQd.out w5 hb5).mono ?_
              rintro e w6 ⟨rfl, hb6⟩
              go_wp2_with fail
              refine (HQh.out w6 (kt hb5 hb6)).mono ?_
              rintro e w7 ⟨rfl, hb7⟩
              go_wp2_with fail
              refine (HQr.out w7 (kt (kt hb5 hb6) hb7)).mono ?_
              rintro e w8 ⟨rfl, hb8⟩
              have hO5 := Lib.hid (hO4.out.below (kt (kt (kt hb5 hb6) hb7) hb8))
              go_wp2_with fail
              exact ⟨⟨k + 1, G, by omega, by go_num, rfl, hG2, hO5⟩, by simp [intOf]; omega⟩
          · obtain ⟨W, rfl⟩ := Int.eq_ofNat_of_zero_le (show 0 ≤ m by omega)
            have hW0 : goneT s G b = W := by rw [HGK.out]; omega
            rw [hW0] at hst
            obtain ⟨G', hG'⟩ : ∃ G', G + W = G' := ⟨_, rfl⟩
            rw [hG'] at hst
            have hq : (G : Int) + (W : Int) = (G' : Nat) := by omega
            have hG2 : G' ≤ T := by omega
            clear hm hW0 hG'
            have HST := Lib.hid hst
            clear hst
            go_wp2_with fail
            refine HST.out.mono ?_
            rintro e w3 ⟨rfl, hO3⟩
            have HQs := Lib.hid (HQ2.out w3 gt G' hO3 hG2)
            have hO4 := Lib.hid hO3
            clear HST hO hO3
            obtain ⟨M, hM⟩ : ∃ M : Nat, G' - S1 = M := ⟨_, rfl⟩
            have HMM := Lib.hid hM
            have hIf3 : (if (G' : Int) - (S1 : Int) ≤ 0 then 0 else (G' : Int) - (S1 : Int)) = (M : Nat) := by split <;> omega
            have hIf4 : (if S1 < G' then (G' : Int) - (S1 : Int) else 0) = (M : Nat) := by split <;> omega
            have hMl : M ≤ 30 := by have := HTT.out; omega
            clear hM
            by_cases hE : G' = T
            · subst hE
              have HQd : Hid (∀ w5, Below w3.heap.size w3 w5 → Calls Try.prog 36 #[.pointer (some ⟨gt, 0, none⟩)] w5 fun e w' => e = .returned (.bool true) ∧ Below w5.heap.size w5 w') := fun w5 hb => HQ1.out w5 gt G' (hO4.out.below hb) true (Nat.le_refl _) (by simp)
              have HQh : Hid (∀ w5, Below w3.heap.size w3 w5 → Calls Try.prog 39 #[.pointer (some ⟨gt, 0, none⟩)] w5 fun e w' => e = .returned (.int .i64 (3 * (s.size : Nat) + (M : Nat))) ∧ Below w5.heap.size w5 w') := fun w5 hb => by
                have := HQ3.out w5 gt G' (hO4.out.below hb) (Nat.le_refl _)
                rw [HMM.out] at this
                exact this
              have HQr : Hid (∀ w5, Below w3.heap.size w3 w5 → Calls Try.prog 40 #[.pointer (some ⟨gt, 0, none⟩)] w5 fun e w' => e = .returned (.tuple #[.string L, .int .i64 (o : Nat)]) ∧ Below w5.heap.size w5 w') := fun w5 hb => HQ5.out w5 gt G' (hO4.out.below hb) rfl
              go_wp2_with fail
              refine HQs.out.mono ?_
              rintro e w5 ⟨rfl, hb5⟩
              go_wp2_with fail
              refine (HQd.out w5 hb5).mono ?_
              rintro e w6 ⟨rfl, hb6⟩
              go_wp2_with fail
              refine (HQh.out w6 (kt hb5 hb6)).mono ?_
              rintro e w7 ⟨rfl, hb7⟩
              go_wp2_with fail
              refine (HQr.out w7 (kt (kt hb5 hb6) hb7)).mono ?_
              rintro e w8 ⟨rfl, hb8⟩
              have hO5 := Lib.hid (hO4.out.below (kt (kt (kt hb5 hb6) hb7) hb8))
              go_wp2_with fail
              exact ⟨⟨k + 1, G', by omega, by go_num, rfl, hG2, hO5⟩, by simp [intOf]; omega⟩
            · have HQd : Hid (∀ w5, Below w3.heap.size w3 w5 → Calls Try.prog 36 #[.pointer (some ⟨gt, 0, none⟩)] w5 fun e w' => e = .returned (.bool false) ∧ Below w5.heap.size w5 w') := fun w5 hb => HQ1.out w5 gt G' (hO4.out.below hb) false hG2 (by simpa using hE)
              have HQh : Hid (∀ w5, Below w3.heap.size w3 w5 → Calls Try.prog 39 #[.pointer (some ⟨gt, 0, none⟩)] w5 fun e w' => e = .returned (.int .i64 (3 * (s.size : Nat) + (M : Nat))) ∧ Below w5.heap.size w5 w') := fun w5 hb => by
                have := HQ3.out w5 gt G' (hO4.out.below hb) hG2
                rw [HMM.out] at this
                exact this
              have hlt3 : G' < T := by omega
              have HQr : Hid (∀ w5, Below w3.heap.size w3 w5 → Calls Try.prog 40 #[.pointer (some ⟨gt, 0, none⟩)] w5 fun e w' => e = .returned (.tuple #[.string ⟨#[]⟩, .int .i64 0]) ∧ Below w5.heap.size w5 w') := fun w5 hb => HQ4.out w5 gt G' (hO4.out.below hb) hlt3
              have e1 : ((G' : Int) == (T : Int)) = false := by simp; omega
              have e2 : decide (G' < T) = true := by simp; omega
              have e3 : decide ((G' : Int) < (T : Int)) = true := by simp; omega
              clear hE
              go_wp2_with fail
              refine HQs.out.mono ?_
              rintro e w5 ⟨rfl, hb5⟩
              go_wp2_with fail
              refine (HQd.out w5 hb5).mono ?_
              rintro e w6 ⟨rfl, hb6⟩
              go_wp2_with fail
              refine (HQh.out w6 (kt hb5 hb6)).mono ?_
              rintro e w7 ⟨rfl, hb7⟩
              go_wp2_with fail
              refine (HQr.out w7 (kt (kt hb5 hb6) hb7)).mono ?_
              rintro e w8 ⟨rfl, hb8⟩
              have hO5 := Lib.hid (hO4.out.below (kt (kt (kt hb5 hb6) hb7) hb8))
              go_wp2_with fail
              exact ⟨⟨k + 1, G', by omega, by go_num, rfl, hG2, hO5⟩, by simp [intOf]; omega⟩
        · obtain rfl : k = xs.length := by omega
          go_wp2_with fail
          exact ⟨⟨j + 1, G, by omega, by go_num, rfl, hG, hO⟩, by simp [intOf]; omega⟩
    · obtain rfl : j = 400 := by omega
      have hst := HO.out wo gt G hO.out hG ((T : Int) - (G : Int))
      have hg : G + goneT s G ((T : Int) - (G : Int)) = T := by rw [HGK.out]; omega
      rw [hg] at hst
      have HST := Lib.hid hst
      clear hst hg hO
      go_wp2_with fail
      refine HST.out.mono ?_
      rintro e w4 ⟨rfl, hO3⟩
      have HQr := Lib.hid (HQ5.out w4 gt T hO3 rfl)
      have hO4 := Lib.hid hO3
      clear HST hO3
      go_wp2_with fail
      refine HQr.out.mono ?_
      rintro e w5 ⟨rfl, hb5⟩
      go_wp2_with fail
      refine (HR17.out _).mono ?_
      rintro e w6 ⟨rfl, hb6⟩
      have hO6 := hO4.out.below (kt hb5 hb6)
      have bm : Blk (w6.alloc (.cells #[.string L, .int .i64 (o : Nat)] 46)) w6.heap.size 46 #[.string L, .int .i64 (o : Nat)] := Blk.new _ _ _
      have hO7 := hO6.below (ka (kr w6) (.cells #[.string L, .int .i64 (o : Nat)] 46))
      obtain ⟨W7, hW7⟩ : ∃ W7, w6.alloc (.cells #[.string L, .int .i64 (o : Nat)] 46) = W7 := ⟨_, rfl⟩
      rw [hW7] at bm hO7
      have HQd := Lib.hid (HQ1.out W7 gt T hO7 true (Nat.le_refl _) (by simp))
      have HO7 := Lib.hid hO7
      have HBM := Lib.hid bm
      have HW7 := Lib.hid hW7
      go_wp2_with fail
      clear hW7 hO6 hO7 bm
      refine HQd.out.mono ?_
      rintro e w8 ⟨rfl, hb8⟩
      have hO8 := HO7.out.below hb8
      have HST2 := Lib.hid (HQ6.out w8 gt T hO8 rfl)
      clear hO8
      go_wp2_with fail
      refine HST2.out.mono ?_
      rintro e w9 ⟨rfl, hb9⟩
      have bm9 := (HBM.out.kept hb8).kept hb9
      have x0 := bm9.at_ (v := .string L) 0 rfl
      have x1 := bm9.at_ (v := .int .i64 (o : Nat)) 1 rfl
      have hO9 := Lib.hid ((HO7.out.below hb8).below hb9)
      clear bm9
      go_wp2_with (first | (go_at_call 28; refine (turn_banana _).mono ?_; rintro e w10 ⟨rfl, hb10⟩))
      go_ret
      exact ⟨rfl, kt hO9.out.2 hb10⟩

end Go.Proofs.Ytbakfaihnecmoaa

