/- The walk of Decode of package zeros. -/
import Derived.Test.YtmbmlinbggmipaaZD
import Derived.Test.YtmbmlinbggmipaaAppMake
namespace Go.Proofs.Ytmbmlinbggmipaa
set_option linter.unusedVariables false
set_option linter.unusedSimpArgs false
open Go.RowKit Zp

theorem OwnsNums.only {k : IntKind} {e : TypeId} {base g : Nat} {w w' : World} {v : Value} {xs : List Int} (h : OwnsNums k e base w v xs) (ho : Only g w w') (hg : g < base) : OwnsNums k e base w' v xs := by
  refine World.ownsRow.kept h ho ?_
  cases hv : v.ownBlock with
  | none => exact .inl rfl
  | some b =>
    right
    have := (World.ownsRow.lt h b hv).1
    intro e'; cases e'; omega

theorem z_Decode_no (a : Option Addr) (cap : Nat) (xs : List Int) (n most : Int) (w : World) (h : mayB n = false ∨ mayB n = true ∧ (most < 0 ∨ 0 ≤ most ∧ 1099511627776 < most)) :
    Calls Try.prog 37 #[.slice a xs.length cap, .int .i64 n, .int .i64 most] w fun e w' => ResOut w (.error 1) e w' := by
  have hc := Lib.hid (z_NewReader_no n most w h)
  clear h
  go_enter Try.func37, Try.ntmps37
  go_wp2_with (first | go_step3 | (go_at_call 31; refine (hc.out).mono ?_; rintro e w' ⟨rfl, rfl⟩))
  try rw [Exit.noGoto_ret]
  go_ret2
  exact ⟨rfl, kr _⟩

theorem z_Decode_yes (a : Option Addr) (cap : Nat) (xs : List Int) (n most : Int) (w : World) (hn : mayB n = true) (h0 : 0 ≤ most) (h1 : most ≤ 1099511627776) (hx : xs.length ≤ 1000000) (hr : NumsAt .i64 w a xs) :
    Calls Try.prog 37 #[.slice a xs.length cap, .int .i64 n, .int .i64 most] w fun e w' => ResOut w (decGo xs ⟨n, most, 0, 0, 1, false⟩ []) e w' := by
  have hn' : 1 ≤ n ∧ n ≤ 256 := by simpa [mayB] using hn
  have hok := RS.Ok.start n most hn'.1 hn'.2 h0 h1
  have HST : Hid (decGo xs ⟨n, most, 0, 0, 1, false⟩ [] = decGo (xs.drop 0) ⟨n, most, 0, 0, 1, false⟩ []) := rfl
  go_enter Try.func37, Try.ntmps37
  go_wp2_with (first | go_step3 | (go_at_call 31; refine (z_NewReader n most w hn h0 h1).mono ?_; rintro e w1 ⟨rfl, hrd, hb1⟩))
  have hz1 : w.heap.size + 1 ≤ w1.heap.size := hrd.lt
  go_loopw [10, 27] (fun v j wr => ∃ k : Nat, ∃ r : RS, ∃ out : List Int, k ≤ xs.length ∧ j = .int .i64 k ∧ r.Ok ∧ (out.length : Int) = r.told ∧ RdIn wr w.heap.size r ∧ OwnsNums .i64 3 (w.heap.size + 1) wr v out ∧ Hid (decGo xs ⟨n, most, 0, 0, 1, false⟩ [] = decGo (xs.drop k) r out) ∧ Below w.heap.size w wr ∧ w.heap.size + 1 ≤ wr.heap.size) (fun _ j _ => xs.length - (intOf j).toNat)
  case atStart => exact ⟨0, _, [], by omega, rfl, hok, rfl, hrd, OwnsNums.nil _ _ _ _, HST, hb1, hz1⟩
  case round =>
    clear hrd hb1 hz1 hok HST
    obtain ⟨k, r, out, hk, rfl, hok, hlen, hrd, hown, H, hb, hz⟩ := hrel
    by_cases hlt : k < xs.length
    · obtain ⟨b, off, rfl, hcell⟩ := (hr.below hb).some (by omega)
      have c1 := hcell k hlt
      have hdrop : xs.drop k = xs.getD k 0 :: xs.drop (k + 1) := by
        rw [List.drop_eq_getElem_cons hlt, List.getD_eq_getElem?_getD, List.getElem?_eq_getElem hlt]; rfl
      have hpo := putS_ok r (xs.getD k 0) hok
      have hput := z_Put w.heap.size r (xs.getD k 0) wr hrd hok
      have H2 : Hid (decGo xs ⟨n, most, 0, 0, 1, false⟩ [] = if (putS r (xs.getD k 0)).2.2.2 = 0 then decGo (xs.drop (k + 1)) (putS r (xs.getD k 0)).1 (out ++ List.replicate (putS r (xs.getD k 0)).2.1.toNat 0 ++ (if (putS r (xs.getD k 0)).2.2.1 = -1 then [] else [(putS r (xs.getD k 0)).2.2.1]))
    else if (putS r (xs.getD k 0)).2.2.2 = 7 then .error 25 else .error (putS r (xs.getD k 0)).2.2.2) := by
        unfold Hid; rw [H.out, hdrop]; rfl
      clear hcell hdrop H
      obtain ⟨hsum, hmost⟩ := (⟨hok.sum, hok.most1⟩ : _ ∧ _)
      have hz0 := hok.zeros0
      generalize xs.getD k 0 = c at *
      generalize putS r c = q at *
      obtain ⟨r', z, p, er⟩ := q
      dsimp only at *
      obtain ⟨hok', hz0', hfact⟩ := hpo
      have HP := Lib.hid hput
      have HL := Lib.hid hlen
      have HF := Lib.hid hfact
      clear hput hlen hfact hrd
      by_cases he : er = 0
      · subst he
        obtain ⟨hf1, hf2⟩ := HF.out rfl
        obtain ⟨z, rfl⟩ := Int.eq_ofNat_of_zero_le hz0'
        rw [Int.toNat_natCast] at H2
        have HF1 := Lib.hid hf1
        have hlen2 : out.length + z ≤ 1099511627776 := by have := HL.out; omega
        clear hf1 HF
        by_cases hp : p = -1
        · have H3 : Hid (decGo xs ⟨n, most, 0, 0, 1, false⟩ [] = decGo (xs.drop (k + 1)) r' (out ++ List.replicate z 0)) := by unfold Hid; rw [H2.out, if_pos rfl, if_pos hp, List.append_nil]
          have HT : Hid (r'.told = r.told + z) := by unfold Hid; rw [HF1.out, if_pos hp]; omega
          subst hp
          go_wp2_with (first | go_step3 | (go_at_call 32; refine (HP.out).mono ?_; rintro e w4 ⟨rfl, hrd4, ho4⟩) | (at_builtin; refine app_make rfl _ _ 27 3 3 rfl Try.underlying27 Try.underlying3 info_int (hown.only ho4 (by omega)) rfl rfl (by decide) hlen2 (by have := ho4.size; omega) ?_; intro v5 w5 own5 be5))
          refine ⟨⟨k + 1, r', _, by omega, by go_num, hok', ?_, hrd4.below be5 (by omega), own5, H3, ?_, ?_⟩, by simp [intOf]; omega⟩
          · have h1 := HL.out; have h2 := HT.out; simp; omega
          · exact (ho4.gone hb (Nat.le_refl _) (by omega)).trans (be5.mono (by omega))
          · have := ho4.size; have := be5.size; omega
        · have hpd : (p == -1) = false := by simpa using hp
          have H3 : Hid (decGo xs ⟨n, most, 0, 0, 1, false⟩ [] = decGo (xs.drop (k + 1)) r' (out ++ List.replicate z 0 ++ [p])) := by unfold Hid; rw [H2.out, if_pos rfl, if_neg hp]
          have HT : Hid (r'.told = r.told + z + 1) := by unfold Hid; rw [HF1.out, if_neg hp]
          clear hp
          go_wp2_with (first | go_step3 | (go_at_call 32; refine (HP.out).mono ?_; rintro e w4 ⟨rfl, hrd4, ho4⟩) | (at_builtin; refine app_make rfl _ _ 27 3 3 rfl Try.underlying27 Try.underlying3 info_int (hown.only ho4 (by omega)) rfl rfl (by decide) hlen2 (by have := ho4.size; omega) ?_; intro v5 w5 own5 be5) | (at_builtin; refine app_new1 (w := w5) rfl _ _ 27 3 rfl Try.underlying27 info_int own5 rfl rfl (by decide) (by simp; omega) (by have := ho4.size; have := be5.size; omega) ?_; intro v6 w6 own6 be6))
          refine ⟨⟨k + 1, r', _, by omega, by go_num, hok', ?_, (hrd4.below be5 (by omega)).below be6 (by omega), own6, H3, ?_, ?_⟩, by simp [intOf]; omega⟩
          · have h1 := HL.out; have h2 := HT.out; simp; omega
          · exact ((ho4.gone hb (Nat.le_refl _) (by omega)).trans (be5.mono (by omega))).trans (be6.mono (by omega))
          · have := ho4.size; have := be5.size; have := be6.size; omega
      · have hne : (er == 0) = false := by simpa using he
        by_cases he7 : er = 7
        · have H3 : Hid (decGo xs ⟨n, most, 0, 0, 1, false⟩ [] = .error 25) := by unfold Hid; rw [H2.out, if_neg he, if_pos he7]
          have h7 : (er == 7) = true := by simpa using he7
          clear he he7 H2 HF
          go_wp2_with (first | go_step3 | (go_at_call 32; refine (HP.out).mono ?_; rintro e w4 ⟨rfl, hrd4, ho4⟩))
          try rw [Exit.noGoto_ret]
          go_ret2
          rw [H3.out]
          exact ⟨rfl, ho4.gone hb (Nat.le_refl _) (by omega)⟩
        · have H3 : Hid (decGo xs ⟨n, most, 0, 0, 1, false⟩ [] = .error er) := by unfold Hid; rw [H2.out, if_neg he, if_neg he7]
          have h7 : (er == 7) = false := by simpa using he7
          clear he he7 H2 HF
          go_wp2_with (first | go_step3 | (go_at_call 32; refine (HP.out).mono ?_; rintro e w4 ⟨rfl, hrd4, ho4⟩))
          try rw [Exit.noGoto_ret]
          go_ret2
          rw [H3.out]
          exact ⟨rfl, ho4.gone hb (Nat.le_refl _) (by omega)⟩
    · cases hdn : r.done with
      | true =>
        have H3 : Hid (decGo xs ⟨n, most, 0, 0, 1, false⟩ [] = .ok out) := by unfold Hid; rw [H.out, List.drop_of_length_le (by omega)]; simp [decGo, hdn]
        have HR := Lib.hid hrd
        clear hrd H
        go_wp2_with (first | go_step3 | (go_at_call 34; refine (z_Done _ r _ HR.out).mono ?_; rintro e w4 ⟨rfl, rfl⟩))
        obtain ⟨a6, cap6, rfl, hr6⟩ := hown.reads
        try rw [Exit.noGoto_ret]
        go_ret2
        rw [H3.out]
        exact ⟨⟨a6, cap6, rfl, hr6⟩, hb⟩
      | false =>
        have H3 : Hid (decGo xs ⟨n, most, 0, 0, 1, false⟩ [] = .error 24) := by unfold Hid; rw [H.out, List.drop_of_length_le (by omega)]; simp [decGo, hdn]
        have HR := Lib.hid hrd
        clear hrd H
        go_wp2_with (first | go_step3 | (go_at_call 34; refine (z_Done _ r _ HR.out).mono ?_; rintro e w4 ⟨rfl, rfl⟩))
        try rw [Exit.noGoto_ret]
        go_ret2
        rw [H3.out]
        exact ⟨rfl, hb⟩

end Go.Proofs.Ytmbmlinbggmipaa
