/- The walk of Decode of the reference of layer 7. -/
import Derived.Test.YtmbmlinbggmipaaZE
import Derived.Test.YtmbmlinbggmipaaGrew
namespace Go.Proofs.Ytmbmlinbggmipaa
set_option linter.unusedVariables false
set_option linter.unusedSimpArgs false
open Go.RowKit Zp

theorem zref_Decode_no (a : Option Addr) (cap : Nat) (xs : List Int) (n most : Int) (w : World) (h : n < 1 ∨ 1 ≤ n ∧ 256 < n ∨ 1 ≤ n ∧ n ≤ 256 ∧ most < 0 ∨ 1 ≤ n ∧ n ≤ 256 ∧ 0 ≤ most ∧ 1099511627776 < most) :
    Calls Try.prog 38 #[.slice a xs.length cap, .int .i64 n, .int .i64 most] w fun e w' => ResOut w (.error 1) e w' := by
  rcases h with h | ⟨h, h2⟩ | ⟨h, h2, h3⟩ | ⟨h, h2, h3, h4⟩
  · go_enter Try.func38, Try.ntmps38
    go_wp2
    go_ret2
    exact ⟨rfl, kr _⟩
  · have d1 : decide (n < 1) = false := by simp; omega
    go_enter Try.func38, Try.ntmps38
    go_wp2
    go_ret2
    exact ⟨rfl, kr _⟩
  · have d1 : decide (n < 1) = false := by simp; omega
    have d2 : decide (256 < n) = false := by simp; omega
    go_enter Try.func38, Try.ntmps38
    go_wp2
    go_ret2
    exact ⟨rfl, kr _⟩
  · have d1 : decide (n < 1) = false := by simp; omega
    have d2 : decide (256 < n) = false := by simp; omega
    have d3 : decide (most < 0) = false := by simp; omega
    go_enter Try.func38, Try.ntmps38
    go_wp2
    go_ret2
    exact ⟨rfl, kr _⟩

def cellsRR (r : RR) (a : Option Addr) (cap : Nat) : Array Value := #[.int .i64 r.n, .int .i64 r.most, .int .i64 r.told, .slice a r.row.length cap, .bool r.done]
theorem new_blk (w : World) (cs : Array Value) (t : TypeId) : ∃ W, w.alloc (.cells cs t) = W ∧ Blk W w.heap.size t cs ∧ Below w.heap.size w W ∧ W.heap.size = w.heap.size + 1 := ⟨_, rfl, Blk.new _ _ _, ka (kr _) _, by simp⟩

def OffB (g : Nat) (A : Option Addr) (ys : List Int) : Prop := ∀ p, A = some p → 0 < ys.length → p.block ≠ g
theorem OffB.set {k : IntKind} {w : World} {A : Option Addr} {ys : List Int} {g i : Nat} (h : OffB g A ys) (hr : NumsAt k w A ys) (u : Value) : NumsAt k (w.setCell ⟨g, i, none⟩ u) A ys := fun j hj => by
  obtain ⟨b, off, e, hc⟩ := hr j hj
  refine ⟨b, off, e, ?_⟩
  rw [World.cell?_setCell_other w ⟨g, i, none⟩ _ u (by intro e'; cases e'; exact h _ e (by omega) rfl)]
  exact hc
/-- a whole reader stored into its block -/
theorem store_RR {w0 w : World} {g base : Nat} {T e : TypeId} {r r' : RR} {a a4 : Option Addr} {cap cap4 : Nat} {v : Value} {out : List Int} (hB : Blk w g T (cellsRR r a cap)) (hr : NumsAt .i64 w a4 r'.row) (hoff : OffB g a4 r'.row)
    (hown : OwnsNums .i64 e base w v out) (hg : g < base) (hb : Below w0.heap.size w0 w) (hw : w0.heap.size ≤ g) :
    ∀ W, (((((w.setCell ⟨g, 0, none⟩ (.int .i64 r'.n)).setCell ⟨g, 1, none⟩ (.int .i64 r'.most)).setCell ⟨g, 2, none⟩ (.int .i64 r'.told)).setCell ⟨g, 3, none⟩ (.slice a4 r'.row.length cap4)).setCell ⟨g, 4, none⟩ (.bool r'.done)) = W →
      Blk W g T (cellsRR r' a4 cap4) ∧ NumsAt .i64 W a4 r'.row ∧ OwnsNums .i64 e base W v out ∧ Below w0.heap.size w0 W := by
  rintro W rfl
  refine ⟨((((hB.put 0 _).put 1 _).put 2 _).put 3 _).put 4 _, hoff.set (hoff.set (hoff.set (hoff.set (hoff.set hr _) _) _) _) _, ?_, ks (ks (ks (ks (ks hb hw _) hw _) hw _) hw _) hw _⟩
  exact ownsRow_setCell_below (ownsRow_setCell_below (ownsRow_setCell_below (ownsRow_setCell_below (ownsRow_setCell_below hown hg _) hg _) hg _) hg _) hg _

set_option maxHeartbeats 1000000 in
theorem zref_Decode_yes (a : Option Addr) (cap : Nat) (xs : List Int) (n most : Int) (w : World) (hn : 1 ≤ n) (hn2 : n ≤ 256) (h0 : 0 ≤ most) (h1 : most ≤ 1099511627776) (hx : xs.length ≤ 1000) (hr : NumsAt .i64 w a xs) :
    Calls Try.prog 38 #[.slice a xs.length cap, .int .i64 n, .int .i64 most] w fun e w' => ResOut w (decRGo xs ⟨n, most, 0, [], false⟩ []) e w' := by
  have d1 : decide (n < 1) = false := by simp; omega
  have d2 : decide (256 < n) = false := by simp; omega
  have d3 : decide (most < 0) = false := by simp; omega
  have d4 : decide (1099511627776 < most) = false := by simp; omega
  have hok : RR.Ok ⟨n, most, 0, [], false⟩ := ⟨by simp, by simpa [valN, valFrom] using h0, h1, hn, hn2, by simp, by simp⟩
  go_enter Try.func38, Try.ntmps38
  go_wp2_with fail
  obtain ⟨W1, hW1, B1, hb1, hs1⟩ := new_blk w #[.int .i64 n, .int .i64 most, .int .i64 0, .slice none 0 0, .bool false] 48
  rw [hW1]
  clear hW1
  go_loopw [9, 32] (fun v j wr => ∃ k : Nat, ∃ r : RR, ∃ out : List Int, ∃ ra rcap, k ≤ xs.length ∧ j = .int .i64 k ∧ r.Ok ∧ r.row.length ≤ k ∧ Hid ((out.length : Int) = r.told) ∧ Blk wr w.heap.size 48 (cellsRR r ra rcap) ∧ NumsAt .i64 wr ra r.row ∧ OffB w.heap.size ra r.row ∧ Apart v ra r.row ∧ OwnsNums .i64 3 (w.heap.size + 1) wr v out ∧ Hid (decRGo xs ⟨n, most, 0, [], false⟩ [] = decRGo (xs.drop k) r out) ∧ Below w.heap.size w wr) (fun _ j _ => xs.length - (intOf j).toNat)
  case atStart => exact ⟨0, _, [], none, 0, by omega, rfl, hok, by simp, rfl, B1, NumsAt.nil _ _ _, fun p hp => (by cases hp), fun p hp => (by cases hp), OwnsNums.nil _ _ _ _, rfl, hb1⟩
  case round =>
    obtain ⟨wo, rfl⟩ : ∃ wo : World, wo = wr := ⟨_, rfl⟩
    clear B1 hb1 hs1 hok
    obtain ⟨k, r, out, ra, rcap, hk, rfl, hok, hrl, hol, hB, hrr, hoff, hap, hown, H, hb⟩ := hrel
    have hsz := hB.lt
    by_cases hlt : k < xs.length
    · obtain ⟨b, off, rfl, hcell⟩ := (hr.below hb).some (by omega)
      have c1 := hcell k hlt
      have hdrop : xs.drop k = xs.getD k 0 :: xs.drop (k + 1) := by
        rw [List.drop_eq_getElem_cons hlt, List.getD_eq_getElem?_getD, List.getElem?_eq_getElem hlt]; rfl
      have hpo := putR_ok r (xs.getD k 0) hok (fun _ => by omega)
      have htold := putR_told r (xs.getD k 0)
      have hput := zref_Put r ra rcap (xs.getD k 0) wo hrr hok
      have H2 : Hid (decRGo xs ⟨n, most, 0, [], false⟩ [] = if (putR r (xs.getD k 0)).2.2.2 = 7 then .error 25 else if (putR r (xs.getD k 0)).2.2.2 ≠ 0 then .error (putR r (xs.getD k 0)).2.2.2
    else decRGo (xs.drop (k + 1)) (putR r (xs.getD k 0)).1 (if 0 ≤ (putR r (xs.getD k 0)).2.2.1 then out ++ List.replicate (putR r (xs.getD k 0)).2.1.toNat 0 ++ [(putR r (xs.getD k 0)).2.2.1] else out ++ List.replicate (putR r (xs.getD k 0)).2.1.toNat 0)) := by
        unfold Hid; rw [H.out, hdrop]; rfl
      clear hcell hdrop H
      generalize xs.getD k 0 = c at *
      generalize putR r c = q at *
      obtain ⟨r', z, p, er⟩ := q
      dsimp only at *
      obtain ⟨hok', hz0, hz1, hrl'⟩ := hpo
      obtain ⟨z, rfl⟩ := Int.eq_ofNat_of_zero_le hz0
      rw [Int.toNat_natCast] at H2
      have HP := Lib.hid hput
      have HTO := Lib.hid htold
      clear hput htold
      have g0 : World.cell? wo ⟨_, 0, none⟩ = some _ := Blk.at_ hB 0 rfl; have g1 : World.cell? wo ⟨_, 1, none⟩ = some _ := Blk.at_ hB 1 rfl; have g2 : World.cell? wo ⟨_, 2, none⟩ = some _ := Blk.at_ hB 2 rfl; have g3 : World.cell? wo ⟨_, 3, none⟩ = some _ := Blk.at_ hB 3 rfl; have g4 : World.cell? wo ⟨_, 4, none⟩ = some _ := Blk.at_ hB 4 rfl
      go_wp2_with fail
      refine HP.out.mono ?_
      rintro e w4 ⟨⟨a4, cap4, rfl, hr4, hf4⟩, hb4⟩
      unfold StepV
      dsimp only
      have HP2 := trivial
      clear HP
      by_cases he7 : er = 7
      · have h7 : (er == 7) = true := by simpa using he7
        have H3 : Hid (decRGo xs ⟨n, most, 0, [], false⟩ [] = .error 25) := by unfold Hid; rw [H2.out, if_pos he7]
        clear he7 H2
        go_wp2
        go_ret2
        rw [H3.out]
        exact ⟨rfl, (by repeat (first | (with_reducible exact kr _) | (with_reducible assumption) | (with_reducible refine kt ?_ (by assumption)) | (with_reducible refine ka ?_ _) | (with_reducible refine kd ?_ _)))⟩
      · have h7 : (er == 7) = false := by simpa using he7
        by_cases he0 : er = 0
        · subst he0
          have H3 : Hid (decRGo xs ⟨n, most, 0, [], false⟩ [] = decRGo (xs.drop (k + 1)) r' (if 0 ≤ p then out ++ List.replicate z 0 ++ [p] else out ++ List.replicate z 0)) := by unfold Hid; rw [H2.out, if_neg (by decide), if_neg (by simp)]
          have hto := HTO.out rfl
          have hmx : r'.told ≤ 1099511627776 := by have := hok'.sum; have := hok'.most1; have := (valN_range r'.row hok'.codes).1; omega
          have hlo : Hid ((out.length : Int) + z + (if 0 ≤ p then 1 else 0) = r'.told) := by unfold Hid; rw [hto, hol.out]
          have hlz : out.length + z ≤ 1099511627776 := by have := hlo.out; split at this <;> omega
          clear he7 H2 HTO hto hol
          go_wp2_with fail
          obtain ⟨W5, hW5, B12, hb5, hs5⟩ := new_blk w4 #[.int .i64 r'.n, .int .i64 r'.most, .int .i64 r'.told, .slice a4 r'.row.length cap4, .bool r'.done, .int .i64 z, .int .i64 p, .int .i64 0] 52
          rw [hW5]
          clear hW5
          have hB5 := (hB.kept hb4).kept hb5
          have hr5 := hr4.below hb5
          have own5 := (hown.below hb4).below hb5
          have hap5 : Apart u9 a4 r'.row := Apart.fresh hown hap hf4
          have hbb5 := kt (kt hb hb4) hb5
          have hoff5 : OffB w.heap.size a4 r'.row := by
            intro q hq h0
            rcases hf4 q hq with ⟨h1, h2⟩ | h1
            · exact hoff q h1 (by rw [← h2]; exact h0)
            · omega
          clear hoff
          clear hB hrr hap hown hb hb4 hb5 hr4 hf4
          clear g0 g1 g2 g3 g4
          go_loopw [9, 49] (fun v j w6 => ∃ m : Nat, m ≤ z ∧ j = .int .i64 m ∧ OwnsNums .i64 3 (w.heap.size + 1) w6 v (out ++ List.replicate m 0) ∧ Blk w6 w.heap.size 48 (cellsRR r ra rcap) ∧ Blk w6 w4.heap.size 52 #[.int .i64 r'.n, .int .i64 r'.most, .int .i64 r'.told, .slice a4 r'.row.length cap4, .bool r'.done, .int .i64 z, .int .i64 p, .int .i64 0] ∧ NumsAt .i64 w6 a4 r'.row ∧ Apart v a4 r'.row ∧ Below w.heap.size w w6 ∧ w.heap.size + 1 ≤ w6.heap.size) (fun _ j _ => z - (intOf j).toNat)
          case atStart => exact ⟨0, by omega, rfl, by simpa using own5, hB5, B12, hr5, hap5, hbb5, by have := hB5.lt; omega⟩
          case round =>
            clear own5 hB5 B12 hr5 hap5 hbb5 hs5
            obtain ⟨m, hm, rfl, hown, hB, B12, hr6, hap, hb, hz⟩ := hrel
            by_cases hmz : m < z
            · have hl6 : (out ++ List.replicate m (0 : Int)).length ≤ 1099511627776 := by simp; omega
              go_wp2_with (first | (at_builtin; refine app_new1g (w := wr) rfl _ _ 27 3 rfl Try.underlying27 info_int hown rfl rfl (by decide) hl6 hz ?_; intro v7 w7 own7 gr7))
              refine ⟨⟨m + 1, by omega, by go_num, by rw [List.replicate_succ', ← List.append_assoc]; exact own7, gr7.blk hown hB (by decide), gr7.blk hown B12 (by decide), (gr7.nums hr6 hap).1, (gr7.nums hr6 hap).2, hb.trans ((gr7.below hown hz).mono (by omega)), by have := gr7.size; omega⟩, by simp [intOf]; omega⟩
            · obtain rfl : m = z := by omega
              have g0 : World.cell? wr ⟨_, 0, none⟩ = some _ := Blk.at_ hB 0 rfl; have g1 : World.cell? wr ⟨_, 1, none⟩ = some _ := Blk.at_ hB 1 rfl; have g2 : World.cell? wr ⟨_, 2, none⟩ = some _ := Blk.at_ hB 2 rfl; have g3 : World.cell? wr ⟨_, 3, none⟩ = some _ := Blk.at_ hB 3 rfl; have g4 : World.cell? wr ⟨_, 4, none⟩ = some _ := Blk.at_ hB 4 rfl
              have gf0 : World.frozen? wr ⟨_, 0, none⟩ = false := Blk.free hB 0; have gf1 : World.frozen? wr ⟨_, 1, none⟩ = false := Blk.free hB 1; have gf2 : World.frozen? wr ⟨_, 2, none⟩ = false := Blk.free hB 2; have gf3 : World.frozen? wr ⟨_, 3, none⟩ = false := Blk.free hB 3; have gf4 : World.frozen? wr ⟨_, 4, none⟩ = false := Blk.free hB 4
              have s0 : World.cell? wr ⟨_, 0, none⟩ = some _ := Blk.at_ B12 0 rfl; have s1 : World.cell? wr ⟨_, 1, none⟩ = some _ := Blk.at_ B12 1 rfl; have s2 : World.cell? wr ⟨_, 2, none⟩ = some _ := Blk.at_ B12 2 rfl; have s3 : World.cell? wr ⟨_, 3, none⟩ = some _ := Blk.at_ B12 3 rfl; have s4 : World.cell? wr ⟨_, 4, none⟩ = some _ := Blk.at_ B12 4 rfl; have s5 : World.cell? wr ⟨_, 5, none⟩ = some _ := Blk.at_ B12 5 rfl; have s6 : World.cell? wr ⟨_, 6, none⟩ = some _ := Blk.at_ B12 6 rfl; have s7 : World.cell? wr ⟨_, 7, none⟩ = some _ := Blk.at_ B12 7 rfl
              by_cases hp : 0 ≤ p
              · have hd : decide (0 ≤ p) = true := by simpa using hp
                have H4 : Hid (decRGo xs ⟨n, most, 0, [], false⟩ [] = decRGo (xs.drop (k + 1)) r' (out ++ List.replicate m 0 ++ [p])) := by unfold Hid; rw [H3.out, if_pos hp]
                have hl4 : Hid (((out ++ List.replicate m 0 ++ [p]).length : Int) = r'.told) := by unfold Hid; rw [← hlo.out, if_pos hp]; simp; omega
                clear H3 hlo
                have hl6 : (out ++ List.replicate m (0 : Int)).length ≤ 1099511627776 := by simp; omega
                go_wp2_with (first | (at_builtin; refine app_new1g (w := wr) rfl _ _ 27 3 rfl Try.underlying27 info_int hown rfl rfl (by decide) hl6 hz ?_; intro v7 w7 own7 gr7; have hB7 := gr7.blk hown hB (by decide); have B127 := gr7.blk hown B12 (by decide); clear g0 g1 g2 g3 g4 gf0 gf1 gf2 gf3 gf4 s0 s1 s2 s3 s4 s5 s6 s7; have g0 : World.cell? w7 ⟨_, 0, none⟩ = some _ := Blk.at_ hB7 0 rfl; have g1 : World.cell? w7 ⟨_, 1, none⟩ = some _ := Blk.at_ hB7 1 rfl; have g2 : World.cell? w7 ⟨_, 2, none⟩ = some _ := Blk.at_ hB7 2 rfl; have g3 : World.cell? w7 ⟨_, 3, none⟩ = some _ := Blk.at_ hB7 3 rfl; have g4 : World.cell? w7 ⟨_, 4, none⟩ = some _ := Blk.at_ hB7 4 rfl; have gf0 : World.frozen? w7 ⟨_, 0, none⟩ = false := Blk.free hB7 0; have gf1 : World.frozen? w7 ⟨_, 1, none⟩ = false := Blk.free hB7 1; have gf2 : World.frozen? w7 ⟨_, 2, none⟩ = false := Blk.free hB7 2; have gf3 : World.frozen? w7 ⟨_, 3, none⟩ = false := Blk.free hB7 3; have gf4 : World.frozen? w7 ⟨_, 4, none⟩ = false := Blk.free hB7 4; have s0 : World.cell? w7 ⟨_, 0, none⟩ = some _ := Blk.at_ B127 0 rfl; have s1 : World.cell? w7 ⟨_, 1, none⟩ = some _ := Blk.at_ B127 1 rfl; have s2 : World.cell? w7 ⟨_, 2, none⟩ = some _ := Blk.at_ B127 2 rfl; have s3 : World.cell? w7 ⟨_, 3, none⟩ = some _ := Blk.at_ B127 3 rfl; have s4 : World.cell? w7 ⟨_, 4, none⟩ = some _ := Blk.at_ B127 4 rfl; have s5 : World.cell? w7 ⟨_, 5, none⟩ = some _ := Blk.at_ B127 5 rfl; have s6 : World.cell? w7 ⟨_, 6, none⟩ = some _ := Blk.at_ B127 6 rfl; have s7 : World.cell? w7 ⟨_, 7, none⟩ = some _ := Blk.at_ B127 7 rfl))
                obtain ⟨W9, hW9⟩ : ∃ W9, _ = W9 := ⟨_, rfl⟩
                obtain ⟨e1, e2, e3, e4⟩ := store_RR (w0 := w) (cap4 := cap4) hB7 (gr7.nums hr6 hap).1 hoff5 own7 (Nat.lt_succ_self _) (hb.trans ((gr7.below hown hz).mono (by omega))) (Nat.le_refl _) _ hW9
                rw [hW9]
                exact ⟨⟨k + 1, r', _, a4, cap4, by omega, by go_num, hok', by omega, hl4, e1, e2, hoff5, (gr7.nums hr6 hap).2, e3, H4, e4⟩, by simp [intOf]; omega⟩
              · have hd : decide (0 ≤ p) = false := by simpa using hp
                have H4 : Hid (decRGo xs ⟨n, most, 0, [], false⟩ [] = decRGo (xs.drop (k + 1)) r' (out ++ List.replicate m 0)) := by unfold Hid; rw [H3.out, if_neg hp]
                have hl4 : Hid (((out ++ List.replicate m 0).length : Int) = r'.told) := by unfold Hid; rw [← hlo.out, if_neg hp]; simp
                clear H3 hlo
                go_wp2
                obtain ⟨W9, hW9⟩ : ∃ W9, _ = W9 := ⟨_, rfl⟩
                obtain ⟨e1, e2, e3, e4⟩ := store_RR (w0 := w) (cap4 := cap4) hB hr6 hoff5 hown (Nat.lt_succ_self _) hb (Nat.le_refl _) _ hW9
                rw [hW9]
                exact ⟨⟨k + 1, r', _, a4, cap4, by omega, by go_num, hok', by omega, hl4, e1, e2, hoff5, hap, e3, H4, e4⟩, by simp [intOf]; omega⟩
        · have h0' : (er != 0) = true := by simpa using he0
          have H3 : Hid (decRGo xs ⟨n, most, 0, [], false⟩ [] = .error er) := by unfold Hid; rw [H2.out, if_neg he7, if_pos he0]
          clear he7 he0 H2 HTO
          go_wp2
          go_quiet (fail)
          go_wp2
          go_ret2
          rw [H3.out]
          exact ⟨rfl, (by repeat (first | (with_reducible exact kr _) | (with_reducible assumption) | (with_reducible refine kt ?_ (by assumption)) | (with_reducible refine ka ?_ _) | (with_reducible refine kd ?_ _)))⟩
    · have g0 : World.cell? wo ⟨_, 0, none⟩ = some _ := Blk.at_ hB 0 rfl; have g1 : World.cell? wo ⟨_, 1, none⟩ = some _ := Blk.at_ hB 1 rfl; have g2 : World.cell? wo ⟨_, 2, none⟩ = some _ := Blk.at_ hB 2 rfl; have g3 : World.cell? wo ⟨_, 3, none⟩ = some _ := Blk.at_ hB 3 rfl; have g4 : World.cell? wo ⟨_, 4, none⟩ = some _ := Blk.at_ hB 4 rfl
      cases hdn : r.done with
      | true =>
        have H3 : Hid (decRGo xs ⟨n, most, 0, [], false⟩ [] = .ok out) := by unfold Hid; rw [H.out, List.drop_of_length_le (by omega)]; simp [decRGo, hdn]
        clear H
        go_wp2
        obtain ⟨a6, cap6, rfl, hr6⟩ := hown.reads
        go_ret2
        rw [H3.out]
        exact ⟨⟨a6, cap6, rfl, hr6⟩, hb⟩
      | false =>
        have H3 : Hid (decRGo xs ⟨n, most, 0, [], false⟩ [] = .error 24) := by unfold Hid; rw [H.out, List.drop_of_length_le (by omega)]; simp [decRGo, hdn]
        clear H
        go_wp2
        go_ret2
        rw [H3.out]
        exact ⟨rfl, hb⟩

end Go.Proofs.Ytmbmlinbggmipaa
