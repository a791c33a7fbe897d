/- The walk of the statement ZerosReads. -/
import Derived.Test.YtmbmlinbggmipaaZM
namespace Go.Proofs.Ytmbmlinbggmipaa
set_option linter.unusedVariables false
set_option linter.unusedSimpArgs false
open Go.RowKit Zp

theorem Only.nums' {k : IntKind} {a b : World} {g : Nat} {A : Option Addr} {xs : List Int} (h : Only g a b) (hr : NumsAt k a A xs) (hne : OffB g A xs) : NumsAt k b A xs := fun j hj => by
  obtain ⟨p, off, e, hc⟩ := hr j hj
  refine ⟨p, off, e, ?_⟩
  have hp := World.block_lt_of_cell? a _ hc
  exact (World.cell?_of_block (w := a) (h.block p hp (by intro e'; cases e'; exact hne _ e (by omega) rfl))).trans hc

/-- a whole reader stored into its block, beside another reader -/
theorem store_RR2 {w0 w : World} {g h : Nat} {T : TypeId} {r r' : RR} {rs : RS} {a a4 : Option Addr} {cap cap4 : Nat} (hB : Blk w g T (cellsRR r a cap)) (hr : NumsAt .i64 w a4 r'.row) (hoff : OffB g a4 r'.row)
    (hd : RdIn w h rs) (hne : h ≠ g) (hb : Below w0.heap.size w0 w) (hw : w0.heap.size ≤ g) :
    ∀ W, (((((w.setCell ⟨g, 0, none⟩ (.int .i64 r'.n)).setCell ⟨g, 1, none⟩ (.int .i64 r'.most)).setCell ⟨g, 2, none⟩ (.int .i64 r'.told)).setCell ⟨g, 3, none⟩ (.slice a4 r'.row.length cap4)).setCell ⟨g, 4, none⟩ (.bool r'.done)) = W →
      Blk W g T (cellsRR r' a4 cap4) ∧ NumsAt .i64 W a4 r'.row ∧ RdIn W h rs ∧ Below w0.heap.size w0 W := by
  rintro W rfl
  refine ⟨((((hB.put 0 _).put 1 _).put 2 _).put 3 _).put 4 _, hoff.set (hoff.set (hoff.set (hoff.set (hoff.set hr _) _) _) _) _, ?_, ks (ks (ks (ks (ks hb hw _) hw _) hw _) hw _) hw _⟩
  exact ((((Blk.far hd (p := ⟨g, 0, none⟩) hne _).far (p := ⟨g, 1, none⟩) hne _).far (p := ⟨g, 2, none⟩) hne _).far (p := ⟨g, 3, none⟩) hne _).far (p := ⟨g, 4, none⟩) hne _

theorem law_Reads_big (a : Option Addr) (cap : Nat) (xs : List Int) (n most : Int) (w : World) (hm : xs.length ≤ maxLen) (h : 100 < xs.length) :
    Calls Try.prog 9 #[.slice a xs.length cap, .int .i64 n, .int .i64 most] w fun e w' => e = .returned (.bool true) ∧ Below w.heap.size w w' := by
  unfold maxLen at hm
  go_enter Try.func9, Try.ntmps9
  go_wp2_with (first | (go_at_call 28; refine (z_four _).mono ?_; rintro e w1 ⟨rfl, hb⟩))
  go_ret
  exact ⟨rfl, (by repeat (first | (with_reducible exact kr _) | (with_reducible assumption) | (with_reducible refine kt ?_ (by assumption)) | (with_reducible refine ka ?_ _) | (with_reducible refine kd ?_ _)))⟩

theorem law_Reads_no (a : Option Addr) (cap : Nat) (xs : List Int) (n most : Int) (w : World) (h0 : xs.length ≤ 100) (h : n < 1 ∨ 1 ≤ n ∧ 256 < n ∨ 1 ≤ n ∧ n ≤ 256 ∧ most < 0 ∨ 1 ≤ n ∧ n ≤ 256 ∧ 0 ≤ most ∧ 1099511627776 < most) :
    Calls Try.prog 9 #[.slice a xs.length cap, .int .i64 n, .int .i64 most] w fun e w' => e = .returned (.bool true) ∧ Below w.heap.size w w' := by
  have hd : decide (100 < (xs.length : Int)) = false := by simp; omega
  have HN : Hid (∀ w, Calls Try.prog 31 #[.int .i64 n, .int .i64 most] w fun e w' => e = .returned (.tuple #[.pointer none, .int .i64 1]) ∧ w = w') := fun w => z_NewReader_no n most w (by
    cases hb : mayB n with
    | false => exact .inl rfl
    | true => right; have : 1 ≤ n ∧ n ≤ 256 := by simpa [mayB] using hb
              exact ⟨rfl, by omega⟩)
  rcases h with h | ⟨h, h2⟩ | ⟨h, h2, h3⟩ | ⟨h, h2, h3, h4⟩
  · have d1 : decide (n < 1) = true := by simpa using h
    go_enter Try.func9, Try.ntmps9
    go_wp2_with (first | (go_at_call 31; refine (HN.out _).mono ?_; rintro e w1 ⟨rfl, rfl⟩) | (go_at_call 28; refine (z_four _).mono ?_; rintro e w1 ⟨rfl, hb⟩))
    go_ret
    exact ⟨rfl, (by repeat (first | (with_reducible exact kr _) | (with_reducible assumption) | (with_reducible refine kt ?_ (by assumption)) | (with_reducible refine ka ?_ _) | (with_reducible refine kd ?_ _)))⟩
  · have d1 : decide (n < 1) = false := by simp; omega
    have d2 : decide (256 < n) = true := by simpa using h2
    go_enter Try.func9, Try.ntmps9
    go_wp2_with (first | (go_at_call 31; refine (HN.out _).mono ?_; rintro e w1 ⟨rfl, rfl⟩) | (go_at_call 28; refine (z_four _).mono ?_; rintro e w1 ⟨rfl, hb⟩))
    go_ret
    exact ⟨rfl, (by repeat (first | (with_reducible exact kr _) | (with_reducible assumption) | (with_reducible refine kt ?_ (by assumption)) | (with_reducible refine ka ?_ _) | (with_reducible refine kd ?_ _)))⟩
  · have d1 : decide (n < 1) = false := by simp; omega
    have d2 : decide (256 < n) = false := by simp; omega
    have d3 : decide (most < 0) = true := by simpa using h3
    go_enter Try.func9, Try.ntmps9
    go_wp2_with (first | (go_at_call 31; refine (HN.out _).mono ?_; rintro e w1 ⟨rfl, rfl⟩) | (go_at_call 28; refine (z_four _).mono ?_; rintro e w1 ⟨rfl, hb⟩))
    go_ret
    exact ⟨rfl, (by repeat (first | (with_reducible exact kr _) | (with_reducible assumption) | (with_reducible refine kt ?_ (by assumption)) | (with_reducible refine ka ?_ _) | (with_reducible refine kd ?_ _)))⟩
  · have d1 : decide (n < 1) = false := by simp; omega
    have d2 : decide (256 < n) = false := by simp; omega
    have d3 : decide (most < 0) = false := by simp; omega
    have d4 : decide (1099511627776 < most) = true := by simpa using h4
    go_enter Try.func9, Try.ntmps9
    go_wp2_with (first | (go_at_call 31; refine (HN.out _).mono ?_; rintro e w1 ⟨rfl, rfl⟩) | (go_at_call 28; refine (z_four _).mono ?_; rintro e w1 ⟨rfl, hb⟩))
    go_ret
    exact ⟨rfl, (by repeat (first | (with_reducible exact kr _) | (with_reducible assumption) | (with_reducible refine kt ?_ (by assumption)) | (with_reducible refine ka ?_ _) | (with_reducible refine kd ?_ _)))⟩

set_option maxHeartbeats 2000000 in
theorem law_Reads (a : Option Addr) (cap : Nat) (xs : List Int) (n most : Int) (w : World) (hx : xs.length ≤ 100) (hn : 1 ≤ n) (hn2 : n ≤ 256) (h0 : 0 ≤ most) (h1 : most ≤ 1099511627776) (hr : NumsAt .i64 w a xs) :
    Calls Try.prog 9 #[.slice a xs.length cap, .int .i64 n, .int .i64 most] w fun e w' => e = .returned (.bool true) ∧ Below w.heap.size w w' := by
  have hd : decide (100 < (xs.length : Int)) = false := by simp; omega
  have d1 : decide (n < 1) = false := by simp; omega
  have d2 : decide (256 < n) = false := by simp; omega
  have d3 : decide (most < 0) = false := by simp; omega
  have d4 : decide (1099511627776 < most) = false := by simp; omega
  have hmay : mayB n = true := by simp [mayB]; omega
  have hokr : RS.Ok ⟨n, most, 0, 0, 1, false⟩ := .start n most hn hn2 h0 h1
  have hokq : RR.Ok ⟨n, most, 0, [], false⟩ := ⟨by simp, by simpa [valN, valFrom] using h0, h1, hn, hn2, by simp, by simp⟩
  go_enter Try.func9, Try.ntmps9
  go_wp2_with fail
  refine (z_NewReader n most w hmay h0 h1).mono ?_
  rintro e w1 ⟨rfl, hrd, hb1⟩
  have hg1 : w.heap.size < w1.heap.size := hrd.lt
  go_wp2_with fail
  obtain ⟨W1, hW1, B1, hbW1, hs1⟩ := new_blk w1 #[.int .i64 n, .int .i64 most, .int .i64 0, .slice none 0 0, .bool false] 48
  rw [hW1]
  clear hW1
  have hrd1 := Blk.kept hrd hbW1
  have hbb := kt hb1 hbW1
  go_loopw [54] (fun j wr => ∃ k : Nat, ∃ r : RS, ∃ q : RR, ∃ ra rcap, k ≤ xs.length ∧ j = .int .i64 k ∧ r.Ok ∧ q.Ok ∧ Sim r q ∧ q.row.length ≤ k ∧ RdIn wr w.heap.size r ∧ Blk wr w1.heap.size 48 (cellsRR q ra rcap) ∧ NumsAt .i64 wr ra q.row ∧ OffB w.heap.size ra q.row ∧ OffB w1.heap.size ra q.row ∧ Below w.heap.size w wr) (fun j _ => xs.length - (intOf j).toNat)
  case atStart => exact ⟨0, _, _, none, 0, by omega, rfl, hokr, hokq, Sim.start n most, by simp, hrd1, B1, NumsAt.nil _ _ _, fun p hp => (by cases hp), fun p hp => (by cases hp), hbb⟩
  case round =>
    obtain ⟨wo, rfl⟩ : ∃ wo : World, wo = wr := ⟨_, rfl⟩
    clear hrd hrd1 B1 hbb hbW1 hs1 hokr hokq hmay hb1
    obtain ⟨k, r, q, ra, rcap, hk, rfl, hokr, hokq, hsim, hrl, hrd, hB, hrr, ho1, ho2, hb⟩ := hrel
    have hsz := hB.lt
    by_cases hlt : k < xs.length
    · obtain ⟨b, off, rfl, hcell⟩ := (hr.below hb).some (by omega)
      have c1 := hcell k hlt
      have hpo := putS_ok r (xs.getD k 0) hokr
      have hqo := putR_ok q (xs.getD k 0) hokq (fun _ => by omega)
      have hsp := hsim.put hokr (xs.getD k 0)
      have hput := z_Put w.heap.size r (xs.getD k 0) wo hrd hokr
      have hputR := fun w hrr => zref_Put q ra rcap (xs.getD k 0) w hrr hokq
      clear hcell
      generalize xs.getD k 0 = c at *
      generalize putS r c = t at *
      generalize putR q c = u at *
      obtain ⟨r', z, p, er⟩ := t
      obtain ⟨q', z', p', er'⟩ := u
      dsimp only at *
      obtain ⟨hsim', heq⟩ := hsp
      simp only [Prod.mk.injEq] at heq
      obtain ⟨rfl, rfl, rfl⟩ := heq
      obtain ⟨hokr', _, _⟩ := hpo
      obtain ⟨hokq', _, _, hrl'⟩ := hqo
      have HP := Lib.hid hput
      have HR := Lib.hid hputR
      clear hput hputR hokr hokq hsim
      go_wp2_with fail
      refine HP.out.mono ?_
      rintro e w2 ⟨rfl, hrd2, hon2⟩
      dsimp only
      have hB2 := hon2.blk hB (by omega)
      have hrr2 := hon2.nums' hrr ho1
      have hb2 := hon2.gone hb (Nat.le_refl _) (by omega)
      have hsz2 := hon2.size
      clear HP hrd hB hrr hb
      have g0 : World.cell? w2 ⟨_, 0, none⟩ = some _ := Blk.at_ hB2 0 rfl; have g1 : World.cell? w2 ⟨_, 1, none⟩ = some _ := Blk.at_ hB2 1 rfl; have g2 : World.cell? w2 ⟨_, 2, none⟩ = some _ := Blk.at_ hB2 2 rfl; have g3 : World.cell? w2 ⟨_, 3, none⟩ = some _ := Blk.at_ hB2 3 rfl; have g4 : World.cell? w2 ⟨_, 4, none⟩ = some _ := Blk.at_ hB2 4 rfl
      go_wp2_with fail
      refine (HR.out _ hrr2).mono ?_
      rintro e w3 ⟨⟨a4, cap4, rfl, hr4, hf4⟩, hb3⟩
      unfold StepV
      dsimp only
      clear HR g0 g1 g2 g3 g4 hon2
      go_wp2_with fail
      obtain ⟨W4, hW4, B15, hb4, hs4⟩ := new_blk w3 #[.int .i64 q'.n, .int .i64 q'.most, .int .i64 q'.told, .slice a4 q'.row.length cap4, .bool q'.done, .int .i64 z, .int .i64 p, .int .i64 er] 52
      rw [hW4]
      clear hW4
      have hrd4 := (Blk.kept hrd2 hb3).kept hb4
      have hB4 := (hB2.kept hb3).kept hb4
      have hr44 := hr4.below hb4
      have hbb4 := kt (kt hb2 hb3) hb4
      have hz4 : w3.heap.size < W4.heap.size := B15.lt
      have hz3 := hb3.size
      have ho1' : OffB w.heap.size a4 q'.row := by
        intro s hs h0
        rcases hf4 s hs with ⟨h1, h2⟩ | h1
        · exact ho1 s h1 (by rw [← h2]; exact h0)
        · omega
      have ho2' : OffB w1.heap.size a4 q'.row := by
        intro s hs h0
        rcases hf4 s hs with ⟨h1, h2⟩ | h1
        · exact ho2 s h1 (by rw [← h2]; exact h0)
        · omega
      have hHD : Hid (∀ W, Below W4.heap.size W4 W → Calls Try.prog 34 #[.pointer (some ⟨w.heap.size, 0, none⟩)] W fun e w' => e = .returned (.bool q'.done) ∧ W = w') := fun W hbW => by
        have := z_Done w.heap.size r' W (Blk.kept hrd4 hbW)
        rwa [hsim'.done] at this
      have hval : r'.zeros = valN q'.row := by
        have hw : (2 : Int) ^ q'.row.length ≤ 2199023255552 := by rw [← hsim'.weight]; exact hokr'.weight1
        rw [hsim'.zeros, (valN_snoc q'.row 0 hw).2]
      have hHC : Hid (∀ W, Below W4.heap.size W4 W → Calls Try.prog 35 #[.pointer (some ⟨w.heap.size, 0, none⟩)] W fun e w' => e = .returned (.int .i64 (q'.told + valN q'.row)) ∧ ∃ n, w' = W.drewN n) := fun W hbW => by
        have := z_Count w.heap.size r' W (Blk.kept hrd4 hbW) hokr'.told0 hokr'.zeros0 (by have := hokr'.sum; have := hokr'.most1; have := hokr'.zeros0; omega) (by have := hokr'.sum; have := hokr'.most1; have := hokr'.told0; omega)
        rwa [hsim'.told, hval] at this
      have hHR : Hid (∀ W, Below W4.heap.size W4 W → Calls Try.prog 36 #[.agg #[.int .i64 q'.n, .int .i64 q'.most, .int .i64 q'.told, .slice a4 q'.row.length cap4, .bool q'.done]] W fun e w' => e = .returned (.int .i64 (q'.told + valN q'.row)) ∧ Below W.heap.size W w') := fun W hbW =>
        zref_Count q'.n q'.most q'.told a4 cap4 q'.row q'.done W (hr44.below hbW) (by omega) hokq'.codes hokq'.told0 (by have := hokq'.sum; have := hokq'.most1; have := (valN_range q'.row hokq'.codes).1; omega)
      have hN : Hid (r'.Ok ∧ q'.Ok ∧ Sim r' q') := ⟨hokr', hokq', hsim'⟩
      have hkeep : Hid (∀ W, Below W4.heap.size W4 W → Below W4.heap.size W4 W ∧ W.cell? ⟨w3.heap.size, 0, none⟩ = some (.int .i64 q'.n) ∧ W.cell? ⟨w3.heap.size, 1, none⟩ = some (.int .i64 q'.most) ∧ W.cell? ⟨w3.heap.size, 2, none⟩ = some (.int .i64 q'.told) ∧ W.cell? ⟨w3.heap.size, 3, none⟩ = some (.slice a4 q'.row.length cap4) ∧ W.cell? ⟨w3.heap.size, 4, none⟩ = some (.bool q'.done) ∧ W.cell? ⟨w3.heap.size, 5, none⟩ = some (.int .i64 z) ∧ W.cell? ⟨w3.heap.size, 6, none⟩ = some (.int .i64 p) ∧ W.cell? ⟨w3.heap.size, 7, none⟩ = some (.int .i64 er)) :=
        fun W hbW => ⟨hbW, cell_below (B15.at_ 0 rfl) hbW, cell_below (B15.at_ 1 rfl) hbW, cell_below (B15.at_ 2 rfl) hbW, cell_below (B15.at_ 3 rfl) hbW, cell_below (B15.at_ 4 rfl) hbW, cell_below (B15.at_ 5 rfl) hbW, cell_below (B15.at_ 6 rfl) hbW, cell_below (B15.at_ 7 rfl) hbW⟩
      clear hokr' hokq' hsim' hval hrd2 hB2 hr4 hrr2 hb2 hb3 hb4 hf4 ho1 ho2
      generalize hV : q'.told + valN q'.row = V at *
      clear hV
      go_region_held3 (fun W => Below W4.heap.size W4 W ∧ W.cell? ⟨w3.heap.size, 0, none⟩ = some (.int .i64 q'.n) ∧ W.cell? ⟨w3.heap.size, 1, none⟩ = some (.int .i64 q'.most) ∧ W.cell? ⟨w3.heap.size, 2, none⟩ = some (.int .i64 q'.told) ∧ W.cell? ⟨w3.heap.size, 3, none⟩ = some (.slice a4 q'.row.length cap4) ∧ W.cell? ⟨w3.heap.size, 4, none⟩ = some (.bool q'.done) ∧ W.cell? ⟨w3.heap.size, 5, none⟩ = some (.int .i64 z) ∧ W.cell? ⟨w3.heap.size, 6, none⟩ = some (.int .i64 p) ∧ W.cell? ⟨w3.heap.size, 7, none⟩ = some (.int .i64 er))
        ((refine hkeep.out _ ?_; (repeat (first | exact kr _ | assumption | exact And.left (by assumption) | refine kdr ?_ | refine kd ?_ _ | refine kt ?_ (by assumption)))))
        (first | (go_at_call 34; refine (hHD.out _ (And.left (by assumption))).mono ?_; rintro e w7 ⟨rfl, rfl⟩) | (go_at_call 35; refine (hHC.out _ (And.left (by assumption))).mono ?_; rintro e w7 ⟨rfl, nq, rfl⟩) | (go_at_call 36; refine (hHR.out _ (And.left (by assumption))).mono ?_; rintro e w8 ⟨rfl, hb8⟩))
      have hH := And.left ‹Below W4.heap.size W4 _ ∧ _›
      clear hHD hHC hHR hkeep
      have hB8 := hB4.kept hH
      have hC8 := B15.kept hH
      have hrd8 := Blk.kept hrd4 hH
      have hr8 := hr44.below hH
      have hbb8 := kt hbb4 hH
      clear hB4 B15 hrd4 hr44 hbb4
      have g0 : World.cell? _ ⟨_, 0, none⟩ = some _ := Blk.at_ hB8 0 rfl; have g1 : World.cell? _ ⟨_, 1, none⟩ = some _ := Blk.at_ hB8 1 rfl; have g2 : World.cell? _ ⟨_, 2, none⟩ = some _ := Blk.at_ hB8 2 rfl; have g3 : World.cell? _ ⟨_, 3, none⟩ = some _ := Blk.at_ hB8 3 rfl; have g4 : World.cell? _ ⟨_, 4, none⟩ = some _ := Blk.at_ hB8 4 rfl
      have gf0 : World.frozen? _ ⟨_, 0, none⟩ = false := Blk.free hB8 0; have gf1 : World.frozen? _ ⟨_, 1, none⟩ = false := Blk.free hB8 1; have gf2 : World.frozen? _ ⟨_, 2, none⟩ = false := Blk.free hB8 2; have gf3 : World.frozen? _ ⟨_, 3, none⟩ = false := Blk.free hB8 3; have gf4 : World.frozen? _ ⟨_, 4, none⟩ = false := Blk.free hB8 4
      have s0 : World.cell? _ ⟨_, 0, none⟩ = some _ := Blk.at_ hC8 0 rfl; have s1 : World.cell? _ ⟨_, 1, none⟩ = some _ := Blk.at_ hC8 1 rfl; have s2 : World.cell? _ ⟨_, 2, none⟩ = some _ := Blk.at_ hC8 2 rfl; have s3 : World.cell? _ ⟨_, 3, none⟩ = some _ := Blk.at_ hC8 3 rfl; have s4 : World.cell? _ ⟨_, 4, none⟩ = some _ := Blk.at_ hC8 4 rfl; have s5 : World.cell? _ ⟨_, 5, none⟩ = some _ := Blk.at_ hC8 5 rfl; have s6 : World.cell? _ ⟨_, 6, none⟩ = some _ := Blk.at_ hC8 6 rfl; have s7 : World.cell? _ ⟨_, 7, none⟩ = some _ := Blk.at_ hC8 7 rfl
      go_wp2
      obtain ⟨W9, hW9⟩ : ∃ W9, _ = W9 := ⟨_, rfl⟩
      obtain ⟨e1, e2, e3, e4⟩ := store_RR2 (w0 := w) (cap4 := cap4) hB8 hr8 ho2' hrd8 (by omega) hbb8 (by omega) _ hW9
      rw [hW9]
      obtain ⟨n1, n2, n3⟩ := hN.out
      exact ⟨⟨k + 1, r', q', a4, cap4, by omega, by go_num, n1, n2, n3, by omega, e3, e1, e2, ho1', ho2', e4⟩, by simp [intOf]; omega⟩
    · have hval : r.zeros = valN q.row := by
        have hw : (2 : Int) ^ q.row.length ≤ 2199023255552 := by rw [← hsim.weight]; exact hokr.weight1
        rw [hsim.zeros, (valN_snoc q.row 0 hw).2]
      have hHC : Hid (∀ W, Below wo.heap.size wo W → Calls Try.prog 35 #[.pointer (some ⟨w.heap.size, 0, none⟩)] W fun e w' => e = .returned (.int .i64 (q.told + valN q.row)) ∧ ∃ n, w' = W.drewN n) := fun W hbW => by
        have := z_Count w.heap.size r W (Blk.kept hrd hbW) hokr.told0 hokr.zeros0 (by have := hokr.sum; have := hokr.most1; have := hokr.zeros0; omega) (by have := hokr.sum; have := hokr.most1; have := hokr.told0; omega)
        rwa [hsim.told, hval] at this
      have hHR : Hid (∀ W, Below wo.heap.size wo W → Calls Try.prog 36 #[.agg #[.int .i64 q.n, .int .i64 q.most, .int .i64 q.told, .slice ra q.row.length rcap, .bool q.done]] W fun e w' => e = .returned (.int .i64 (q.told + valN q.row)) ∧ Below W.heap.size W w') := fun W hbW =>
        zref_Count q.n q.most q.told ra rcap q.row q.done W (hrr.below hbW) (by omega) hokq.codes hokq.told0 (by have := hokq.sum; have := hokq.most1; have := (valN_range q.row hokq.codes).1; omega)
      have hH4 : Hid (∀ W, Calls Try.prog 28 #[] W fun e w' => e = .returned (.bool true) ∧ Below W.heap.size W w') := fun W => z_four W
      have hkeep : Hid (∀ W, Below wo.heap.size wo W → Below wo.heap.size wo W ∧ W.cell? ⟨w1.heap.size, 0, none⟩ = some (.int .i64 q.n) ∧ W.cell? ⟨w1.heap.size, 1, none⟩ = some (.int .i64 q.most) ∧ W.cell? ⟨w1.heap.size, 2, none⟩ = some (.int .i64 q.told) ∧ W.cell? ⟨w1.heap.size, 3, none⟩ = some (.slice ra q.row.length rcap) ∧ W.cell? ⟨w1.heap.size, 4, none⟩ = some (.bool q.done)) :=
        fun W hbW => ⟨hbW, cell_below (hB.at_ 0 rfl) hbW, cell_below (hB.at_ 1 rfl) hbW, cell_below (hB.at_ 2 rfl) hbW, cell_below (hB.at_ 3 rfl) hbW, cell_below (hB.at_ 4 rfl) hbW⟩
      clear hval hokr hokq hsim hrd hB hrr ho1 ho2
      generalize hV : q.told + valN q.row = V at *
      clear hV
      go_wp2_with fail
      go_region_held3 (fun W => Below wo.heap.size wo W ∧ W.cell? ⟨w1.heap.size, 0, none⟩ = some (.int .i64 q.n) ∧ W.cell? ⟨w1.heap.size, 1, none⟩ = some (.int .i64 q.most) ∧ W.cell? ⟨w1.heap.size, 2, none⟩ = some (.int .i64 q.told) ∧ W.cell? ⟨w1.heap.size, 3, none⟩ = some (.slice ra q.row.length rcap) ∧ W.cell? ⟨w1.heap.size, 4, none⟩ = some (.bool q.done))
        ((refine hkeep.out _ ?_; (repeat (first | exact kr _ | assumption | exact And.left (by assumption) | refine kdr ?_ | refine kd ?_ _ | refine kt ?_ (by assumption)))))
        (first | (go_at_call 35; refine (hHC.out _ (And.left (by assumption))).mono ?_; rintro e w7 ⟨rfl, nq, rfl⟩) | (go_at_call 36; refine (hHR.out _ (And.left (by assumption))).mono ?_; rintro e w8 ⟨rfl, hb8⟩) | (go_at_call 28; refine (hH4.out _).mono ?_; rintro e w9 ⟨rfl, hb9⟩))
      have hH := And.left ‹Below wo.heap.size wo _ ∧ _›
      go_wp2
      go_ret
      exact ⟨rfl, kt hb hH⟩

end Go.Proofs.Ytmbmlinbggmipaa
