/- The walks of Step, Done, Steps, Held. -/
import Derived.Test.YtbakfaihnecmoaaSJ
import Derived.Test.YtbakfaihnecmoaaSU
namespace Go.Proofs.Ytbakfaihnecmoaa
set_option linter.unusedVariables false
set_option linter.unusedSimpArgs false
open Go.RowKit Sp
variable {w : World} {F : Nat → Prop} {g : Nat} {s : ByteArray}

/-- how many steps are gone, of so many that may be -/
def goneK (s : ByteArray) (j : Nat) (b : Int) : Nat := (min b ((stepsR s - j : Nat) : Int)).toNat
def stepsCell (g : Nat) (w : World) : Nat := match w.cell? ⟨g, 14, none⟩ with | some (.int _ i) => i.toNat | _ => 0
/-- a sorter that has gone so many steps -/
def SorterIn (w : World) (F : Nat → Prop) (g : Nat) (s : ByteArray) (j : Nat) : Prop := SIn w F g s (AtS s j)
def SorterPost (F : Nat → Prop) (g : Nat) (s : ByteArray) (w : World) (j : Nat) (w' : World) : Prop := SPost F g s w (AtS s j) w'
theorem spost_of_in {w : World} {F : Nat → Prop} {g : Nat} {s : ByteArray} {x : SS} (h : SIn w F g s x) : SPost F g s w x w := spost_refl h
theorem SPost.then_below {w w' w'' : World} {F : Nat → Prop} {g : Nat} {s : ByteArray} {x : SS} (h : SPost F g s w x w') (k : Below w'.heap.size w' w'') : SPost F g s w x w'' := ⟨h.1.below k, h.2.then k⟩

theorem s_Step_nil (w : World) (b : Int) : Calls Try.prog 21 #[.pointer none, .int .i64 b] w fun e w' => e = .returned (.int .i64 0) ∧ w = w' := by
  go_enter Try.func21, Try.ntmps21
  go_wp2
  go_ret
  exact ⟨rfl, rfl⟩
theorem s_Steps_nil (w : World) : Calls Try.prog 22 #[.pointer none] w fun e w' => e = .returned (.int .i64 0) ∧ w = w' := by
  go_enter Try.func22, Try.ntmps22
  go_wp2
  go_ret
  exact ⟨rfl, rfl⟩
theorem s_Held_nil (w : World) : Calls Try.prog 24 #[.pointer none] w fun e w' => e = .returned (.int .i64 0) ∧ w = w' := by
  go_enter Try.func24, Try.ntmps24
  go_wp2
  go_ret
  exact ⟨rfl, rfl⟩
theorem s_Done_nil (w : World) : Calls Try.prog 23 #[.pointer none] w fun e w' => e = .returned (.bool false) ∧ w = w' := by
  go_enter Try.func23, Try.ntmps23
  go_wp2
  go_ret
  exact ⟨rfl, rfl⟩
theorem s_Order_nil (w : World) : Calls Try.prog 25 #[.pointer none] w fun e w' => e = .returned (.slice none 0 0) ∧ w = w' := by
  go_enter Try.func25, Try.ntmps25
  go_wp2_with (first | (go_at_call 23; refine (s_Done_nil _).mono ?_; rintro e w1 ⟨rfl, rfl⟩))
  go_ret
  exact ⟨rfl, rfl⟩

theorem s_Steps (j : Nat) (h : SIn w F g s (AtS s j)) : Calls Try.prog 22 #[.pointer (some ⟨g, 0, none⟩)] w fun e w' => e = .returned (.int .i64 (j : Nat)) ∧ w = w' := by
  obtain ⟨go, gc, ga, sv, h, _⟩ := h
  have c14 := h.main.at_ (v := .int .i64 ((AtS s j).steps : Nat)) 14 rfl
  rw [AtS_steps] at c14
  clear h
  go_enter Try.func22, Try.ntmps22
  go_wp2
  go_ret
  exact ⟨rfl, rfl⟩
theorem s_Held (j : Nat) (hn : s.size ≤ 900000) (h : SIn w F g s (AtS s j)) : Calls Try.prog 24 #[.pointer (some ⟨g, 0, none⟩)] w fun e w' => e = .returned (.int .i64 (3 * (s.size : Nat))) ∧ w = w' := by
  obtain ⟨go, gc, ga, sv, h, _⟩ := h
  have c0 := h.main.at_ (v := .string s) 0 rfl
  clear h
  go_enter Try.func24, Try.ntmps24
  go_wp2
  go_ret
  exact ⟨rfl, rfl⟩
theorem s_Done (x : SS) (h : SIn w F g s x) : Calls Try.prog 23 #[.pointer (some ⟨g, 0, none⟩)] w fun e w' => e = .returned (.bool x.done) ∧ w = w' := by
  obtain ⟨go, gc, ga, sv, h, _⟩ := h
  have c0 := h.main.at_ (v := .bool x.done) 15 rfl
  clear h
  generalize x.done = d at *
  go_enter Try.func23, Try.ntmps23
  go_wp2
  go_ret
  exact ⟨rfl, rfl⟩

theorem goneK_more {j k : Nat} {b : Int} (h1 : k ≤ goneK s j b) (h2 : j + k < stepsR s) (h3 : (k : Int) < b) : k + 1 ≤ goneK s j b := by unfold goneK at *; omega
theorem goneK_end {j k : Nat} {b : Int} (hj : j ≤ stepsR s) (h1 : k ≤ goneK s j b) (h2 : ¬ (j + k < stepsR s ∧ (k : Int) < b)) : k = goneK s j b := by unfold goneK at *; omega

theorem s_Step (hn : s.size ≤ 900000) (j : Nat) (hj : j ≤ stepsR s) (h : SIn w F g s (AtS s j)) (b : Int) :
    Calls Try.prog 21 #[.pointer (some ⟨g, 0, none⟩), .int .i64 b] w fun e w' => e = .returned (.int .i64 (goneK s j b : Nat)) ∧ SPost F g s w (AtS s (j + goneK s j b)) w' := by
  have hT := steps_le s hn
  have hp0 := spost_of_in h
  have c14 : w.cell? ⟨g, 14, none⟩ = some (.int .i64 (j : Nat)) := by
    obtain ⟨go, gc, ga, sv, h, _⟩ := h
    have c14 := h.main.at_ (v := .int .i64 ((AtS s j).steps : Nat)) 14 rfl
    rwa [AtS_steps] at c14
  clear h
  have hp0 := Lib.hid hp0
  go_enter Try.func21, Try.ntmps21
  go_wp2
  go_loopw [12] (fun v wr => ∃ k : Nat, k ≤ goneK s j b ∧ j + k ≤ stepsR s ∧ Hid (SPost F g s w (AtS s (j + k)) wr)) (fun v wr => stepsR s - stepsCell g wr)
  case atStart => exact ⟨0, Nat.zero_le _, hj, hp0⟩
  case round =>
    obtain ⟨wo, rfl⟩ : ∃ wo : World, wo = wr := ⟨_, rfl⟩
    obtain ⟨k, hk, hjk, hp⟩ := hrel
    have hp := hp.out
    obtain ⟨⟨go, gc, ga, sv, h1, f1⟩, k1⟩ := hp
    have d14 := h1.main.at_ (v := .int .i64 ((AtS s (j + k)).steps : Nat)) 14 rfl
    rw [AtS_steps] at d14
    have d15 := h1.main.at_ (v := .bool (AtS s (j + k)).done) 15 rfl
    have hin : SIn wo (fun b => F b ∨ w.heap.size ≤ b) g s (AtS s (j + k)) := ⟨go, gc, ga, sv, h1, f1⟩
    have hmeas : Hid (stepsCell g wo = j + k) := by unfold Hid stepsCell; rw [d14]; rfl
    clear h1
    by_cases hlt : j + k < stepsR s
    · have hnd := not_done s hn (j + k) hlt
      rw [hnd] at d15
      by_cases hb : (k : Int) < b
      · have q1 : decide (((j + k : Nat) : Int) - (j : Int) < b) = true := decide_eq_true (by omega)
        have q2 : decide ((j : Int) + (k : Int) - (j : Int) < b) = true := decide_eq_true (by omega)
        obtain ⟨⟨m, hok⟩, r1, r2⟩ := reach_all s hn (j + k) hlt
        have hsteps : (AtS s (j + k)).steps ≤ 1099511627776 := by rw [AtS_steps]; exact r2
        have HOK := Lib.hid hok
        have HND := Lib.hid hnd
        have hk1 := goneK_more hk hlt hb
        clear hok hnd
        go_wp2_with fail
        refine (s_step hin rfl HOK.out hn HND.out r1 hsteps).mono ?_
        rintro e w2 ⟨rfl, hsp⟩
        have hp' : SPost F g s w (stepS s (AtS s (j + k))) w2 := SPost.then ⟨hin, k1⟩ hsp
        rw [← AtS_succ, Nat.add_assoc] at hp'
        have hm2 : stepsCell g w2 = j + (k + 1) := by
          obtain ⟨⟨go', gc', ga', sv', h3, _⟩, _⟩ := hp'
          have := h3.main.at_ (v := .int .i64 ((AtS s (j + (k + 1))).steps : Nat)) 14 rfl
          rw [AtS_steps] at this
          unfold stepsCell
          rw [this]; rfl
        have hp' := Lib.hid hp'
        have hm2 := Lib.hid hm2
        clear hsp hin
        go_wp2_with fail
        refine ⟨⟨k + 1, hk1, by omega, hp'⟩, ?_⟩
        rw [hm2.out, hmeas.out]
        omega
      · have q1 : decide (((j + k : Nat) : Int) - (j : Int) < b) = false := decide_eq_false (by omega)
        have he := goneK_end hj hk (by omega)
        have HE := Lib.hid he
        clear he hnd
        have hp1 := Lib.hid (show SPost F g s w (AtS s (j + k)) wo from ⟨hin, k1⟩)
        clear hin
        go_wp2_with fail
        go_ret
        rw [← HE.out]
        exact ⟨ret_int (by omega), hp1.out⟩
    · have hE : j + k = stepsR s := by omega
      have hd := is_done s hn
      rw [hE, hd] at d15
      have he := goneK_end (b := b) hj hk (by omega)
      have HE := Lib.hid he
      have hp1 := Lib.hid (show SPost F g s w (AtS s (j + k)) wo from ⟨hin, k1⟩)
      clear hin he hE hd
      go_wp2_with fail
      go_ret
      rw [← HE.out]
      exact ⟨ret_int (by omega), hp1.out⟩

end Go.Proofs.Ytbakfaihnecmoaa
