/- Layer 47: a part as text, as a call in every world. -/
import Derived.Test.YtmjolmggelkjlaaGreatIA
import Derived.Test.YtmjolmggelkjlaaGreatIB
import Derived.Test.YtmjolmggelkjlaaGreatRows
import Derived.Test.YtmjolmggelkjlaaGreatEvZ
namespace Go.Proofs.YtmjolmggelkjlaaGreat
set_option linter.unusedVariables false
set_option linter.unusedSimpArgs false
open Go.RowKit Ev Ip

def kn1 : List FuncId := [65, 68]
theorem ev_names : Ev.okNames Tryz.prog = true := by kernel_rfl
theorem ev_mix : Tryz.prog.follows .mixedOrders = true := by kernel_rfl
theorem ev_prog1 : Ev.okProg Tryz.prog kn1 = true := by kernel_rfl
theorem hexTo_str (x : Nat) : (Value.string (strOfNums (hexTo x 8))) = stB (hexB x) := by
  unfold strOfNums hexTo stB hexB
  congr 2
theorem nat_hexed (args : Array Value) (v : Value) (w : World) (h : hexN args.toList = some v) : (∀ m, VR m v v) ∧ Calls Tryz.prog 68 args w fun e w' => e = .returned v ∧ Below w.heap.size w w' := by
  obtain ⟨l, rfl⟩ : ∃ l, args = l.toArray := ⟨args.toList, rfl⟩
  simp only at h
  have : ∃ x, l = [.int .u32 x] ∧ 0 ≤ x ∧ x < 4294967296 ∧ v = stB (hexB x.toNat) := by
    unfold hexN at h
    split at h
    · split at h
      · rename_i hx
        cases h
        exact ⟨_, rfl, hx.1, hx.2, rfl⟩
      · cases h
    · cases h
  obtain ⟨x, rfl, h1, h2, rfl⟩ := this
  obtain ⟨y, rfl⟩ : ∃ y : Nat, x = y := ⟨x.toNat, by omega⟩
  refine ⟨fun m => .string _, ?_⟩
  have := h_hexed y w (by omega)
  rw [hexTo_str] at this
  exact this
theorem nat_known1 : Ev.NatKnown Tryz.prog kn1 := by
  intro f k hb hf
  have hb : f = 65 ∨ f = 68 := by simpa [kn1] using hb
  rcases hb with rfl | rfl
  · cases hf
  · cases hf
    refine ⟨fun e => (by cases e), fun e => (by cases e), fun _ args v w _ h => nat_hexed args v w h, fun e => (by cases e)⟩
theorem known1 : Ev.Known Tryz.prog kn1 := by
  refine ⟨fun f hf hn hp w _ => ?_, nat_known1⟩
  have hb : f = 65 ∨ f = 68 := by simpa [kn1] using hf
  rcases hb with rfl | rfl
  · have e : Ev.noPar Tryz.prog 65 = false := by kernel_rfl
    exact absurd (e.symm.trans hp) (by decide)
  · exact absurd hn (by decide)
theorem callN_flat {kn : List FuncId} (hok : okProg Tryz.prog kn = true) (hkn : Known Tryz.prog kn) {w : World} {lf d : Nat} {f : FuncId} {vs : List Value} {res : Value} (ha : vs.all flat = true) (hr : ∀ m v', VR m res v' → v' = res)
    (r : ∀ n h, Run (fun _ => False) n (evCallN kn Tryz.prog gt lf d f vs.toArray) h n fun v _ _ => v = res) : Calls Tryz.prog f vs.toArray w fun e w' => e = .returned res ∧ Below w.heap.size w w' := by
  obtain ⟨m, x⟩ := laid_nil Tryz.prog w
  obtain ⟨v, h1, n1, L, e1, hn, _, rfl⟩ := r _ _
  obtain ⟨f0, hf0⟩ := callN_ok okd d f vs.toArray _ _ _ h1 n1 L e1
  refine (call_sim ev_names hok ev_mix hkn f0 f vs.toArray _ _ _ h1 n1 L m w vs.toArray (hf0 f0 (Nat.le_refl _)) x.wr (Nat.le_refl _) (flat_vrs ha) (fun b hb _ => x.fresh b hb) x.gl).mono ?_
  rintro e w' ⟨m', v', rfl, hp, hv⟩
  exact ⟨congrArg _ (hr _ _ hv), hp.below⟩
theorem vr_ans (o : Option (List Nat)) (m : Mp) (v : Value) (h : VR m (ansB o) v) : v = ansB o := by
  have g : ∀ {cs : Array Value}, cs.toList.all scalar = true → VR m (.tuple cs) v → v = .tuple cs := by
    intro cs hc h
    cases h with
    | tuple hs => exact congrArg _ (Array.toList_inj.1 (VRs.plain hs hc))
  cases o
  · exact g rfl h
  · exact g rfl h
theorem h_Line (p : Pt) (hp : p.ok = true) (w : World) : Calls Tryz.prog 19 #[.agg p.cells.toArray] w fun e w' => e = .returned (ansB (lineB p)) ∧ Below w.heap.size w w' :=
  callN_flat (vs := [.agg p.cells.toArray]) (lf := 100) (d := 21) ev_prog1 known1 rfl (vr_ans _) fun n h => n_Line (kn := kn1) ⟨rfl, rfl, rfl, rfl⟩ 100 0 n h p hp (Nat.le_refl _)
end Go.Proofs.YtmjolmggelkjlaaGreat
