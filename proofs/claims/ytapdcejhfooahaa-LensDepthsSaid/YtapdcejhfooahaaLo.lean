/- One round of the reference's depths, in two parts: a tree is taken; two are joined. -/
import Derived.Test.YtapdcejhfooahaaLn
namespace Go.Proofs.Ytapdcejhfooahaa
set_option linter.unusedVariables false
set_option linter.unusedSimpArgs false
open Go.RowKit Ev Hu

theorem inv_fld2 (a b c : Value) : [a, b, c][2]? = some c := rfl
theorem inv_fld0 (a b c : Value) : [a, b, c][0]? = some a := rfl
def Diff (l : List RT) : Prop := ∀ i j (hi : i < l.length) (hj : j < l.length), i ≠ j → l[i].2.1 ≠ l[j].2.1
theorem diff_of {l : List RT} (h : (l.map (·.2.1)).Pairwise (· < ·)) : Diff l := by
  intro i j hi hj hne e
  have h := List.pairwise_iff_getElem.1 h
  rcases Nat.lt_or_gt_of_ne hne with q | q
  · have := h i j (by simpa using hi) (by simpa using hj) q
    simp at this
    omega
  · have := h j i (by simpa using hj) (by simpa using hi) q
    simp at this
    omega
theorem take1 (lf d : Nat) (hlf : 3000000 ≤ lf) {W : Nat → Prop} {n0 : Nat} {Q : Value → H → Nat → Prop} (h : H) (n lo : Nat) (v4 : Value) (l : List RT) (hO : Own3 h lo n 36 v4 (l.map tv)) (h0 : 0 < l.length) (hl : l.length ≤ 1000000) (hd : Diff l) (hsl : ∀ t ∈ l, IsSl t.2.2) (hn0 : n0 ≤ n) (k : Value → Value → Value → M Value)
    (hK : ∀ (a : Nat) (h' : H) (n' n1 : Nat) (v48 : Value) (ha : a < l.length), IsMin l l.length a → n ≤ n1 → n1 < n' → h'.get n1 = some ⟨36, true, [.int .i64 l[a].1, .int .i64 (l[a].2.1 : Nat), l[a].2.2]⟩ → (∀ b, b < n → h'.get b = h.get b) → Own3 h' (n1 + 1) n' 36 v48 ((l.eraseIdx a).map tv) → Run W n0 (k (.int .i64 (a : Nat)) (.pointer (some ⟨n1, 0, none⟩)) v48) h' n' Q) :
    Run W n0 ((inside (evCall2 Try.prog gt lf (d + 2) 24 #[v4])).bind fun v41 => optK (evIndexAddr Try.prog 34 v4 v41) fun v44 => (inside (evLoad Try.prog 36 v44)).bind fun v45 => (inside (evAlloc Try.prog 36)).bind fun v10 => (inside (evStore Try.prog 36 v10 v45)).bind fun _ => (inside (evCall2 Try.prog gt lf (d + 2) 25 #[v4, v41])).bind fun v48 => k v41 v10 v48) h n Q := by
  have hOlt := fun b hb => hO.lt (b := b) hb
  refine run_call okd (s_leastR lf d n lo h v4 l hO h0 hl hd hsl hlf) hn0 (fun _ _ h => h.elim) fun v1 h1 n1 hn1 fr1 hq => ?_
  obtain ⟨a, rfl, ha, hmin⟩ := hq
  have k1 : ∀ b, b < n → h1.get b = h.get b := fun b hb => fr1 b hb id
  have hO1 : Own3 h1 lo n1 36 v4 (l.map tv) := hO.keep hn1 fun b hb => k1 b (hOlt b hb).2
  have r1 : ((flat3 (l.map tv)).drop (a * 3)).take 3 = [(tv l[a]).1, (tv l[a]).2.1, (tv l[a]).2.2] := by
    have := flat3_at (l.map tv) a (by simpa using ha)
    simpa using this
  have hO1c := hO1
  rcases hO1c with ⟨_, hnil⟩ | ⟨b4, rfl, g4, hb41, hb42⟩
  · have := congrArg List.length hnil
    simp at this
    subst this
    simp at h0
  have hml : (l.map tv).length = l.length := List.length_map ..
  rw [hml] at hO1 ⊢
  have e2 : ((a : Nat) : Int) < ((l.length : Nat) : Int) := by omega
  rw [show evIndexAddr Try.prog 34 (.slice (some ⟨b4, 0, none⟩) l.length (CAP + l.length)) (.int .i64 (a : Nat)) = some (.pointer (some ⟨b4, 0 + ((a : Nat) : Int).toNat * 3, none⟩)) from ix34 b4 0 l.length _ .i64 _ (by omega) e2, optK_some_eq, Nat.zero_add, Int.toNat_natCast]
  refine run_ld3 c3t g4 hb42 r1 _ ?_
  have oa := tv_one (hsl _ (List.getElem_mem ha))
  refine run_var3 c3t (tv l[a]) oa _ (fun h2 g2 k2 => ?_) (by omega)
  have hO2 : Own3 h2 lo (n1 + 1) 36 (.slice (some ⟨b4, 0, none⟩) l.length (CAP + l.length)) (l.map tv) := hO1.keep (by omega) fun b hb => k2 b (hO1.lt hb).2
  refine run_call okd (s_without lf d (n1 + 1) lo h2 _ l a hO2 hl hsl hlf) (by omega) (fun _ _ h => h.elim) fun v3 h3 n3 hn3 fr3 o3 => ?_
  have k3 : ∀ b, b < n1 + 1 → h3.get b = h2.get b := fun b hb => fr3 b hb id
  exact hK a h3 n3 n1 v3 ha hmin hn1 (by omega) (by rw [k3 n1 (by omega)]; exact g2) (fun b hb => by rw [k3 b (by omega), k2 b (by omega), k1 b hb]) o3

end Go.Proofs.Ytapdcejhfooahaa
