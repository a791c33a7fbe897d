/- Rows of bytes; appending to a row that was there ahead of the call. No program in sight. -/
import Derived.Test.YtmjolmggelkjlaaGreatEvYb
namespace Go.Proofs.YtmjolmggelkjlaaGreat.Ev
set_option linter.unusedVariables false
set_option linter.unusedSimpArgs false
open Go Go.RowKit
def u8V (ws : List Nat) : List Value := ws.map fun (x : Nat) => Value.int .u8 (x : Int)
theorem u8V_len (ws : List Nat) : (u8V ws).length = ws.length := by unfold u8V; simp
theorem u8V_app (a b : List Nat) : u8V (a ++ b) = u8V a ++ u8V b := by unfold u8V; simp
def bS (ws : List Nat) : List UInt8 := ws.map UInt8.ofNat
theorem bytesL_u8 : ∀ ws : List Nat, bytesL (u8V ws) = some (bS ws)
  | [] => rfl
  | x :: ws => by
    show (match bytesL (u8V ws) with
      | some l => some (UInt8.ofNat ((x : Int)).toNat :: l)
      | none => none) = _
    rw [bytesL_u8 ws]
    rfl
section
variable {β : Type} {W : Nat → Prop} {n0 : Nat} {h : H} {n : Nat} {Q : β → H → Nat → Prop} {P : Program}
theorem run_toStr {b off cp : Nat} {B : AB} {ws : List Nat} (hg : h.get b = some B) (hb : b < n) (hl : off + ws.length ≤ B.cells.length) (hc : (B.cells.drop off).take ws.length = u8V ws) (k : Value → M β) (y : Run W n0 (k (.string ⟨(bS ws).toArray⟩)) h n Q) : Run W n0 (kts (.slice (some ⟨b, off, none⟩) ws.length cp) k) h n Q := by
  obtain ⟨L, e1, e2⟩ := rdN_run (n := n) hg hb ws.length off hl
  rw [hc] at e1
  refine run_ins ?_
  have e : ((rdN3 b off ws.length).bind fun vs => match bytesL vs with
      | some l => M.ret (Value.string ⟨⟨l⟩⟩)
      | none => .fail) h n = some ⟨.string ⟨(bS ws).toArray⟩, h, n, L ++ []⟩ := by
    rw [rdN3_eq]
    refine bind_run e1 ?_
    rw [bytesL_u8]
    rfl
  obtain ⟨L', e3, e4⟩ := inside_ro (W := W) (n0 := n0) e (by simpa using e2)
  exact Run.step e3 (Nat.le_refl _) e4 y
theorem run_toStrO {lo : Nat} {e : TypeId} {v : Value} {ws : List Nat} (o : Own h lo n e v (u8V ws)) (k : Value → M β) (y : Run W n0 (k (.string ⟨(bS ws).toArray⟩)) h n Q) : Run W n0 (kts v k) h n Q := by
  rcases o with ⟨rfl, hw⟩ | ⟨b, rfl, hg, _, hb⟩
  · have : ws = [] := by unfold u8V at hw; simpa using hw
    subst this
    exact y
  · rw [u8V_len]
    exact run_toStr (B := ⟨e, true, u8V ws⟩) hg hb (by simp [u8V_len]) (by rw [List.drop_zero, ← u8V_len ws, List.take_length]) k y
/-- one value is appended to a row that the call may write -/
theorem run_pushW {T : Prop} (c : T) {e : TypeId} {x : Value} (hx : one x = true) {lo : Nat} {v : Value} {cs : List Value} (o : Own h lo n e v cs) (hm : cs.length + 1 ≤ 1099511627776) (hw : ∀ b, InBlk v b → n0 ≤ b ∨ W b) (k : Value → M β)
    (y : ∀ h', h'.get (n + 1) = some ⟨e, true, cs ++ [x]⟩ → (∀ b, b < n → ¬ InBlk v b → h'.get b = h.get b) → Run W n0 (k (.slice (some ⟨n + 1, 0, none⟩) (cs.length + 1) (CAP + (cs.length + 1)))) h' (n + 2) Q) : Run W n0 (kb1 e 1 x fun w => kap e 1 v w k) h n Q := by
  rcases o with ⟨rfl, rfl⟩ | ⟨b, rfl, hb, h1, h2⟩
  · exact run_push0 c hx k (y _ (get_eq _ _ _) fun b hb _ => by rw [get_ne _ _ (by omega), get_ne _ _ (by omega)])
  · refine run_push c hx hb h2 rfl hm (by omega) (hw b ⟨_, _, _, rfl⟩) k (y _ (get_eq _ _ _) fun c hc hn => ?_)
    have : c ≠ b := fun e => hn ⟨0, _, _, by rw [e]⟩
    rw [get_ne _ _ (by omega), get_ne _ _ this, get_ne _ _ (by omega)]
end

end Go.Proofs.YtmjolmggelkjlaaGreat.Ev
