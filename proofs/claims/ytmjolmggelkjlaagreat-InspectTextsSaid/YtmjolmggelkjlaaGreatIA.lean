/- Layer 47: the digits of a sum. -/
import Derived.Test.YtmjolmggelkjlaaGreatBase
import Derived.Test.YtmjolmggelkjlaaGreatMem2
import Derived.Test.YtmjolmggelkjlaaGreatIK
import Derived.Laws.BytesArg
import Derived.Laws.BitsAllLaws
namespace Go.Proofs.YtmjolmggelkjlaaGreat
set_option linter.unusedVariables false
set_option linter.unusedSimpArgs false
open Go.RowKit Ip

def bRow (xs : List Int) : Array Value := (xs.map (Value.int .u8)).toArray
theorem bRow_set (xs : List Int) (i : Nat) (v : Int) : (bRow xs).setIfInBounds i (.int .u8 v) = bRow (xs.set i v) := by
  unfold bRow
  simp [List.map_set]
theorem bRow_at {w : World} {g : Nat} {t : TypeId} {xs : List Int} (h : Blk w g t (bRow xs)) {i : Nat} (hi : i < xs.length) : w.cell? ⟨g, i, none⟩ = some (.int .u8 (xs.getD i 0)) := by
  rw [h.cell i]
  simp [bRow, hi]
theorem bRow_str {w : World} {g : Nat} {t : TypeId} {xs : List Int} (h : Blk w g t (bRow xs)) : Sem.run Tryz.prog (convert 73 9 (.slice (some ⟨g, 0, none⟩) xs.length xs.length)) w = .ok (.string (strOfNums xs)) w :=
  run_convert_bytes_arg w 73 5 Tryz.underlying73 Tryz.underlying5 g 0 xs.length xs.length xs rfl (fun i hi => by rw [Nat.zero_add]; exact bRow_at h hi) 9 Tryz.underlying9
/-- the digits up to the k-th, and zeros -/
def hexTo (n k : Nat) : List Int := (List.range 8).map fun i => if i < k then ((hexD (n / 16 ^ (7 - i) % 16) : Nat) : Int) else 0
theorem hexTo_len (n k : Nat) : (hexTo n k).length = 8 := by simp [hexTo]
theorem hexTo_next {n k : Nat} (hk : k < 8) : hexTo n (k + 1) = (hexTo n k).set k ((hexD (n / 16 ^ (7 - k) % 16) : Nat) : Int) := by
  apply List.ext_getElem (by simp [hexTo])
  intro i h1 h2
  rw [List.getElem_set]
  simp only [hexTo, List.getElem_map, List.getElem_range]
  by_cases e : k = i
  · subst e; rw [if_pos rfl, if_pos (by omega)]
  · rw [if_neg e]
    by_cases h : i < k
    · rw [if_pos h, if_pos (by omega)]
    · rw [if_neg h, if_neg (by omega)]
theorem hex_at : ∀ (q : Nat) (h : q < 16), ((⟨#[48, 49, 50, 51, 52, 53, 54, 55, 56, 57, 97, 98, 99, 100, 101, 102]⟩ : ByteArray)[q]'h).toNat = hexD q := by decide
theorem h_hexed (n : Nat) (w : World) (hn : n < 4294967296) : Calls Tryz.prog 68 #[.int .u32 (n : Int)] w fun e w' => e = .returned (.string (strOfNums (hexTo n 8))) ∧ Below w.heap.size w w' := by
  obtain ⟨S, hS⟩ : ∃ S, strOfNums (hexTo n 8) = S := ⟨_, rfl⟩
  have HS := Lib.hid hS
  rw [hS]
  clear hS
  go_enter Tryz.func68, Tryz.ntmps68
  go_wp2_with fail
  go_loopw [5] (fun i wr => ∃ k : Nat, k ≤ 8 ∧ i = .int .i64 (k : Nat) ∧ Hid (Blk wr w.heap.size 164 (bRow (hexTo n k)) ∧ Below w.heap.size w wr)) (fun i wr => 8 - (intOf i).toNat)
  case atStart => exact ⟨0, Nat.zero_le _, rfl, ⟨Blk.new w _ _, ka (kr _) _⟩⟩
  case round =>
    obtain ⟨wo, rfl⟩ : ∃ wo : World, wo = wr := ⟨_, rfl⟩
    obtain ⟨k, hk, rfl, hp⟩ := hrel
    by_cases hlt : k < 8
    · obtain ⟨hb, hB⟩ := hp.out
      have i1 := bRow_at hb (i := k) (by simp [hexTo]; omega)
      have k1 := hb.free k
      generalize (hexTo n k).getD k 0 = u at *
      have HB := Lib.hid hB
      have HBK := Lib.hid hb
      obtain ⟨q, hq⟩ : ∃ q : Nat, n / 16 ^ (7 - k) % 16 = q := ⟨_, rfl⟩
      have hx : bits BinOp.and IntKind.u32 ((n : Int) / 2 ^ (4 * (7 - k))) 15 = (q : Int) := by
        have e : (n : Int) / 2 ^ (4 * (7 - k)) = ((n / 16 ^ (7 - k) : Nat) : Int) := by
          have e2 : (2 : Int) ^ (4 * (7 - k)) = ((16 ^ (7 - k) : Nat) : Int) := by
            rw [Int.pow_mul]
            push_cast
            rfl
          rw [e2, Int.natCast_ediv]
        rw [e, ← hq]
        have := u32_and_nat (n / 16 ^ (7 - k)) 15 (Nat.lt_of_le_of_lt (Nat.div_le_self _ _) hn) (by decide)
        rw [nat_mask4] at this
        exact this
      have hq16 : q < 16 := by omega
      have HQ := Lib.hid hq
      clear hp hb hB hq
      have hn1 : Hid (Blk (wo.setCell ⟨w.heap.size, k, none⟩ (.int .u8 ((hexD q : Nat) : Int))) w.heap.size 164 (bRow (hexTo n (k + 1))) ∧ Below w.heap.size w (wo.setCell ⟨w.heap.size, k, none⟩ (.int .u8 ((hexD q : Nat) : Int)))) := by
        refine ⟨?_, HB.out.setCell (p := ⟨w.heap.size, k, none⟩) (Nat.le_refl _) _⟩
        rw [hexTo_next hlt, HQ.out, ← bRow_set]
        exact HBK.out.put k _
      go_wp2_with fail
      rw [hex_at q hq16]
      exact ⟨⟨k + 1, by omega, by go_num, hn1⟩, by simp [intOf]; omega⟩
    · obtain rfl : k = 8 := by omega
      obtain ⟨hb, hB⟩ := hp.out
      have hcv : Sem.run Tryz.prog (convert 73 9 (.slice (some ⟨w.heap.size, 0, none⟩) 8 8)) wo = .ok (.string S) wo := by
        have := bRow_str hb
        rwa [hexTo_len, HS.out] at this
      have HB := Lib.hid hB
      clear hp hb hB
      go_wp2_with fail
      go_ret
      exact ⟨rfl, HB.out⟩
end Go.Proofs.YtmjolmggelkjlaaGreat
