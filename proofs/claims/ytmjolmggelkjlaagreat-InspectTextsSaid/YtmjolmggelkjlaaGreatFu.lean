/- The functions that the closed test reaches, in a table. -/
import Derived.Test.YtmjolmggelkjlaaGreatShM
import Derived.Test.YtmjolmggelkjlaaGreatFt
namespace Go.Proofs.YtmjolmggelkjlaaGreat
set_option linter.unusedVariables false
set_option linter.unusedSimpArgs false
open Go Ev
def kn0 : List FuncId := [65, 68, 18]
noncomputable section
def eC (lf : Nat) : Nat → FuncId → Array Value → M Value := evCallN kn0 Tryz.prog gt lf
theorem shN {lf d : Nat} {f : FuncId} {a : Array Value} {X : M Value} (s : evStep Tryz.prog gt lf (eC lf d) f a = X) (h : kn0.contains f = false := by rfl) : X = eC lf (d + 1) f a := by
  show X = (match kn0.contains f with
    | true => _
    | false => evStep Tryz.prog gt lf (eC lf d) f a : M Value)
  rw [h]
  exact s.symm
def fTab (lf : Nat) : Tab := [(12, fun d r => runAr 0 (inside (b_balerlaw47_nothing lf r)) fun l => eC lf (d + 1) 12 l.toArray),
  (24, fun d r => runAr 3 (fun a b c => inside (b_balerref21_With lf r a b c)) fun l => eC lf (d + 1) 24 l.toArray),
  (13, fun d r => runAr 2 (fun a b => inside (b_inspect_Parts lf r a b)) fun l => eC lf (d + 1) 13 l.toArray),
  (21, fun d r => runAr 1 (fun a => inside (b_inspect_Count lf r a)) fun l => eC lf (d + 1) 21 l.toArray),
  (72, fun d r => runAr 1 (fun a => inside (b_balerref21_Head lf r a)) fun l => eC lf (d + 1) 72 l.toArray),
  (73, fun d r => runAr 2 (fun a b => inside (b_balerref19_Of lf r a b)) fun l => eC lf (d + 1) 73 l.toArray),
  (77, fun d r => runAr 1 (fun a => inside (b_balerref21_Tail lf r a)) fun l => eC lf (d + 1) 77 l.toArray),
  (76, fun d r => runAr 1 (fun a => inside (b_balerref01_Pack lf r a)) fun l => eC lf (d + 1) 76 l.toArray),
  (58, fun d r => runAr 1 (fun a => inside (b_unstream_New lf r a)) fun l => eC lf (d + 1) 58 l.toArray),
  (59, fun d r => runAr 1 (fun a => inside (b_bits_NewReader lf r a)) fun l => eC lf (d + 1) 59 l.toArray),
  (60, fun d r => runAr 1 (fun a => inside (b_inspect_reader_step lf r a)) fun l => eC lf (d + 1) 60 l.toArray),
  (71, fun d r => runAr 2 (fun a b => inside (b_inspect_together lf r a b)) fun l => eC lf (d + 1) 71 l.toArray),
  (61, fun d r => runAr 1 (fun a => inside (b_balerref01_Bits lf r a)) fun l => eC lf (d + 1) 61 l.toArray),
  (112, fun d r => runAr 1 (fun a => inside (b_balerref02_Of lf r a)) fun l => eC lf (d + 1) 112 l.toArray),
  (25, fun d r => runAr 1 (fun a => inside (b_balerref02_Stream lf r a)) fun l => eC lf (d + 1) 25 l.toArray),
  (103, fun d r => runAr 2 (fun a b => inside (b_balerref01_Field lf r a b)) fun l => eC lf (d + 1) 103 l.toArray),
  (114, fun d r => runAr 1 (fun a => inside (b_balerref01_Padded lf r a)) fun l => eC lf (d + 1) 114 l.toArray),
  (113, fun d r => runAr 1 (fun a => inside (b_balerref01_Bytes lf r a)) fun l => eC lf (d + 1) 113 l.toArray),
  (96, fun d r => runAr 2 (fun a b => inside (b_split_Room lf r a b)) fun l => eC lf (d + 1) 96 l.toArray),
  (97, fun d r => runAr 1 (fun a => inside (b_unstream_Reader_MayEnd lf r a)) fun l => eC lf (d + 1) 97 l.toArray),
  (98, fun d r => runAr 1 (fun a => inside (b_bits_Reader_Left lf r a)) fun l => eC lf (d + 1) 98 l.toArray),
  (99, fun d r => runAr 2 (fun a b => inside (b_unstream_Reader_Step lf r a b)) fun l => eC lf (d + 1) 99 l.toArray),
  (101, fun d r => runAr 1 (fun a => inside (b_inspect_reader_end lf r a)) fun l => eC lf (d + 1) 101 l.toArray),
  (102, fun d r => runAr 1 (fun a => inside (b_inspect_reader_begin lf r a)) fun l => eC lf (d + 1) 102 l.toArray),
  (145, fun d r => runAr 2 (fun a b => inside (b_balerref02_Step lf r a b)) fun l => eC lf (d + 1) 145 l.toArray),
  (78, fun d r => runAr 2 (fun a b => inside (b_balerref02_Combine lf r a b)) fun l => eC lf (d + 1) 78 l.toArray),
  (63, fun d r => runAr 1 (fun a => inside (b_balerref01_Number lf r a)) fun l => eC lf (d + 1) 63 l.toArray),
  (122, fun d r => runAr 1 (fun a => inside (b_bits_Reader_end lf r a)) fun l => eC lf (d + 1) 122 l.toArray),
  (123, fun d r => runAr 2 (fun a b => inside (b_unstream_Reader_step lf r a b)) fun l => eC lf (d + 1) 123 l.toArray),
  (126, fun d r => runAr 1 (fun a => inside (b_bits_Reader_At lf r a)) fun l => eC lf (d + 1) 126 l.toArray),
  (125, fun d r => runAr 3 (fun a b c => inside (b_inspect_reader_add lf r a b c)) fun l => eC lf (d + 1) 125 l.toArray),
  (179, fun d r => runAr 1 (fun a => inside (b_balerref02_Bits lf r a)) fun l => eC lf (d + 1) 179 l.toArray),
  (155, fun d r => runAr 2 (fun a b => inside (b_unstream_Reader_letter lf r a b)) fun l => eC lf (d + 1) 155 l.toArray),
  (156, fun d r => runAr 2 (fun a b => inside (b_unstream_Reader_magic lf r a b)) fun l => eC lf (d + 1) 156 l.toArray),
  (158, fun d r => runAr 2 (fun a b => inside (b_unstream_Reader_sum lf r a b)) fun l => eC lf (d + 1) 158 l.toArray),
  (188, fun d r => runAr 2 (fun a b => inside (b_bits_Reader_Get lf r a b)) fun l => eC lf (d + 1) 188 l.toArray),
  (193, fun d r => runAr 1 (fun a => inside (b_bits_Reader_Align lf r a)) fun l => eC lf (d + 1) 193 l.toArray),
  (215, fun d r => runAr 2 (fun a b => inside (b_bits_Reader_bit lf r a b)) fun l => eC lf (d + 1) 215 l.toArray),
  (246, fun d r => runAr 2 (fun a b => inside (b_bits_Reader_Seek lf r a b)) fun l => eC lf (d + 1) 246 l.toArray)]
theorem fTab_ok (lf : Nat) : OkTab (eC lf) (fTab lf) := ⟨fun d => runAr_eq _ _ _ (shN st_balerlaw47_nothing),
  ⟨fun d => runAr_eq _ _ _ (fun a b c => shN st_balerref21_With),
  ⟨fun d => runAr_eq _ _ _ (fun a b => shN st_inspect_Parts),
  ⟨fun d => runAr_eq _ _ _ (fun a => shN st_inspect_Count),
  ⟨fun d => runAr_eq _ _ _ (fun a => shN st_balerref21_Head),
  ⟨fun d => runAr_eq _ _ _ (fun a b => shN st_balerref19_Of),
  ⟨fun d => runAr_eq _ _ _ (fun a => shN st_balerref21_Tail),
  ⟨fun d => runAr_eq _ _ _ (fun a => shN st_balerref01_Pack),
  ⟨fun d => runAr_eq _ _ _ (fun a => shN st_unstream_New),
  ⟨fun d => runAr_eq _ _ _ (fun a => shN st_bits_NewReader),
  ⟨fun d => runAr_eq _ _ _ (fun a => shN st_inspect_reader_step),
  ⟨fun d => runAr_eq _ _ _ (fun a b => shN st_inspect_together),
  ⟨fun d => runAr_eq _ _ _ (fun a => shN st_balerref01_Bits),
  ⟨fun d => runAr_eq _ _ _ (fun a => shN st_balerref02_Of),
  ⟨fun d => runAr_eq _ _ _ (fun a => shN st_balerref02_Stream),
  ⟨fun d => runAr_eq _ _ _ (fun a b => shN st_balerref01_Field),
  ⟨fun d => runAr_eq _ _ _ (fun a => shN st_balerref01_Padded),
  ⟨fun d => runAr_eq _ _ _ (fun a => shN st_balerref01_Bytes),
  ⟨fun d => runAr_eq _ _ _ (fun a b => shN st_split_Room),
  ⟨fun d => runAr_eq _ _ _ (fun a => shN st_unstream_Reader_MayEnd),
  ⟨fun d => runAr_eq _ _ _ (fun a => shN st_bits_Reader_Left),
  ⟨fun d => runAr_eq _ _ _ (fun a b => shN st_unstream_Reader_Step),
  ⟨fun d => runAr_eq _ _ _ (fun a => shN st_inspect_reader_end),
  ⟨fun d => runAr_eq _ _ _ (fun a => shN st_inspect_reader_begin),
  ⟨fun d => runAr_eq _ _ _ (fun a b => shN st_balerref02_Step),
  ⟨fun d => runAr_eq _ _ _ (fun a b => shN st_balerref02_Combine),
  ⟨fun d => runAr_eq _ _ _ (fun a => shN st_balerref01_Number),
  ⟨fun d => runAr_eq _ _ _ (fun a => shN st_bits_Reader_end),
  ⟨fun d => runAr_eq _ _ _ (fun a b => shN st_unstream_Reader_step),
  ⟨fun d => runAr_eq _ _ _ (fun a => shN st_bits_Reader_At),
  ⟨fun d => runAr_eq _ _ _ (fun a b c => shN st_inspect_reader_add),
  ⟨fun d => runAr_eq _ _ _ (fun a => shN st_balerref02_Bits),
  ⟨fun d => runAr_eq _ _ _ (fun a b => shN st_unstream_Reader_letter),
  ⟨fun d => runAr_eq _ _ _ (fun a b => shN st_unstream_Reader_magic),
  ⟨fun d => runAr_eq _ _ _ (fun a b => shN st_unstream_Reader_sum),
  ⟨fun d => runAr_eq _ _ _ (fun a b => shN st_bits_Reader_Get),
  ⟨fun d => runAr_eq _ _ _ (fun a => shN st_bits_Reader_Align),
  ⟨fun d => runAr_eq _ _ _ (fun a b => shN st_bits_Reader_bit),
  ⟨fun d => runAr_eq _ _ _ (fun a b => shN st_bits_Reader_Seek), trivial⟩⟩⟩⟩⟩⟩⟩⟩⟩⟩⟩⟩⟩⟩⟩⟩⟩⟩⟩⟩⟩⟩⟩⟩⟩⟩⟩⟩⟩⟩⟩⟩⟩⟩⟩⟩⟩⟩⟩
def fast (lf : Nat) : Nat → FuncId → Array Value → M Value := fastT (eC lf) (fTab lf)
theorem fast_eq (lf d : Nat) : fast lf d = eC lf d := fastT_eq (fTab_ok lf) d
end
end Go.Proofs.YtmjolmggelkjlaaGreat
