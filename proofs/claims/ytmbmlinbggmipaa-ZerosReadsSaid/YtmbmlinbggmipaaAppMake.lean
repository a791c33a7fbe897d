/- 'xs = append(xs, make([]T, n)...)' of numbers. No program in sight. -/
import Derived.Test.YtmbmlinbggmipaaMem2
namespace Go.Proofs.Ytmbmlinbggmipaa
set_option linter.unusedVariables false
set_option linter.unusedSimpArgs false
open Go.RowKit

theorem zeroCells_int (k : IntKind) (n : Nat) : Builtin.zeroCells #[Value.int k 0] n = ((List.replicate n (0 : Int)).map (Value.int k)).toArray := by
  unfold Builtin.zeroCells
  apply Array.ext
  · simp
  · intro i h1 h2
    simp [Nat.mod_one]

theorem run_app_make {P : Program} (w : World) {t u ty e : TypeId} {k : IntKind} {bytes : Nat} (ht : P.underlying t = some (.slice e)) (hu : P.underlying u = some (.int .i64)) (hinfo : (P.info? e).map (fun i => (i.zero, i.size, i.bytes)) = some (some (.int k 0), 1, bytes))
    {base : Nat} {v : Value} {xs : List Int} {n : Nat} (hown : OwnsNums k e base w v xs)
    (hby : bytes ≤ 64) (hlen : xs.length + n ≤ 1099511627776) (hbase : base ≤ w.heap.size) :
    ∃ v' w', (Builtin.append_ #[t, u] ty #[v, .int .i64 n]).run P w = .ok v' w' ∧ OwnsNums k e base w' v' (xs ++ List.replicate n 0) ∧ Below base w w' := by
  obtain ⟨i0, hi, hz0, hz1, hz2⟩ := info_parts hinfo
  have hm : (xs.length + n) * bytes ≤ 140737488355328 := Nat.le_trans (Nat.mul_le_mul hlen hby) (by decide)
  have hnb : n * bytes ≤ 140737488355328 := Nat.le_trans (Nat.mul_le_mul_right _ (by omega)) hm
  have hw : IntKind.i64.wrap (n : Int) = n := IntWalk.i64_in _ (by omega)
  have hneg : ¬ ((n : Int) < 0) := by omega
  have hai0 : ∀ w' : World, (asInt (.int .i64 0)).run P w' = .ok 0 w' := fun _ => rfl
  have hw0 : IntKind.i64.wrap 0 = 0 := by decide
  have hai : ∀ w' : World, (asInt (.int .i64 (n : Int))).run P w' = .ok (n : Int) w' := fun _ => rfl
  have hbig : ¬ (281474976710656 < (n : Int) * (bytes : Int)) := by
    have : ((n * bytes : Nat) : Int) ≤ 140737488355328 := by omega
    rw [Int.natCast_mul] at this
    omega
  have hzc := zeroCells_int k n
  have grown : ∀ (old : Nat), old < xs.length + n →
      OwnsNums k e base (w.drew.alloc (.cells ((xs.map (Value.int k)).toArray ++ Builtin.zeroCells #[Value.int k 0] n ++ Builtin.zeroCells #[Value.int k 0] (grownCap w (xs.length + n) old e - (xs.length + n))) e))
        (.slice (some ⟨w.heap.size, 0, none⟩) (xs.length + n) (grownCap w (xs.length + n) old e)) (xs ++ List.replicate n 0) ∧
      Below base w (w.drew.alloc (.cells ((xs.map (Value.int k)).toArray ++ Builtin.zeroCells #[Value.int k 0] n ++ Builtin.zeroCells #[Value.int k 0] (grownCap w (xs.length + n) old e - (xs.length + n))) e)) := by
    intro old ho
    have hge := grownCap_ge w (xs.length + n) old e
    have hcm : grownCap w (xs.length + n) old e ≤ maxLen := grownCap_le_maxLen w (xs.length + n) old e (by unfold maxLen; omega)
    refine ⟨⟨by simp, .inr ⟨w.heap.size, _, _, by simp, hbase, heap_alloc_new w.drew _, by simpa using hge, hcm, ?_, ?_⟩⟩, ((Below.refl base w).drew).alloc hbase _⟩
    · simp [size_zeroCells]; omega
    · rw [hzc]
      have e1 : ((xs.map (Value.int k)).toArray ++ ((List.replicate n (0 : Int)).map (Value.int k)).toArray ++ Builtin.zeroCells #[Value.int k 0] (grownCap w (xs.length + n) old e - (xs.length + n))).toList = ((xs ++ List.replicate n 0).map (Value.int k)) ++ (Builtin.zeroCells #[Value.int k 0] (grownCap w (xs.length + n) old e - (xs.length + n))).toList := by simp
      rw [e1]
      exact List.take_left' (by simp)
  rcases hown.2 with ⟨rfl, hx⟩ | ⟨g, cap, cur, rfl, hbg, hg, hnc, hcm, hcs, htake⟩
  · have h0 : xs = [] := by simpa using hx
    subst h0
    by_cases hn : n = 0
    · subst hn
      refine ⟨_, _, ?_, OwnsNums.nil k e base w, Below.refl _ _⟩
      simp [Builtin.append_, hai0, hw0, run_underlying ht, run_underlying hu, sizeOf, typeInfo, hi, hz2]
    · have hns : Builtin.nextslicecap n 0 * bytes ≤ 281474976710656 := by rw [nextslicecap_zero (by omega)]; omega
      have hns' : ¬ (281474976710656 < Builtin.nextslicecap n 0 * bytes) := by omega
      have h63 : ¬ (9223372036854775807 < (n : Int)) := by omega
      have gr := grown 0 (by simp; omega)
      simp only [List.map_nil, List.length_nil, Nat.zero_add, List.nil_append] at gr
      refine ⟨_, _, ?_, gr.1, gr.2⟩
      simp [Builtin.append_, hai, run_underlying ht, run_underlying hu, sizeOf, typeInfo, zeroValue, hi, hz0, hz1, hz2, hw, hneg, hbig, hn, hns', h63, Question.forced, run_firstCells_none, newRow, grownCap, Value.cells]
  · by_cases hroom : xs.length + n ≤ cap
    · have hst := run_storeCells_at P g xs.length e ((List.replicate n (0 : Int)).map (Value.int k)) 0 cur w hg (by simp; omega) (fun u hu => by obtain ⟨m, _, rfl⟩ := List.mem_map.1 hu; rfl)
      refine ⟨.slice (some ⟨g, 0, none⟩) (xs.length + n) cap, w.setRow g (cur.toList.take xs.length ++ (List.replicate n (0 : Int)).map (Value.int k) ++ cur.toList.drop (xs.length + ((List.replicate n (0 : Int)).map (Value.int k)).length)).toArray, ?_, ?_, ?_⟩
      · by_cases hn : n = 0
        · subst hn
          simp [Builtin.append_, hai0, hw0, run_underlying ht, run_underlying hu, sizeOf, typeInfo, hi, hz1, hz2, hnc, storeCells]
          rw [setRow_self w g cur e (0, 0) hg]
        · simp [Builtin.append_, hai, run_underlying ht, run_underlying hu, sizeOf, typeInfo, zeroValue, hi, hz0, hz1, hz2, hw, hneg, hbig, hn, hroom, hzc, Value.cells, Addr.add_lit]
          have hst' := hst
          simp at hst'
          rw [hst']
          rfl
      · refine ⟨by simp, .inr ⟨g, cap, _, by simp, hbg, setRow_heap w g cur _ e _ hg, by simpa using hroom, hcm, ?_, ?_⟩⟩
        · simp; omega
        · have htake' : cur.toList.take xs.length = xs.map (Value.int k) := by simpa using htake
          rw [htake']
          have e1 : (xs.map (Value.int k) ++ (List.replicate n (0 : Int)).map (Value.int k)) = (xs ++ List.replicate n 0).map (Value.int k) := by simp
          rw [e1]
          exact List.take_left' (by simp)
      · exact ⟨rfl, rfl, rfl, by simp [World.setRow], fun j hj => setRow_other w g j _ (by omega)⟩
    · have hns := growslice_fits (need := xs.length + n) (old := cap) (bytes := bytes) (by omega) hm
      have hns' : ¬ (281474976710656 < Builtin.nextslicecap (xs.length + n) cap * bytes) := by omega
      have hn : n ≠ 0 := by omega
      have h63 : ¬ (9223372036854775807 < (xs.length : Int) + (n : Int)) := by omega
      have gr := grown cap (by omega)
      refine ⟨_, _, ?_, gr.1, gr.2⟩
      have holds : ∀ j u, (xs.map (Value.int k))[j]? = some u → w.cell? ((⟨g, 0, none⟩ : Addr).add j) = some u := World.ownsRow.cells hown (g := g) rfl
      have hfo := run_firstCells_some (P := P) w.drew 1 xs.length ⟨g, 0, none⟩ xs.length cap (xs.map (Value.int k)) (by simp) (by simpa using holds)
      simp [Builtin.append_, hai, run_underlying ht, run_underlying hu, sizeOf, typeInfo, zeroValue, hi, hz0, hz1, hz2, hw, hneg, hbig, hn, hroom, hns', h63, Question.forced, hfo, newRow, grownCap, Value.cells]

theorem app_make {P : Program} {w : World} {ops : Array Oper} {rest : List Oper} {o : Oper} {a : Act} {Q : Exit → Act → World → Prop} (hgd : o.guard = none) (s x : Operand) (t u e : TypeId)
    (ho : o.op = .call { callee := .builtin .append, args := #[s, x], argTypes := #[t, u] }) {k : IntKind} {bytes : Nat} (ht : P.underlying t = some (.slice e)) (hu : P.underlying u = some (.int .i64)) (hinfo : (P.info? e).map (fun i => (i.zero, i.size, i.bytes)) = some (some (.int k 0), 1, bytes))
    {base : Nat} {v : Value} {xs : List Int} {n : Nat} (hown : OwnsNums k e base w v xs) (hs : a.eval s = v) (hx : a.eval x = .int .i64 n)
    (hby : bytes ≤ 64) (hlen : xs.length + n ≤ 1099511627776) (hbase : base ≤ w.heap.size)
    (h : ∀ v' w', OwnsNums k e base w' v' (xs ++ List.replicate n 0) → Below base w w' → wpList P ops Q rest (a.put o.dst v') w') : wpList P ops Q (o :: rest) a w := by
  refine wpList_plain hgd fun K hK => ?_
  obtain ⟨v', w', hrun, h2, h3⟩ := run_app_make (P := P) w (ty := o.type) ht hu hinfo hown hby hlen hbase
  unfold Oper.wp execOp
  simp only [ho, resolve, invoke, builtin, Sem.run_bind, Sem.run_pure, Result.andThen_ok, List.map_toArray, List.map_cons, List.map_nil, hs, hx, hrun]
  exact hK _ _ (h v' w' h2 h3)

end Go.Proofs.Ytmbmlinbggmipaa
