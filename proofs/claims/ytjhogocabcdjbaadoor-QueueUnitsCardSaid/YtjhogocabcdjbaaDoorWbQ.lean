import Derived.Test.YtjhogocabcdjbaaDoorWbO
set_option linter.unusedSimpArgs false
set_option linter.unusedVariables false
/-! a store of a whole block -/
namespace WB
open Go Go.RowKit
variable {w0 w : World} {L : List HP} {P : Program}
theorem St.store_all {b : Nat} {c : Array Value} {T E : TypeId} (h : St w0 (blk b (.cells c E (0, 0)) :: L) w) (cs : Array Value) (hsz : cs.size = c.size) (hn : (Go.sizeOf T).run P w = .ok c.size w) (h1 : ∀ u ∈ cs.toList, u.oneCell' = true) :
    ∃ w', (storeVar T ⟨b, 0, none⟩ (.agg cs)).run P w = .ok () w' ∧ St w0 (blk b (.cells cs E (0, 0)) :: L) w' ∧ w'.heap.size = w.heap.size := by
  have hst := run_store_row (P := P) (T := T) (off := 0) (v := .agg cs) h (by simpa [Value.cells, hsz] using hn) (by simp [Value.cells, hsz]) (by simpa [Value.cells] using h1)
  refine ⟨_, hst, ?_, by simp⟩
  have e : (c.toList.take 0 ++ (Value.agg cs).cells.toList ++ c.toList.drop (0 + (Value.agg cs).cells.toList.length)).toArray = cs := by
    simp only [Value.cells, Array.length_toList, hsz, List.take_zero, List.nil_append, Nat.zero_add]
    rw [List.drop_of_length_le (by simp)]; simp
  rw [e]
  exact h.setRow
theorem wpL_store {ops : Array Oper} {rest : List Oper} {o : Oper} {a : Act} {Q : Exit → Act → World → Prop} (hg : o.guard = none) (x y : Operand) (T : TypeId) (hop : o.op = Op.store T x y)
    {b : Nat} {c : Array Value} {E : TypeId} (h : St w0 (blk b (.cells c E (0, 0)) :: L) w) (ha : a.eval x = .pointer (some ⟨b, 0, none⟩)) (cs : Array Value) (hv : a.eval y = .agg cs) (hsz : cs.size = c.size)
    (hn : (Go.sizeOf T).run P w = .ok c.size w) (h1 : ∀ u ∈ cs.toList, u.oneCell' = true)
    (k : ∀ w', St w0 (blk b (.cells cs E (0, 0)) :: L) w' → w'.heap.size = w.heap.size → wpList P ops Q rest (a.put o.dst undef) w') : wpList P ops Q (o :: rest) a w := by
  refine wpList_plain hg fun K' hK' => ?_
  obtain ⟨w', hrun, hs, hz⟩ := h.store_all (P := P) cs hsz hn h1
  unfold Oper.wp
  simp [execOp, hop, ha, hv, Instr.storeAt, Instr.sureAddr, hrun, Result.andThen]
  exact hK' _ _ (k w' hs hz)
end WB
