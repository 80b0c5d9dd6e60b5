import Derived.Test.YtjhogocabcdjbaaDoorWbT
set_option linter.unusedSimpArgs false
set_option linter.unusedVariables false
namespace WB
open Go Go.RowKit
section
variable {P : Program} {ops : Array Oper} {Q : Exit → Act → World → Prop} {rest : List (Kd × Oper)} {k : Kd} {o : Oper} {a a' : Act} {w : World} {v : Value}
theorem vcL_nil (h : Q .normal a w) : vcL P ops Q [] a w := h
theorem vcL_pure (hw : Region.wanted o (yielded ops a.tmps) = true) (hv : ∀ w', (execOp a.eval o).run P w' = .ok (.value v) w') (hp : a.put o.dst v = a')
    (h : vcL P ops Q rest a' w) : vcL P ops Q ((.pure, o) :: rest) a w := by
  rw [vcL_light rfl hw]; exact ⟨v, fun w' _ => .inl (hv w'), by rw [hp]; exact h⟩
theorem vcL_same (hw : Region.wanted o (yielded ops a.tmps) = true) (hv : (execOp a.eval o).run P w = .ok (.value v) w) (hp : a.put o.dst v = a')
    (h : vcL P ops Q rest a' w) : vcL P ops Q ((.same, o) :: rest) a w := by
  rw [vcL_light rfl hw]; exact ⟨v, fun w' (e : w' = w) => by subst e; exact .inl hv, by rw [hp]; exact h⟩
theorem vcL_pureCall (f : FuncId) (args : Array Value) (v : Value) (hw : Region.wanted o (yielded ops a.tmps) = true) (he : ∀ w', (execOp a.eval o).run P w' = .ok (.enter f args) w')
    (hc : ∀ w', Calls P f args w' fun e w'' => e = .returned v ∧ w'' = w') (hp : a.put o.dst v = a') (h : vcL P ops Q rest a' w) : vcL P ops Q ((.pure, o) :: rest) a w := by
  rw [vcL_light rfl hw]; exact ⟨v, fun w' _ => .inr ⟨f, args, he w', hc w'⟩, by rw [hp]; exact h⟩
theorem vcL_skip (hw : Region.wanted o (yielded ops a.tmps) = false) (hp : a.put o.dst undef = a') (h : vcL P ops Q rest a' w) : vcL P ops Q ((k, o) :: rest) a w := by
  rw [vcL_no hw, hp]; exact h
theorem vcL_keepK (hw : Region.wanted o (yielded ops a.tmps) = true)
    (h : ∀ K : Act → World → Prop, (∀ a' w', Ext w w' → vcL P ops Q rest a' w' → K a' w') → o.wp P a w K (fun _ _ _ => False)) : vcL P ops Q ((.keep, o) :: rest) a w := by
  rw [vcL_keep hw]; exact h _ fun _ _ e r => ⟨e, r⟩
theorem vcL_writeK (hw : Region.wanted o (yielded ops a.tmps) = true)
    (h : ∀ K : Act → World → Prop, (∀ a' w', vcL P ops Q rest a' w' → K a' w') → o.wp P a w K (fun _ _ _ => False)) : vcL P ops Q ((.write, o) :: rest) a w := by
  rw [vcL_write hw]; exact h _ fun _ _ r => r
end
/-- The cells of a value at an address. -/
def HasCells (w : World) (ad : Addr) (cs : List Value) : Prop := ∀ j c, cs[j]? = some c → w.cell? (ad.add j) = some c
theorem HasCells.one {w : World} {ad : Addr} {c : Value} (h : w.cell? ad = some c) : HasCells w ad [c] := fun j d hj => by
  cases j with
  | zero => simp at hj; subst hj; rw [show ad.add 0 = ad by simp [Addr.add]]; exact h
  | succ j => simp at hj
theorem HasCells.nil {w : World} {ad : Addr} : HasCells w ad [] := fun j d hj => by simp at hj
theorem HasCells.ext {w w' : World} {ad : Addr} {cs : List Value} (h : HasCells w ad cs) (e : Ext w w') : HasCells w' ad cs := fun j c hj => e.cell (h j c hj)
theorem HasCells.cons {w : World} {b off : Nat} {c : Value} {cs : List Value} (h : w.cell? ⟨b, off, none⟩ = some c) (t : HasCells w ⟨b, off + 1, none⟩ cs) : HasCells w ⟨b, off, none⟩ (c :: cs) := fun j d hj => by
  cases j with
  | zero => simp at hj; subst hj; rw [show (⟨b, off, none⟩ : Addr).add 0 = ⟨b, off, none⟩ by simp [Addr.add]]; exact h
  | succ j =>
    have := t j d (by simpa using hj)
    rw [Addr.add_lit] at this ⊢
    rw [show off + (j + 1) = off + 1 + j by omega]; exact this
theorem run_load_agg {P : Program} {w : World} {T : TypeId} {ad : Addr} {cs : List Value} (hT : (isAgg T).run P w = .ok true w) (hn : (Go.sizeOf T).run P w = .ok cs.length w)
    (hc : HasCells w ad cs) : (loadVar T ad).run P w = .ok (.agg cs.toArray) w := by
  simp [loadVar, hT, hn, run_loadCells_list (P := P) (w := w) ad cs hc]
theorem run_load_one {P : Program} {w : World} {T : TypeId} {ad : Addr} {c : Value} (hT : (isAgg T).run P w = .ok false w)
    (hc : w.cell? ad = some c) : (loadVar T ad).run P w = .ok c w := by
  simp [loadVar, hT, hc]
section
variable {P : Program} {ops : Array Oper} {Q : Exit → Act → World → Prop} {rest : List (Kd × Oper)} {a a' : Act} {w : World} {v : Value} {d : Option Tmp} {T ty : TypeId} {x : Operand} {pos : String} {after : Array Edge} {g : Option (Nat × Bool)} {ad : Addr}
theorem vcL_ld1 (hw : Region.wanted ⟨d, .load T x, ty, pos, after, g⟩ (yielded ops a.tmps) = true) (ha : a.eval x = .pointer (some ad)) (hT : ∀ w, (isAgg T).run P w = .ok false w)
    (hc : w.cell? ad = some v) (hp : a.put d v = a') (h : vcL P ops Q rest a' w) : vcL P ops Q ((.read, ⟨d, .load T x, ty, pos, after, g⟩) :: rest) a w := by
  rw [vcL_light rfl hw]
  refine ⟨v, fun w' (e : Ext w w') => ?_, by rw [hp]; exact h⟩
  refine .inl ?_
  simp [execOp, ha, Instr.loadAt, Instr.sureAddr, run_load_one (hT w') (e.cell hc)]
theorem vcL_ldn {cs : List Value} (hw : Region.wanted ⟨d, .load T x, ty, pos, after, g⟩ (yielded ops a.tmps) = true) (ha : a.eval x = .pointer (some ad)) (hT : ∀ w, (isAgg T).run P w = .ok true w)
    (hn : ∀ w, (Go.sizeOf T).run P w = .ok cs.length w) (hc : HasCells w ad cs) (hp : a.put d (.agg cs.toArray) = a') (h : vcL P ops Q rest a' w) :
    vcL P ops Q ((.read, ⟨d, .load T x, ty, pos, after, g⟩) :: rest) a w := by
  rw [vcL_light rfl hw]
  refine ⟨_, fun w' (e : Ext w w') => ?_, by rw [hp]; exact h⟩
  refine .inl ?_
  simp [execOp, ha, Instr.loadAt, Instr.sureAddr, run_load_agg (hT w') (hn w') (hc.ext e)]
end
end WB
