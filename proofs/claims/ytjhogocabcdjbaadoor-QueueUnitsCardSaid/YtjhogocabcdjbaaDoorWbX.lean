import Derived.Test.YtjhogocabcdjbaaDoorWbW
set_option linter.unusedSimpArgs false
set_option linter.unusedVariables false
namespace WB
open Go Go.RowKit

namespace St
variable {w0 w : World} {L R : List HP} {b off : Nat} {c : Array Value} {T : TypeId} {fz : Nat × Nat} {v : Value}
theorem cell (h : St w0 (blk b (.cells c T fz) :: L) w) (hc : c[off]? = some v) : w.cell? ⟨b, off, none⟩ = some v := by
  rw [World.cell?, h.look.2]; exact hc
theorem cellP (h : St w0 L w) (p : Pick L (blk b (.cells c T fz)) R) (hc : c[off]? = some v) : w.cell? ⟨b, off, none⟩ = some v := (h.pick p).cell hc
end St
theorem vcL_keepRun {P : Program} {ops : Array Oper} {Q : Exit → Act → World → Prop} {rest : List (Kd × Oper)} {o : Oper} {a a' : Act} {w w' : World} {v : Value}
    (hw : Region.wanted o (yielded ops a.tmps) = true) (hr : (execOp a.eval o).run P w = .ok (.value v) w') (he : Ext w w') (hp : a.put o.dst v = a')
    (h : vcL P ops Q rest a' w') : vcL P ops Q ((.keep, o) :: rest) a w := vcL_keepVal hw hr he hp h
theorem Ext.alloc (w : World) (o : Obj) : Ext w (w.alloc o) := ⟨by simp, fun k hk => Below.heap_alloc _ _ _ hk⟩
/-- a call inside a region that draws, where what it makes of the state is known -/
theorem vcL_writeCall {P : Program} {ops : Array Oper} {Q : Exit → Act → World → Prop} {rest : List (Kd × Oper)} {o : Oper} {a : Act} {w w' : World} {f : FuncId} {args : Array Value} {R : Ending → World → Prop}
    (hw : Region.wanted o (yielded ops a.tmps) = true) (hr : (execOp a.eval o).run P w = .ok (.enter f args) w') (hc : Calls P f args w' R)
    (h : ∀ e w'', R e w'' → ∃ v, e = .returned v ∧ vcL P ops Q rest (a.put o.dst v) w'') : vcL P ops Q ((.write, o) :: rest) a w := by
  rw [vcL_write hw, Oper.wp, hr]
  refine hc.mono fun e w'' hR => ?_
  obtain ⟨v, rfl, hv⟩ := h e w'' hR
  exact hv
theorem vcL_keepCall {P : Program} {ops : Array Oper} {Q : Exit → Act → World → Prop} {rest : List (Kd × Oper)} {o : Oper} {a : Act} {w w' : World} {f : FuncId} {args : Array Value} {R : Ending → World → Prop}
    (hw : Region.wanted o (yielded ops a.tmps) = true) (hr : (execOp a.eval o).run P w = .ok (.enter f args) w') (hc : Calls P f args w' R)
    (h : ∀ e w'', R e w'' → ∃ v, e = .returned v ∧ Ext w w'' ∧ vcL P ops Q rest (a.put o.dst v) w'') : vcL P ops Q ((.keep, o) :: rest) a w := by
  rw [vcL_keep hw, Oper.wp, hr]
  refine hc.mono fun e w'' hR => ?_
  obtain ⟨v, rfl, hv⟩ := h e w'' hR
  exact hv
theorem exec_store {P : Program} {a : Act} {w w' : World} {d : Option Tmp} {T ty : TypeId} {x y : Operand} {pos : String} {after : Array Edge} {g : Option (Nat × Bool)} {ad : Addr} {v : Value}
    (ha : a.eval x = .pointer (some ad)) (hv : a.eval y = v) (hr : (storeVar T ad v).run P w = .ok () w') : (execOp a.eval ⟨d, .store T x y, ty, pos, after, g⟩).run P w = .ok .skip w' := by
  simp [execOp, ha, hv, Instr.storeAt, Instr.sureAddr, hr]
theorem set_same {c : Array Value} {off : Nat} {v : Value} (h : c[off]? = some v) : c.setIfInBounds off v = c := by
  apply Array.ext
  · simp
  · intro i h1 h2
    rw [Array.getElem_setIfInBounds]
    split
    · rename_i e; subst e; rw [Array.getElem?_eq_getElem h2] at h; exact (Option.some.inj h).symm
    · rfl
theorem setRow_one {c : Array Value} {off : Nat} {v : Value} (h : off < c.size) : (c.toList.take off ++ [v] ++ c.toList.drop (off + 1)).toArray = c.setIfInBounds off v := by
  apply Array.ext'
  simp [List.set_eq_take_append_cons_drop, h]
theorem splice_take {α : Type} (cur ins : List α) (k m n : Nat) (hi : ins.length = m) (h : k + m ≤ n) (hn : n ≤ cur.length) :
    (cur.take k ++ ins ++ cur.drop (k + m)).take n = (cur.take n).take k ++ ins ++ (cur.take n).drop (k + m) := by
  have h1 : (cur.take k ++ ins).length = k + m := by simp [hi]; omega
  rw [List.take_append, h1, List.take_of_length_le (by omega), List.take_take, Nat.min_eq_left (by omega), List.drop_take]
/-! names as a sorted list: plain laws -/
def srchN (l : List Nm) (s : ByteArray) : Nat := (l.takeWhile fun x => decide (cmpN x.name s < 0)).length
theorem takeWhile_len_le {α : Type} (p : α → Bool) : ∀ l : List α, (l.takeWhile p).length ≤ l.length
  | [] => Nat.le_refl _
  | a :: l => by
    by_cases h : p a = true
    · simp only [List.takeWhile_cons, h, if_true, List.length_cons]; have := takeWhile_len_le p l; omega
    · simp [h]
theorem srch_eq : ∀ {l : List Nm} {s : ByteArray} {k : Nat}, Srch l s k → k = srchN l s
  | [], s, k, h => by have := h.le; simp at this; subst this; rfl
  | x :: l, s, k, h => by
    unfold srchN
    by_cases hx : cmpN x.name s < 0
    · simp only [List.takeWhile_cons, hx, decide_true, if_true, List.length_cons]
      cases k with
      | zero => exact absurd hx (Int.not_lt.2 (h.hi 0 (Nat.le_refl _) (by simp)))
      | succ k =>
        have : Srch l s k := ⟨by have := h.le; simp at this; omega, fun p hp => h.lo (p + 1) (by omega), fun p hp hl => h.hi (p + 1) (by omega) (by simp; omega)⟩
        rw [srch_eq this]; rfl
    · simp only [List.takeWhile_cons, hx, decide_false]
      cases k with
      | zero => rfl
      | succ k => exact absurd (h.lo 0 (by omega)) hx
/-- the error's number behind Set (0: none), and the names then -/
def setErr (l : List Nm) (x : Nm) : Int :=
  if rightNm x = false then 1 else if hitB l x.name (srchN l x.name) = true then 0 else if 20 ≤ l.length then 12 else 0
def setNm (l : List Nm) (x : Nm) : List Nm :=
  if rightNm x = false then l else if hitB l x.name (srchN l x.name) = true then l.set (srchN l x.name) x
  else if 20 ≤ l.length then l else l.take (srchN l x.name) ++ x :: l.drop (srchN l x.name)
def errV (T : TypeId) (k : Int) : Value := if k = 0 then .nilIface else .iface T (.int .i64 k)

theorem flat_take {α β : Type} (f : α → List β) (sz : Nat) (hf : ∀ x, (f x).length = sz) : ∀ (l : List α) (k : Nat), k ≤ l.length → (l.flatMap f).take (k * sz) = (l.take k).flatMap f
  | l, 0, _ => by simp
  | [], k + 1, h => by simp at h
  | x :: l, k + 1, h => by
    simp only [List.flatMap_cons, List.take_succ_cons]
    rw [List.take_append, hf, show (k + 1) * sz - sz = k * sz by rw [Nat.succ_mul]; omega, flat_take f sz hf l k (by simpa using h), List.take_of_length_le (by rw [hf, Nat.succ_mul]; omega)]
theorem flat_drop {α β : Type} (f : α → List β) (sz : Nat) (hf : ∀ x, (f x).length = sz) : ∀ (l : List α) (k : Nat), k ≤ l.length → (l.flatMap f).drop (k * sz) = (l.drop k).flatMap f
  | l, 0, _ => by simp
  | [], k + 1, h => by simp at h
  | x :: l, k + 1, h => by
    simp only [List.flatMap_cons, List.drop_succ_cons]
    rw [List.drop_append, hf, show (k + 1) * sz - sz = k * sz by rw [Nat.succ_mul]; omega, flat_drop f sz hf l k (by simpa using h), List.drop_of_length_le (by rw [hf, Nat.succ_mul]; omega), List.nil_append]
theorem nmCells_insert (l : List Nm) (x : Nm) (k : Nat) (hk : k ≤ l.length) : (nmCells l).take (k * 3) ++ x.cells ++ (nmCells l).drop (k * 3) = nmCells (l.take k ++ x :: l.drop k) := by
  unfold nmCells
  rw [flat_take _ 3 (fun _ => rfl) l k hk, flat_drop _ 3 (fun _ => rfl) l k hk]
  simp
theorem nmCells_one (l : List Nm) : ∀ u ∈ nmCells l, u.oneCell' = true := fun u hu => by
  obtain ⟨x, _, hx⟩ := List.mem_flatMap.1 hu
  simp [Nm.cells] at hx
  rcases hx with rfl | rfl | rfl <;> rfl
theorem Nm.cells_one (x : Nm) : ∀ u ∈ x.cells, u.oneCell' = true := fun u hu => by
  simp [Nm.cells] at hu
  rcases hu with rfl | rfl | rfl <;> rfl
/-- what a store of one element makes of the cells -/
theorem nmCells_set (l : List Nm) (x : Nm) (k : Nat) (hk : k < l.length) : (nmCells l).take (k * 3) ++ x.cells ++ (nmCells l).drop (k * 3 + 3) = nmCells (l.set k x) := by
  unfold nmCells
  rw [flat_take _ 3 (fun _ => rfl) l k (by omega), show k * 3 + 3 = (k + 1) * 3 by omega, flat_drop _ 3 (fun _ => rfl) l (k + 1) (by omega), List.set_eq_take_append_cons_drop]
  simp [hk]
theorem setNm_len (l : List Nm) (x : Nm) : (setNm l x).length ≤ max l.length 20 := by
  unfold setNm
  split
  · omega
  · split
    · simp; omega
    · split
      · omega
      · have : srchN l x.name ≤ l.length := takeWhile_len_le _ _
        simp; omega
end WB
