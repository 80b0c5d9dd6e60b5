import Derived.Test.YtjhogocabcdjbaaDoorWbN
import Derived.Lib.Overlaps
import Derived.Lib.AppendZeros
set_option linter.unusedSimpArgs false
set_option linter.unusedVariables false
namespace WB
open Go Go.RowKit

theorem run_copy_any {P : Program} (w : World) (dT sT ty elem : TypeId) (i : TypeInfo) (g o dLen dCap : Nat) (a : Addr) (sLen sCap : Nat) (cur : Array Value) (t : TypeId) (cs : List Value)
    (hu : P.underlying dT = some (.slice elem)) (hi : P.info? elem = some i)
    (hg : w.heap[g]? = some (.cells cur t (0, 0))) (hn : cs.length = Nat.min sLen dLen * i.size)
    (hsrc : HasCells w a cs) (hfit : o + cs.length ≤ cur.size) (h1 : ∀ v ∈ cs, v.oneCell' = true) :
    (Builtin.copy_ #[dT, sT] ty #[.slice (some ⟨g, o, none⟩) dLen dCap, .slice (some a) sLen sCap]).run P w =
      .ok (goInt (Nat.min sLen dLen : Nat)) (w.setRow g (cur.toList.take o ++ cs ++ cur.toList.drop (o + cs.length)).toArray) := by
  have hl := run_loadCells_list (P := P) (w := w) a cs hsrc
  have hst := run_storeCells_at P g o t cs 0 cur w hg (by simpa using hfit) h1
  simp only [Nat.add_zero] at hst
  simp [Builtin.copy_, run_underlying hu, Builtin.lenOf, Builtin.firstCells, Go.sizeOf, typeInfo, hi, ← hn, hl, hst]

theorem run_append_zeros {P : Program} (w : World) (t tn ty e : TypeId) (i : TypeInfo) (z : Value) (k kn : IntKind) (ht : P.underlying t = some (.slice e)) (htn : P.underlying tn = some (.int kn)) (hi : P.info? e = some i) (hz : i.zero = some z)
    (b : Addr) (sLen sCap : Nat) (olds : List Value) (hlo : olds.length = sLen * i.size) (holds : HasCells w b olds)
    (n : Nat) (h0 : 0 < n) (hs : 0 < i.size) (hg : sCap < sLen + n) (h63 : ((sLen + n : Nat) : Int) ≤ 9223372036854775807) (hfit : Builtin.nextslicecap (sLen + n) sCap * i.bytes ≤ 281474976710656)
    (h48 : n * i.bytes ≤ 281474976710656) :
    (Builtin.append_ #[t, tn] ty #[.slice (some b) sLen sCap, .int k n]).run P w =
      .ok (.slice (some ⟨w.heap.size, 0, none⟩) (sLen + n) (grownCap w (sLen + n) sCap e))
        (w.drew.alloc (.cells (olds.toArray ++ Builtin.zeroCells z.cells n ++ Builtin.zeroCells z.cells (grownCap w (sLen + n) sCap e - (sLen + n))) e)) := by
  have hn : n ≠ 0 := by omega
  have hn2 : ¬ (sLen + n ≤ sCap) := by omega
  have hw : IntKind.i64.wrap (n : Int) = n := by rw [IntKind.wrap_i64]; omega
  have h63' : ¬ (9223372036854775807 < ((sLen : Int) + (n : Int))) := by omega
  have h48' : ¬ (281474976710656 < Builtin.nextslicecap (sLen + n) sCap * i.bytes) := by omega
  have h48i : ¬ (281474976710656 < (n : Int) * (i.bytes : Int)) := by
    rw [← Int.natCast_mul]
    omega
  have hneg : ¬ ((n : Int) < 0) := by omega
  have hns : ¬ (n * i.size = 0) := Nat.mul_ne_zero hn (by omega)
  have hfo := run_firstCells_some (P := P) w.drew i.size sLen b sLen sCap olds hlo (by simpa [HasCells] using holds)
  simp [Builtin.append_, run_underlying ht, run_underlying htn, Go.sizeOf, typeInfo, zeroValue, hi, hz, asInt, asIntOf, hw, hn2, hneg, hns, h63', h48', h48i, Question.forced, hfo, newRow, grownCap]

namespace St
variable {w0 w : World} {L : List HP} {b b' : Nat} {c c' : Array Value} {T T' : TypeId}
theorem frozen (h : St w0 (blk b (.cells c T (0, 0)) :: L) w) (o : Nat) : w.frozen? ⟨b, o, none⟩ = false := by
  simp [World.frozen?, h.look.2]
theorem shape (h : St w0 (blk b (.cells c T (0, 0)) :: L) w) : w.shape? b = some (T, c.size) := by
  simp [World.shape?, h.look.2]
theorem hasCells {fz : Nat × Nat} (h : St w0 (blk b (.cells c T fz) :: L) w) {off : Nat} {cs : List Value} (hc : ∀ (j : Nat) (v : Value), cs[j]? = some v → c[off + j]? = some v) : HasCells w ⟨b, off, none⟩ cs := fun j v hj => by
  rw [Addr.add_lit, World.cell?, h.look.2]; exact hc j v hj
theorem swap2 {A B : HP} (h : St w0 (A :: B :: L) w) : St w0 (B :: A :: L) w := h.pick (.tail .head)
end St

theorem overlaps_no {P : Program} {w0 w : World} {L : List HP} {b b' : Nat} {c c' : Array Value} {T T' : TypeId} (t tR e : TypeId) (i : TypeInfo) (ht : P.underlying t = some (.slice e)) (hi : P.info? e = some i)
    (h : St w0 (blk b (.cells c T (0, 0)) :: blk b' (.cells c' T' (0, 0)) :: L) w) (o n cap o' n' cap' : Nat) (hc' : c'.size ≠ 0) :
    (Extern.SlicesOverlaps.overlaps #[t, t] #[tR] #[.slice (some ⟨b, o, none⟩) n cap, .slice (some ⟨b', o', none⟩) n' cap']).run P w = .ok (.bool false) w :=
  Lib.run_overlaps_apart w t tR e ht i.size (fun w => by simp [Go.sizeOf, typeInfo, hi]) ⟨b, o, none⟩ ⟨b', o', none⟩ n cap n' cap' h.ne T T' c.size c'.size h.shape h.drop.shape hc' (h.frozen o) (h.frozen _)

section
variable {P : Program} {ops : Array Oper} {Q : Exit → Act → World → Prop} {a a' : Act} {w w' : World} {o : Oper} {v : Value}
theorem exec_copy2 (d s : Operand) (t t' : TypeId) (ho : o.op = .call ⟨.builtin .copy, #[d, s], #[t, t']⟩) (x u : Value) (hd : a.eval d = x) (hs : a.eval s = u)
    (hr : (Builtin.copy_ #[t, t'] o.type #[x, u]).run P w = .ok v w') : (execOp a.eval o).run P w = .ok (.value v) w' := by
  unfold execOp
  simp only [ho, resolve, invoke, builtin, Sem.run_bind, Sem.run_pure, Result.andThen_ok, List.map_toArray, List.map_cons, List.map_nil, hd, hs, hr]
theorem exec_append2 (d s : Operand) (t t' : TypeId) (ho : o.op = .call ⟨.builtin .append, #[d, s], #[t, t']⟩) (x u : Value) (hd : a.eval d = x) (hs : a.eval s = u)
    (hr : (Builtin.append_ #[t, t'] o.type #[x, u]).run P w = .ok v w') : (execOp a.eval o).run P w = .ok (.value v) w' := by
  unfold execOp
  simp only [ho, resolve, invoke, builtin, Sem.run_bind, Sem.run_pure, Result.andThen_ok, List.map_toArray, List.map_cons, List.map_nil, hd, hs, hr]
theorem wpL_copy {rest : List Oper} (hg : o.guard = none) (d s : Operand) (t t' : TypeId) (ho : o.op = .call ⟨.builtin .copy, #[d, s], #[t, t']⟩) (x u : Value) (hd : a.eval d = x) (hs : a.eval s = u)
    (hr : (Builtin.copy_ #[t, t'] o.type #[x, u]).run P w = .ok v w') (h : ∀ K : Act → World → Prop, (∀ a w, wpList P ops Q rest a w → K a w) → K (a.put o.dst v) w') : wpList P ops Q (o :: rest) a w :=
  wpL_val (by simp [Region.wanted, hg]) (exec_copy2 d s t t' ho x u hd hs hr) h
variable {rest : List (Kd × Oper)}
theorem vcL_writeVal (hw : Region.wanted o (yielded ops a.tmps) = true) (hr : (execOp a.eval o).run P w = .ok (.value v) w') (hp : a.put o.dst v = a')
    (h : vcL P ops Q rest a' w') : vcL P ops Q ((.write, o) :: rest) a w := by
  rw [vcL_write hw, Oper.wp, hr]; show vcL P ops Q rest (a.put o.dst v) w'; rw [hp]; exact h
theorem vcL_writeSkip (hw : Region.wanted o (yielded ops a.tmps) = true) (hr : (execOp a.eval o).run P w = .ok .skip w') (hp : a.put o.dst undef = a')
    (h : vcL P ops Q rest a' w') : vcL P ops Q ((.write, o) :: rest) a w := by
  rw [vcL_write hw, Oper.wp, hr]; show vcL P ops Q rest (a.put o.dst undef) w'; rw [hp]; exact h
theorem vcL_keepVal (hw : Region.wanted o (yielded ops a.tmps) = true) (hr : (execOp a.eval o).run P w = .ok (.value v) w') (he : Ext w w') (hp : a.put o.dst v = a')
    (h : vcL P ops Q rest a' w') : vcL P ops Q ((.keep, o) :: rest) a w := by
  rw [vcL_keep hw, Oper.wp, hr]; refine ⟨he, ?_⟩; rw [hp]; exact h
end

/-- a store, whole -/
theorem run_store_row {P : Program} {w0 w : World} {L : List HP} {b off : Nat} {c : Array Value} {T E : TypeId} {v : Value} (h : St w0 (blk b (.cells c E (0, 0)) :: L) w)
    (hn : (Go.sizeOf T).run P w = .ok v.cells.size w) (hfit : off + v.cells.size ≤ c.size) (h1 : ∀ u ∈ v.cells.toList, u.oneCell' = true) :
    (storeVar T ⟨b, off, none⟩ v).run P w = .ok () (w.setRow b (c.toList.take off ++ v.cells.toList ++ c.toList.drop (off + v.cells.toList.length)).toArray) := by
  have hst := run_storeCells_at P b off E v.cells.toList 0 c w h.look.2 (by simpa using hfit) h1
  simp only [Nat.add_zero] at hst
  simp [storeVar, hn, hst]

/-! lists -/
theorem take_drop_splice {α : Type} (cur ins : List α) (k m n c : Nat) (hk : k ≤ n) (hm : ins.length = m) (hn : n + m ≤ c) (hc : cur.length = c) :
    let c1 := cur.take (k + m) ++ ((cur.take n).drop k) ++ cur.drop (n + m)
    (c1.take k ++ ins ++ c1.drop (k + m)).take (n + m) = (cur.take n).take k ++ ins ++ (cur.take n).drop k := by
  intro c1
  have h1 : c1.take k = cur.take k := by
    simp only [c1, List.append_assoc]
    rw [List.take_append_of_le_length (by simp; omega), List.take_take, Nat.min_eq_left (by omega)]
  have h2 : c1.drop (k + m) = (cur.take n).drop k ++ cur.drop (n + m) := by
    simp only [c1, List.append_assoc]
    rw [List.drop_append_of_le_length (by simp; omega), List.drop_of_length_le (by simp; omega), List.nil_append]
  rw [h1, h2, List.take_take, Nat.min_eq_left hk]
  rw [← List.append_assoc, List.take_append_of_le_length (by simp; omega)]
  exact List.take_of_length_le (by simp; omega)
theorem grow_splice {α : Type} (A Z vs D : List α) (k m d : Nat) (hA : A.length = k) (hv : vs.length = m) (hD : D.length = d) :
    let C0 := A ++ Z
    let C1 := C0.take k ++ vs ++ C0.drop (k + m)
    (C1.take (k + m) ++ D ++ C1.drop (k + m + d)).take (k + m + d) = A ++ vs ++ D := by
  intro C0 C1
  have h0 : C0.take k = A := by simp only [C0]; rw [← hA]; exact List.take_left
  have h1 : C1.take (k + m) = A ++ vs := by
    simp only [C1, h0]
    rw [show k + m = (A ++ vs).length by simp [hA, hv]]
    exact List.take_left
  rw [h1, show k + m + d = (A ++ vs ++ D).length by simp [hA, hv, hD]; omega]
  exact List.take_left
end WB
