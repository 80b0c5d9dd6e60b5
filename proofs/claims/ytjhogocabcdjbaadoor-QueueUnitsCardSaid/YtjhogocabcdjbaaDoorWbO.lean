import Derived.Test.YtjhogocabcdjbaaDoorWbP
import Derived.Maps.OwnOps
set_option linter.unusedSimpArgs false
set_option linter.unusedVariables false
/-! maps keyed by strings that the call has made -/
namespace WB
open Go Go.RowKit Go.ChangeMaps Go.MapKept
def esRead (es : List MapEntry) (m : List (ByteArray × Value)) : Prop := es.map (fun e => (e.key, e.val)) = m.map (fun x => (Value.string x.1, x.2))
def omap (b : Nat) (m : List (ByteArray × Value)) : HP := ex fun es : Array MapEntry => ex fun clk : Nat => sep (pur (esRead es.toList m)) (blk b (.map es clk))
def getA (m : List (ByteArray × Value)) (s : ByteArray) : Option Value := match m with
  | [] => none
  | x :: r => if x.1 = s then some x.2 else getA r s
def putA (m : List (ByteArray × Value)) (s : ByteArray) (v : Value) : List (ByteArray × Value) := match m with
  | [] => [(s, v)]
  | x :: r => if x.1 = s then (x.1, v) :: r else x :: putA r s v
theorem getA_putA (s t : ByteArray) (v : Value) : ∀ m, getA (putA m s v) t = if s = t then some v else getA m t
  | [] => rfl
  | x :: r => by
    unfold putA
    by_cases h : x.1 = s
    · rw [if_pos h, getA, getA, h]; by_cases h2 : s = t <;> simp [h2]
    · rw [if_neg h, getA, getA, getA_putA s t v r]
      by_cases h2 : x.1 = t
      · have : ¬ s = t := fun e => h (h2.trans e.symm)
        simp [h2, this]
      · simp [h2]
/-- where s stands -/
def idxA (m : List (ByteArray × Value)) (s : ByteArray) : Option Nat := match m with
  | [] => none
  | x :: r => if x.1 = s then some 0 else (idxA r s).map (· + 1)
theorem findNow_str (s : ByteArray) : ∀ (es : List MapEntry) (m : List (ByteArray × Value)) (i : Nat), esRead es m →
    (idxA m s = none ∧ getA m s = none ∧ Instr.findNow .string (.string s) es i = some none ∧ ∀ v clk, esRead (es ++ [{ key := .string s, val := v, born := clk }]) (putA m s v)) ∨
    ∃ j e, idxA m s = some j ∧ getA m s = some e.val ∧ es[j]? = some e ∧ e.key = .string s ∧ Instr.findNow .string (.string s) es i = some (some (i + j, e.val)) ∧
      ∀ v, esRead (es.modify j fun e => { e with key := .string s, val := v }) (putA m s v)
  | [], [], i, _ => Or.inl ⟨rfl, rfl, rfl, fun v clk => rfl⟩
  | [], _ :: _, _, h => by simp [esRead] at h
  | _ :: _, [], _, h => by simp [esRead] at h
  | e :: es, x :: m, i, h => by
    unfold esRead at h
    simp only [List.map_cons, List.cons.injEq, Prod.mk.injEq] at h
    obtain ⟨⟨hk, hv⟩, hr⟩ := h
    by_cases hx : x.1 = s
    · refine Or.inr ⟨0, e, by simp [idxA, hx], by simp [getA, hx, hv], rfl, by rw [hk, hx], ?_, fun v => ?_⟩
      · have he : (s == s) = true := (bytes_beq s s).2 rfl
        simp [Instr.findNow, Instr.sameNow, hk, hx, he]
      · unfold esRead
        simp [putA, hx]
        exact hr
    · have hne : (s == x.1) = false := by
        cases he : s == x.1 with
        | false => rfl
        | true => exact absurd ((bytes_beq _ _).1 he).symm hx
      rcases findNow_str s es m (i + 1) hr with ⟨h1, h2, h3, h4⟩ | ⟨j, e0, h1, h2, h3, h4, h5, h6⟩
      · refine Or.inl ⟨by simp [idxA, hx, h1], by simp [getA, hx, h2], by simp [Instr.findNow, Instr.sameNow, hk, hne, h3], fun v clk => ?_⟩
        have := h4 v clk
        unfold esRead at this ⊢
        simp [putA, hx, hk, hv] at this ⊢
        exact this
      · refine Or.inr ⟨j + 1, e0, by simp [idxA, hx, h1], by simp [getA, hx, h2], by simpa using h3, h4, by simp [Instr.findNow, Instr.sameNow, hk, hne, h5]; omega, fun v => ?_⟩
        have := h6 v
        unfold esRead at this ⊢
        simp [putA, hx, hk, hv] at this ⊢
        exact this
variable {w0 w : World} {L : List HP} {P : Program} {b : Nat} {m : List (ByteArray × Value)}
theorem St.omap_make (h : St w0 L w) : St w0 (omap w.heap.size [] :: L) (w.alloc (.map #[] 0)) :=
  St.exi #[] (St.exi 0 (St.join (St.puri (p := esRead (#[] : Array MapEntry).toList []) rfl (h.alloc (.map #[] 0)))))
theorem St.omap_look (h : St w0 (omap b m :: L) w) {t K E : TypeId} (ht : P.underlying t = some (.map K E)) (hK : P.underlying K = some .string) {z : Value} (hz : (zeroValue E).run P w = .ok z w) (s : ByteArray) :
    (Instr.lookup t (.map (some b)) (.string s) true).run P w = .ok (.tuple #[(getA m s).getD z, .bool (getA m s).isSome]) w := by
  obtain ⟨es, h⟩ := h.exs
  obtain ⟨clk, h⟩ := h.exs
  obtain ⟨hr, h⟩ := h.split.purs
  obtain ⟨_, hb⟩ := h.look
  have hk : IsKey .string (.string s) := ⟨⟩
  rcases findNow_str s _ m 0 hr with ⟨_, h2, h3, _⟩ | ⟨j, e, _, h2, h3, h4, h5, _⟩
  · simp [Instr.lookup, run_underlying ht, run_getObj_map hb, run_checkKey hK hk, run_findKey hK h3, Result.andThen, h2, hz]
  · simp [Instr.lookup, run_underlying ht, run_getObj_map hb, run_checkKey hK hk, run_findKey hK h5, Result.andThen, h2]
theorem St.omap_put (h : St w0 (omap b m :: L) w) {t K E : TypeId} (ht : P.underlying t = some (.map K E)) (hK : P.underlying K = some .string) (s : ByteArray) (v : Value) :
    ∃ w', (Instr.mapUpdate t (.map (some b)) (.string s) v).run P w = .ok () w' ∧ St w0 (omap b (putA m s v) :: L) w' ∧ w'.heap.size = w.heap.size := by
  obtain ⟨es, h⟩ := h.exs
  obtain ⟨clk, h⟩ := h.exs
  obtain ⟨hr, h⟩ := h.split.purs
  obtain ⟨_, hb⟩ := h.look
  have hk : IsKey .string (.string s) := ⟨⟩
  have up : ∀ (o : Obj), St w0 (blk b o :: L) { w with heap := w.heap.setIfInBounds b o } := fun o =>
    h.upd rfl rfl rfl (by simp) (by have := h.lt; simp [this]) (fun k hk => by simp [Array.getElem?_setIfInBounds, Ne.symm hk])
  rcases findNow_str s _ m 0 hr with ⟨_, _, h3, h4⟩ | ⟨j, e, _, _, h3, h4, h5, h6⟩
  · refine ⟨_, ?_, St.exi (es.push { key := .string s, val := v, born := clk }) (St.exi (clk + 1) (St.join (St.puri (p := esRead (es.push { key := .string s, val := v, born := clk }).toList (putA m s v)) ?_ (up (.map (es.push { key := .string s, val := v, born := clk }) (clk + 1)))))), by simp⟩
    · simp [Instr.mapUpdate, run_underlying ht, run_getObj_map hb, run_checkKey hK hk, run_findKey hK h3, run_setObj_map _ hb, Result.andThen]
    · simpa using h4 v clk
  · have hj : es[j]? = some e := by simpa using h3
    refine ⟨_, ?_, St.exi (es.modify j fun e => { e with key := .string s, val := v }) (St.exi clk (St.join (St.puri (p := esRead (es.modify j fun e => { e with key := .string s, val := v }).toList (putA m s v)) ?_ (up (.map (es.modify j fun e => { e with key := .string s, val := v }) clk))))), by simp⟩
    · simp [Instr.mapUpdate, run_underlying ht, run_getObj_map hb, run_checkKey hK hk, run_findKey hK h5, hj, h4, run_keyThatStays hk, run_setObj_map _ hb, Result.andThen]
    · simpa using h6 v
theorem wpL_lookup {ops : Array Oper} {rest : List Oper} {o : Oper} {a : Act} {Q : Exit → Act → World → Prop} (hg : o.guard = none) (mo x : Operand) (t : TypeId) (hop : o.op = Op.lookup t mo x true)
    {K E : TypeId} (ht : P.underlying t = some (.map K E)) (hK : P.underlying K = some .string) {z : Value} (hz : (zeroValue E).run P w = .ok z w) (hm : a.eval mo = .map (some b)) (h : St w0 (omap b m :: L) w) (s : ByteArray) (hx : a.eval x = .string s)
    (k : wpList P ops Q rest (a.put o.dst (.tuple #[(getA m s).getD z, .bool (getA m s).isSome])) w) : wpList P ops Q (o :: rest) a w := by
  refine wpList_plain hg fun K' hK' => ?_
  have hrun := h.omap_look (P := P) ht hK hz s
  unfold Oper.wp
  simp [execOp, hop, hm, hx, hrun, Result.andThen]
  exact hK' _ _ k
theorem wpL_mapUpdate {ops : Array Oper} {rest : List Oper} {o : Oper} {a : Act} {Q : Exit → Act → World → Prop} (hg : o.guard = none) (mo x v : Operand) (t : TypeId) (hop : o.op = Op.mapUpdate t mo x v)
    {K E : TypeId} (ht : P.underlying t = some (.map K E)) (hK : P.underlying K = some .string) (hm : a.eval mo = .map (some b)) (h : St w0 (omap b m :: L) w) (s : ByteArray) (u : Value) (hx : a.eval x = .string s) (hv : a.eval v = u)
    (k : ∀ w', St w0 (omap b (putA m s u) :: L) w' → w'.heap.size = w.heap.size → wpList P ops Q rest (a.put o.dst undef) w') : wpList P ops Q (o :: rest) a w := by
  refine wpList_plain hg fun K' hK' => ?_
  obtain ⟨w', hrun, hs, hz⟩ := h.omap_put (P := P) ht hK s u
  unfold Oper.wp
  simp [execOp, hop, hm, hx, hv, hrun, Result.andThen]
  exact hK' _ _ (k w' hs hz)
end WB
