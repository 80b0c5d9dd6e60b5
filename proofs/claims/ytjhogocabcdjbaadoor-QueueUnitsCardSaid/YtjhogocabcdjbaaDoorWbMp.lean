/- maps that the call has made, keyed by texts or by numbers -/
import Derived.Test.YtjhogocabcdjbaaDoorWbKh
import Derived.Maps.OwnOps
set_option linter.unusedSimpArgs false
set_option linter.unusedVariables false
namespace WB
open Go Go.RowKit Go.ChangeMaps Go.MapKept
structure KeyLaw {κ : Type} (d : TypeDesc) (kv : κ → Value) : Prop where
  isKey : ∀ k, IsKey d (kv k)
  inj : ∀ a b, kv a = kv b → a = b
theorem strKey : KeyLaw (κ := ByteArray) .string Value.string := ⟨fun _ => ⟨⟩, fun _ _ h => by cases h; rfl⟩
theorem intKey : KeyLaw (κ := Int) (.int .i64) (Value.int .i64) := ⟨fun _ => rfl, fun _ _ h => by cases h; rfl⟩
section
variable {κ : Type} [DecidableEq κ]
def getK {β : Type} (m : List (κ × β)) (k : κ) : Option β := match m with
  | [] => none
  | x :: r => if x.1 = k then some x.2 else getK r k
def putK {β : Type} (m : List (κ × β)) (k : κ) (v : β) : List (κ × β) := match m with
  | [] => [(k, v)]
  | x :: r => if x.1 = k then (x.1, v) :: r else x :: putK r k v
def delK {β : Type} (m : List (κ × β)) (k : κ) : List (κ × β) := match m with
  | [] => []
  | x :: r => if x.1 = k then r else x :: delK r k
theorem getK_putK {β : Type} (s t : κ) (v : β) : ∀ m : List (κ × β), getK (putK m s v) t = if s = t then some v else getK m t
  | [] => rfl
  | x :: r => by
    unfold putK
    by_cases h : x.1 = s
    · rw [if_pos h, getK, getK, h]; by_cases h2 : s = t <;> simp [h2]
    · rw [if_neg h, getK, getK, getK_putK s t v r]
      by_cases h2 : x.1 = t
      · have : ¬ s = t := fun e => h (h2.trans e.symm)
        simp [h2, this]
      · simp [h2]
variable {d : TypeDesc} {kv : κ → Value}
def esK (kv : κ → Value) (es : List MapEntry) (m : List (κ × Value)) : Prop := es.map (fun e => (e.key, e.val)) = m.map (fun x => (kv x.1, x.2))
def omapK (kv : κ → Value) (b : Nat) (m : List (κ × Value)) : HP := ex fun es : Array MapEntry => ex fun clk : Nat => sep (pur (esK kv es.toList m)) (blk b (.map es clk))
theorem findK (K : KeyLaw d kv) (s : κ) : ∀ (es : List MapEntry) (m : List (κ × Value)) (i : Nat), esK kv es m →
    (getK m s = none ∧ Instr.findNow d (kv s) es i = some none ∧ (∀ v clk, esK kv (es ++ [{ key := kv s, val := v, born := clk }]) (putK m s v)) ∧ delK m s = m) ∨
    ∃ j e, getK m s = some e.val ∧ es[j]? = some e ∧ e.key = kv s ∧ Instr.findNow d (kv s) es i = some (some (i + j, e.val)) ∧
      (∀ v, esK kv (es.modify j fun e => { e with key := kv s, val := v }) (putK m s v)) ∧ esK kv (es.eraseIdx j) (delK m s)
  | [], [], i, _ => Or.inl ⟨rfl, rfl, fun v clk => rfl, rfl⟩
  | [], _ :: _, _, h => by simp [esK] at h
  | _ :: _, [], _, h => by simp [esK] at h
  | e :: es, x :: m, i, h => by
    unfold esK at h
    simp only [List.map_cons, List.cons.injEq, Prod.mk.injEq] at h
    obtain ⟨⟨hk, hv⟩, hr⟩ := h
    obtain ⟨r, hr1, hr2⟩ := sameNow_of_keys (K.isKey s) (show IsKey d e.key by rw [hk]; exact K.isKey x.1)
    by_cases hx : x.1 = s
    · have hrt : r = true := hr2.2 (by rw [hk, hx])
      refine Or.inr ⟨0, e, by simp [getK, hx, hv], rfl, by rw [hk, hx], ?_, fun v => ?_, ?_⟩
      · unfold Instr.findNow
        rw [hr1, hrt]; rfl
      · unfold esK
        simp [putK, hx]
        exact hr
      · unfold esK
        simp [delK, hx]
        exact hr
    · have hrf : r = false := by
        cases r with
        | false => rfl
        | true => exact absurd (K.inj _ _ ((hr2.1 rfl).trans hk)) (fun e => hx e.symm)
      have hf : Instr.findNow d (kv s) (e :: es) i = Instr.findNow d (kv s) es (i + 1) := by
        conv => lhs; unfold Instr.findNow
        rw [hr1, hrf]
      rcases findK K s es m (i + 1) hr with ⟨h1, h2, h3, h4⟩ | ⟨j, e0, h1, h2, h3, h4, h5, h6⟩
      · refine Or.inl ⟨by simp [getK, hx, h1], by rw [hf, h2], fun v clk => ?_, by simp [delK, hx, h4]⟩
        have := h3 v clk
        unfold esK at this ⊢
        simp [putK, hx, hk, hv] at this ⊢
        exact this
      · refine Or.inr ⟨j + 1, e0, by simp [getK, hx, h1], by simpa using h2, h3, by rw [hf, h4]; simp; omega, fun v => ?_, ?_⟩
        · have := h5 v
          unfold esK at this ⊢
          simp [putK, hx, hk, hv] at this ⊢
          exact this
        · unfold esK at h6 ⊢
          simp [delK, hx, hk, hv] at h6 ⊢
          exact h6
variable {w0 w : World} {L : List HP} {P : Program} {b : Nat} {m : List (κ × Value)}
omit [DecidableEq κ] in
theorem omapK_make (h : St w0 L w) : St w0 (omapK kv w.heap.size [] :: L) (w.alloc (.map #[] 0)) :=
  St.exi #[] (St.exi 0 (St.join (St.puri (p := esK kv (#[] : Array MapEntry).toList []) rfl (h.alloc (.map #[] 0)))))
theorem omapK_look (K : KeyLaw d kv) (h : St w0 (omapK kv b m :: L) w) {w1 : World} (he : Ext w w1) {t k E : TypeId} (ht : P.underlying t = some (.map k E)) (hk : P.underlying k = some d) {z : Value} (hz : (zeroValue E).run P w1 = .ok z w1) (s : κ) (ok : Bool) :
    (Instr.lookup t (.map (some b)) (kv s) ok).run P w1 = .ok (if ok then .tuple #[(getK m s).getD z, .bool (getK m s).isSome] else (getK m s).getD z) w1 := by
  obtain ⟨es, h⟩ := h.exs
  obtain ⟨clk, h⟩ := h.exs
  obtain ⟨hr, h⟩ := h.split.purs
  have hlt := h.lt
  obtain ⟨_, hb⟩ := h.look
  have hb : w1.heap[b]? = some (.map es clk) := by rw [he.2 b hlt]; exact hb
  rcases findK K s _ m 0 hr with ⟨h2, h3, _, _⟩ | ⟨j, e, h2, h3, h4, h5, _, _⟩
  · cases ok <;> simp [Instr.lookup, run_underlying ht, run_getObj_map hb, run_checkKey hk (K.isKey s), run_findKey hk h3, Result.andThen, h2, hz]
  · cases ok <;> simp [Instr.lookup, run_underlying ht, run_getObj_map hb, run_checkKey hk (K.isKey s), run_findKey hk h5, Result.andThen, h2]
theorem omapK_put (K : KeyLaw d kv) (h : St w0 (omapK kv b m :: L) w) {t k E : TypeId} (ht : P.underlying t = some (.map k E)) (hk : P.underlying k = some d) (s : κ) (v : Value) :
    ∃ w', (Instr.mapUpdate t (.map (some b)) (kv s) v).run P w = .ok () w' ∧ St w0 (omapK kv b (putK m s v) :: L) w' := by
  obtain ⟨es, h⟩ := h.exs
  obtain ⟨clk, h⟩ := h.exs
  obtain ⟨hr, h⟩ := h.split.purs
  obtain ⟨_, hb⟩ := h.look
  have up : ∀ (o : Obj), St w0 (blk b o :: L) { w with heap := w.heap.setIfInBounds b o } := fun o =>
    h.upd rfl rfl rfl (by simp) (by have := h.lt; simp [this]) (fun k hk => by simp [Array.getElem?_setIfInBounds, Ne.symm hk])
  rcases findK K s _ m 0 hr with ⟨_, h3, h4, _⟩ | ⟨j, e, _, h3, h4, h5, h6, _⟩
  · refine ⟨_, ?_, St.exi (es.push { key := kv s, val := v, born := clk }) (St.exi (clk + 1) (St.join (St.puri (p := esK kv (es.push { key := kv s, val := v, born := clk }).toList (putK m s v)) ?_ (up (.map (es.push { key := kv s, val := v, born := clk }) (clk + 1))))))⟩
    · simp [Instr.mapUpdate, run_underlying ht, run_getObj_map hb, run_checkKey hk (K.isKey s), run_findKey hk h3, run_setObj_map _ hb, Result.andThen]
    · simpa using h4 v clk
  · have hj : es[j]? = some e := by simpa using h3
    refine ⟨_, ?_, St.exi (es.modify j fun e => { e with key := kv s, val := v }) (St.exi clk (St.join (St.puri (p := esK kv (es.modify j fun e => { e with key := kv s, val := v }).toList (putK m s v)) ?_ (up (.map (es.modify j fun e => { e with key := kv s, val := v }) clk)))))⟩
    · simp [Instr.mapUpdate, run_underlying ht, run_getObj_map hb, run_checkKey hk (K.isKey s), run_findKey hk h5, hj, h4, run_keyThatStays (K.isKey s), run_setObj_map _ hb, Result.andThen]
    · simpa using h6 v
omit [DecidableEq κ] in
theorem omapK_len (h : St w0 (omapK kv b m :: L) w) {w1 : World} (he : Ext w w1) {t k E ty : TypeId} (ht : P.underlying t = some (.map k E)) :
    (Builtin.len_ #[t] ty #[.map (some b)]).run P w1 = .ok (goInt m.length) w1 := by
  obtain ⟨es, h⟩ := h.exs
  obtain ⟨clk, h⟩ := h.exs
  obtain ⟨hr, h⟩ := h.split.purs
  have hlt := h.lt
  obtain ⟨_, hb⟩ := h.look
  have hb : w1.heap[b]? = some (.map es clk) := by rw [he.2 b hlt]; exact hb
  have hl : es.size = m.length := by have := congrArg List.length hr; simpa using this
  simp [Builtin.len_, run_underlying ht, run_getObj_map hb, hl]
end
section
variable {κ : Type} [DecidableEq κ] {kd : TypeDesc} {kv : κ → Value}
variable {P : Program} {ops : Array Oper} {d : Bool} {Q : Exit → Act → World → Prop} {n : Nat} {D : List Deferred} {w0 : World} {G : Env} {L R : List HP} {l : List (Kd × Oper)} {k : Kd}
  {t : Nat} {ty T KT E : TypeId} {pos : String} {af : Array Edge} {x y u : Operand} {v z : Value} {b : Nat} {m : List (κ × Value)}
omit [DecidableEq κ] in
theorem KO.mkm (kv : κ → Value) (hk : (!d || (k == .keep || k == .write)) = true) (ht : Nat.blt t n = true) (h : ∀ bb, KO P ops d Q n D w0 ((t, .map (some bb)) :: G) (omapK kv bb [] :: L) l) :
    KO P ops d Q n D w0 G L ((k, ⟨some t, .makeMap T none, ty, pos, af, none⟩) :: l) :=
  KO.keepRun hk (F := fun bb => .map (some bb)) (N := fun bb => omapK kv bb [] :: L) (fun a w ha hw => ⟨w.heap.size, w.alloc (.map #[] 0), by simp [execOp, run_makeMap], Ext.alloc w _, omapK_make hw⟩) ht h
theorem KO.lkm (K : KeyLaw kd kv) (s : κ) (hk : (!d || k != .pure) = true) (hx : ev G x = some (.map (some b))) (hy : ev G y = some (kv s)) (hT : P.underlying T = some (.map KT E)) (hK : P.underlying KT = some kd) (hz : ∀ w, (zeroValue E).run P w = .ok z w) (hp : Pick L (omapK kv b m) R) (ht : Nat.blt t n = true)
    (h : KO P ops d Q n D w0 ((t, (getK m s).getD z) :: G) L l) : KO P ops d Q n D w0 G L ((k, ⟨some t, .lookup T x y false, ty, pos, af, none⟩) :: l) :=
  KO.rd hk (fun a w w' ha hw e => by
    have := omapK_look (P := P) K (hw.pick hp) e hT hK (hz w') s false
    simp [execOp, ha.eval hx, ha.eval hy, this]) ht h
theorem KO.lkmOk (K : KeyLaw kd kv) (s : κ) (hk : (!d || k != .pure) = true) (hx : ev G x = some (.map (some b))) (hy : ev G y = some (kv s)) (hT : P.underlying T = some (.map KT E)) (hK : P.underlying KT = some kd) (hz : ∀ w, (zeroValue E).run P w = .ok z w) (hp : Pick L (omapK kv b m) R) (ht : Nat.blt t n = true)
    (h : KO P ops d Q n D w0 ((t, .tuple #[(getK m s).getD z, .bool (getK m s).isSome]) :: G) L l) : KO P ops d Q n D w0 G L ((k, ⟨some t, .lookup T x y true, ty, pos, af, none⟩) :: l) :=
  KO.rd hk (fun a w w' ha hw e => by
    have := omapK_look (P := P) K (hw.pick hp) e hT hK (hz w') s true
    simp [execOp, ha.eval hx, ha.eval hy, this]) ht h
theorem KO.upm (K : KeyLaw kd kv) (s : κ) (hk : (!d || k == .write) = true) (hx : ev G x = some (.map (some b))) (hy : ev G y = some (kv s)) (hu : ev G u = some v) (hT : P.underlying T = some (.map KT E)) (hK : P.underlying KT = some kd) (hp : Pick L (omapK kv b m) R)
    (h : KO P ops d Q n D w0 G (omapK kv b (putK m s v) :: R) l) : KO P ops d Q n D w0 G L ((k, ⟨none, .mapUpdate T x y u, ty, pos, af, none⟩) :: l) :=
  KO.wrRun hk (fun a w ha hw => by
    obtain ⟨w', hr, hs⟩ := omapK_put (P := P) K (hw.pick hp) hT hK s v
    exact ⟨w', by simp [execOp, ha.eval hx, ha.eval hy, ha.eval hu, hr], hs⟩) h
omit [DecidableEq κ] in
theorem KO.lenM (hk : (!d || k != .pure) = true) (hx : ev G x = some (.map (some b))) (hT : P.underlying T = some (.map KT E)) (hp : Pick L (omapK kv b m) R) (ht : Nat.blt t n = true) (h : KO P ops d Q n D w0 ((t, .int .i64 (m.length : Nat)) :: G) L l) :
    KO P ops d Q n D w0 G L ((k, ⟨some t, .call ⟨.builtin .len, #[x], #[T]⟩, ty, pos, af, none⟩) :: l) :=
  KO.rd hk (fun a w w' ha hw e => by
    have := omapK_len (P := P) (ty := ty) (hw.pick hp) e hT
    simp [execOp, resolve, invoke, builtin, ha.eval hx, this, goInt]) ht h
end
end WB
