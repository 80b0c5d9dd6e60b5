/- the steps of the calculus: slices that grow and shrink -/
import Derived.Test.YtjhogocabcdjbaaDoorWbKe
import Derived.Test.YtjhogocabcdjbaaDoorWbX
set_option linter.unusedSimpArgs false
set_option linter.unusedVariables false
namespace WB
open Go Go.RowKit
section
variable {P : Program} {ops : Array Oper} {d : Bool} {Q : Exit → Act → World → Prop} {n : Nat} {D : List Deferred} {w0 : World} {G : Env} {L R N : List HP} {l : List (Kd × Oper)} {k : Kd}
  {t : Nat} {op : Op} {ty T T' E : TypeId} {pos : String} {af : Array Edge} {x y z : Operand} {v u : Value} {i j : Nat} {a c r : Int} {α : Type} {cf : α → List Value} {sz : Nat} {xs ys : List α} {e : α}
theorem KO.wv (hk : (!d || k == .write) = true) (hr : ∀ a w, Knows n D G a → St w0 L w → ∃ w', (execOp a.eval ⟨some t, op, ty, pos, af, none⟩).run P w = .ok (.value v) w' ∧ St w0 N w') (ht : Nat.blt t n = true)
    (h : KO P ops d Q n D w0 ((t, v) :: G) N l) : KO P ops d Q n D w0 G L ((k, ⟨some t, op, ty, pos, af, none⟩) :: l) := fun a w ha hw => by
  obtain ⟨w', hr, hs⟩ := hr a w ha hw
  refine vcG_write hk rfl ?_
  unfold Oper.wp
  rw [hr]
  exact h _ w' (put_dst ha _ ht) hs
theorem KO.wn (hk : (!d || k == .write) = true) (hr : ∀ a w, Knows n D G a → St w0 L w → ∃ w' u, (execOp a.eval ⟨none, op, ty, pos, af, none⟩).run P w = .ok (.value u) w' ∧ St w0 N w')
    (h : KO P ops d Q n D w0 G N l) : KO P ops d Q n D w0 G L ((k, ⟨none, op, ty, pos, af, none⟩) :: l) := fun a w ha hw => by
  obtain ⟨w', u, hr, hs⟩ := hr a w ha hw
  refine vcG_write hk rfl ?_
  unfold Oper.wp
  rw [hr]
  exact h _ w' ha hs
/-- the value is some value of which the parts tell -/
theorem KO.wvE (hk : (!d || k == .write) = true) {F : Value → List HP} (hr : ∀ a w, Knows n D G a → St w0 L w → ∃ v w', (execOp a.eval ⟨some t, op, ty, pos, af, none⟩).run P w = .ok (.value v) w' ∧ St w0 (F v) w') (ht : Nat.blt t n = true)
    (h : ∀ v, KO P ops d Q n D w0 ((t, v) :: G) (F v) l) : KO P ops d Q n D w0 G L ((k, ⟨some t, op, ty, pos, af, none⟩) :: l) := fun a w ha hw => by
  obtain ⟨v, w', hr, hs⟩ := hr a w ha hw
  refine vcG_write hk rfl ?_
  unfold Oper.wp
  rw [hr]
  exact h v _ w' (put_dst ha _ ht) hs
/-! cuts of slices -/
theorem run_cut {w : World} {bs : Option Addr} {len cap lo hi mx : Nat} {l h m : Option Value} (hT : P.underlying T = some (.slice E)) (hs : (Go.sizeOf E).run P w = .ok sz w)
    (hm : match m with | none => mx = cap | some v => v = .int .i64 (mx : Nat)) (hh : match h with | none => hi = len ∧ m = none | some v => v = .int .i64 (hi : Nat)) (hl : match l with | none => lo = 0 | some v => v = .int .i64 (lo : Nat))
    (h1 : lo ≤ hi) (h2 : hi ≤ mx) (h3 : mx ≤ cap) :
    (Instr.sliceAt T (.slice bs len cap) l h m).run P w = .ok (.slice (if mx = lo then bs else bs.map (·.add (lo * sz))) (hi - lo) (mx - lo)) w := by
  have e1 : ∀ (i y : Nat) (code : BoundsCode), i ≤ y → (Instr.sliceBound (.int .i64 (i : Nat)) y code).run P w = .ok i w := fun i y code h => by
    simp [Instr.sliceBound, asIntOf, h]
  cases m with
  | none =>
    cases h with
    | none =>
      obtain ⟨rfl, _⟩ := hh
      cases l with
      | none => simp only at hm hl; subst hm; subst hl; simp [Instr.sliceAt, run_underlying hT, Instr.slice, Instr.sliceBounds, hs]
      | some v => simp only at hm hl; subst hm; subst hl; simp [Instr.sliceAt, run_underlying hT, Instr.slice, Instr.sliceBounds, hs, e1 _ _ _ h1]
    | some v =>
      simp only at hh; subst hh
      cases l with
      | none => simp only at hm hl; subst hm; subst hl; simp [Instr.sliceAt, run_underlying hT, Instr.slice, Instr.sliceBounds, hs, e1 _ _ _ h2]
      | some v => simp only at hm hl; subst hm; subst hl; simp [Instr.sliceAt, run_underlying hT, Instr.slice, Instr.sliceBounds, hs, e1 _ _ _ h1, e1 _ _ _ h2]
  | some vm =>
    simp only at hm; subst hm
    cases h with
    | none => simp at hh
    | some v =>
      simp only at hh; subst hh
      cases l with
      | none => simp only at hl; subst hl; simp [Instr.sliceAt, run_underlying hT, Instr.slice, Instr.sliceBounds, hs, e1 _ _ _ h2, e1 _ _ _ h3]
      | some v => simp only at hl; subst hl; simp [Instr.sliceAt, run_underlying hT, Instr.slice, Instr.sliceBounds, hs, e1 _ _ _ h1, e1 _ _ _ h2, e1 _ _ _ h3]
def cutAt (g : Nat) (lo sz mx : Nat) : Addr := ⟨g, if mx = lo then 0 else lo * sz, none⟩
theorem cutAt_eq (g lo sz mx : Nat) : (if mx = lo then (some ⟨g, 0, none⟩ : Option Addr) else (some (⟨g, 0, none⟩ : Addr)).map (·.add (lo * sz))) = some (cutAt g lo sz mx) := by
  unfold cutAt
  by_cases h : mx = lo
  · simp [h]
  · simp [h, Addr.add_lit]
/-- s[:hi] -/
theorem KO.cutTo {bs : Option Addr} {len cap hi : Nat} (hx : ev G x = some (.slice bs len cap)) (hy : ev G y = some (.int .i64 c)) (hT : P.underlying T = some (.slice E)) (hs : ∀ w, (Go.sizeOf E).run P w = .ok sz w) (hc : c = (hi : Int)) (h2 : hi ≤ cap) (ht : Nat.blt t n = true)
    (h : KO P ops d Q n D w0 ((t, .slice bs hi cap) :: G) L l) : KO P ops d Q n D w0 G L ((k, ⟨some t, .slice T x none (some y) none, ty, pos, af, none⟩) :: l) :=
  KO.val (fun a w ha => by
    subst hc
    have := run_cut (P := P) (w := w) (bs := bs) (len := len) (cap := cap) (lo := 0) (hi := hi) (mx := cap) (l := none) (h := some (.int .i64 (hi : Nat))) (m := none) hT (hs w) rfl rfl rfl (Nat.zero_le _) h2 (Nat.le_refl _)
    have e : (if cap = 0 then bs else bs.map (·.add (0 * sz))) = bs := by
      split
      · rfl
      · cases bs <;> simp [Addr.add_zero']
    simp only [e, Nat.sub_zero] at this
    simp [execOp, ha.eval hx, ha.eval hy, this]) ht h
/-- s[lo:] -/
theorem KO.cutFrom {g len cap lo : Nat} (hx : ev G x = some (.slice (some ⟨g, 0, none⟩) len cap)) (hy : ev G y = some (.int .i64 c)) (hT : P.underlying T = some (.slice E)) (hs : ∀ w, (Go.sizeOf E).run P w = .ok sz w) (hc : c = (lo : Int)) (h1 : lo ≤ len) (h2 : len ≤ cap) (ht : Nat.blt t n = true)
    (h : KO P ops d Q n D w0 ((t, .slice (some (cutAt g lo sz cap)) (len - lo) (cap - lo)) :: G) L l) : KO P ops d Q n D w0 G L ((k, ⟨some t, .slice T x (some y) none none, ty, pos, af, none⟩) :: l) :=
  KO.val (fun a w ha => by
    subst hc
    have := run_cut (P := P) (w := w) (bs := some ⟨g, 0, none⟩) (len := len) (cap := cap) (lo := lo) (hi := len) (mx := cap) (l := some (.int .i64 (lo : Nat))) (h := none) (m := none) hT (hs w) rfl ⟨rfl, rfl⟩ rfl h1 h2 (Nat.le_refl _)
    rw [cutAt_eq] at this
    simp [execOp, ha.eval hx, ha.eval hy, this]) ht h
/-- s[lo:hi] -/
theorem KO.cutMid {g len cap lo hi : Nat} {b : Int} (hx : ev G x = some (.slice (some ⟨g, 0, none⟩) len cap)) (hy : ev G y = some (.int .i64 c)) (hz : ev G z = some (.int .i64 b)) (hT : P.underlying T = some (.slice E)) (hs : ∀ w, (Go.sizeOf E).run P w = .ok sz w) (hc : c = (lo : Int)) (hb : b = (hi : Int)) (h1 : lo ≤ hi) (h2 : hi ≤ cap) (ht : Nat.blt t n = true)
    (h : KO P ops d Q n D w0 ((t, .slice (some (cutAt g lo sz cap)) (hi - lo) (cap - lo)) :: G) L l) : KO P ops d Q n D w0 G L ((k, ⟨some t, .slice T x (some y) (some z) none, ty, pos, af, none⟩) :: l) :=
  KO.val (fun a w ha => by
    subst hc; subst hb
    have := run_cut (P := P) (w := w) (bs := some ⟨g, 0, none⟩) (len := len) (cap := cap) (lo := lo) (hi := hi) (mx := cap) (l := some (.int .i64 (lo : Nat))) (h := some (.int .i64 (hi : Nat))) (m := none) hT (hs w) rfl rfl rfl h1 h2 (Nat.le_refl _)
    rw [cutAt_eq] at this
    simp [execOp, ha.eval hx, ha.eval hy, ha.eval hz, this]) ht h
/-- s[lo:hi:mx], of which nothing is told but that it is -/
theorem KO.cutAny {u : Operand} {bs : Option Addr} {len cap lo hi mx : Nat} {b m : Int} (hx : ev G x = some (.slice bs len cap)) (hy : ev G y = some (.int .i64 c)) (hz : ev G z = some (.int .i64 b)) (hu : ev G u = some (.int .i64 m)) (hT : P.underlying T = some (.slice E)) (hs : ∀ w, (Go.sizeOf E).run P w = .ok sz w) (hc : c = (lo : Int)) (hb : b = (hi : Int)) (hm : m = (mx : Int))
    (h1 : lo ≤ hi) (h2 : hi ≤ mx) (h3 : mx ≤ cap) (ht : Nat.blt t n = true)
    (h : ∀ q, KO P ops d Q n D w0 ((t, .slice q (hi - lo) (mx - lo)) :: G) L l) : KO P ops d Q n D w0 G L ((k, ⟨some t, .slice T x (some y) (some z) (some u), ty, pos, af, none⟩) :: l) :=
  KO.val (v := .slice (if mx = lo then bs else bs.map (·.add (lo * sz))) (hi - lo) (mx - lo)) (fun a w ha => by
    subst hc; subst hb; subst hm
    have := run_cut (P := P) (w := w) (bs := bs) (len := len) (cap := cap) (lo := lo) (hi := hi) (mx := mx) (l := some (.int .i64 (lo : Nat))) (h := some (.int .i64 (hi : Nat))) (m := some (.int .i64 (mx : Nat))) hT (hs w) rfl rfl rfl h1 h2 h3
    simp [execOp, ha.eval hx, ha.eval hy, ha.eval hz, ha.eval hu, this]) ht (h _)
end
/-! what is moved and cleared within a slice -/
theorem flat_one {α : Type} {cf : α → List Value} (h1 : ∀ e, ∀ u ∈ cf e, u.oneCell' = true) (xs : List α) : ∀ u ∈ xs.flatMap cf, u.oneCell' = true := fun u hu => by
  obtain ⟨e, _, hu⟩ := List.mem_flatMap.1 hu
  exact h1 e u hu
section
variable {P : Program} {w0 w : World} {L : List HP} {E T ty : TypeId} {α : Type} {cf : α → List Value} {sz g cap n : Nat} {xs : List α}
theorem SL_open (h : St w0 (SL E sz cf (.slice (some ⟨g, 0, none⟩) n cap) xs :: L) w) : n = xs.length ∧ n ≤ cap ∧ cap ≤ maxLen ∧ ∃ cur : Array Value, cur.size = cap * sz ∧ cur.toList.take (xs.length * sz) = xs.flatMap cf ∧ St w0 (blk g (.cells cur E (0, 0)) :: L) w := by
  rcases h.osl_cases with ⟨h1, _⟩ | ⟨g', cap', cur, hv, h1, h2, h3, h4, _, h5⟩
  · simp at h1
  · simp only [Value.slice.injEq, Option.some.injEq, Addr.mk.injEq, and_true, true_and] at hv
    obtain ⟨rfl, rfl, rfl⟩ := hv
    exact ⟨rfl, h1, h2, cur, h3, h4, h5⟩
theorem SL_mk {cur : Array Value} (h : St w0 (blk g (.cells cur E (0, 0)) :: L) w) (hn : xs.length ≤ cap) (hc : cap ≤ maxLen) (hs : cur.size = cap * sz) (ht : cur.toList.take (xs.length * sz) = xs.flatMap cf) :
    St w0 (SL E sz cf (.slice (some ⟨g, 0, none⟩) xs.length cap) xs :: L) w := h.osl_mk hn hc hs ht
/-- append(s[:k], s[j:]...) in place -/
theorem SL_move (hsz : ∀ e, (cf e).length = sz) (h1 : ∀ e, ∀ u ∈ cf e, u.oneCell' = true) {i : TypeInfo} (hT : P.underlying T = some (.slice E)) (hi : P.info? E = some i) (hisz : i.size = sz)
    {n j k c o : Nat} (h : St w0 (SL E sz cf (.slice (some ⟨g, 0, none⟩) n cap) xs :: L) w) (hk : k ≤ j) (hj : j ≤ xs.length) (ho : xs.length - j = 0 ∨ o = j * sz) :
    ∃ w', (Builtin.append_ #[T, T] ty #[.slice (some ⟨g, 0, none⟩) k cap, .slice (some ⟨g, o, none⟩) (xs.length - j) c]).run P w = .ok (.slice (some ⟨g, 0, none⟩) (k + (xs.length - j)) cap) w' ∧
      St w0 (SL E sz cf (.slice (some ⟨g, 0, none⟩) xs.length cap) (xs.take k ++ xs.drop j ++ xs.drop (k + (xs.length - j))) :: L) w' := by
  obtain ⟨rfl, hnc, hcm, cur, hcs, htake, hb⟩ := SL_open h
  subst hisz
  have hfl : ∀ l : List α, (l.flatMap cf).length = l.length * i.size := flat_len cf i.size hsz
  have hcl : cur.toList.length = cap * i.size := by simpa using hcs
  have hcell : ∀ (q : Nat) (u : Value), (xs.flatMap cf)[q]? = some u → cur[q]? = some u := fun q u hq => by
    rw [← htake, List.getElem?_take] at hq
    split at hq
    · simpa using hq
    · simp at hq
  have hnews : ∀ (q : Nat) (u : Value), ((xs.drop j).flatMap cf)[q]? = some u → w.cell? ((⟨g, o, none⟩ : Addr).add q) = some u := fun q u hq => by
    have hlt := (List.getElem?_eq_some_iff.1 hq).1
    rw [hfl, List.length_drop] at hlt
    rcases ho with ho | ho
    · rw [ho, Nat.zero_mul] at hlt; omega
    · rw [← flat_drop cf i.size hsz xs j hj, List.getElem?_drop] at hq
      rw [Addr.add_lit, World.cell?, hb.look.2, ho]
      exact hcell _ u hq
  have hle : (k + (xs.length - j)) * i.size ≤ cap * i.size := Nat.mul_le_mul_right _ (by omega)
  have hr := run_append_room (P := P) w T ty E i hT hi g k cap cur hb.look.2 ⟨g, o, none⟩ (xs.length - j) c ((xs.drop j).flatMap cf) (by rw [hfl, List.length_drop]) hnews (flat_one h1 _) (by omega)
    (by rw [hfl, List.length_drop, ← Nat.add_mul, hcs]; exact hle)
  refine ⟨_, hr, ?_⟩
  have e1 : (xs.take k ++ xs.drop j ++ xs.drop (k + (xs.length - j))).length = xs.length := by simp; omega
  have hset := hb.setRow (c' := (cur.toList.take (k * i.size) ++ (xs.drop j).flatMap cf ++ cur.toList.drop (k * i.size + ((xs.drop j).flatMap cf).length)).toArray)
  have := SL_mk (xs := xs.take k ++ xs.drop j ++ xs.drop (k + (xs.length - j))) (cf := cf) (sz := i.size) (cap := cap) hset (by omega) hcm ?_ ?_
  · rw [e1] at this; exact this
  · simp only [List.size_toArray, List.length_append, List.length_take, List.length_drop, hfl, hcl, Nat.min_def]
    have := Nat.mul_le_mul_right i.size (show k ≤ cap by omega)
    rw [if_pos this, ← Nat.add_mul]; omega
  · rw [e1]
    simp only [List.flatMap_append, hfl, List.length_drop]
    have hk1 : cur.toList.take (k * i.size) = (xs.take k).flatMap cf := by
      rw [← flat_take cf i.size hsz xs k (by omega), ← htake, List.take_take, Nat.min_eq_left (Nat.mul_le_mul_right _ (by omega))]
    rw [hk1, ← flat_drop cf i.size hsz xs (k + (xs.length - j)) (by omega), ← htake]
    have hlA : ((xs.take k).flatMap cf ++ (xs.drop j).flatMap cf).length = (k + (xs.length - j)) * i.size := by
      rw [List.length_append, hfl, hfl, List.length_take, List.length_drop, Nat.min_eq_left (by omega), Nat.add_mul]
    rw [List.take_append, hlA, List.take_of_length_le (by rw [hlA]; exact Nat.mul_le_mul_right _ (by omega))]
    congr 1
    rw [← Nat.add_mul, List.take_drop, show (k + (xs.length - j)) * i.size + (xs.length * i.size - (k + (xs.length - j)) * i.size) = xs.length * i.size by
      have := Nat.mul_le_mul_right i.size (show k + (xs.length - j) ≤ xs.length by omega); omega]
/-- clear(s[i:..]), of what the slice bears no more -/
theorem SL_clear (hsz : ∀ e, (cf e).length = sz) {i : TypeInfo} {z : Value} (hT : P.underlying T = some (.slice E)) (hi : P.info? E = some i) (hz : i.zero = some z) (hz1 : ∀ u ∈ z.cells.toList, u.oneCell' = true) (hzs : z.cells.size = sz)
    {n m c o q : Nat} (h : St w0 (SL E sz cf (.slice (some ⟨g, 0, none⟩) n cap) xs :: L) w) (hq : q + m ≤ xs.length) (ho : m = 0 ∨ o = q * sz) :
    ∃ w' u, (Builtin.clear_ #[T] ty #[.slice (some ⟨g, o, none⟩) m c]).run P w = .ok u w' ∧ St w0 (SL E sz cf (.slice (some ⟨g, 0, none⟩) q cap) (xs.take q) :: L) w' := by
  obtain ⟨rfl, hnc, hcm, cur, hcs, htake, hb⟩ := SL_open h
  have hql : (xs.take q).length = q := by simp; omega
  have hqt : cur.toList.take (q * sz) = (xs.take q).flatMap cf := by
    rw [← flat_take cf sz hsz xs q (by omega), ← htake, List.take_take, Nat.min_eq_left (Nat.mul_le_mul_right _ (by omega))]
  by_cases hm : m = 0
  · subst hm
    refine ⟨w, .tuple #[], by simp [Builtin.clear_, run_underlying hT], ?_⟩
    have := SL_mk (xs := xs.take q) (cf := cf) (sz := sz) (cap := cap) hb (by omega) hcm hcs (by rw [hql]; exact hqt)
    rw [hql] at this; exact this
  · have ho := ho.resolve_left hm
    subst ho
    have hzl : (Builtin.zeroCells z.cells m).toList.length = m * sz := by simp [size_zeroCells, hzs]
    have hone : ∀ u ∈ (Builtin.zeroCells z.cells m).toList, u.oneCell' = true := fun u hu => by
      simp only [Builtin.zeroCells, Array.toList_map, List.mem_map] at hu
      obtain ⟨j, hj, rfl⟩ := hu
      have hp : 0 < z.cells.size := by
        rcases Nat.eq_zero_or_pos z.cells.size with h0 | h0
        · simp [h0] at hj
        · exact h0
      have : j % z.cells.size < z.cells.size := Nat.mod_lt _ hp
      rw [getElem!_pos z.cells _ this]
      exact hz1 _ (Array.mem_toList_iff.2 (Array.getElem_mem this))
    have hfit : q * sz + 0 + (Builtin.zeroCells z.cells m).toList.length ≤ cur.size := by
      rw [hzl, hcs, Nat.add_zero, ← Nat.add_mul]; exact Nat.mul_le_mul_right _ (by omega)
    have hst := run_storeCells_at P g (q * sz) E (Builtin.zeroCells z.cells m).toList 0 cur w hb.look.2 hfit hone
    simp only [Nat.add_zero] at hst
    have hmm : ∃ m', m = m' + 1 := ⟨m - 1, by omega⟩
    obtain ⟨m', rfl⟩ := hmm
    refine ⟨w.setRow g (cur.toList.take (q * sz) ++ (Builtin.zeroCells z.cells (m' + 1)).toList ++ cur.toList.drop (q * sz + (Builtin.zeroCells z.cells (m' + 1)).toList.length)).toArray, .tuple #[], by simp [Builtin.clear_, run_underlying hT, zeroValue, typeInfo, hi, hz, hst], ?_⟩
    have := SL_mk (xs := xs.take q) (cf := cf) (sz := sz) (cap := cap) (hb.setRow (c' := (cur.toList.take (q * sz) ++ (Builtin.zeroCells z.cells (m' + 1)).toList ++ cur.toList.drop (q * sz + (Builtin.zeroCells z.cells (m' + 1)).toList.length)).toArray)) (by omega) hcm ?_ ?_
    · rw [hql] at this; exact this
    · have hcl : cur.toList.length = cap * sz := by simpa using hcs
      simp only [List.size_toArray, List.length_append, List.length_take, List.length_drop, hcl, hzl, Nat.min_def]
      have := Nat.mul_le_mul_right sz (show q ≤ cap by omega)
      have h3 := Nat.mul_le_mul_right sz (show q + (m' + 1) ≤ cap by omega)
      rw [Nat.add_mul] at h3
      rw [if_pos this]; omega
    · rw [hql, List.append_assoc, List.take_append_of_le_length]
      · rw [List.take_take, Nat.min_self]; exact hqt
      · have hcl : cur.toList.length = cap * sz := by simpa using hcs
        rw [List.length_take, hcl, Nat.min_eq_left (Nat.mul_le_mul_right _ (by omega))]; exact Nat.le_refl _
end
end WB
namespace WB
open Go Go.RowKit
theorem St.swapQ {w0 w : World} {A B : HP} {R R' : List HP} (h : St w0 (A :: R) w) (hq : Pick R B R') : St w0 (A :: B :: R') w := by
  have := h.pick (.tail hq)
  exact this.pick (.tail .head)
theorem St.drop2 {w0 w : World} {A B : HP} {R : List HP} (h : St w0 (A :: B :: R) w) : St w0 (A :: R) w := (h.pick (.tail .head)).drop
end WB
