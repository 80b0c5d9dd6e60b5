import Derived.Great.BuildSlice
import Derived.WideLaws
import Derived.Stop.Asserts
import Derived.Lib.ItoaLen
import Derived.Lib.Join
import Derived.ProofKit
import Derived.OpenShut
import Derived.Deep.DeepHandedRow
import Derived.Deep.Slices
import Derived.Lay
import Derived.LaidHandle
import Derived.Lib.LaidTab
import Derived.Test.YtjhogocabcdjbabGreatDoorB0
set_option linter.unusedSimpArgs false
set_option linter.unusedVariables false
/- the steps of the calculus: slices that grow and shrink -/
namespace WB
open Go Go.RowKit
section
variable {P : Program} {ops : Array Oper} {d : Bool} {Q : Exit → Act → World → Prop} {n : Nat} {D : List Deferred} {w0 : World} {G : Env} {L R N : List HP} {l : List (Kd × Oper)} {k : Kd}
  {t : Nat} {op : Op} {ty T T' E : TypeId} {pos : String} {af : Array Edge} {x y z : Operand} {v u : Value} {i j : Nat} {a c r : Int} {α : Type} {cf : α → List Value} {sz : Nat} {xs ys : List α} {e : α}
theorem KO.wv (hk : (!d || k == .write) = true) (hr : ∀ a w, Knows n D G a → St w0 L w → ∃ w', (execOp a.eval ⟨some t, op, ty, pos, af, none⟩).run P w = .ok (.value v) w' ∧ St w0 N w') (ht : Nat.blt t n = true)
    (h : KO P ops d Q n D w0 ((t, v) :: G) N l) : KO P ops d Q n D w0 G L ((k, ⟨some t, op, ty, pos, af, none⟩) :: l) := fun a w ha hw => by
  obtain ⟨w', hr, hs⟩ := hr a w ha hw
  refine vcG_write hk rfl ?_
  unfold Oper.wp
  rw [hr]
  exact h _ w' (put_dst ha _ ht) hs
theorem KO.wn (hk : (!d || k == .write) = true) (hr : ∀ a w, Knows n D G a → St w0 L w → ∃ w' u, (execOp a.eval ⟨none, op, ty, pos, af, none⟩).run P w = .ok (.value u) w' ∧ St w0 N w')
    (h : KO P ops d Q n D w0 G N l) : KO P ops d Q n D w0 G L ((k, ⟨none, op, ty, pos, af, none⟩) :: l) := fun a w ha hw => by
  obtain ⟨w', u, hr, hs⟩ := hr a w ha hw
  refine vcG_write hk rfl ?_
  unfold Oper.wp
  rw [hr]
  exact h _ w' ha hs
/-- the value is some value of which the parts tell -/
theorem KO.wvE (hk : (!d || k == .write) = true) {F : Value → List HP} (hr : ∀ a w, Knows n D G a → St w0 L w → ∃ v w', (execOp a.eval ⟨some t, op, ty, pos, af, none⟩).run P w = .ok (.value v) w' ∧ St w0 (F v) w') (ht : Nat.blt t n = true)
    (h : ∀ v, KO P ops d Q n D w0 ((t, v) :: G) (F v) l) : KO P ops d Q n D w0 G L ((k, ⟨some t, op, ty, pos, af, none⟩) :: l) := fun a w ha hw => by
  obtain ⟨v, w', hr, hs⟩ := hr a w ha hw
  refine vcG_write hk rfl ?_
  unfold Oper.wp
  rw [hr]
  exact h v _ w' (put_dst ha _ ht) hs
/-! cuts of slices -/
theorem run_cut {w : World} {bs : Option Addr} {len cap lo hi mx : Nat} {l h m : Option Value} (hT : P.underlying T = some (.slice E)) (hs : (Go.sizeOf E).run P w = .ok sz w)
    (hm : match m with | none => mx = cap | some v => v = .int .i64 (mx : Nat)) (hh : match h with | none => hi = len ∧ m = none | some v => v = .int .i64 (hi : Nat)) (hl : match l with | none => lo = 0 | some v => v = .int .i64 (lo : Nat))
    (h1 : lo ≤ hi) (h2 : hi ≤ mx) (h3 : mx ≤ cap) :
    (Instr.sliceAt T (.slice bs len cap) l h m).run P w = .ok (.slice (if mx = lo then bs else bs.map (·.add (lo * sz))) (hi - lo) (mx - lo)) w := by
  have e1 : ∀ (i y : Nat) (code : BoundsCode), i ≤ y → (Instr.sliceBound (.int .i64 (i : Nat)) y code).run P w = .ok i w := fun i y code h => by
    simp [Instr.sliceBound, asIntOf, h]
  cases m with
  | none =>
    cases h with
    | none =>
      obtain ⟨rfl, _⟩ := hh
      cases l with
      | none => simp only at hm hl; subst hm; subst hl; simp [Instr.sliceAt, run_underlying hT, Instr.slice, Instr.sliceBounds, hs]
      | some v => simp only at hm hl; subst hm; subst hl; simp [Instr.sliceAt, run_underlying hT, Instr.slice, Instr.sliceBounds, hs, e1 _ _ _ h1]
    | some v =>
      simp only at hh; subst hh
      cases l with
      | none => simp only at hm hl; subst hm; subst hl; simp [Instr.sliceAt, run_underlying hT, Instr.slice, Instr.sliceBounds, hs, e1 _ _ _ h2]
      | some v => simp only at hm hl; subst hm; subst hl; simp [Instr.sliceAt, run_underlying hT, Instr.slice, Instr.sliceBounds, hs, e1 _ _ _ h1, e1 _ _ _ h2]
  | some vm =>
    simp only at hm; subst hm
    cases h with
    | none => simp at hh
    | some v =>
      simp only at hh; subst hh
      cases l with
      | none => simp only at hl; subst hl; simp [Instr.sliceAt, run_underlying hT, Instr.slice, Instr.sliceBounds, hs, e1 _ _ _ h2, e1 _ _ _ h3]
      | some v => simp only at hl; subst hl; simp [Instr.sliceAt, run_underlying hT, Instr.slice, Instr.sliceBounds, hs, e1 _ _ _ h1, e1 _ _ _ h2, e1 _ _ _ h3]
def cutAt (g : Nat) (lo sz mx : Nat) : Addr := ⟨g, if mx = lo then 0 else lo * sz, none⟩
theorem cutAt_eq (g lo sz mx : Nat) : (if mx = lo then (some ⟨g, 0, none⟩ : Option Addr) else (some (⟨g, 0, none⟩ : Addr)).map (·.add (lo * sz))) = some (cutAt g lo sz mx) := by
  unfold cutAt
  by_cases h : mx = lo
  · simp [h]
  · simp [h, Addr.add_lit]
/-- s[:hi] -/
theorem KO.cutTo {bs : Option Addr} {len cap hi : Nat} (hx : ev G x = some (.slice bs len cap)) (hy : ev G y = some (.int .i64 c)) (hT : P.underlying T = some (.slice E)) (hs : ∀ w, (Go.sizeOf E).run P w = .ok sz w) (hc : c = (hi : Int)) (h2 : hi ≤ cap) (ht : Nat.blt t n = true)
    (h : KO P ops d Q n D w0 ((t, .slice bs hi cap) :: G) L l) : KO P ops d Q n D w0 G L ((k, ⟨some t, .slice T x none (some y) none, ty, pos, af, none⟩) :: l) :=
  KO.val (fun a w ha => by
    subst hc
    have := run_cut (P := P) (w := w) (bs := bs) (len := len) (cap := cap) (lo := 0) (hi := hi) (mx := cap) (l := none) (h := some (.int .i64 (hi : Nat))) (m := none) hT (hs w) rfl rfl rfl (Nat.zero_le _) h2 (Nat.le_refl _)
    have e : (if cap = 0 then bs else bs.map (·.add (0 * sz))) = bs := by
      split
      · rfl
      · cases bs <;> simp [Addr.add_zero']
    simp only [e, Nat.sub_zero] at this
    simp [execOp, ha.eval hx, ha.eval hy, this]) ht h
/-- s[lo:] -/
theorem KO.cutFrom {g len cap lo : Nat} (hx : ev G x = some (.slice (some ⟨g, 0, none⟩) len cap)) (hy : ev G y = some (.int .i64 c)) (hT : P.underlying T = some (.slice E)) (hs : ∀ w, (Go.sizeOf E).run P w = .ok sz w) (hc : c = (lo : Int)) (h1 : lo ≤ len) (h2 : len ≤ cap) (ht : Nat.blt t n = true)
    (h : KO P ops d Q n D w0 ((t, .slice (some (cutAt g lo sz cap)) (len - lo) (cap - lo)) :: G) L l) : KO P ops d Q n D w0 G L ((k, ⟨some t, .slice T x (some y) none none, ty, pos, af, none⟩) :: l) :=
  KO.val (fun a w ha => by
    subst hc
    have := run_cut (P := P) (w := w) (bs := some ⟨g, 0, none⟩) (len := len) (cap := cap) (lo := lo) (hi := len) (mx := cap) (l := some (.int .i64 (lo : Nat))) (h := none) (m := none) hT (hs w) rfl ⟨rfl, rfl⟩ rfl h1 h2 (Nat.le_refl _)
    rw [cutAt_eq] at this
    simp [execOp, ha.eval hx, ha.eval hy, this]) ht h
/-- s[lo:hi] -/
theorem KO.cutMid {g len cap lo hi : Nat} {b : Int} (hx : ev G x = some (.slice (some ⟨g, 0, none⟩) len cap)) (hy : ev G y = some (.int .i64 c)) (hz : ev G z = some (.int .i64 b)) (hT : P.underlying T = some (.slice E)) (hs : ∀ w, (Go.sizeOf E).run P w = .ok sz w) (hc : c = (lo : Int)) (hb : b = (hi : Int)) (h1 : lo ≤ hi) (h2 : hi ≤ cap) (ht : Nat.blt t n = true)
    (h : KO P ops d Q n D w0 ((t, .slice (some (cutAt g lo sz cap)) (hi - lo) (cap - lo)) :: G) L l) : KO P ops d Q n D w0 G L ((k, ⟨some t, .slice T x (some y) (some z) none, ty, pos, af, none⟩) :: l) :=
  KO.val (fun a w ha => by
    subst hc; subst hb
    have := run_cut (P := P) (w := w) (bs := some ⟨g, 0, none⟩) (len := len) (cap := cap) (lo := lo) (hi := hi) (mx := cap) (l := some (.int .i64 (lo : Nat))) (h := some (.int .i64 (hi : Nat))) (m := none) hT (hs w) rfl rfl rfl h1 h2 (Nat.le_refl _)
    rw [cutAt_eq] at this
    simp [execOp, ha.eval hx, ha.eval hy, ha.eval hz, this]) ht h
/-- s[lo:hi:mx], of which nothing is told but that it is -/
theorem KO.cutAny {u : Operand} {bs : Option Addr} {len cap lo hi mx : Nat} {b m : Int} (hx : ev G x = some (.slice bs len cap)) (hy : ev G y = some (.int .i64 c)) (hz : ev G z = some (.int .i64 b)) (hu : ev G u = some (.int .i64 m)) (hT : P.underlying T = some (.slice E)) (hs : ∀ w, (Go.sizeOf E).run P w = .ok sz w) (hc : c = (lo : Int)) (hb : b = (hi : Int)) (hm : m = (mx : Int))
    (h1 : lo ≤ hi) (h2 : hi ≤ mx) (h3 : mx ≤ cap) (ht : Nat.blt t n = true)
    (h : ∀ q, KO P ops d Q n D w0 ((t, .slice q (hi - lo) (mx - lo)) :: G) L l) : KO P ops d Q n D w0 G L ((k, ⟨some t, .slice T x (some y) (some z) (some u), ty, pos, af, none⟩) :: l) :=
  KO.val (v := .slice (if mx = lo then bs else bs.map (·.add (lo * sz))) (hi - lo) (mx - lo)) (fun a w ha => by
    subst hc; subst hb; subst hm
    have := run_cut (P := P) (w := w) (bs := bs) (len := len) (cap := cap) (lo := lo) (hi := hi) (mx := mx) (l := some (.int .i64 (lo : Nat))) (h := some (.int .i64 (hi : Nat))) (m := some (.int .i64 (mx : Nat))) hT (hs w) rfl rfl rfl h1 h2 h3
    simp [execOp, ha.eval hx, ha.eval hy, ha.eval hz, ha.eval hu, this]) ht (h _)
end
/-! what is moved and cleared within a slice -/
theorem flat_one {α : Type} {cf : α → List Value} (h1 : ∀ e, ∀ u ∈ cf e, u.oneCell' = true) (xs : List α) : ∀ u ∈ xs.flatMap cf, u.oneCell' = true := fun u hu => by
  obtain ⟨e, _, hu⟩ := List.mem_flatMap.1 hu
  exact h1 e u hu
section
variable {P : Program} {w0 w : World} {L : List HP} {E T ty : TypeId} {α : Type} {cf : α → List Value} {sz g cap n : Nat} {xs : List α}
theorem SL_open (h : St w0 (SL E sz cf (.slice (some ⟨g, 0, none⟩) n cap) xs :: L) w) : n = xs.length ∧ n ≤ cap ∧ cap ≤ maxLen ∧ ∃ cur : Array Value, cur.size = cap * sz ∧ cur.toList.take (xs.length * sz) = xs.flatMap cf ∧ St w0 (blk g (.cells cur E (0, 0)) :: L) w := by
  rcases h.osl_cases with ⟨h1, _⟩ | ⟨g', cap', cur, hv, h1, h2, h3, h4, _, h5⟩
  · simp at h1
  · simp only [Value.slice.injEq, Option.some.injEq, Addr.mk.injEq, and_true, true_and] at hv
    obtain ⟨rfl, rfl, rfl⟩ := hv
    exact ⟨rfl, h1, h2, cur, h3, h4, h5⟩
theorem SL_mk {cur : Array Value} (h : St w0 (blk g (.cells cur E (0, 0)) :: L) w) (hn : xs.length ≤ cap) (hc : cap ≤ maxLen) (hs : cur.size = cap * sz) (ht : cur.toList.take (xs.length * sz) = xs.flatMap cf) :
    St w0 (SL E sz cf (.slice (some ⟨g, 0, none⟩) xs.length cap) xs :: L) w := h.osl_mk hn hc hs ht
/-- append(s[:k], s[j:]...) in place -/
theorem SL_move (hsz : ∀ e, (cf e).length = sz) (h1 : ∀ e, ∀ u ∈ cf e, u.oneCell' = true) {i : TypeInfo} (hT : P.underlying T = some (.slice E)) (hi : P.info? E = some i) (hisz : i.size = sz)
    {n j k c o : Nat} (h : St w0 (SL E sz cf (.slice (some ⟨g, 0, none⟩) n cap) xs :: L) w) (hk : k ≤ j) (hj : j ≤ xs.length) (ho : xs.length - j = 0 ∨ o = j * sz) :
    ∃ w', (Builtin.append_ #[T, T] ty #[.slice (some ⟨g, 0, none⟩) k cap, .slice (some ⟨g, o, none⟩) (xs.length - j) c]).run P w = .ok (.slice (some ⟨g, 0, none⟩) (k + (xs.length - j)) cap) w' ∧
      St w0 (SL E sz cf (.slice (some ⟨g, 0, none⟩) xs.length cap) (xs.take k ++ xs.drop j ++ xs.drop (k + (xs.length - j))) :: L) w' := by
  obtain ⟨rfl, hnc, hcm, cur, hcs, htake, hb⟩ := SL_open h
  subst hisz
  have hfl : ∀ l : List α, (l.flatMap cf).length = l.length * i.size := flat_len cf i.size hsz
  have hcl : cur.toList.length = cap * i.size := by simpa using hcs
  have hcell : ∀ (q : Nat) (u : Value), (xs.flatMap cf)[q]? = some u → cur[q]? = some u := fun q u hq => by
    rw [← htake, List.getElem?_take] at hq
    split at hq
    · simpa using hq
    · simp at hq
  have hnews : ∀ (q : Nat) (u : Value), ((xs.drop j).flatMap cf)[q]? = some u → w.cell? ((⟨g, o, none⟩ : Addr).add q) = some u := fun q u hq => by
    have hlt := (List.getElem?_eq_some_iff.1 hq).1
    rw [hfl, List.length_drop] at hlt
    rcases ho with ho | ho
    · rw [ho, Nat.zero_mul] at hlt; omega
    · rw [← flat_drop cf i.size hsz xs j hj, List.getElem?_drop] at hq
      rw [Addr.add_lit, World.cell?, hb.look.2, ho]
      exact hcell _ u hq
  have hle : (k + (xs.length - j)) * i.size ≤ cap * i.size := Nat.mul_le_mul_right _ (by omega)
  have hr := run_append_room (P := P) w T ty E i hT hi g k cap cur hb.look.2 ⟨g, o, none⟩ (xs.length - j) c ((xs.drop j).flatMap cf) (by rw [hfl, List.length_drop]) hnews (flat_one h1 _) (by omega)
    (by rw [hfl, List.length_drop, ← Nat.add_mul, hcs]; exact hle)
  refine ⟨_, hr, ?_⟩
  have e1 : (xs.take k ++ xs.drop j ++ xs.drop (k + (xs.length - j))).length = xs.length := by simp; omega
  have hset := hb.setRow (c' := (cur.toList.take (k * i.size) ++ (xs.drop j).flatMap cf ++ cur.toList.drop (k * i.size + ((xs.drop j).flatMap cf).length)).toArray)
  have := SL_mk (xs := xs.take k ++ xs.drop j ++ xs.drop (k + (xs.length - j))) (cf := cf) (sz := i.size) (cap := cap) hset (by omega) hcm ?_ ?_
  · rw [e1] at this; exact this
  · simp only [List.size_toArray, List.length_append, List.length_take, List.length_drop, hfl, hcl, Nat.min_def]
    have := Nat.mul_le_mul_right i.size (show k ≤ cap by omega)
    rw [if_pos this, ← Nat.add_mul]; omega
  · rw [e1]
    simp only [List.flatMap_append, hfl, List.length_drop]
    have hk1 : cur.toList.take (k * i.size) = (xs.take k).flatMap cf := by
      rw [← flat_take cf i.size hsz xs k (by omega), ← htake, List.take_take, Nat.min_eq_left (Nat.mul_le_mul_right _ (by omega))]
    rw [hk1, ← flat_drop cf i.size hsz xs (k + (xs.length - j)) (by omega), ← htake]
    have hlA : ((xs.take k).flatMap cf ++ (xs.drop j).flatMap cf).length = (k + (xs.length - j)) * i.size := by
      rw [List.length_append, hfl, hfl, List.length_take, List.length_drop, Nat.min_eq_left (by omega), Nat.add_mul]
    rw [List.take_append, hlA, List.take_of_length_le (by rw [hlA]; exact Nat.mul_le_mul_right _ (by omega))]
    congr 1
    rw [← Nat.add_mul, List.take_drop, show (k + (xs.length - j)) * i.size + (xs.length * i.size - (k + (xs.length - j)) * i.size) = xs.length * i.size by
      have := Nat.mul_le_mul_right i.size (show k + (xs.length - j) ≤ xs.length by omega); omega]
/-- clear(s[i:..]), of what the slice bears no more -/
theorem SL_clear (hsz : ∀ e, (cf e).length = sz) {i : TypeInfo} {z : Value} (hT : P.underlying T = some (.slice E)) (hi : P.info? E = some i) (hz : i.zero = some z) (hz1 : ∀ u ∈ z.cells.toList, u.oneCell' = true) (hzs : z.cells.size = sz)
    {n m c o q : Nat} (h : St w0 (SL E sz cf (.slice (some ⟨g, 0, none⟩) n cap) xs :: L) w) (hq : q + m ≤ xs.length) (ho : m = 0 ∨ o = q * sz) :
    ∃ w' u, (Builtin.clear_ #[T] ty #[.slice (some ⟨g, o, none⟩) m c]).run P w = .ok u w' ∧ St w0 (SL E sz cf (.slice (some ⟨g, 0, none⟩) q cap) (xs.take q) :: L) w' := by
  obtain ⟨rfl, hnc, hcm, cur, hcs, htake, hb⟩ := SL_open h
  have hql : (xs.take q).length = q := by simp; omega
  have hqt : cur.toList.take (q * sz) = (xs.take q).flatMap cf := by
    rw [← flat_take cf sz hsz xs q (by omega), ← htake, List.take_take, Nat.min_eq_left (Nat.mul_le_mul_right _ (by omega))]
  by_cases hm : m = 0
  · subst hm
    refine ⟨w, .tuple #[], by simp [Builtin.clear_, run_underlying hT], ?_⟩
    have := SL_mk (xs := xs.take q) (cf := cf) (sz := sz) (cap := cap) hb (by omega) hcm hcs (by rw [hql]; exact hqt)
    rw [hql] at this; exact this
  · have ho := ho.resolve_left hm
    subst ho
    have hzl : (Builtin.zeroCells z.cells m).toList.length = m * sz := by simp [size_zeroCells, hzs]
    have hone : ∀ u ∈ (Builtin.zeroCells z.cells m).toList, u.oneCell' = true := fun u hu => by
      simp only [Builtin.zeroCells, Array.toList_map, List.mem_map] at hu
      obtain ⟨j, hj, rfl⟩ := hu
      have hp : 0 < z.cells.size := by
        rcases Nat.eq_zero_or_pos z.cells.size with h0 | h0
        · simp [h0] at hj
        · exact h0
      have : j % z.cells.size < z.cells.size := Nat.mod_lt _ hp
      rw [getElem!_pos z.cells _ this]
      exact hz1 _ (Array.mem_toList_iff.2 (Array.getElem_mem this))
    have hfit : q * sz + 0 + (Builtin.zeroCells z.cells m).toList.length ≤ cur.size := by
      rw [hzl, hcs, Nat.add_zero, ← Nat.add_mul]; exact Nat.mul_le_mul_right _ (by omega)
    have hst := run_storeCells_at P g (q * sz) E (Builtin.zeroCells z.cells m).toList 0 cur w hb.look.2 hfit hone
    simp only [Nat.add_zero] at hst
    have hmm : ∃ m', m = m' + 1 := ⟨m - 1, by omega⟩
    obtain ⟨m', rfl⟩ := hmm
    refine ⟨w.setRow g (cur.toList.take (q * sz) ++ (Builtin.zeroCells z.cells (m' + 1)).toList ++ cur.toList.drop (q * sz + (Builtin.zeroCells z.cells (m' + 1)).toList.length)).toArray, .tuple #[], by simp [Builtin.clear_, run_underlying hT, zeroValue, typeInfo, hi, hz, hst], ?_⟩
    have := SL_mk (xs := xs.take q) (cf := cf) (sz := sz) (cap := cap) (hb.setRow (c' := (cur.toList.take (q * sz) ++ (Builtin.zeroCells z.cells (m' + 1)).toList ++ cur.toList.drop (q * sz + (Builtin.zeroCells z.cells (m' + 1)).toList.length)).toArray)) (by omega) hcm ?_ ?_
    · rw [hql] at this; exact this
    · have hcl : cur.toList.length = cap * sz := by simpa using hcs
      simp only [List.size_toArray, List.length_append, List.length_take, List.length_drop, hcl, hzl, Nat.min_def]
      have := Nat.mul_le_mul_right sz (show q ≤ cap by omega)
      have h3 := Nat.mul_le_mul_right sz (show q + (m' + 1) ≤ cap by omega)
      rw [Nat.add_mul] at h3
      rw [if_pos this]; omega
    · rw [hql, List.append_assoc, List.take_append_of_le_length]
      · rw [List.take_take, Nat.min_self]; exact hqt
      · have hcl : cur.toList.length = cap * sz := by simpa using hcs
        rw [List.length_take, hcl, Nat.min_eq_left (Nat.mul_le_mul_right _ (by omega))]; exact Nat.le_refl _
end
end WB
namespace WB
open Go Go.RowKit
theorem St.swapQ {w0 w : World} {A B : HP} {R R' : List HP} (h : St w0 (A :: R) w) (hq : Pick R B R') : St w0 (A :: B :: R') w := by
  have := h.pick (.tail hq)
  exact this.pick (.tail .head)
theorem St.drop2 {w0 w : World} {A B : HP} {R : List HP} (h : St w0 (A :: B :: R) w) : St w0 (A :: R) w := (h.pick (.tail .head)).drop
end WB
/- the steps of the calculus: what grows, what is moved, elements written -/
namespace WB
open Go Go.RowKit
section
variable {P : Program} {ops : Array Oper} {d : Bool} {Q : Exit → Act → World → Prop} {n : Nat} {D : List Deferred} {w0 : World} {G : Env} {L R R' N : List HP} {l : List (Kd × Oper)} {k : Kd}
  {t : Nat} {op : Op} {ty T T' E E' : TypeId} {pos : String} {af : Array Edge} {x y : Operand} {v u z : Value} {i j : Nat} {a c r : Int} {α : Type} {cf : α → List Value} {sz by' : Nat} {xs ys : List α} {e e' : α}
theorem KO.bs (hk : (!d || (k == .keep || k == .write)) = true) {len : Nat} {parts : Array (Nat × Operand)} (os : List Operand) {vs cs : List Value} (hp : parts.toList = (os.zipIdx 0).map fun x => (x.2, x.1)) (hv : evs G os = some vs) (hT : P.underlying T = some (.slice E))
    (hi : (P.info? E).map (fun i => (i.zero, i.size, i.bytes)) = some (some z, sz, by')) (hsz : vs.all (fun v => v.cells.size == sz) = true) (hlen : vs.length = len) (hs : ¬ len * sz > 2 ^ 24) (hpos : ¬ len * sz = 0) (hcs : (vs.flatMap fun v => v.cells.toList) = cs) (ht : Nat.blt t n = true)
    (h : ∀ bb, KO P ops d Q n D w0 ((t, .slice (some ⟨bb, 0, none⟩) len len) :: G) (blk bb (.cells cs.toArray E (0, 0)) :: L) l) : KO P ops d Q n D w0 G L ((k, ⟨some t, .buildSlice T len parts, ty, pos, af, none⟩) :: l) := by
  obtain ⟨i0, hi1, hz0, hz1, _⟩ := info_parts hi
  refine KO.keepRun hk (F := fun bb => .slice (some ⟨bb, 0, none⟩) len len) (N := fun bb => blk bb (.cells cs.toArray E (0, 0)) :: L) (fun a w ha hw => ⟨w.heap.size, w.alloc (.cells cs.toArray E), ?_, Ext.alloc w _, hw.alloc _⟩) ht h
  have hparts : (parts.map fun (i, x) => (i, a.eval x)).toList = (vs.zipIdx 0).map fun x => (x.2, x.1) := by
    have key : ∀ (os : List Operand) (vs : List Value) (q : Nat), os.map (ev G) = vs.map some → ((os.zipIdx q).map fun x => (x.2, x.1)).map (fun (p : Nat × Operand) => (p.1, a.eval p.2)) = (vs.zipIdx q).map fun x => (x.2, x.1) := by
      intro os
      induction os with
      | nil => intro vs q h; cases vs with | nil => rfl | cons _ _ => simp at h
      | cons o os ih => intro vs q h; cases vs with
        | nil => simp at h
        | cons v vs =>
          simp only [List.map_cons, List.cons.injEq] at h
          simp only [List.zipIdx_cons, List.map_cons, ha.eval h.1]
          rw [ih vs (q + 1) h.2]
    rw [Array.toList_map, hp]
    exact key os vs 0 (evs_map hv)
  have hsp : 0 < sz := Nat.pos_of_ne_zero fun e => hpos (by rw [e, Nat.mul_zero])
  have hf := Great.fill_whole hsp vs ((Array.range (len * sz)).map (z.cells[· % z.cells.size]!)) (fun v hv => by simpa using List.all_eq_true.1 hsz v hv) (by simp [hlen])
  rw [← hz1] at hf hs hpos
  have hr := run_buildSlice (P := P) w T E len (parts.map fun (i, x) => (i, a.eval x)) _ i0 z hT hi1 hz0 hs hpos (by rw [hparts]; exact hf)
  simp only [hcs] at hr
  simp only [execOp, hr, Sem.run_bind, Sem.run_pure, Result.andThen_ok]
/-- append of one element -/
theorem KO.app (hk : (!d || k == .write) = true) {bv cp : Nat} {us : List Value} (hx : ev G x = some v) (hy : ev G y = some (.slice (some ⟨bv, 0, none⟩) 1 cp)) (hp : Pick L (SL E sz cf v xs) R) (hq : Pick R (blk bv (.cells us.toArray E' (0, 0))) R')
    (hT : P.underlying T = some (.slice E)) (hi : (P.info? E).map (fun i => (i.zero, i.size, i.bytes)) = some (some z, sz, by')) (hzs : z.cells.size = sz) (e : α) (he : cf e = us) (hus : us.length = sz) (h1 : us.all Value.oneCell' = true) (hb : xs.length < 1000000000) (hby : by' ≤ 10000) (ht : Nat.blt t n = true)
    (h : ∀ v', KO P ops d Q n D w0 ((t, v') :: G) (SL E sz cf v' (xs ++ [e]) :: R') l) : KO P ops d Q n D w0 G L ((k, ⟨some t, .call ⟨.builtin .append, #[x, y], #[T, T]⟩, ty, pos, af, none⟩) :: l) := by
  obtain ⟨i0, hi1, hz0, hz1, hz2⟩ := info_parts hi
  refine KO.wvE hk (F := fun v' => SL E sz cf v' (xs ++ [e]) :: R') (fun a w ha hw => ?_) ht h
  have hs := hw.pick hp

  have hcells : HasCells w ⟨bv, 0, none⟩ us := by
    have := hs.drop.pick hq
    exact this.hasCells fun j c hj => by simpa using hj
  have hbb : (xs.length + 1) * by' ≤ 140737488355328 := by
    have := Nat.mul_le_mul (show xs.length + 1 ≤ 1000000000 by omega) hby; omega
  obtain ⟨v', w', hr, hst⟩ := append_st (P := P) T ty E i0 z sz by' hT hi1 hz0 hz1 hz2 hzs hs ⟨bv, 0, none⟩ 1 cp us (by rw [hus, Nat.one_mul]) hcells (fun u hu => List.all_eq_true.1 h1 u hu) (by unfold maxLen; omega) hbb
  refine ⟨v', w', exec_append2 x y T T rfl v _ (ha.eval hx) (ha.eval hy) hr, ?_⟩
  have hfin := (hst.swapQ hq).drop2
  show St w0 (osl E sz v' (xs ++ [e]).length ((xs ++ [e]).flatMap cf) :: R') w'
  rw [show (xs ++ [e]).length = xs.length + 1 by simp, show (xs ++ [e]).flatMap cf = xs.flatMap cf ++ us by simp [he]]
  exact hfin
/-- append(s[:k], s[j:]...) -/
theorem KO.move (hk : (!d || k == .write) = true) {g n' cap kk c : Nat} (hx : ev G x = some (.slice (some ⟨g, 0, none⟩) kk cap)) (hy : ev G y = some (.slice (some (cutAt g j sz cap)) (n' - j) c)) (hp : Pick L (SL E sz cf (.slice (some ⟨g, 0, none⟩) n' cap) xs) R) (hn : n' = xs.length) (hnc : n' ≤ cap)
    (hT : P.underlying T = some (.slice E)) (hi : (P.info? E).map (fun i => (i.zero, i.size, i.bytes)) = some (some z, sz, by')) (hsz : ∀ e, (cf e).length = sz) (h1 : ∀ e, (cf e).all Value.oneCell' = true) (hkj : kk ≤ j) (hj : j ≤ xs.length) (ht : Nat.blt t n = true)
    (h : KO P ops d Q n D w0 ((t, .slice (some ⟨g, 0, none⟩) (kk + (n' - j)) cap) :: G) (SL E sz cf (.slice (some ⟨g, 0, none⟩) n' cap) (xs.take kk ++ xs.drop j ++ xs.drop (kk + (n' - j))) :: R) l) :
    KO P ops d Q n D w0 G L ((k, ⟨some t, .call ⟨.builtin .append, #[x, y], #[T, T]⟩, ty, pos, af, none⟩) :: l) := by
  obtain ⟨i0, hi1, hz0, hz1, _⟩ := info_parts hi
  subst hn
  refine KO.wv hk (fun a w ha hw => ?_) ht h
  obtain ⟨w', hr, hs⟩ := SL_move (P := P) (ty := ty) hsz (fun e u hu => List.all_eq_true.1 (h1 e) u hu) hT hi1 hz1 (c := c) (o := (cutAt g j sz cap).off) (hw.pick hp) hkj hj (by
    by_cases hc : cap = j
    · left; omega
    · right; simp [cutAt, hc])
  exact ⟨w', exec_append2 x y T T rfl _ _ (ha.eval hx) (ha.eval hy) hr, hs⟩
/-- clear(s[q:]) -/
theorem KO.clear (hk : (!d || k == .write) = true) {g n' cap q m c : Nat} (hx : ev G x = some (.slice (some (cutAt g q sz cap)) m c)) (hp : Pick L (SL E sz cf (.slice (some ⟨g, 0, none⟩) n' cap) xs) R) (hnc : n' ≤ cap) (hn : n' = xs.length) (hq : q + m ≤ xs.length)
    (hT : P.underlying T = some (.slice E)) (hi : (P.info? E).map (fun i => (i.zero, i.size, i.bytes)) = some (some z, sz, by')) (hsz : ∀ e, (cf e).length = sz) (hz1 : z.cells.toList.all Value.oneCell' = true) (hzs : z.cells.size = sz)
    (h : KO P ops d Q n D w0 G (SL E sz cf (.slice (some ⟨g, 0, none⟩) q cap) (xs.take q) :: R) l) :
    KO P ops d Q n D w0 G L ((k, ⟨none, .call ⟨.builtin .clear, #[x], #[T]⟩, ty, pos, af, none⟩) :: l) := by
  obtain ⟨i0, hi1, hz0, _, _⟩ := info_parts hi
  refine KO.wn hk (fun a w ha hw => ?_) h
  obtain ⟨w', u, hr, hs⟩ := SL_clear (P := P) (ty := ty) hsz hT hi1 hz0 (fun u hu => List.all_eq_true.1 hz1 u hu) hzs (m := m) (c := c) (o := (cutAt g q sz cap).off) (hw.pick hp) hq (by
    by_cases hc : cap = q
    · left; omega
    · right; simp [cutAt, hc])
  refine ⟨w', u, ?_, hs⟩
  have e : a.eval x = .slice (some ⟨g, (cutAt g q sz cap).off, none⟩) m c := ha.eval hx
  simp [execOp, resolve, invoke, builtin, e, hr]
theorem SL_set {w : World} {g cap n' : Nat} {us : List Value} {o : Nat} (hsz : ∀ e, (cf e).length = sz) (hw : St w0 (SL E sz cf (.slice (some ⟨g, 0, none⟩) n' cap) xs :: R) w) (he : xs[i]? = some e) (hfit : j + us.length ≤ sz) (hu : putL j us (cf e) = cf e') (ho : o = i * sz + j)
    (hn : (Go.sizeOf T).run P w = .ok us.length w) (h1 : ∀ u ∈ us, u.oneCell' = true) (hv : v.cells = us.toArray) :
    ∃ w', (storeVar T ⟨g, o, none⟩ v).run P w = .ok () w' ∧ St w0 (SL E sz cf (.slice (some ⟨g, 0, none⟩) n' cap) (xs.set i e') :: R) w' := by
  obtain ⟨rfl, hnc, hcm, cur, hcs, htake, hb⟩ := SL_open hw
  have hi := (List.getElem?_eq_some_iff.1 he).1
  have hei := (List.getElem?_eq_some_iff.1 he).2
  have hile : (i + 1) * sz ≤ xs.length * sz := Nat.mul_le_mul_right _ hi
  have hile2 : xs.length * sz ≤ cap * sz := Nat.mul_le_mul_right _ hnc
  rw [Nat.succ_mul] at hile
  have hcl : cur.toList.length = cap * sz := by simpa using hcs
  have hst := run_store_row (P := P) (T := T) (off := o) (v := v) hb (by simpa [hv] using hn) (by simp [hv, hcs]; omega) (by simpa [hv] using h1)
  simp only [hv] at hst
  refine ⟨_, hst, ?_⟩
  have hlen : (xs.set i e').length = xs.length := by simp
  have := SL_mk (xs := xs.set i e') (cf := cf) (sz := sz) (cap := cap) (hb.setRow (c' := (cur.toList.take o ++ us ++ cur.toList.drop (o + us.length)).toArray)) (by omega) hcm ?_ ?_
  · rw [hlen] at this; exact this
  · simp only [List.size_toArray, List.length_append, List.length_take, List.length_drop, hcl, Nat.min_def]
    rw [if_pos (by omega)]; omega
  · rw [hlen]
    have hset : (xs.set i e').flatMap cf = (xs.take i).flatMap cf ++ cf e' ++ (xs.drop (i + 1)).flatMap cf := by
      rw [List.set_eq_take_append_cons_drop, if_pos hi]; simp
    have hold : xs.flatMap cf = (xs.take i).flatMap cf ++ cf e ++ (xs.drop (i + 1)).flatMap cf := by
      have hsplit : xs = xs.take i ++ e :: xs.drop (i + 1) := by
        rw [← hei, List.getElem_cons_drop, List.take_append_drop]
      conv => lhs; rw [hsplit]
      simp
    have hti : ((xs.take i).flatMap cf).length = i * sz := by rw [flat_len cf sz hsz, List.length_take, Nat.min_eq_left (by omega)]
    rw [hset, ← hu, ← putL_eq j us (cf e) (by rw [hsz]; exact hfit)]
    -- cur's head is the old flat list
    obtain ⟨tl, htl⟩ : ∃ tl, cur.toList = xs.flatMap cf ++ tl := ⟨cur.toList.drop (xs.length * sz), by rw [← htake, List.take_append_drop]⟩
    rw [htl, hold, ho]
    have hcfe := hsz e
    generalize (xs.take i).flatMap cf = A at hti
    generalize hC : (xs.drop (i + 1)).flatMap cf = C
    have hCl : C.length = (xs.length - (i + 1)) * sz := by rw [← hC, flat_len cf sz hsz, List.length_drop]
    have hsum : i * sz + sz + (xs.length - (i + 1)) * sz = xs.length * sz := by
      have : (i + 1) * sz + (xs.length - (i + 1)) * sz = xs.length * sz := by rw [← Nat.add_mul]; congr 1; omega
      rw [Nat.succ_mul] at this; omega
    generalize cf e = B at hcfe
    clear hst hset hold htl hu hsz htake
    have h1 : (A ++ B ++ C ++ tl).take (i * sz + j) = A ++ B.take j := by
      rw [List.append_assoc, List.append_assoc, ← hti, List.take_length_add_append, List.take_append_of_le_length (by omega)]
    have h2 : (A ++ B ++ C ++ tl).drop (i * sz + j + us.length) = B.drop (j + us.length) ++ C ++ tl := by
      rw [List.append_assoc, List.append_assoc, ← hti, Nat.add_assoc, List.drop_length_add_append, List.drop_append_of_le_length (by omega), List.append_assoc]
    rw [h1, h2]
    have e1 : A ++ List.take j B ++ us ++ (List.drop (j + us.length) B ++ C ++ tl) = (A ++ (List.take j B ++ us ++ List.drop (j + us.length) B) ++ C) ++ tl := by simp
    rw [e1, List.take_append_of_le_length (by simp; omega), List.take_of_length_le (by simp; omega)]
/-- a field of an element is written -/
theorem KO.stE (hk : (!d || k == .write) = true) {g n' cap : Nat} {us : List Value} (hx : ev G x = some (.pointer (some ⟨g, i * sz + j, none⟩))) (hy : ev G y = some v) (hv : v.cells = us.toArray) (hn : ∀ w, (Go.sizeOf T).run P w = .ok us.length w) (h1 : us.all Value.oneCell' = true)
    (hp : Pick L (SL E sz cf (.slice (some ⟨g, 0, none⟩) n' cap) xs) R) (hsz : ∀ e, (cf e).length = sz) (he : xs[i]? = some e) (hfit : Nat.ble (j + us.length) sz = true) (e' : α) (hu : putL j us (cf e) = cf e')
    (h : KO P ops d Q n D w0 G (SL E sz cf (.slice (some ⟨g, 0, none⟩) n' cap) (xs.set i e') :: R) l) : KO P ops d Q n D w0 G L ((k, ⟨none, .store T x y, ty, pos, af, none⟩) :: l) :=
  KO.wrRun hk (fun a w ha hw => by
    obtain ⟨w', hr, hs⟩ := SL_set (P := P) (T := T) (v := v) hsz (hw.pick hp) he (by simpa [Nat.ble_eq] using hfit) hu rfl (hn w) (fun u hu => List.all_eq_true.1 h1 u hu) hv
    exact ⟨w', by simp [execOp, ha.eval hx, ha.eval hy, Instr.storeAt, Instr.sureAddr, hr], hs⟩) h
/-- a whole element is written -/
theorem KO.stEN (hk : (!d || k == .write) = true) {g n' cap : Nat} (hx : ev G x = some (.pointer (some ⟨g, i * sz, none⟩))) (e' : α) (hy : ev G y = some (.agg (cf e').toArray)) (hn : ∀ w, (Go.sizeOf T).run P w = .ok sz w) (h1 : ∀ e, (cf e).all Value.oneCell' = true)
    (hp : Pick L (SL E sz cf (.slice (some ⟨g, 0, none⟩) n' cap) xs) R) (hsz : ∀ e, (cf e).length = sz) (he : xs[i]? = some e)
    (h : KO P ops d Q n D w0 G (SL E sz cf (.slice (some ⟨g, 0, none⟩) n' cap) (xs.set i e') :: R) l) : KO P ops d Q n D w0 G L ((k, ⟨none, .store T x y, ty, pos, af, none⟩) :: l) :=
  KO.wrRun hk (fun a w ha hw => by
    obtain ⟨w', hr, hs⟩ := SL_set (P := P) (T := T) (v := .agg (cf e').toArray) (us := cf e') (o := i * sz) (j := 0) (e' := e') hsz (hw.pick hp) he (by rw [hsz]; omega) (by simp [putL, hsz, List.drop_of_length_le]) rfl (by rw [hsz]; exact hn w) (fun u hu => List.all_eq_true.1 (h1 e') u hu) rfl
    exact ⟨w', by simp [execOp, ha.eval hx, ha.eval hy, Instr.storeAt, Instr.sureAddr, hr], hs⟩) h
end
end WB
namespace WB
open Go Go.RowKit
section
variable {P : Program} {f : FuncId} {args : Array Value} {w0 : World} {L R1 R2 R3 : List HP} {A B C : HP} {R : Value → List HP → Prop}
theorem KC.pk1 (p1 : Pick L A R1) (h : KC P f args w0 (A :: R1) R) : KC P f args w0 L R := fun w hw => h w (hw.pick p1)
theorem St.pick2 {w : World} (hw : St w0 L w) (p1 : Pick L A R1) (p2 : Pick R1 B R2) : St w0 (A :: B :: R2) w := (hw.pick p1).swapQ p2
theorem St.pick3 {w : World} (hw : St w0 L w) (p1 : Pick L A R1) (p2 : Pick R1 B R2) (p3 : Pick R2 C R3) : St w0 (A :: B :: C :: R3) w := by
  have h1 := hw.pick2 p1 p2
  have h2 := h1.pick (.tail (.tail p3))
  exact (h2.pick (.tail .head)).pick (.tail (.tail .head)) |>.pick (.tail .head)
theorem KC.pk2 (p1 : Pick L A R1) (p2 : Pick R1 B R2) (h : KC P f args w0 (A :: B :: R2) R) : KC P f args w0 L R := fun w hw => h w (hw.pick2 p1 p2)
theorem KE.pk1 (p1 : Pick L A R1) (h : KE P f args w0 (A :: R1) R) : KE P f args w0 L R := fun w hw => h w (hw.pick p1)
theorem KE.pk2 (p1 : Pick L A R1) (p2 : Pick R1 B R2) (h : KE P f args w0 (A :: B :: R2) R) : KE P f args w0 L R := fun w hw => h w (hw.pick2 p1 p2)
/-- a contract that keeps what was there: the parts stand as they stood -/
theorem KE.keep {v : Value} (h : KE P f args w0 L (fun u _ => u = v)) : KE P f args w0 L (fun u M => u = v ∧ M = L) := fun w hw =>
  (h w hw).mono fun _ _ ⟨u, _, he, hu, _, hb⟩ => ⟨u, L, he, ⟨hu, rfl⟩, hw.below_step hb, hb⟩
end
section
variable {P : Program} {ops : Array Oper} {d : Bool} {Q : Exit → Act → World → Prop} {n : Nat} {D : List Deferred} {w0 : World} {G : Env} {L R : List HP} {A : HP} {l : List (Kd × Oper)} {k : Kd}
  {t : Nat} {ty T : TypeId} {pos : String} {af : Array Edge} {v : Value} {c : Code} {e : Exit}
theorem K.pk (hp : Pick L A R) (h : K P c Q n D w0 G (A :: R)) : K P c Q n D w0 G L := K.conv (fun _ hw => hw.pick hp) h
theorem KO.pk (hp : Pick L A R) (h : KO P ops d Q n D w0 G (A :: R) l) : KO P ops d Q n D w0 G L l := KO.conv (fun _ hw => hw.pick hp) h
theorem KQ.pk (hp : Pick L A R) (h : KQ Q e n D w0 G (A :: R)) : KQ Q e n D w0 G L := KQ.conv (fun _ hw => hw.pick hp) h
theorem KO.bld {parts : Array (Nat × Operand)} {vs : List Value} (hv : evs G (parts.toList.map (·.2)) = some vs) (hr : ∀ w, (Instr.build T ((parts.toList.map (·.1)).zip vs).toArray).run P w = .ok v w) (ht : Nat.blt t n = true)
    (h : KO P ops d Q n D w0 ((t, v) :: G) L l) : KO P ops d Q n D w0 G L ((k, ⟨some t, .build T parts, ty, pos, af, none⟩) :: l) :=
  KO.val (fun a w ha => by
    have key : ∀ (ps : List (Nat × Operand)) (vs : List Value), (ps.map (·.2)).map (ev G) = vs.map some → ps.map (fun (p : Nat × Operand) => (p.1, a.eval p.2)) = (ps.map (·.1)).zip vs := by
      intro ps
      induction ps with
      | nil => intro vs h; cases vs with | nil => rfl | cons _ _ => simp at h
      | cons p ps ih => intro vs h; cases vs with
        | nil => simp at h
        | cons v vs =>
          simp only [List.map_cons, List.cons.injEq] at h
          simp only [List.map_cons, List.zip_cons_cons, ha.eval h.1, ih vs h.2]
    have e : parts.map (fun (i, x) => (i, a.eval x)) = ((parts.toList.map (·.1)).zip vs).toArray := by
      apply Array.ext'
      rw [Array.toList_map]
      exact key _ _ (evs_map hv)
    simp only [execOp, e, hr w, Sem.run_bind, Sem.run_pure, Result.andThen_ok]) ht h
end
end WB
namespace WB
open Go Go.RowKit
def bldL (pl : List (Nat × Nat)) : List Value → List (Nat × Value) → Option (List Value)
  | cs, [] => some cs
  | cs, (i, v) :: rest => match pl[i]? with
    | some (off, size) => match (Nat.beq v.cells.toList.length size && Nat.ble (off + v.cells.toList.length) cs.length) with | true => bldL pl (putL off v.cells.toList cs) rest | false => none
    | none => none
theorem fill_bldL (pl : List (Nat × Nat)) (place : Nat → Option (Nat × Nat)) (hpl : ∀ i, place i = pl[i]?) : ∀ (parts : List (Nat × Value)) (cs cs' : List Value), bldL pl cs parts = some cs' → Instr.fill place cs.toArray parts = some cs'.toArray
  | [], cs, cs', h => by simp only [bldL, Option.some.injEq] at h; subst h; rfl
  | (i, v) :: rest, cs, cs', h => by
    unfold bldL at h
    cases hp : pl[i]? with
    | none => rw [hp] at h; simp at h
    | some os =>
      obtain ⟨off, size⟩ := os
      rw [hp] at h
      simp only at h
      cases hb : (Nat.beq v.cells.toList.length size && Nat.ble (off + v.cells.toList.length) cs.length) with
      | false => rw [hb] at h; simp at h
      | true =>
        rw [hb] at h
        simp only at h
        simp only [Bool.and_eq_true] at hb
        have h1 : v.cells.toList.length = size := Nat.eq_of_beq_eq_true hb.1
        have h2 : off + v.cells.toList.length ≤ cs.length := Nat.le_of_ble_eq_true hb.2
        unfold Instr.fill
        rw [hpl i, hp]
        simp only
        rw [if_neg (by simp only [Array.length_toList] at h1 h2; simp; omega)]
        have hset : (v.cells.zipIdx.foldl (fun cs (x : Value × Nat) => cs.setIfInBounds (off + x.2) x.1) cs.toArray) = (putL off v.cells.toList cs).toArray := by
          have e0 : v.cells.zipIdx.foldl (fun cs (x : Value × Nat) => cs.setIfInBounds (off + x.2) x.1) cs.toArray = (v.cells.toList.zipIdx 0).foldl (fun cs (x : Value × Nat) => cs.setIfInBounds (off + x.2) x.1) cs.toArray := by
            rw [← Array.foldl_toList]; simp
          obtain ⟨g1, g2⟩ := Great.foldl_set off v.cells.toList 0 cs.toArray
          rw [e0]
          apply Array.ext_getElem?
          intro q
          rw [g2 q]
          simp only [List.getElem?_toArray, List.size_toArray, Nat.add_zero]
          rw [← putL_eq off _ cs h2]
          by_cases hq : off ≤ q ∧ q < off + v.cells.toList.length ∧ q < cs.length
          · rw [if_pos hq, List.append_assoc, List.getElem?_append_right (by rw [List.length_take]; omega), List.length_take, Nat.min_eq_left (by omega), List.getElem?_append_left (by omega)]
          · rw [if_neg hq, List.append_assoc]
            by_cases hq1 : q < off
            · rw [List.getElem?_append_left (by rw [List.length_take]; omega), List.getElem?_take, if_pos hq1]
            · rw [List.getElem?_append_right (by rw [List.length_take]; omega), List.length_take, Nat.min_eq_left (by omega)]
              by_cases hq2 : q < cs.length
              · have h3 : off + v.cells.toList.length ≤ q := Nat.not_lt.1 fun h4 => hq ⟨by omega, h4, hq2⟩
                rw [List.getElem?_append_right (by omega), List.getElem?_drop]
                congr 1; omega
              · rw [List.getElem?_eq_none (by omega), List.getElem?_append_right (by omega), List.getElem?_eq_none (by rw [List.length_drop]; omega)]
        show Instr.fill place (v.cells.zipIdx.foldl (fun cs (x : Value × Nat) => cs.setIfInBounds (off + x.2) x.1) cs.toArray) rest = _
        rw [hset]
        exact fill_bldL pl place hpl rest _ _ h
section
variable {P : Program} {ops : Array Oper} {d : Bool} {Q : Exit → Act → World → Prop} {n : Nat} {D : List Deferred} {w0 : World} {G : Env} {L R : List HP} {l : List (Kd × Oper)} {k : Kd} {t : Nat} {ty T : TypeId} {pos : String} {af : Array Edge} {v z : Value}
theorem KO.bldS {parts : Array (Nat × Operand)} {vs : List Value} {fs : Array Field} {pl : List (Nat × Nat)} (cs : List Value) (hv : evs G (parts.toList.map (·.2)) = some vs) (hz : ∀ w, (zeroValue T).run P w = .ok z w) (hu : ∀ w, (underlying T).run P w = .ok (.struct fs) w)
    (hpl : ∀ w, (fs.mapM fun (f : Field) => (do pure (f.offset, ← Go.sizeOf f.type) : Sem (Nat × Nat))).run P w = .ok pl.toArray w) (hb : bldL pl z.cells.toList ((parts.toList.map (·.1)).zip vs) = some cs) (ht : Nat.blt t n = true)
    (h : KO P ops d Q n D w0 ((t, .agg cs.toArray) :: G) L l) : KO P ops d Q n D w0 G L ((k, ⟨some t, .build T parts, ty, pos, af, none⟩) :: l) :=
  KO.bld hv (fun w => by
    have := fill_bldL pl (fun x => pl[x]?) (fun i => rfl) _ _ _ hb
    simp only [Array.toArray_toList] at this
    simp only [Instr.build, hz w, hu w, Sem.run_bind, Result.andThen_ok]
    rw [hpl w]
    simp [this]) ht h
end
end WB
namespace WB
open Go Go.RowKit
section
variable {P : Program} {ops : Array Oper} {d : Bool} {Q : Exit → Act → World → Prop} {n : Nat} {D : List Deferred} {w0 : World} {G : Env} {L R : List HP} {l : List (Kd × Oper)} {k : Kd} {t : Nat} {ty T : TypeId} {pos : String} {af : Array Edge} {v z : Value}
/-- as KO.bldS, the cells found by reckoning -/
theorem KO.bldN {parts : Array (Nat × Operand)} {vs : List Value} {fs : Array Field} {pl : List (Nat × Nat)} {cs : List Value} (hv : evs G (parts.toList.map (·.2)) = some vs) (hz : ∀ w, (zeroValue T).run P w = .ok z w) (hu : ∀ w, (underlying T).run P w = .ok (.struct fs) w)
    (hpl : ∀ w, (fs.mapM fun (f : Field) => (do pure (f.offset, ← Go.sizeOf f.type) : Sem (Nat × Nat))).run P w = .ok pl.toArray w) (hb : bldL pl z.cells.toList ((parts.toList.map (·.1)).zip vs) = some cs) (ht : Nat.blt t n = true)
    (h : KO P ops d Q n D w0 ((t, .agg cs.toArray) :: G) L l) : KO P ops d Q n D w0 G L ((k, ⟨some t, .build T parts, ty, pos, af, none⟩) :: l) := KO.bldS cs hv hz hu hpl hb ht h
end
end WB
namespace WB
open Go Go.RowKit
section
variable {P : Program} {ops : Array Oper} {d : Bool} {Q : Exit → Act → World → Prop} {n : Nat} {D : List Deferred} {w0 : World} {G : Env} {L R : List HP} {l : List (Kd × Oper)} {k : Kd} {t : Nat} {ty T E : TypeId} {pos : String} {af : Array Edge} {v : Value} {x y : Operand}
/-- a whole block is written -/
theorem KO.sto0 {b : Nat} {cs us : List Value} (hk : (!d || k == .write) = true) (hx : ev G x = some (.pointer (some ⟨b, 0, none⟩))) (hy : ev G y = some v) (hv : v.cells = us.toArray) (hn : ∀ w, (Go.sizeOf T).run P w = .ok us.length w) (h1 : us.all Value.oneCell' = true)
    (hp : Pick L (blk b (.cells cs.toArray E (0, 0))) R) (hfit : Nat.beq us.length cs.length = true) (h : KO P ops d Q n D w0 G (blk b (.cells us.toArray E (0, 0)) :: R) l) :
    KO P ops d Q n D w0 G L ((k, ⟨none, .store T x y, ty, pos, af, none⟩) :: l) :=
  have e : us.length = cs.length := Nat.eq_of_beq_eq_true hfit
  KO.sto hk hx hy hv hn h1 hp (Nat.ble_eq_true_of_le (by omega)) (by rw [putL, e, List.drop_length, List.append_nil]) h
end
end WB
namespace WB
open Go Go.RowKit
section
variable {P : Program} {ops : Array Oper} {d : Bool} {Q : Exit → Act → World → Prop} {n : Nat} {D : List Deferred} {w0 : World} {G : Env} {L R : List HP} {l : List (Kd × Oper)} {k : Kd} {t : Nat} {ty T E : TypeId} {pos : String} {af : Array Edge} {v z : Value} {x y : Operand} {sz by' : Nat}
theorem KO.bs1 (hk : (!d || (k == .keep || k == .write)) = true) {cs : List Value} (hv : ev G x = some v) (hT : P.underlying T = some (.slice E))
    (hi : (P.info? E).map (fun i => (i.zero, i.size, i.bytes)) = some (some z, sz, by')) (hc : v.cells = cs.toArray) (hsz : cs.length = sz) (hs : ¬ 1 * sz > 2 ^ 24) (hpos : ¬ 1 * sz = 0) (ht : Nat.blt t n = true)
    (h : ∀ bb, KO P ops d Q n D w0 ((t, .slice (some ⟨bb, 0, none⟩) 1 1) :: G) (blk bb (.cells cs.toArray E (0, 0)) :: L) l) : KO P ops d Q n D w0 G L ((k, ⟨some t, .buildSlice T 1 #[(0, x)], ty, pos, af, none⟩) :: l) :=
  KO.bs hk [x] rfl (vs := [v]) (by simp [evs, hv]) hT hi (by simp [hc, hsz]) rfl hs hpos (by simp [hc]) ht h
end
end WB
namespace WB
open Go
/-- what is left when parts are forgotten -/
inductive LSub : List HP → List HP → Prop
  | refl {L : List HP} : LSub L L
  | drop {A : HP} {L M : List HP} : LSub L M → LSub L (A :: M)
theorem St.mapTail {w0 w : World} {A : HP} {L M : List HP} (f : ∀ h, seps M h → ∃ h1 h2, Disj h1 h2 ∧ h = uni h1 h2 ∧ seps L h2) (h : St w0 (A :: M) w) : St w0 (A :: L) w := by
  obtain ⟨x, hx, h1, h2, d, rfl, a, b⟩ := h.own
  obtain ⟨g1, g2, d2, rfl, c⟩ := f h2 b
  rw [disj_uni'] at d
  refine { h with own := ⟨uni h1 g2, fun k o hk => hx k o ?_, h1, g2, d.2, rfl, a, c⟩ }
  simp only [uni] at hk ⊢
  cases e1 : h1 k with
  | some v => rw [e1] at hk; simpa using hk
  | none =>
    rw [e1] at hk
    simp only [Option.none_or] at hk ⊢
    rcases d2 k with e | e
    · rw [e]; simpa using hk
    · rw [e] at hk; simp at hk
theorem LSub.seps {L M : List HP} (hs : LSub L M) : ∀ h, WB.seps M h → ∃ h1 h2, Disj h1 h2 ∧ h = uni h1 h2 ∧ WB.seps L h2 := by
  induction hs with
  | refl => exact fun h hh => ⟨fun _ => none, h, fun _ => .inl rfl, (uni_emp fun _ => rfl).symm, hh⟩
  | drop _ ih =>
    rintro h ⟨h1, h2, d, rfl, _, b⟩
    obtain ⟨g1, g2, d2, rfl, c⟩ := ih h2 b
    rw [disj_uni'] at d
    refine ⟨uni h1 g1, g2, disj_uni.2 ⟨d.2, d2⟩, (uni_assoc _ _ _).symm, c⟩
theorem St.gc1 {w0 w : World} {A : HP} {L M : List HP} (h : St w0 (A :: M) w) (hs : LSub L M) : St w0 (A :: L) w := h.mapTail hs.seps
theorem St.gc2 {w0 w : World} {A B : HP} {L M : List HP} (h : St w0 (A :: B :: M) w) (hs : LSub L M) : St w0 (A :: B :: L) w := ((h.join).gc1 hs).split
theorem St.gc3 {w0 w : World} {A B C : HP} {L M : List HP} (h : St w0 (A :: B :: C :: M) w) (hs : LSub L M) : St w0 (A :: B :: C :: L) w := ((h.join).gc2 hs).split
end WB
/- queue: a message put into its place; one taken out. -/
namespace Go.Proofs.YtjhogocabcdjbabGreatDoor
open Go Go.RowKit WB
theorem it_info : (Tryz.prog.info? 243).map (fun i => (i.zero, i.size, i.bytes)) = some (some (Value.agg #[.int .i64 0, .int .i64 0, .string ⟨#[]⟩, .string ⟨#[]⟩, .int .i64 0, .int .i64 0, .int .i64 0, .int .i64 0]), 8, 80) := by kernel_rfl
theorem itC_one (x : It) : (itC x).all Value.oneCell' = true := rfl
theorem itC_ones (xs : List It) : ∀ u ∈ xs.flatMap itC, u.oneCell' = true := flat_one (fun e u hu => List.all_eq_true.1 (itC_one e) u hu) xs
theorem itIns_c (w0 : World) (L : List HP) (v : Value) (xs : List It) (x : It) (k bv : Nat) (hk : k ≤ xs.length) (hn : xs.length < 1000000) :
    KC Tryz.prog 246 #[v, .int .i64 (k : Nat), .slice (some ⟨bv, 0, none⟩) 1 1] w0 (itS v xs :: blk bv (.cells (itC x).toArray 243 (0, 0)) :: L) (fun v' L' => L' = itS v' (xs.take k ++ x :: xs.drop k) :: L) := fun w h => by
  have fin : ∀ {w' : World} {v' : Value}, St w0 (osl 243 8 v' (xs.length + 1) (xs.flatMap itC |>.take (k * 8)) :: L) w' → True := fun _ => trivial
  have e1 : (xs.take k ++ x :: xs.drop k).length = xs.length + 1 := by simp; omega
  have e2 : (xs.flatMap itC).take (k * 8) ++ itC x ++ (xs.flatMap itC).drop (k * 8) = (xs.take k ++ x :: xs.drop k).flatMap itC := by
    rw [flat_take itC 8 (fun _ => rfl) xs k hk, flat_drop itC 8 (fun _ => rfl) xs k hk]; simp
  by_cases hkn : k = xs.length
  · subst hkn
    refine (it_ins_end w w0 L v xs.length (xs.flatMap itC) (itC x) bv h rfl (fun u hu => List.all_eq_true.1 (itC_one x) u hu) hn).mono ?_
    rintro e w' ⟨v', he, hs⟩
    refine ⟨v', _, he, rfl, ?_⟩
    show St w0 (osl 243 8 v' _ _ :: L) w'
    rw [e1, show (xs.take xs.length ++ x :: xs.drop xs.length).flatMap itC = xs.flatMap itC ++ itC x by simp]
    exact hs
  · have hlt : k < xs.length := by omega
    have key : Calls Tryz.prog 246 #[v, .int .i64 (k : Nat), .slice (some ⟨bv, 0, none⟩) 1 1] w fun e w' => ∃ v', e = .returned v' ∧ St w0 (osl 243 8 v' (xs.length + 1) ((xs.flatMap itC).take (k * 8) ++ itC x ++ (xs.flatMap itC).drop (k * 8)) :: L) w' := by
      obtain ⟨g, cap, rfl⟩ := SL_some h hlt
      by_cases hr : xs.length + 1 ≤ cap
      · exact it_ins_room w w0 L g xs.length cap k _ (itC x) bv h rfl (fun u hu => List.all_eq_true.1 (itC_one x) u hu) (itC_ones xs) hn hlt hr
      · exact it_ins_grow w w0 L g xs.length k cap _ (itC x) bv h rfl (fun u hu => List.all_eq_true.1 (itC_one x) u hu) (itC_ones xs) hn hlt (by omega)
    refine key.mono ?_
    rintro e w' ⟨v', he, hs⟩
    refine ⟨v', _, he, rfl, ?_⟩
    show St w0 (osl 243 8 v' _ _ :: L) w'
    rw [e1, ← e2]; exact hs
theorem del_c (w0 : World) (L : List HP) (v : Value) (xs : List It) (k : Nat) (hk : k < xs.length) (hn : xs.length < 1000000) :
    KC Tryz.prog 151 #[v, .int .i64 (k : Nat), .int .i64 ((k : Int) + 1)] w0 (itS v xs :: L) (fun v' L' => L' = itS v' (xs.eraseIdx k) :: L) := by
  refine KC.pre (fun w hw => SL_some hw hk) ?_
  rintro ⟨g, cap, rfl⟩
  refine KC.pre (fun w hw => (SL_open hw).2.1) fun hnc => ?_
  refine KC.mk (n := 33) Tryz.func151 rfl Tryz.ntmps151 (by simp) ?_
  repeat ((with_reducible refine K.seq ?_))
  refine K.reg ?_
  refine KO.as rfl rfl ?_
  refine KO.nil ?_
  repeat (first | (with_reducible refine K.seq ?_) | (with_reducible refine KQ.next ?_))
  refine K.reg ?_
  refine KO.mv rfl rfl ?_
  refine KO.mv rfl rfl ?_
  refine KO.mv rfl rfl ?_
  refine KO.mv rfl rfl ?_
  refine KO.len rfl Tryz.underlying120 rfl ?_
  refine KO.cutAny (lo := k) (hi := k + 1) (mx := xs.length) rfl rfl rfl rfl Tryz.underlying120 Tryz.sizeOf243 rfl (by omega) rfl (by omega) (by omega) (by omega) rfl (fun q13 => ?_)
  refine KO.nil ?_
  repeat (first | (with_reducible refine K.seq ?_) | (with_reducible refine KQ.next ?_))
  refine K.reg ?_
  refine KO.mv rfl rfl ?_
  refine KO.mv rfl rfl ?_
  refine KO.eqI rfl rfl rfl ?_
  refine KO.nil ?_
  repeat ((with_reducible refine KQ.next ?_))
  refine K.condF rfl (by simp; omega) ?_
  repeat (first | (with_reducible refine K.seq ?_) | (with_reducible refine KQ.next ?_) | (with_reducible refine K.skip ?_))
  refine K.reg ?_
  refine KO.mv rfl rfl ?_
  refine KO.len rfl Tryz.underlying120 rfl ?_
  refine KO.as rfl rfl ?_
  refine KO.nil ?_
  repeat (first | (with_reducible refine K.seq ?_) | (with_reducible refine KQ.next ?_))
  refine K.draw [.pure, .pure, .pure, .pure, .pure, .pure, .write, .pure] [0, 1, 2, 3, 4, 5, 6, 7] (by kernel_rfl) (by kernel_rfl) ?_
  refine KO.mv rfl rfl ?_
  refine KO.mv rfl rfl ?_
  refine KO.cutTo rfl rfl Tryz.underlying120 Tryz.sizeOf243 (by exact rfl) (by omega) rfl ?_
  refine KO.mv rfl rfl ?_
  refine KO.mv rfl rfl ?_
  refine KO.cutFrom (lo := k + 1) rfl rfl Tryz.underlying120 Tryz.sizeOf243 (by omega) (by omega) (by omega) rfl ?_
  refine KO.move (j := k + 1) rfl rfl rfl Pick.head rfl hnc Tryz.underlying120 it_info (fun _ => rfl) itC_one (by omega) (by omega) rfl ?_
  refine KO.as rfl rfl ?_
  refine KO.nil ?_
  repeat (first | (with_reducible refine K.seq ?_) | (with_reducible refine KQ.next ?_))
  refine K.reg ?_
  refine KO.mv rfl rfl ?_
  refine KO.mv rfl rfl ?_
  refine KO.len rfl Tryz.underlying120 rfl ?_
  refine KO.mv rfl rfl ?_
  refine KO.cutMid (lo := k + (xs.length - (k + 1))) (hi := xs.length) rfl rfl rfl Tryz.underlying120 Tryz.sizeOf243 rfl rfl (by omega) (by omega) rfl ?_
  refine KO.clear rfl rfl Pick.head hnc (by simp; omega) (by simp; omega) Tryz.underlying120 it_info (fun _ => rfl) rfl rfl ?_
  refine KO.nil ?_
  repeat (first | (with_reducible refine K.seq ?_) | (with_reducible refine KQ.next ?_))
  refine K.reg ?_
  refine KO.mv rfl rfl ?_
  refine KO.as rfl rfl ?_
  refine KO.nil ?_
  repeat (first | (with_reducible refine KQ.next ?_) | (with_reducible refine K.ret ?_))
  refine KQ.ret1 rfl rfl (fun w' hs => ⟨_, _, rfl, rfl, ?_⟩)
  have e : (List.take (k + (xs.length - (k + 1))) (List.take k xs ++ List.drop (k + 1) xs ++ List.drop (k + (xs.length - (k + 1))) xs)) = xs.eraseIdx k := by
    rw [List.take_append_of_le_length (by simp; omega), List.take_of_length_le (by simp; omega), List.eraseIdx_eq_take_drop_succ]
  rw [e] at hs
  exact hs
theorem delf_c (w0 : World) (L : List HP) (v : Value) (xs : List It) (f : FuncId) (cp : List Value) (pf : It → Bool) (hn : xs.length < 1000000) (hcall : ∀ args w, (callFunc f args).run Tryz.prog w = .ok (.enter f args) w)
    (hcl : ∀ e v ys, e ∈ xs → KE Tryz.prog f ([] ++ ([Value.agg (itC e).toArray] ++ cp)).toArray w0 (itS v ys :: L) (fun u L' => u = .bool (pf e) ∧ L' = itS v ys :: L)) :
    KC Tryz.prog 158 #[v, .func (.func f) [].toArray cp.toArray] w0 (itS v xs :: L) (fun v' L' => L' = itS v' (xs.filter fun e => !pf e) :: L) := by
  refine KC.pre (fun w hw => SL_form hw) ?_
  rintro ⟨sa, cap, rfl, hsa⟩
  refine KC.mk (n := 42) Tryz.func158 rfl Tryz.ntmps158 (by simp) ?_
  repeat ((with_reducible refine K.seq ?_))
  refine K.reg ?_
  refine KO.as rfl rfl ?_
  refine KO.nil ?_
  repeat (first | (with_reducible refine K.seq ?_) | (with_reducible refine KQ.next ?_))
  refine K.reg ?_
  refine KO.mv rfl rfl ?_
  refine KO.mv rfl rfl ?_
  refine KO.ce rfl rfl rfl Tryz.call149 rfl (idxf_e w0 _ _ xs f cp pf (RdS.of (fun _ => rfl) Pick.head) hn hcall (fun e he => hcl e _ xs he)) ?_; rintro v L' ⟨rfl, rfl⟩
  refine KO.as rfl rfl ?_
  refine KO.nil ?_
  repeat (first | (with_reducible refine K.seq ?_) | (with_reducible refine KQ.next ?_))
  refine K.reg ?_
  refine KO.mv rfl rfl ?_
  refine KO.eqI rfl rfl rfl ?_
  refine KO.nil ?_
  repeat ((with_reducible refine KQ.next ?_))
  refine K.condD rfl (fun h => ?_) (fun h => ?_)
  · repeat ((with_reducible refine K.seq ?_))
    refine K.reg ?_
    refine KO.mv rfl rfl ?_
    refine KO.as rfl rfl ?_
    refine KO.nil ?_
    repeat (first | (with_reducible refine KQ.next ?_) | (with_reducible refine KQ.then_ret ?_) | (with_reducible refine K.ret ?_))
    refine KQ.ret1 rfl rfl (fun w' hs => ⟨_, _, rfl, rfl, ?_⟩)
    rw [List.filter_eq_self.2 (fun a ha => by
      have := List.findIdx?_eq_none_iff.1 (fidx_neg (by omega : fidx pf xs < 0)) a ha
      simp [this])]
    exact hs
  · obtain ⟨i0, e0, hi0, he0, hp0, hlt0, hfi⟩ := fidx_nonneg (p := pf) (l := xs) (by unfold fidx at h ⊢; split at h <;> simp_all)
    obtain ⟨g, rfl⟩ := hsa (by omega)
    refine K.fact (fun w hw => (SL_open hw).2.1) fun hnc => ?_
    repeat (first | (with_reducible refine K.seq ?_) | (with_reducible refine KQ.next ?_) | (with_reducible refine K.skip ?_))
    refine K.reg ?_
    refine KO.mv rfl rfl ?_
    rw [hi0]; refine KO.add rfl rfl rfl (by omega) rfl ?_
    refine KO.as rfl rfl ?_
    refine KO.nil ?_
    repeat (first | (with_reducible refine KQ.next ?_) | (with_reducible refine K.block ?_))
    refine K.loop (fun k : Nat × Nat × List It => [(0, .slice (some ⟨g, 0, none⟩) xs.length cap), (1, .func (.func f) [].toArray cp.toArray), (5, .int .i64 (k.1 : Nat)), (6, .int .i64 (k.2.1 : Nat))]) (fun k => itS (.slice (some ⟨g, 0, none⟩) xs.length cap) k.2.2 :: L)
      (fun k => k.2.2.length = xs.length ∧ k.1 < k.2.1 ∧ k.2.1 ≤ xs.length ∧ k.2.2.take k.1 = (xs.take k.2.1).filter (fun e => !pf e) ∧ k.2.2.drop k.2.1 = xs.drop k.2.1) (fun k => xs.length - k.2.1) (i0, i0 + 1, xs) ⟨rfl, by dsimp only; omega, by dsimp only; omega, (take_filter_of_findIdx hfi).symm, rfl⟩ ⟨rfl, rfl, rfl, rfl, trivial⟩ (fun _ h => h) ?_
    rintro ⟨i, j, ys⟩ ⟨hyl, hij, hjl, hys, hyd⟩
    dsimp only at hyl hij hjl hys hyd ⊢
    repeat ((with_reducible refine K.seq ?_))
    refine K.reg ?_
    refine KO.mv rfl rfl ?_
    refine KO.mv rfl rfl ?_
    refine KO.len rfl Tryz.underlying120 rfl ?_
    refine KO.lss rfl rfl rfl ?_
    refine KO.nil ?_
    repeat ((with_reducible refine KQ.next ?_))
    refine K.condD rfl (fun h1 => ?_) (fun h1 => ?_)
    · obtain ⟨e, he⟩ : ∃ e, xs[j]? = some e := ⟨xs[j], List.getElem?_eq_getElem (by omega)⟩
      have hye : ys[j]? = some e := by rw [← he]; have := congrArg (fun l => l[0]?) hyd; simpa using this
      repeat (first | (with_reducible refine K.seq ?_) | (with_reducible refine KQ.next ?_) | (with_reducible refine K.skip ?_) | (with_reducible refine K.block ?_))
      refine K.reg ?_
      refine KO.mv rfl rfl ?_
      refine KO.mv rfl rfl ?_
      refine KO.idx0 rfl rfl Tryz.runUnderlying120 Tryz.sizeOf243 (by exact rfl) (by omega) rfl ?_
      refine KO.ldEN rfl rfl Tryz.isAgg243 Tryz.sizeOf243 (by with_reducible (repeat (exact Pick.head))) (fun _ => rfl) (by assumption) rfl ?_
      refine KO.alloc rfl Tryz.zeroValue243 (by exact rfl) rfl ?_; intro b7
      refine KO.sto0 rfl rfl rfl (by exact rfl) (by exact Tryz.sizeOf243) (by exact rfl) (by with_reducible (repeat (exact Pick.head))) (by exact rfl) ?_
      refine KO.nil ?_
      repeat (first | (with_reducible refine K.seq ?_) | (with_reducible refine KQ.next ?_))
      refine K.reg ?_
      refine KO.mv rfl rfl ?_
      refine KO.ldB0 rfl rfl Tryz.isAgg243 Tryz.sizeOf243 (by with_reducible (repeat (exact Pick.head))) (by exact rfl) rfl ?_
      refine KO.ce rfl rfl rfl hcall rfl ((hcl e _ ys (List.mem_of_getElem? he)).only (fun w h => h.drop)) ?_; rintro v L' ⟨rfl, rfl⟩
      refine KO.not rfl rfl ?_
      refine KO.nil ?_
      repeat ((with_reducible refine KQ.next ?_))
      refine K.cond rfl (fun h2 => ?_) (fun h2 => ?_)
      · obtain ⟨u, hu⟩ : ∃ u, ys[i]? = some u := ⟨ys[i], List.getElem?_eq_getElem (by omega)⟩
        repeat ((with_reducible refine K.seq ?_))
        refine K.reg ?_
        refine KO.mv rfl rfl ?_
        refine KO.mv rfl rfl ?_
        refine KO.ldB0 rfl rfl Tryz.isAgg243 Tryz.sizeOf243 (by with_reducible (repeat (exact Pick.head))) (by exact rfl) rfl ?_
        refine KO.idx0 rfl rfl Tryz.runUnderlying120 Tryz.sizeOf243 rfl (by omega) rfl ?_
        refine KO.stEN rfl rfl e rfl Tryz.sizeOf243 itC_one (by with_reducible (repeat (first | exact Pick.head | apply Pick.tail))) (fun _ => rfl) hu ?_
        refine KO.nil ?_
        repeat ((with_reducible refine KQ.next ?_))
        refine K.reg ?_
        refine KO.mv rfl rfl ?_
        refine KO.add rfl rfl rfl (by omega) rfl ?_
        refine KO.as rfl rfl ?_
        refine KO.nil ?_
        repeat (first | (with_reducible refine KQ.next ?_) | (with_reducible refine KQ.blk_normal ?_))
        refine K.reg ?_
        refine KO.mv rfl rfl ?_
        refine KO.add rfl rfl rfl (by omega) rfl ?_
        refine KO.as rfl rfl ?_
        refine KO.nil ?_
        refine KQ.round (i + 1, j + 1, ys.set i e) ⟨by simp; omega, by dsimp only; omega, by dsimp only; omega, ?_, ?_⟩ (by dsimp only; omega) ⟨rfl, rfl, rfl, rfl, trivial⟩ (fun _ h => h.drop2)
        · dsimp only
          rw [take_succ_some he, List.filter_append, ← hys, take_succ_some (e := e) (by rw [List.getElem?_set_self (by omega)])]
          rw [List.take_set_of_le (Nat.le_refl _)]
          simp only [List.filter_cons, h2, if_true, List.filter_nil]
        · dsimp only
          rw [List.drop_set_of_lt (by omega)]
          have := congrArg (List.drop 1) hyd
          simpa [List.drop_drop, Nat.add_comm] using this
      · repeat (first | (with_reducible refine KQ.next ?_) | (with_reducible refine KQ.blk_normal ?_) | (with_reducible refine K.skip ?_))
        refine K.reg ?_
        refine KO.mv rfl rfl ?_
        refine KO.add rfl rfl rfl (by omega) rfl ?_
        refine KO.as rfl rfl ?_
        refine KO.nil ?_
        refine KQ.round (i, j + 1, ys) ⟨hyl, by dsimp only; omega, by dsimp only; omega, ?_, ?_⟩ (by dsimp only; omega) ⟨rfl, rfl, rfl, rfl, trivial⟩ (fun _ h => h.drop)
        · dsimp only
          rw [take_succ_some he, List.filter_append, ← hys]
          simp only [List.filter_cons, h2, List.filter_nil, List.append_nil, Bool.false_eq_true, if_false]
        · dsimp only
          have := congrArg (List.drop 1) hyd
          simpa [List.drop_drop, Nat.add_comm] using this
    · have hjx : j = xs.length := by omega
      subst hjx
      have hys : ys.take i = xs.filter (fun e => !pf e) := by rw [hys, List.take_length]
      repeat (first | (with_reducible refine K.seq ?_) | (with_reducible refine KQ.next ?_) | (with_reducible refine KQ.then_exit ?_) | (with_reducible refine KQ.blk_exit ?_) | (with_reducible refine K.exit ?_))
      refine K.reg ?_
      refine KO.mv rfl rfl ?_
      refine KO.mv rfl rfl ?_
      refine KO.cutFrom (lo := i) rfl rfl Tryz.underlying120 Tryz.sizeOf243 rfl (by omega) (by omega) rfl ?_
      refine KO.clear rfl rfl Pick.head hnc hyl.symm (by omega) Tryz.underlying120 it_info (fun _ => rfl) rfl rfl ?_
      refine KO.nil ?_
      repeat (first | (with_reducible refine K.seq ?_) | (with_reducible refine KQ.next ?_))
      refine K.reg ?_
      refine KO.mv rfl rfl ?_
      refine KO.mv rfl rfl ?_
      refine KO.cutTo (hi := i) rfl rfl Tryz.underlying120 Tryz.sizeOf243 rfl (by omega) rfl ?_
      refine KO.as rfl rfl ?_
      refine KO.nil ?_
      repeat (first | (with_reducible refine KQ.next ?_) | (with_reducible refine K.ret ?_))
      refine KQ.ret1 rfl rfl (fun w' hs => ⟨_, _, rfl, rfl, ?_⟩)
      rw [← hys]; exact hs
end Go.Proofs.YtjhogocabcdjbabGreatDoor
/- queue: where a message goes. -/
namespace Go.Proofs.YtjhogocabcdjbabGreatDoor
open Go Go.RowKit WB
theorem push1_e (w0 : World) (L : List HP) (a b : It) (ha : smallIt a) (hb : smallIt b) :
    KE Tryz.prog 244 #[.agg (itC a).toArray, .agg (itC b).toArray] w0 L (fun v L' => v = .int .i64 (cmpIt a b) ∧ L' = L) := by
  refine KE.mk (n := 14) Tryz.func244 rfl Tryz.ntmps244 (by simp) ?_
  intro w hw
  repeat ((with_reducible refine K.seq ?_))
  refine K.reg ?_
  refine KO.box rfl rfl (by exact rfl) rfl ?_; intro b2
  refine KO.box rfl rfl (by exact rfl) rfl ?_; intro b3
  refine KO.as rfl rfl ?_
  refine KO.nil ?_
  repeat (first | (with_reducible refine K.seq ?_) | (with_reducible refine KQ.next ?_))
  refine K.reg ?_
  refine KO.fo0 (off := 0) rfl Tryz.runUnderlying243 rfl rfl Tryz.sizeOf44 rfl ?_
  (refine KO.ldB rfl rfl Tryz.isAgg44 Tryz.sizeOf44 (by with_reducible (repeat (first | exact Pick.head | apply Pick.tail))) (by (try simp only [List.drop_zero, List.drop_succ_cons, List.take_succ_cons, List.take_zero]); (try exact rfl)) (by exact rfl) rfl ?_)
  refine KO.fo0 (off := 0) rfl Tryz.runUnderlying243 rfl rfl Tryz.sizeOf44 rfl ?_
  (refine KO.ldB rfl rfl Tryz.isAgg44 Tryz.sizeOf44 (by with_reducible (repeat (exact Pick.head))) (by (try simp only [List.drop_zero, List.drop_succ_cons, List.take_succ_cons, List.take_zero]); (try exact rfl)) (by exact rfl) rfl ?_)
  refine KO.fo0 (off := 5) rfl Tryz.runUnderlying243 rfl rfl Tryz.sizeOf3 rfl ?_
  refine KO.ld rfl rfl Tryz.isAgg3 (by with_reducible (repeat (first | exact Pick.head | apply Pick.tail))) (by exact rfl) rfl ?_
  refine KO.fo0 (off := 5) rfl Tryz.runUnderlying243 rfl rfl Tryz.sizeOf3 rfl ?_
  refine KO.ld rfl rfl Tryz.isAgg3 (by with_reducible (repeat (exact Pick.head))) (by exact rfl) rfl ?_
  refine KO.ce rfl rfl rfl Tryz.call245 rfl (cmp_e w _ a.m b.m a.line b.line ha.1 hb.1 ha.2 hb.2) ?_; rintro v L' ⟨rfl, rfl⟩
  refine KO.as rfl rfl ?_
  refine KO.nil ?_
  repeat (first | (with_reducible refine KQ.next ?_) | (with_reducible refine K.ret ?_))
  refine KQ.ret1 rfl rfl (fun w' hs => ⟨_, _, rfl, ⟨rfl, rfl⟩, hw.below_step hs.below, hs.below⟩)
theorem bsf_it (w0 : World) (L : List HP) (v : Value) (xs : List It) (x : It) (hr : ∀ w, St w0 L w → RdS w 8 itC v xs) (hlen : xs.length < 1000000) (hm : MonoIt xs x) (hx : smallIt x) (hxs : ∀ e ∈ xs, smallIt e) :
    KE Tryz.prog 243 #[v, .agg (itC x).toArray, .func (.func 244) #[] #[]] w0 L (fun v L' => ∃ k, SrchIt xs x k ∧ v = .tuple #[.int .i64 (k : Nat), .bool (hitIt xs x k)] ∧ L' = L) := by
  refine KE.mk (n := 49) Tryz.func243 rfl Tryz.ntmps243 (by simp) ?_
  intro w hw
  obtain ⟨sa, cap, rfl, hsa, hc⟩ := hr w hw
  repeat ((with_reducible refine K.seq ?_))
  refine K.reg ?_
  refine KO.box rfl rfl (by exact rfl) rfl ?_; intro b4
  refine KO.as rfl rfl ?_
  refine KO.as rfl rfl ?_
  refine KO.nil ?_
  repeat (first | (with_reducible refine K.seq ?_) | (with_reducible refine KQ.next ?_))
  refine K.reg ?_
  refine KO.mv rfl rfl ?_
  refine KO.len rfl Tryz.underlying120 rfl ?_
  refine KO.as rfl rfl ?_
  refine KO.nil ?_
  repeat (first | (with_reducible refine K.seq ?_) | (with_reducible refine KQ.next ?_))
  refine K.reg ?_
  refine KO.mv rfl rfl ?_
  refine KO.as rfl rfl ?_
  refine KO.as rfl rfl ?_
  refine KO.nil ?_
  repeat (first | (with_reducible refine K.seq ?_) | (with_reducible refine KQ.next ?_) | (with_reducible refine K.block ?_))
  refine K.loop (fun k : Nat × Nat => [(0, .slice sa xs.length cap), (2, .func (.func 244) #[] #[]), (4, .pointer (some ⟨b4, 0, none⟩)), (8, .int .i64 (xs.length : Nat)), (9, .int .i64 (k.1 : Nat)), (10, .int .i64 (k.2 : Nat))]) (fun _ => [blk b4 (.cells (itC x).toArray 243 (0, 0))])
    (fun k => k.1 ≤ k.2 ∧ k.2 ≤ xs.length ∧ (∀ (p : Nat) (a : It), p < k.1 → xs[p]? = some a → cmpIt a x < 0) ∧ (∀ (p : Nat) (a : It), k.2 ≤ p → xs[p]? = some a → 0 ≤ cmpIt a x)) (fun k => k.2 - k.1) (0, xs.length)
    ⟨Nat.zero_le _, Nat.le_refl _, fun p a h => absurd h (Nat.not_lt_zero _), fun p a h ha => by have := (List.getElem?_eq_some_iff.1 ha).1; omega⟩ ⟨rfl, rfl, rfl, rfl, rfl, rfl, trivial⟩ (fun _ h => h) ?_
  rintro ⟨p, q⟩ ⟨hpq, hq, h1, h2⟩
  dsimp only at hpq hq h1 h2 ⊢
  repeat ((with_reducible refine K.seq ?_))
  refine K.reg ?_
  refine KO.mv rfl rfl ?_
  refine KO.mv rfl rfl ?_
  refine KO.lss rfl rfl rfl ?_
  refine KO.nil ?_
  repeat ((with_reducible refine KQ.next ?_))
  refine K.condD rfl (fun h => ?_) (fun h => ?_)
  · obtain ⟨g, rfl⟩ := hsa (by omega)
    have hmid : ((p : Int) + (q : Int)) / 2 = (((p + q) / 2 : Nat) : Int) := by omega
    obtain ⟨e, he⟩ : ∃ e, xs[(p + q) / 2]? = some e := ⟨xs[(p + q) / 2], List.getElem?_eq_getElem (by omega)⟩
    repeat (first | (with_reducible refine K.seq ?_) | (with_reducible refine KQ.next ?_) | (with_reducible refine K.skip ?_) | (with_reducible refine K.block ?_))
    refine K.reg ?_
    refine KO.mv rfl rfl ?_
    refine KO.mv rfl rfl ?_
    refine KO.add rfl rfl rfl (by omega) rfl ?_
    refine KO.i2u rfl (by rw [Tryz.underlying3]; rfl) Tryz.underlying73 (by omega) rfl ?_
    refine KO.shr1 rfl rfl rfl rfl ?_
    refine KO.u2i rfl (by rw [Tryz.underlying73]; rfl) Tryz.underlying3 (by omega) rfl ?_
    refine KO.as rfl rfl ?_
    refine KO.nil ?_
    repeat (first | (with_reducible refine K.seq ?_) | (with_reducible refine KQ.next ?_))
    rw [hmid]
    refine K.draw [.pure, .pure, .pure, .pure, .read, .read, .write, .pure] [0, 1, 2, 3, 4, 5, 6, 7] (by kernel_rfl) (by kernel_rfl) ?_
    refine KO.mv rfl rfl ?_
    refine KO.mv rfl rfl ?_
    refine KO.mv rfl rfl ?_
    refine KO.idx0 rfl rfl Tryz.runUnderlying120 Tryz.sizeOf243 (by exact rfl) (by omega) rfl ?_
    refine KO.ldN0 (cs := (itC e).toArray) rfl rfl Tryz.isAgg243 Tryz.sizeOf243 rfl (hc g rfl _ e he) rfl ?_
    refine KO.ldB0 rfl rfl Tryz.isAgg243 Tryz.sizeOf243 (by with_reducible (repeat (exact Pick.head))) (by exact rfl) rfl ?_
    refine KO.ce rfl rfl rfl Tryz.call244 rfl (push1_e w _ e x (hxs e (List.mem_of_getElem? he)) hx) ?_; rintro v L' ⟨rfl, rfl⟩
    refine KO.lss rfl rfl rfl ?_
    refine KO.nil ?_
    repeat ((with_reducible refine KQ.next ?_))
    refine K.condD rfl (fun h3 => ?_) (fun h3 => ?_)
    · (skip)
      refine K.reg ?_
      refine KO.mv rfl rfl ?_
      refine KO.add rfl rfl rfl (by omega) rfl ?_
      refine KO.as rfl rfl ?_
      refine KO.nil ?_
      repeat ((with_reducible refine KQ.blk_normal ?_))
      refine KQ.round ((p + q) / 2 + 1, q) ⟨by dsimp only; omega, hq, fun r a hr ha => hm r _ a e (by omega) ha he h3, h2⟩ (by dsimp only; omega) ⟨rfl, rfl, rfl, rfl, rfl, rfl, trivial⟩ (fun _ h => h)
    · (skip)
      refine K.reg ?_
      refine KO.mv rfl rfl ?_
      refine KO.as rfl rfl ?_
      refine KO.nil ?_
      repeat ((with_reducible refine KQ.blk_normal ?_))
      refine KQ.round (p, (p + q) / 2) ⟨by dsimp only; omega, by dsimp only; omega, h1, fun r a hr ha => Int.not_lt.1 fun hl => h3 (hm _ r e a hr he ha hl)⟩ (by dsimp only; omega) ⟨rfl, rfl, rfl, rfl, rfl, rfl, trivial⟩ (fun _ h => h)
  · obtain rfl : p = q := by omega
    by_cases hlt : p < xs.length
    · obtain ⟨g, rfl⟩ := hsa (by omega)
      obtain ⟨e, he⟩ : ∃ e, xs[p]? = some e := ⟨xs[p], List.getElem?_eq_getElem (by omega)⟩
      repeat (first | (with_reducible refine K.seq ?_) | (with_reducible refine KQ.next ?_) | (with_reducible refine KQ.then_exit ?_) | (with_reducible refine KQ.blk_exit ?_) | (with_reducible refine K.exit ?_))
      refine K.draw [.pure, .pure, .pure, .pure, .pure, .pure, .pure, .pure, .pure, .read, .read, .write, .pure, .pure, .pure, .pure] [0, 1, 2, 3, 4, 5, 6, 7, 8, 9, 10, 11, 12, 13, 14, 15] (by kernel_rfl) (by kernel_rfl) ?_
      refine KO.mv rfl rfl ?_
      refine KO.mv rfl rfl ?_
      refine KO.mv rfl rfl ?_
      refine KO.lss rfl rfl rfl ?_
      refine KO.mv rfl rfl ?_
      (refine KO.on rfl rfl ?_ ?_; (focus (simp only [decide_eq_true_eq, decide_eq_false_iff_not, Bool.not_eq_true, Bool.not_true, Bool.not_false, ne_eq]; omega)); (refine KO.mv rfl rfl ?_))
      (refine KO.on rfl rfl ?_ ?_; (focus (simp only [decide_eq_true_eq, decide_eq_false_iff_not, Bool.not_eq_true, Bool.not_true, Bool.not_false, ne_eq]; omega)); (refine KO.mv rfl rfl ?_))
      (refine KO.on rfl rfl ?_ ?_; (focus (simp only [decide_eq_true_eq, decide_eq_false_iff_not, Bool.not_eq_true, Bool.not_true, Bool.not_false, ne_eq]; omega)); (refine KO.mv rfl rfl ?_))
      (refine KO.on rfl rfl ?_ ?_; (focus (simp only [decide_eq_true_eq, decide_eq_false_iff_not, Bool.not_eq_true, Bool.not_true, Bool.not_false, ne_eq]; omega)); (refine KO.idx0 rfl rfl Tryz.runUnderlying120 Tryz.sizeOf243 (by exact rfl) (by omega) rfl ?_))
      refine KO.on rfl rfl (by simp; omega) ?_; refine KO.ldN0 (cs := (itC e).toArray) rfl rfl Tryz.isAgg243 Tryz.sizeOf243 rfl (hc g rfl _ e he) rfl ?_
      (refine KO.on rfl rfl ?_ ?_; (focus (simp only [decide_eq_true_eq, decide_eq_false_iff_not, Bool.not_eq_true, Bool.not_true, Bool.not_false, ne_eq]; omega)); (refine KO.ldB0 rfl rfl Tryz.isAgg243 Tryz.sizeOf243 (by with_reducible (repeat (exact Pick.head))) (by exact rfl) rfl ?_))
      refine KO.on rfl rfl (by simp; omega) ?_; refine KO.ce rfl rfl rfl Tryz.call244 rfl (push1_e w _ e x (hxs e (List.mem_of_getElem? he)) hx) ?_; rintro v L' ⟨rfl, rfl⟩
      (refine KO.on rfl rfl ?_ ?_; (focus (simp only [decide_eq_true_eq, decide_eq_false_iff_not, Bool.not_eq_true, Bool.not_true, Bool.not_false, ne_eq]; omega)); (refine KO.eqI rfl rfl rfl ?_))
      (refine KO.pickT rfl ?_ rfl rfl ?_; (focus (simp only [decide_eq_true_eq, decide_eq_false_iff_not, Bool.not_eq_true, Bool.not_true, Bool.not_false, ne_eq]; omega)))
      refine KO.as rfl rfl ?_
      refine KO.as rfl rfl ?_
      refine KO.nil ?_
      repeat (first | (with_reducible refine KQ.next ?_) | (with_reducible refine K.ret ?_))
      refine KQ.ret2 rfl rfl rfl (fun w' hs => ⟨_, _, rfl, ⟨p, ⟨hq, h1, h2⟩, ?_, rfl⟩, hw.below_step hs.below, hs.below⟩)
      simp [hitIt, he]
    · repeat (first | (with_reducible refine K.seq ?_) | (with_reducible refine KQ.next ?_) | (with_reducible refine KQ.then_exit ?_) | (with_reducible refine KQ.blk_exit ?_) | (with_reducible refine K.exit ?_))
      refine K.draw [.pure, .pure, .pure, .pure, .pure, .pure, .pure, .pure, .pure, .read, .read, .write, .pure, .pure, .pure, .pure] [0, 1, 2, 3, 4, 5, 6, 7, 8, 9, 10, 11, 12, 13, 14, 15] (by kernel_rfl) (by kernel_rfl) ?_
      refine KO.mv rfl rfl ?_
      refine KO.mv rfl rfl ?_
      refine KO.mv rfl rfl ?_
      refine KO.lss rfl rfl rfl ?_
      refine KO.mv rfl rfl ?_
      (refine KO.no rfl rfl ?_ rfl ?_; (focus (simp only [decide_eq_true_eq, decide_eq_false_iff_not, Bool.not_eq_true, Bool.not_true, Bool.not_false, ne_eq]; omega)))
      (refine KO.no rfl rfl ?_ rfl ?_; (focus (simp only [decide_eq_true_eq, decide_eq_false_iff_not, Bool.not_eq_true, Bool.not_true, Bool.not_false, ne_eq]; omega)))
      (refine KO.no rfl rfl ?_ rfl ?_; (focus (simp only [decide_eq_true_eq, decide_eq_false_iff_not, Bool.not_eq_true, Bool.not_true, Bool.not_false, ne_eq]; omega)))
      (refine KO.no rfl rfl ?_ rfl ?_; (focus (simp only [decide_eq_true_eq, decide_eq_false_iff_not, Bool.not_eq_true, Bool.not_true, Bool.not_false, ne_eq]; omega)))
      (refine KO.no rfl rfl ?_ rfl ?_; (focus (simp only [decide_eq_true_eq, decide_eq_false_iff_not, Bool.not_eq_true, Bool.not_true, Bool.not_false, ne_eq]; omega)))
      (refine KO.no rfl rfl ?_ rfl ?_; (focus (simp only [decide_eq_true_eq, decide_eq_false_iff_not, Bool.not_eq_true, Bool.not_true, Bool.not_false, ne_eq]; omega)))
      (refine KO.no rfl rfl ?_ rfl ?_; (focus (simp only [decide_eq_true_eq, decide_eq_false_iff_not, Bool.not_eq_true, Bool.not_true, Bool.not_false, ne_eq]; omega)))
      (refine KO.no rfl rfl ?_ rfl ?_; (focus (simp only [decide_eq_true_eq, decide_eq_false_iff_not, Bool.not_eq_true, Bool.not_true, Bool.not_false, ne_eq]; omega)))
      (refine KO.pickF rfl ?_ rfl rfl ?_; (focus (simp only [decide_eq_true_eq, decide_eq_false_iff_not, Bool.not_eq_true, Bool.not_true, Bool.not_false, ne_eq]; omega)))
      refine KO.as rfl rfl ?_
      refine KO.as rfl rfl ?_
      refine KO.nil ?_
      repeat (first | (with_reducible refine KQ.next ?_) | (with_reducible refine K.ret ?_))
      refine KQ.ret2 rfl rfl rfl (fun w' hs => ⟨_, _, rfl, ⟨p, ⟨hq, h1, h2⟩, ?_, rfl⟩, hw.below_step hs.below, hs.below⟩)
      have : xs[p]? = none := List.getElem?_eq_none (by omega)
      simp [hitIt, this, hlt]
end Go.Proofs.YtjhogocabcdjbabGreatDoor
/- queue: Push. -/
namespace Go.Proofs.YtjhogocabcdjbabGreatDoor
open Go Go.RowKit WB
abbrev quB (b : Nat) (v : Value) (next : Int) : HP := blk b (.cells [v, .int .i64 next].toArray 122 (0, 0))
def quP (b : Nat) (q : Qu) : HP := ex fun v => sep (quB b v q.next) (itS v q.l)
theorem quP_open {w0 w : World} {b : Nat} {q : Qu} {L : List HP} (h : St w0 (quP b q :: L) w) : ∃ v, St w0 (quB b v q.next :: itS v q.l :: L) w := by
  obtain ⟨v, h⟩ := h.exs
  exact ⟨v, h.split⟩
theorem quP_mk {w0 w : World} {b : Nat} {l : List It} {next : Int} {v : Value} {L : List HP} (h : St w0 (quB b v next :: itS v l :: L) w) : St w0 (quP b ⟨l, next⟩ :: L) w := St.exi (F := fun v => sep (quB b v next) (itS v l)) v h.join
set_option maxRecDepth 100000 in
theorem push_c (w0 : World) (L : List HP) (b : Nat) (q : Qu) (m : Ms) (u : Int) (hq : QuOk q) (hm : small m.pri) :
    KC Tryz.prog 147 #[.pointer (some ⟨b, 0, none⟩), .agg (msC m).toArray, .int .i64 u] w0 (quP b q :: L) (fun v L' => v = .tuple #[] ∧ L' = quP b (qpush q m u) :: L) := by
  have hx : smallIt (qitem q m u) := ⟨hm, by have := hq.next; unfold qitem small; dsimp only; omega⟩
  have hk := srchIt_le q.l (qitem q m u)
  have h1 := hq.next
  have h2 := hq.len
  refine KC.mk (n := 44) Tryz.func147 rfl Tryz.ntmps147 (by simp) ?_
  repeat ((with_reducible refine K.seq ?_))
  refine K.open' (fun _ h => quP_open h) fun v => ?_
  refine K.reg ?_
  refine KO.box rfl rfl (by exact rfl) rfl ?_; intro b4
  refine KO.nil ?_
  repeat (first | (with_reducible refine K.seq ?_) | (with_reducible refine KQ.next ?_))
  refine K.draw [.read, .pure, .pure, .pure, .read, .pure, .pure, .pure, .keep, .write] [0, 1, 2, 3, 4, 5, 6, 7, 8, 9] (by kernel_rfl) (by kernel_rfl) ?_
  refine KO.ldB0 rfl rfl Tryz.isAgg44 Tryz.sizeOf44 (by with_reducible (repeat (exact Pick.head))) (by exact rfl) rfl ?_
  refine KO.mv rfl rfl ?_
  refine KO.nc rfl rfl ?_
  refine KO.fo0 (off := 1) rfl Tryz.runUnderlying122 rfl rfl Tryz.sizeOf3 rfl ?_
  refine KO.ld rfl rfl Tryz.isAgg3 (by with_reducible (repeat (first | exact Pick.head | apply Pick.tail))) (by exact rfl) rfl ?_
  refine KO.mv rfl rfl ?_
  refine KO.max2 rfl rfl rfl rfl ?_
  refine KO.bldS (pl := [(0, 5), (5, 1), (6, 1), (7, 1)]) (itC (qitem q m u)) rfl Tryz.zeroValue243 Tryz.runUnderlying243 (by intro w; simp [Tryz.sizeOf3, Tryz.sizeOf44]) rfl rfl ?_
  refine KO.alloc rfl Tryz.zeroValue243 (by exact rfl) rfl ?_; intro b6
  refine KO.sto0 rfl rfl rfl (by exact rfl) (by exact Tryz.sizeOf243) (by exact rfl) (by with_reducible (repeat (exact Pick.head))) (by exact rfl) ?_
  refine KO.nil ?_
  repeat (first | (with_reducible refine K.seq ?_) | (with_reducible refine KQ.next ?_))
  refine K.reg ?_
  refine KO.mv rfl rfl ?_
  refine KO.nc rfl rfl ?_
  refine KO.fo0 (off := 1) rfl Tryz.runUnderlying122 rfl rfl Tryz.sizeOf3 rfl ?_
  refine KO.ld rfl rfl Tryz.isAgg3 (by with_reducible (repeat (first | exact Pick.head | apply Pick.tail))) (by exact rfl) rfl ?_
  refine KO.add rfl rfl rfl (by omega) rfl ?_
  refine KO.nc rfl rfl ?_
  refine KO.fo0 (off := 1) rfl Tryz.runUnderlying122 rfl rfl Tryz.sizeOf3 rfl ?_
  (refine KO.sto rfl rfl rfl (by exact rfl) (by exact Tryz.sizeOf3) (by exact rfl) (by with_reducible (repeat (first | exact Pick.head | apply Pick.tail))) (by exact rfl) (by (try simp only [putL, List.drop_succ_cons, List.drop_zero, List.drop_nil, List.cons_append, List.nil_append, List.length_cons, List.length_nil, Nat.zero_add, Nat.reduceAdd]); (try exact rfl)) ?_)
  refine KO.nil ?_
  repeat (first | (with_reducible refine K.seq ?_) | (with_reducible refine KQ.next ?_))
  refine K.draw [.pure, .pure, .pure, .read, .read, .write, .pure, .pure, .pure, .pure, .pure] [0, 1, 2, 3, 4, 5, 6, 7, 8, 9, 10] (by kernel_rfl) (by kernel_rfl) ?_
  refine KO.mv rfl rfl ?_
  refine KO.nc rfl rfl ?_
  refine KO.fo0 (off := 0) rfl Tryz.runUnderlying122 rfl rfl Tryz.sizeOf120 rfl ?_
  refine KO.ld rfl rfl Tryz.isAgg120 (by with_reducible (repeat (exact Pick.head))) (by exact rfl) rfl ?_
  refine KO.ldB0 rfl rfl Tryz.isAgg243 Tryz.sizeOf243 (by with_reducible (repeat (first | exact Pick.head | apply Pick.tail))) (by exact rfl) rfl ?_
  refine KO.ce rfl rfl rfl Tryz.call243 rfl (bsf_it w0 _ v q.l (qitem q m u) (RdS.of (fun _ => rfl) (by with_reducible (repeat (first | exact Pick.head | apply Pick.tail)))) (by omega) (hq.mono m u) hx hq.small) ?_; rintro v30 L' ⟨k, hsr, rfl, rfl⟩; obtain rfl := srchIt_eq hsr
  refine KO.mv rfl rfl ?_
  refine KO.extrL rfl (by exact rfl) rfl ?_
  refine KO.extrL rfl (by exact rfl) rfl ?_
  refine KO.as rfl rfl ?_
  refine KO.as rfl rfl ?_
  refine KO.nil ?_
  repeat ((with_reducible refine KQ.next ?_))
  refine K.draw [.pure, .pure, .pure, .pure, .read, .pure, .read, .keep, .write, .pure, .pure, .write] [0, 1, 2, 3, 4, 5, 6, 7, 8, 9, 10, 11] (by kernel_rfl) (by kernel_rfl) ?_
  refine KO.mv rfl rfl ?_
  refine KO.mv rfl rfl ?_
  refine KO.nc rfl rfl ?_
  refine KO.fo0 (off := 0) rfl Tryz.runUnderlying122 rfl rfl Tryz.sizeOf120 rfl ?_
  refine KO.ld rfl rfl Tryz.isAgg120 (by with_reducible (repeat (exact Pick.head))) (by exact rfl) rfl ?_
  refine KO.mv rfl rfl ?_
  refine KO.ldB0 rfl rfl Tryz.isAgg243 Tryz.sizeOf243 (by with_reducible (repeat (first | exact Pick.head | apply Pick.tail))) (by exact rfl) rfl ?_
  refine KO.bs1 (z := (Value.agg #[.int .i64 0, .int .i64 0, .string ⟨#[]⟩, .string ⟨#[]⟩, .int .i64 0, .int .i64 0, .int .i64 0, .int .i64 0])) (sz := 8) (by' := 80) rfl rfl Tryz.underlying120 (by kernel_rfl) (by exact rfl) (by exact rfl) (by decide) (by decide) rfl ?_; intro b40
  refine KO.cl rfl rfl rfl Tryz.call246 rfl (KC.pk2 (by with_reducible (repeat (first | exact Pick.head | apply Pick.tail))) (by with_reducible (repeat (exact Pick.head))) (itIns_c w0 _ v q.l (qitem q m u) _ _ hk (by omega))) ?_; rintro v' L' rfl; refine KO.fact (fun _ hs => SL_form hs) ?_; rintro ⟨a', c', rfl, -⟩
  refine KO.nc rfl rfl ?_
  refine KO.fo0 (off := 0) rfl Tryz.runUnderlying122 rfl rfl Tryz.sizeOf120 rfl ?_
  (refine KO.sto rfl rfl rfl (by exact rfl) (by exact Tryz.sizeOf120) (by exact rfl) (by with_reducible (repeat (first | exact Pick.head | apply Pick.tail))) (by exact rfl) (by (try simp only [putL, List.drop_succ_cons, List.drop_zero, List.drop_nil, List.cons_append, List.nil_append, List.length_cons, List.length_nil, Nat.zero_add, Nat.reduceAdd]); (try exact rfl)) ?_)
  refine KO.nil ?_
  refine KQ.end0 rfl (fun w' hs => ⟨_, _, rfl, ⟨rfl, rfl⟩, ?_⟩)
  exact quP_mk ((hs.pick2 (by with_reducible (repeat (exact Pick.head))) (by with_reducible (repeat (exact Pick.head)))).gc2 (by with_reducible repeat (first | exact LSub.refl | apply LSub.drop)))
end Go.Proofs.YtjhogocabcdjbabGreatDoor
/- queue: what is asked of it; Get, Take. -/
namespace Go.Proofs.YtjhogocabcdjbabGreatDoor
open Go Go.RowKit WB
theorem has1_e (w0 : World) (L R : List HP) (e : It) (b : Nat) (id : Int) (E : TypeId) (hp : Pick L (blk b (.cells [Value.int .i64 id].toArray E (0, 0))) R) :
    KE Tryz.prog 242 #[.agg (itC e).toArray, .pointer (some ⟨b, 0, none⟩)] w0 L (fun v L' => v = .bool (idB id e) ∧ L' = L) := by
  refine KE.mk (n := 9) Tryz.func242 rfl Tryz.ntmps242 (by simp) ?_
  intro w hw
  have hw := hw.pick hp
  repeat ((with_reducible refine K.seq ?_))
  refine K.reg ?_
  refine KO.box rfl rfl (by exact rfl) rfl ?_; intro b2
  refine KO.as rfl rfl ?_
  refine KO.nil ?_
  repeat (first | (with_reducible refine K.seq ?_) | (with_reducible refine KQ.next ?_))
  refine K.reg ?_
  refine KO.fo0 (off := 0) rfl Tryz.runUnderlying243 rfl rfl Tryz.sizeOf44 rfl ?_
  refine KO.fo0 (off := 0) rfl Tryz.runUnderlying44 rfl rfl Tryz.sizeOf3 rfl ?_
  refine KO.ld rfl rfl Tryz.isAgg3 (by with_reducible (repeat (exact Pick.head))) (by exact rfl) rfl ?_
  refine KO.ldb hw rfl rfl Tryz.isAgg3 (by with_reducible (repeat (exact Pick.head))) (by exact rfl) rfl ?_
  refine KO.eqI rfl rfl rfl ?_
  refine KO.as rfl rfl ?_
  refine KO.nil ?_
  repeat (first | (with_reducible refine KQ.next ?_) | (with_reducible refine K.ret ?_))
  refine KQ.ret1 rfl rfl (fun w' hs => ⟨_, _, rfl, ⟨rfl, rfl⟩, (hw.unpick hp).below_step hs.below, hs.below⟩)
theorem has_e (w0 : World) (L R : List HP) (b : Nat) (q : Qu) (id : Int) (hp : Pick L (quP b q) R) (hq : q.l.length < 900000) :
    KE Tryz.prog 146 #[.pointer (some ⟨b, 0, none⟩), .int .i64 id] w0 L (fun v L' => v = .bool (qhas q id) ∧ L' = L) := by
  refine KE.mk (n := 11) Tryz.func146 rfl Tryz.ntmps146 (by simp) ?_
  intro w hw0
  obtain ⟨v, hw⟩ := quP_open (hw0.pick hp)
  repeat ((with_reducible refine K.seq ?_))
  refine K.reg ?_
  refine KO.box rfl rfl (by exact rfl) rfl ?_; intro b3
  refine KO.as rfl rfl ?_
  refine KO.nil ?_
  repeat (first | (with_reducible refine K.seq ?_) | (with_reducible refine KQ.next ?_))
  refine K.reg ?_
  refine KO.mv rfl rfl ?_
  refine KO.nc rfl rfl ?_
  refine KO.fo0 (off := 0) rfl Tryz.runUnderlying122 rfl rfl Tryz.sizeOf120 rfl ?_
  refine KO.ldb hw rfl rfl Tryz.isAgg120 (by with_reducible (repeat (exact Pick.head))) (by exact rfl) rfl ?_
  refine KO.mkc rfl rfl rfl ?_
  refine KO.ce rfl rfl rfl Tryz.call241 rfl (conf_e w _ v q.l 242 [.pointer (some ⟨b3, 0, none⟩)] (idB id) (RdS.of (E := 243) (sz := 8) (cf := itC) (fun _ => rfl) Pick.head w hw.drop).base (by omega) Tryz.call242 (fun e _ => has1_e _ _ _ e b3 id _ (by with_reducible (repeat (exact Pick.head))))) ?_; rintro v L' ⟨rfl, rfl⟩
  refine KO.as rfl rfl ?_
  refine KO.nil ?_
  repeat (first | (with_reducible refine KQ.next ?_) | (with_reducible refine K.ret ?_))
  refine KQ.ret1 rfl rfl (fun w' hs => ⟨_, _, rfl, ⟨rfl, rfl⟩, hw0.below_step hs.below, hs.below⟩)
end Go.Proofs.YtjhogocabcdjbabGreatDoor
/- the steps of the calculus: results that lie in memory -/
namespace WB
open Go Go.RowKit
section
variable {P : Program} {fn : Func} {R : Ending → World → Prop} {n : Nat} {w0 : World} {G : Env} {L M : List HP} {v v1 v2 v3 : Value} {t t1 t2 t3 : Nat} {T E : TypeId} {b : Nat} {cs : List Value} {fz : Nat × Nat}
theorem resC (h1 : envAt G t1 = some (.pointer (some ⟨b, 0, none⟩))) (hT : ∀ w, (isAgg T).run P w = .ok true w) (hn : ∀ w, (Go.sizeOf T).run P w = .ok cs.length w) (hp : Pick L (blk b (.cells cs.toArray E fz)) M) (a : Act) (w : World) (ha : Knows n [] G a) (hw : St w0 L w) :
    (loadVar T ⟨b, 0, none⟩).run P w = .ok (.agg cs.toArray) w := by
  refine run_load_agg (hT w) (hn w) fun j c hj => ?_
  rw [Addr.add_lit, World.cell?, (hw.lookP hp).2]
  simpa using hj
theorem KQ.retCT (hr : fn.results = #[.cell t1 T, .tmp t2]) (h1 : envAt G t1 = some (.pointer (some ⟨b, 0, none⟩))) (hT : ∀ w, (isAgg T).run P w = .ok true w) (hp : Pick L (blk b (.cells cs.toArray E fz)) M) (hn : ∀ w, (Go.sizeOf T).run P w = .ok cs.length w)
    (h2 : envAt G t2 = some v2) (h : ∀ w, St w0 L w → R (.returned (.tuple #[.agg cs.toArray, v2])) w) : KQ (bodyPost P fn R) .ret n [] w0 G L :=
  KQ.fin (fun a w ha hw => by
    have hl := resC (P := P) h1 hT hn hp a w ha hw
    simp [results, hr, Array.getD_eq_getD_getElem?, ha.get _ _ h1, ha.get _ _ h2, asAddr, hl]) h
end
end WB
namespace WB
open Go Go.RowKit
/-- parts over parts -/
theorem St.stack {w0 w w' : World} {L M : List HP} (hw : St w0 L w) (hs : St w M w') : St w0 (M ++ L) w' := by
  refine ⟨hs.os.trans hw.os, hs.tape.trans hw.tape, hs.output.trans hw.output, Nat.le_trans hw.size hs.size, fun k hk => ?_, ?_⟩
  · rw [hs.block k (Nat.lt_of_lt_of_le hk hw.size)]; exact hw.block k hk
  · obtain ⟨h1, hh1, s1⟩ := hw.own
    obtain ⟨h2, hh2, s2⟩ := hs.own
    have hlt : ∀ k o, h1 k = some o → k < w.heap.size := fun k o hk => (Array.getElem?_eq_some_iff.1 (hh1 k o hk).2).1
    refine ⟨uni h2 h1, fun k o hk => ?_, seps_append.2 ⟨h2, h1, fun k => ?_, rfl, s2, s1⟩⟩
    · simp only [uni] at hk
      cases e2 : h2 k with
      | some v =>
        rw [e2] at hk; simp only [Option.some_or, Option.some.injEq] at hk; subst hk
        exact ⟨Nat.le_trans hw.size (hh2 k v e2).1, (hh2 k v e2).2⟩
      | none =>
        rw [e2] at hk; simp only [Option.none_or] at hk
        exact ⟨(hh1 k o hk).1, by rw [hs.block k (hlt k o hk)]; exact (hh1 k o hk).2⟩
    · cases e1 : h1 k with
      | none => exact .inr rfl
      | some o =>
        left
        cases e2 : h2 k with
        | none => rfl
        | some v => have h3 := (hh2 k v e2).1; have h4 := hlt k o e1; omega
theorem SL_nil {w0 w : World} {L : List HP} {α : Type} {E : TypeId} {sz : Nat} {cf : α → List Value} (h : St w0 L w) : St w0 (SL E sz cf (.slice none 0 0) ([] : List α) :: L) w := h.osl_nil
end WB
/- queue: Get, Take. -/
namespace Go.Proofs.YtjhogocabcdjbabGreatDoor
open Go Go.RowKit WB
theorem take_c (w0 : World) (L : List HP) (b : Nat) (q : Qu) (id : Int) (hq : q.l.length < 900000) :
    KC Tryz.prog 161 #[.pointer (some ⟨b, 0, none⟩), .int .i64 id] w0 (quP b q :: L) (fun v L' => v = .tuple #[.agg (msC (qtakeM q id)).toArray, errV 70 (qtakeE q id)] ∧ L' = quP b (qtake q id) :: L) := by
  refine KC.mk (n := 38) Tryz.func161 rfl Tryz.ntmps161 (by simp) ?_
  repeat ((with_reducible refine K.seq ?_))
  refine K.open' (fun _ h => quP_open h) fun v => ?_
  refine K.reg ?_
  refine KO.box rfl rfl (by exact rfl) rfl ?_; intro b3
  refine KO.alloc rfl Tryz.zeroValue44 (by exact rfl) rfl ?_; intro b4
  refine KO.as rfl rfl ?_
  refine KO.nil ?_
  repeat (first | (with_reducible refine K.seq ?_) | (with_reducible refine KQ.next ?_))
  refine K.reg ?_
  refine KO.mv rfl rfl ?_
  refine KO.nc rfl rfl ?_
  refine KO.fo0 (off := 0) rfl Tryz.runUnderlying122 rfl rfl Tryz.sizeOf120 rfl ?_
  refine KO.ld rfl rfl Tryz.isAgg120 (by with_reducible (repeat (first | exact Pick.head | apply Pick.tail))) (by exact rfl) rfl ?_
  refine KO.mkc rfl rfl rfl ?_
  refine KO.ce rfl rfl rfl Tryz.call149 rfl (idxf_e w0 _ v q.l 252 [.pointer (some ⟨b3, 0, none⟩)] (idB id) (RdS.of (fun _ => rfl) (by with_reducible (repeat (first | exact Pick.head | apply Pick.tail)))) (by omega) Tryz.call252 (fun e _ => take1_e w0 _ _ e b3 id _ (by with_reducible (repeat (first | exact Pick.head | apply Pick.tail))))) ?_; rintro v12 L' ⟨rfl, rfl⟩
  refine KO.as rfl rfl ?_
  refine KO.nil ?_
  repeat (first | (with_reducible refine K.seq ?_) | (with_reducible refine KQ.next ?_))
  refine K.reg ?_
  refine KO.mv rfl rfl ?_
  refine KO.lss rfl rfl rfl ?_
  refine KO.nil ?_
  repeat ((with_reducible refine KQ.next ?_))
  refine K.condD rfl (fun h => ?_) (fun h => ?_)
  · have hn : qtakeI q id = none := fidx_neg h
    repeat ((with_reducible refine K.seq ?_))
    refine K.reg ?_
    refine KO.bldN (pl := [(0, 1), (1, 1), (2, 1), (3, 1), (4, 1)]) rfl Tryz.zeroValue44 Tryz.runUnderlying44 (by intro w; simp [Tryz.sizeOf3, Tryz.sizeOf9]) (by exact rfl) rfl ?_
    refine KO.mki rfl (by kernel_rfl) rfl ?_
    refine KO.sto0 rfl rfl rfl (by exact rfl) (by exact Tryz.sizeOf44) (by exact rfl) (by with_reducible (repeat (exact Pick.head))) (by exact rfl) ?_
    refine KO.as rfl rfl ?_
    refine KO.nil ?_
    repeat (first | (with_reducible refine KQ.next ?_) | (with_reducible refine KQ.then_ret ?_) | (with_reducible refine K.ret ?_))
    refine KQ.retCT rfl rfl Tryz.isAgg44 (by with_reducible (repeat (exact Pick.head))) (by exact Tryz.sizeOf44) rfl (fun w' hs => ⟨_, _, rfl, ⟨?_, rfl⟩, ?_⟩)
    · simp only [qtakeM, qtakeE, hn]; rfl
    · rw [show qtake q id = q by simp only [qtake, hn]]
      exact quP_mk ((hs.pick2 (by with_reducible (repeat (first | exact Pick.head | apply Pick.tail))) (by with_reducible (repeat (first | exact Pick.head | apply Pick.tail)))).gc2 (by with_reducible repeat (first | exact LSub.refl | apply LSub.drop)))
  · obtain ⟨i0, e0, hi0, he0, hp0, hlt0, hfi⟩ := fidx_nonneg (Int.not_lt.1 h)
    have hn : qtakeI q id = some i0 := hfi
    refine K.fact (fun w hw => SL_some (hw.pick (by with_reducible (repeat (first | exact Pick.head | apply Pick.tail)))) hlt0) ?_
    rintro ⟨g, cap, rfl⟩
    rw [hi0]
    repeat (first | (with_reducible refine K.seq ?_) | (with_reducible refine KQ.next ?_) | (with_reducible refine K.skip ?_))
    refine K.reg ?_
    refine KO.mv rfl rfl ?_
    refine KO.nc rfl rfl ?_
    refine KO.fo0 (off := 0) rfl Tryz.runUnderlying122 rfl rfl Tryz.sizeOf120 rfl ?_
    refine KO.ld rfl rfl Tryz.isAgg120 (by with_reducible (repeat (first | exact Pick.head | apply Pick.tail))) (by exact rfl) rfl ?_
    refine KO.mv rfl rfl ?_
    refine KO.idx0 rfl rfl Tryz.runUnderlying120 Tryz.sizeOf243 (by exact rfl) (by omega) rfl ?_
    refine KO.fo (off := 0) rfl Tryz.runUnderlying243 rfl rfl Tryz.sizeOf44 rfl ?_
    (refine KO.ldEP rfl rfl Tryz.isAgg44 Tryz.sizeOf44 (by with_reducible (repeat (first | exact Pick.head | apply Pick.tail))) (fun _ => rfl) (by assumption) (by (try simp only [List.drop_zero, List.drop_succ_cons, List.take_succ_cons, List.take_zero]); (try exact rfl)) (by exact rfl) rfl ?_)
    refine KO.alloc rfl Tryz.zeroValue44 (by exact rfl) rfl ?_; intro b7
    refine KO.sto0 rfl rfl rfl (by exact rfl) (by exact Tryz.sizeOf44) (by exact rfl) (by with_reducible (repeat (exact Pick.head))) (by exact rfl) ?_
    refine KO.nil ?_
    repeat (first | (with_reducible refine K.seq ?_) | (with_reducible refine KQ.next ?_))
    refine K.reg ?_
    refine KO.mv rfl rfl ?_
    refine KO.mv rfl rfl ?_
    refine KO.nc rfl rfl ?_
    refine KO.fo0 (off := 0) rfl Tryz.runUnderlying122 rfl rfl Tryz.sizeOf120 rfl ?_
    refine KO.ld rfl rfl Tryz.isAgg120 (by with_reducible (repeat (first | exact Pick.head | apply Pick.tail))) (by exact rfl) rfl ?_
    refine KO.mv rfl rfl ?_
    refine KO.mv rfl rfl ?_
    refine KO.add rfl rfl rfl (by omega) rfl ?_
    refine KO.cl rfl rfl rfl Tryz.call151 rfl (KC.pk1 (by with_reducible (repeat (first | exact Pick.head | apply Pick.tail))) (del_c w0 _ _ q.l i0 hlt0 (by omega))) ?_; rintro v' L' rfl; refine KO.fact (fun _ hs => SL_form hs) ?_; rintro ⟨a', c', rfl, -⟩
    refine KO.nc rfl rfl ?_
    refine KO.fo0 (off := 0) rfl Tryz.runUnderlying122 rfl rfl Tryz.sizeOf120 rfl ?_
    (refine KO.sto rfl rfl rfl (by exact rfl) (by exact Tryz.sizeOf120) (by exact rfl) (by with_reducible (repeat (first | exact Pick.head | apply Pick.tail))) (by exact rfl) (by (try simp only [putL, List.drop_succ_cons, List.drop_zero, List.drop_nil, List.cons_append, List.nil_append, List.length_cons, List.length_nil, Nat.zero_add, Nat.reduceAdd]); (try exact rfl)) ?_)
    refine KO.nil ?_
    repeat (first | (with_reducible refine K.seq ?_) | (with_reducible refine KQ.next ?_))
    refine K.reg ?_
    refine KO.ldB0 rfl rfl Tryz.isAgg44 Tryz.sizeOf44 (by with_reducible (repeat (first | exact Pick.head | apply Pick.tail))) (by exact rfl) rfl ?_
    refine KO.sto0 rfl rfl rfl (by exact rfl) (by exact Tryz.sizeOf44) (by exact rfl) (by with_reducible (repeat (first | exact Pick.head | apply Pick.tail))) (by exact rfl) ?_
    refine KO.as rfl rfl ?_
    refine KO.nil ?_
    repeat (first | (with_reducible refine KQ.next ?_) | (with_reducible refine K.ret ?_))
    refine KQ.retCT rfl rfl Tryz.isAgg44 (by with_reducible (repeat (exact Pick.head))) (by exact Tryz.sizeOf44) rfl (fun w' hs => ⟨_, _, rfl, ⟨?_, rfl⟩, ?_⟩)
    · simp only [qtakeM, qtakeE, hn, itAt_of he0]; rfl
    · rw [show qtake q id = ⟨q.l.eraseIdx i0, q.next⟩ by simp only [qtake, hn]]
      exact quP_mk ((hs.pick2 (by with_reducible (repeat (first | exact Pick.head | apply Pick.tail))) (by with_reducible (repeat (first | exact Pick.head | apply Pick.tail)))).gc2 (by with_reducible repeat (first | exact LSub.refl | apply LSub.drop)))
theorem get_c (w0 : World) (L : List HP) (b : Nat) (q : Qu) (u : Int) (hq : q.l.length < 900000) :
    KC Tryz.prog 58 #[.pointer (some ⟨b, 0, none⟩), .int .i64 u] w0 (quP b q :: L) (fun v L' => v = .tuple #[.agg (msC (qgetM q)).toArray, errV 70 (qgetE q)] ∧ L' = quP b (qget q u) :: L) := by
  refine KC.mk (n := 47) Tryz.func58 rfl Tryz.ntmps58 (by simp) ?_
  repeat ((with_reducible refine K.seq ?_))
  refine K.open' (fun _ h => quP_open h) fun v => ?_
  refine K.reg ?_
  refine KO.alloc rfl Tryz.zeroValue44 (by exact rfl) rfl ?_; intro b4
  refine KO.as rfl rfl ?_
  refine KO.nil ?_
  repeat (first | (with_reducible refine K.seq ?_) | (with_reducible refine KQ.next ?_))
  refine K.reg ?_
  refine KO.mv rfl rfl ?_
  refine KO.nc rfl rfl ?_
  refine KO.fo0 (off := 0) rfl Tryz.runUnderlying122 rfl rfl Tryz.sizeOf120 rfl ?_
  refine KO.ld rfl rfl Tryz.isAgg120 (by with_reducible (repeat (first | exact Pick.head | apply Pick.tail))) (by exact rfl) rfl ?_
  refine KO.ce (cp := []) rfl rfl rfl Tryz.call149 rfl (idxf_e w0 _ v q.l 150 [] availB (RdS.of (fun _ => rfl) (by with_reducible (repeat (first | exact Pick.head | apply Pick.tail)))) (by omega) Tryz.call150 (fun e _ => get1_e w0 _ e)) ?_; rintro v12 L' ⟨rfl, rfl⟩
  refine KO.as rfl rfl ?_
  refine KO.nil ?_
  repeat (first | (with_reducible refine K.seq ?_) | (with_reducible refine KQ.next ?_))
  refine K.reg ?_
  refine KO.mv rfl rfl ?_
  refine KO.lss rfl rfl rfl ?_
  refine KO.nil ?_
  repeat ((with_reducible refine KQ.next ?_))
  refine K.condD rfl (fun h => ?_) (fun h => ?_)
  · have hn : qgetI q = none := fidx_neg h
    repeat ((with_reducible refine K.seq ?_))
    refine K.reg ?_
    refine KO.bldN (pl := [(0, 1), (1, 1), (2, 1), (3, 1), (4, 1)]) rfl Tryz.zeroValue44 Tryz.runUnderlying44 (by intro w; simp [Tryz.sizeOf3, Tryz.sizeOf9]) (by exact rfl) rfl ?_
    refine KO.mki rfl (by kernel_rfl) rfl ?_
    refine KO.sto0 rfl rfl rfl (by exact rfl) (by exact Tryz.sizeOf44) (by exact rfl) (by with_reducible (repeat (exact Pick.head))) (by exact rfl) ?_
    refine KO.as rfl rfl ?_
    refine KO.nil ?_
    repeat (first | (with_reducible refine KQ.next ?_) | (with_reducible refine KQ.then_ret ?_) | (with_reducible refine K.ret ?_))
    refine KQ.retCT rfl rfl Tryz.isAgg44 (by with_reducible (repeat (exact Pick.head))) (by exact Tryz.sizeOf44) rfl (fun w' hs => ⟨_, _, rfl, ⟨?_, rfl⟩, ?_⟩)
    · simp only [qgetM, qgetE, hn]; rfl
    · rw [show qget q u = q by simp only [qget, hn]]
      exact quP_mk ((hs.pick2 (by with_reducible (repeat (first | exact Pick.head | apply Pick.tail))) (by with_reducible (repeat (first | exact Pick.head | apply Pick.tail)))).gc2 (by with_reducible repeat (first | exact LSub.refl | apply LSub.drop)))
  · obtain ⟨i0, e0, hi0, he0, hp0, hlt0, hfi⟩ := fidx_nonneg (Int.not_lt.1 h)
    have hn : qgetI q = some i0 := hfi
    refine K.fact (fun w hw => SL_some (hw.pick (by with_reducible (repeat (first | exact Pick.head | apply Pick.tail)))) hlt0) ?_
    rintro ⟨g, cap, rfl⟩
    rw [hi0]
    repeat (first | (with_reducible refine K.seq ?_) | (with_reducible refine KQ.next ?_) | (with_reducible refine K.skip ?_))
    refine K.reg ?_
    refine KO.mv rfl rfl ?_
    refine KO.nc rfl rfl ?_
    refine KO.fo0 (off := 0) rfl Tryz.runUnderlying122 rfl rfl Tryz.sizeOf120 rfl ?_
    refine KO.ld rfl rfl Tryz.isAgg120 (by with_reducible (repeat (first | exact Pick.head | apply Pick.tail))) (by exact rfl) rfl ?_
    refine KO.mv rfl rfl ?_
    refine KO.idx0 rfl rfl Tryz.runUnderlying120 Tryz.sizeOf243 (by exact rfl) (by omega) rfl ?_
    refine KO.fo (off := 0) rfl Tryz.runUnderlying243 rfl rfl Tryz.sizeOf44 rfl ?_
    (refine KO.ldEP rfl rfl Tryz.isAgg44 Tryz.sizeOf44 (by with_reducible (repeat (first | exact Pick.head | apply Pick.tail))) (fun _ => rfl) (by assumption) (by (try simp only [List.drop_zero, List.drop_succ_cons, List.take_succ_cons, List.take_zero]); (try exact rfl)) (by exact rfl) rfl ?_)
    refine KO.alloc rfl Tryz.zeroValue44 (by exact rfl) rfl ?_; intro b7
    refine KO.sto0 rfl rfl rfl (by exact rfl) (by exact Tryz.sizeOf44) (by exact rfl) (by with_reducible (repeat (exact Pick.head))) (by exact rfl) ?_
    refine KO.nil ?_
    repeat (first | (with_reducible refine K.seq ?_) | (with_reducible refine KQ.next ?_))
    refine K.reg ?_
    refine KO.mv rfl rfl ?_
    refine KO.lss rfl rfl rfl ?_
    refine KO.nil ?_
    repeat ((with_reducible refine KQ.next ?_))
    refine K.condD rfl (fun h2 => ?_) (fun h2 => ?_)
    · (skip)
      refine K.reg ?_
      refine KO.mv rfl rfl ?_
      refine KO.mv rfl rfl ?_
      refine KO.nc rfl rfl ?_
      refine KO.fo0 (off := 0) rfl Tryz.runUnderlying122 rfl rfl Tryz.sizeOf120 rfl ?_
      refine KO.ld rfl rfl Tryz.isAgg120 (by with_reducible (repeat (first | exact Pick.head | apply Pick.tail))) (by exact rfl) rfl ?_
      refine KO.mv rfl rfl ?_
      refine KO.mv rfl rfl ?_
      refine KO.add rfl rfl rfl (by omega) rfl ?_
      refine KO.cl rfl rfl rfl Tryz.call151 rfl (KC.pk1 (by with_reducible (repeat (first | exact Pick.head | apply Pick.tail))) (del_c w0 _ _ q.l i0 hlt0 (by omega))) ?_; rintro v' L' rfl; refine KO.fact (fun _ hs => SL_form hs) ?_; rintro ⟨a', c', rfl, -⟩
      refine KO.nc rfl rfl ?_
      refine KO.fo0 (off := 0) rfl Tryz.runUnderlying122 rfl rfl Tryz.sizeOf120 rfl ?_
      (refine KO.sto rfl rfl rfl (by exact rfl) (by exact Tryz.sizeOf120) (by exact rfl) (by with_reducible (repeat (first | exact Pick.head | apply Pick.tail))) (by exact rfl) (by (try simp only [putL, List.drop_succ_cons, List.drop_zero, List.drop_nil, List.cons_append, List.nil_append, List.length_cons, List.length_nil, Nat.zero_add, Nat.reduceAdd]); (try exact rfl)) ?_)
      refine KO.nil ?_
      repeat (first | (with_reducible refine K.seq ?_) | (with_reducible refine KQ.next ?_))
      refine K.reg ?_
      refine KO.ldB0 rfl rfl Tryz.isAgg44 Tryz.sizeOf44 (by with_reducible (repeat (first | exact Pick.head | apply Pick.tail))) (by exact rfl) rfl ?_
      refine KO.sto0 rfl rfl rfl (by exact rfl) (by exact Tryz.sizeOf44) (by exact rfl) (by with_reducible (repeat (first | exact Pick.head | apply Pick.tail))) (by exact rfl) ?_
      refine KO.as rfl rfl ?_
      refine KO.nil ?_
      repeat (first | (with_reducible refine KQ.next ?_) | (with_reducible refine K.ret ?_))
      refine KQ.retCT rfl rfl Tryz.isAgg44 (by with_reducible (repeat (exact Pick.head))) (by exact Tryz.sizeOf44) rfl (fun w' hs => ⟨_, _, rfl, ⟨?_, rfl⟩, ?_⟩)
      · simp only [qgetM, qgetE, hn, itAt_of he0]; rfl
      · rw [show qget q u = ⟨q.l.eraseIdx i0, q.next⟩ by simp only [qget, hn, h2, if_true]]
        exact quP_mk ((hs.pick2 (by with_reducible (repeat (first | exact Pick.head | apply Pick.tail))) (by with_reducible (repeat (first | exact Pick.head | apply Pick.tail)))).gc2 (by with_reducible repeat (first | exact LSub.refl | apply LSub.drop)))
    · (skip)
      refine K.reg ?_
      refine KO.mv rfl rfl ?_
      refine KO.nc rfl rfl ?_
      refine KO.fo0 (off := 0) rfl Tryz.runUnderlying122 rfl rfl Tryz.sizeOf120 rfl ?_
      refine KO.ld rfl rfl Tryz.isAgg120 (by with_reducible (repeat (first | exact Pick.head | apply Pick.tail))) (by exact rfl) rfl ?_
      refine KO.mv rfl rfl ?_
      refine KO.mv rfl rfl ?_
      refine KO.idx0 rfl rfl Tryz.runUnderlying120 Tryz.sizeOf243 (by exact rfl) (by omega) rfl ?_
      refine KO.fo (off := 7) rfl Tryz.runUnderlying243 rfl rfl Tryz.sizeOf3 rfl ?_
      refine KO.stE rfl rfl rfl (by exact rfl) (by exact Tryz.sizeOf3) (by exact rfl) (by with_reducible (repeat (first | exact Pick.head | apply Pick.tail))) (fun _ => rfl) he0 rfl { e0 with got := u } rfl ?_
      refine KO.nil ?_
      repeat (first | (with_reducible refine K.seq ?_) | (with_reducible refine KQ.next ?_))
      refine K.reg ?_
      refine KO.ldB0 rfl rfl Tryz.isAgg44 Tryz.sizeOf44 (by with_reducible (repeat (first | exact Pick.head | apply Pick.tail))) (by exact rfl) rfl ?_
      refine KO.sto0 rfl rfl rfl (by exact rfl) (by exact Tryz.sizeOf44) (by exact rfl) (by with_reducible (repeat (first | exact Pick.head | apply Pick.tail))) (by exact rfl) ?_
      refine KO.as rfl rfl ?_
      refine KO.nil ?_
      repeat (first | (with_reducible refine KQ.next ?_) | (with_reducible refine K.ret ?_))
      refine KQ.retCT rfl rfl Tryz.isAgg44 (by with_reducible (repeat (exact Pick.head))) (by exact Tryz.sizeOf44) rfl (fun w' hs => ⟨_, _, rfl, ⟨?_, rfl⟩, ?_⟩)
      · simp only [qgetM, qgetE, hn, itAt_of he0]; rfl
      · rw [show qget q u = ⟨q.l.set i0 { e0 with got := u }, q.next⟩ by simp only [qget, hn, h2, if_false, itAt_of he0]]
        exact quP_mk ((hs.pick2 (by with_reducible (repeat (first | exact Pick.head | apply Pick.tail))) (by with_reducible (repeat (first | exact Pick.head | apply Pick.tail)))).gc2 (by with_reducible repeat (first | exact LSub.refl | apply LSub.drop)))
end Go.Proofs.YtjhogocabcdjbabGreatDoor
/- queue: There, Kept. -/
namespace Go.Proofs.YtjhogocabcdjbabGreatDoor
open Go Go.RowKit WB
abbrev msS (v : Value) (xs : List Ms) : HP := SL 44 5 msC v xs
theorem ms_info : (Tryz.prog.info? 44).map (fun i => (i.zero, i.size, i.bytes)) = some (some (Value.agg #[.int .i64 0, .int .i64 0, .string ⟨#[]⟩, .string ⟨#[]⟩, .int .i64 0]), 5, 56) := by kernel_rfl
theorem there_e (w0 : World) (L R : List HP) (b : Nat) (q : Qu) (hp : Pick L (quP b q) R) (hq : q.l.length < 900000) :
    KE Tryz.prog 80 #[.pointer (some ⟨b, 0, none⟩)] w0 L (fun v L' => L' = msS v (qthere q) :: L) := by
  refine KE.mk (n := 30) Tryz.func80 rfl Tryz.ntmps80 (by simp) ?_
  intro w hw0
  obtain ⟨v, hw⟩ := quP_open (hw0.pick hp)
  obtain ⟨sa, cap, rfl, hsa, hc⟩ := RdS.of (E := 243) (sz := 8) (cf := itC) (fun _ => rfl) Pick.head w hw.drop
  repeat ((with_reducible refine K.seq ?_))
  refine K.reg ?_
  refine KO.as rfl rfl ?_
  refine KO.nil ?_
  repeat (first | (with_reducible refine K.seq ?_) | (with_reducible refine KQ.next ?_))
  refine K.reg ?_
  refine KO.as rfl rfl ?_
  refine KO.nil ?_
  repeat (first | (with_reducible refine K.seq ?_) | (with_reducible refine KQ.next ?_))
  refine K.reg ?_
  refine KO.mv rfl rfl ?_
  refine KO.nc rfl rfl ?_
  refine KO.fo0 (off := 0) rfl Tryz.runUnderlying122 rfl rfl Tryz.sizeOf120 rfl ?_
  refine KO.ldb hw rfl rfl Tryz.isAgg120 (by with_reducible (repeat (exact Pick.head))) (by exact rfl) rfl ?_
  refine KO.len rfl Tryz.underlying120 rfl ?_
  refine KO.mv rfl rfl ?_
  refine KO.nil ?_
  repeat (first | (with_reducible refine KQ.next ?_) | (with_reducible refine K.block ?_))
  refine K.loop (fun k : Nat × Value => [(3, k.2), (9, .slice sa q.l.length cap), (10, .int .i64 (q.l.length : Nat)), (11, .int .i64 (k.1 : Nat))]) (fun k => [msS k.2 (((q.l.take k.1).filter availB).map (·.m))]) (fun k => k.1 ≤ q.l.length) (fun k => q.l.length - k.1) (0, .slice none 0 0)
    (Nat.zero_le _) ⟨rfl, rfl, rfl, rfl, trivial⟩ (fun _ h => SL_nil h) ?_
  rintro ⟨k, vo⟩ hk
  dsimp only at hk ⊢
  repeat ((with_reducible refine K.seq ?_))
  refine K.reg ?_
  refine KO.lss rfl rfl rfl ?_
  refine KO.nil ?_
  repeat (first | (with_reducible refine K.seq ?_) | (with_reducible refine KQ.next ?_))
  refine K.condD rfl (fun h => ?_) (fun h => ?_)
  · obtain ⟨g, rfl⟩ := hsa (by omega)
    obtain ⟨e, he⟩ : ∃ e, q.l[k]? = some e := ⟨q.l[k], List.getElem?_eq_getElem (by omega)⟩
    have hlen : (((q.l.take k).filter availB).map (·.m)).length < 900000 := by
      have := List.length_filter_le availB (q.l.take k); simp at this ⊢; omega
    have hstep : ((q.l.take (k + 1)).filter availB).map (·.m) = ((q.l.take k).filter availB).map (·.m) ++ (if availB e = true then [e.m] else []) := by
      rw [take_succ_some he, List.filter_append]
      by_cases ha : availB e = true <;> simp [ha]
    repeat (first | (with_reducible refine K.seq ?_) | (with_reducible refine KQ.next ?_) | (with_reducible refine K.skip ?_) | (with_reducible refine K.block ?_))
    refine K.reg ?_
    refine KO.idx0 rfl rfl Tryz.runUnderlying120 Tryz.sizeOf243 (by exact rfl) (by omega) rfl ?_
    refine KO.ldN0 (cs := (itC e).toArray) rfl rfl Tryz.isAgg243 Tryz.sizeOf243 rfl (hc g rfl k e he) rfl ?_
    refine KO.alloc rfl Tryz.zeroValue243 (by exact rfl) rfl ?_; intro b5
    refine KO.sto0 rfl rfl rfl (by exact rfl) (by exact Tryz.sizeOf243) (by exact rfl) (by with_reducible (repeat (exact Pick.head))) (by exact rfl) ?_
    refine KO.nil ?_
    repeat (first | (with_reducible refine K.seq ?_) | (with_reducible refine KQ.next ?_))
    by_cases h1 : e.put < 0
    · refine K.reg ?_
      refine KO.fo0 (off := 6) rfl Tryz.runUnderlying243 rfl rfl Tryz.sizeOf3 rfl ?_
      refine KO.ld rfl rfl Tryz.isAgg3 (by with_reducible (repeat (exact Pick.head))) (by exact rfl) rfl ?_
      refine KO.lss rfl rfl rfl ?_
      refine KO.mv rfl rfl ?_
      (refine KO.on rfl rfl ?_ ?_; (focus (simp only [decide_eq_true_eq, decide_eq_false_iff_not, Bool.not_eq_true, Bool.not_true, Bool.not_false, ne_eq]; omega)); (refine KO.fo0 (off := 7) rfl Tryz.runUnderlying243 rfl rfl Tryz.sizeOf3 rfl ?_))
      (refine KO.on rfl rfl ?_ ?_; (focus (simp only [decide_eq_true_eq, decide_eq_false_iff_not, Bool.not_eq_true, Bool.not_true, Bool.not_false, ne_eq]; omega)); (refine KO.ld rfl rfl Tryz.isAgg3 (by with_reducible (repeat (exact Pick.head))) (by exact rfl) rfl ?_))
      (refine KO.on rfl rfl ?_ ?_; (focus (simp only [decide_eq_true_eq, decide_eq_false_iff_not, Bool.not_eq_true, Bool.not_true, Bool.not_false, ne_eq]; omega)); (refine KO.lss rfl rfl rfl ?_))
      (refine KO.pickT rfl ?_ rfl rfl ?_; (focus (simp only [decide_eq_true_eq, decide_eq_false_iff_not, Bool.not_eq_true, Bool.not_true, Bool.not_false, ne_eq]; omega)))
      refine KO.nil ?_
      repeat ((with_reducible refine KQ.next ?_))
      refine K.condD rfl (fun h2 => ?_) (fun h2 => ?_)
      · rw [if_pos (by simp [availB, h1, h2])] at hstep
        refine K.reg ?_
        refine KO.mv rfl rfl ?_
        refine KO.fo0 (off := 0) rfl Tryz.runUnderlying243 rfl rfl Tryz.sizeOf44 rfl ?_
        (refine KO.ldB rfl rfl Tryz.isAgg44 Tryz.sizeOf44 (by with_reducible (repeat (exact Pick.head))) (by (try simp only [List.drop_zero, List.drop_succ_cons, List.take_succ_cons, List.take_zero]); (try exact rfl)) (by exact rfl) rfl ?_)
        refine KO.bs1 (z := (Value.agg #[.int .i64 0, .int .i64 0, .string ⟨#[]⟩, .string ⟨#[]⟩, .int .i64 0])) (sz := 5) (by' := 56) rfl rfl Tryz.underlying49 (by kernel_rfl) (by exact rfl) (by exact rfl) (by decide) (by decide) rfl ?_; intro b26
        refine KO.app (z := Value.agg #[.int .i64 0, .int .i64 0, .string ⟨#[]⟩, .string ⟨#[]⟩, .int .i64 0]) (sz := 5) (by' := 56) rfl rfl rfl (by with_reducible (repeat (first | exact Pick.head | apply Pick.tail))) (by with_reducible (repeat (exact Pick.head))) Tryz.underlying49 ms_info rfl e.m (by exact rfl) (by exact rfl) (by exact rfl) (by omega) (by decide) rfl ?_; intro v'
        refine KO.as rfl rfl ?_
        refine KO.nil ?_
        repeat (first | (with_reducible refine KQ.next ?_) | (with_reducible refine KQ.blk_normal ?_))
        refine K.reg ?_
        refine KO.add rfl rfl rfl (by omega) rfl ?_
        refine KO.mv rfl rfl ?_
        refine KO.nil ?_
        refine KQ.round (k + 1, v') (by dsimp only; omega) (by dsimp only; omega) ⟨rfl, rfl, rfl, rfl, trivial⟩ (fun _ h => ?_)
        dsimp only
        rw [hstep]
        exact (h.pick (by with_reducible (repeat (exact Pick.head)))).gc1 (by with_reducible repeat (first | exact LSub.refl | apply LSub.drop))
      · rw [if_neg (by simp [availB, h2]), List.append_nil] at hstep
        repeat (first | (with_reducible refine KQ.next ?_) | (with_reducible refine KQ.blk_normal ?_) | (with_reducible refine K.skip ?_))
        refine K.reg ?_
        refine KO.add rfl rfl rfl (by omega) rfl ?_
        refine KO.mv rfl rfl ?_
        refine KO.nil ?_
        refine KQ.round (k + 1, vo) (by dsimp only; omega) (by dsimp only; omega) ⟨rfl, rfl, rfl, rfl, trivial⟩ (fun _ h => ?_)
        dsimp only
        rw [hstep]
        exact (h.pick (by with_reducible (repeat (first | exact Pick.head | apply Pick.tail)))).gc1 (by with_reducible repeat (first | exact LSub.refl | apply LSub.drop))
    · rw [if_neg (by simp [availB, h1]), List.append_nil] at hstep
      refine K.reg ?_
      refine KO.fo0 (off := 6) rfl Tryz.runUnderlying243 rfl rfl Tryz.sizeOf3 rfl ?_
      refine KO.ld rfl rfl Tryz.isAgg3 (by with_reducible (repeat (exact Pick.head))) (by exact rfl) rfl ?_
      refine KO.lss rfl rfl rfl ?_
      refine KO.mv rfl rfl ?_
      (refine KO.no rfl rfl ?_ rfl ?_; (focus (simp only [decide_eq_true_eq, decide_eq_false_iff_not, Bool.not_eq_true, Bool.not_true, Bool.not_false, ne_eq]; omega)))
      (refine KO.no rfl rfl ?_ rfl ?_; (focus (simp only [decide_eq_true_eq, decide_eq_false_iff_not, Bool.not_eq_true, Bool.not_true, Bool.not_false, ne_eq]; omega)))
      (refine KO.no rfl rfl ?_ rfl ?_; (focus (simp only [decide_eq_true_eq, decide_eq_false_iff_not, Bool.not_eq_true, Bool.not_true, Bool.not_false, ne_eq]; omega)))
      (refine KO.pickF rfl ?_ rfl rfl ?_; (focus (simp only [decide_eq_true_eq, decide_eq_false_iff_not, Bool.not_eq_true, Bool.not_true, Bool.not_false, ne_eq]; omega)))
      refine KO.nil ?_
      repeat ((with_reducible refine KQ.next ?_))
      refine K.condF rfl rfl ?_
      repeat (first | (with_reducible refine KQ.next ?_) | (with_reducible refine KQ.blk_normal ?_) | (with_reducible refine K.skip ?_))
      refine K.reg ?_
      refine KO.add rfl rfl rfl (by omega) rfl ?_
      refine KO.mv rfl rfl ?_
      refine KO.nil ?_
      refine KQ.round (k + 1, vo) (by dsimp only; omega) (by dsimp only; omega) ⟨rfl, rfl, rfl, rfl, trivial⟩ (fun _ h => ?_)
      dsimp only
      rw [hstep]
      exact (h.pick (by with_reducible (repeat (first | exact Pick.head | apply Pick.tail)))).gc1 (by with_reducible repeat (first | exact LSub.refl | apply LSub.drop))
  · have hkl : k = q.l.length := by omega
    repeat (first | (with_reducible refine K.seq ?_) | (with_reducible refine KQ.next ?_) | (with_reducible refine KQ.then_exit ?_) | (with_reducible refine KQ.blk_exit ?_) | (with_reducible refine K.exit ?_))
    refine K.reg ?_
    refine KO.mv rfl rfl ?_
    refine KO.as rfl rfl ?_
    refine KO.nil ?_
    repeat (first | (with_reducible refine KQ.next ?_) | (with_reducible refine K.ret ?_))
    refine KQ.ret1 rfl rfl (fun w' hs => ⟨_, _, rfl, rfl, ?_, hs.below⟩)
    rw [hkl, List.take_length] at hs
    exact hw0.stack hs
theorem kept_e (w0 : World) (L R : List HP) (b : Nat) (q : Qu) (hp : Pick L (quP b q) R) (hq : q.l.length < 900000) :
    KE Tryz.prog 67 #[.pointer (some ⟨b, 0, none⟩)] w0 L (fun v L' => L' = msS v (qkept q) :: L) := by
  refine KE.mk (n := 25) Tryz.func67 rfl Tryz.ntmps67 (by simp) ?_
  intro w hw0
  obtain ⟨v, hw⟩ := quP_open (hw0.pick hp)
  obtain ⟨sa, cap, rfl, hsa, hc⟩ := RdS.of (E := 243) (sz := 8) (cf := itC) (fun _ => rfl) Pick.head w hw.drop
  repeat ((with_reducible refine K.seq ?_))
  refine K.reg ?_
  refine KO.as rfl rfl ?_
  refine KO.nil ?_
  repeat (first | (with_reducible refine K.seq ?_) | (with_reducible refine KQ.next ?_))
  refine K.reg ?_
  refine KO.as rfl rfl ?_
  refine KO.nil ?_
  repeat (first | (with_reducible refine K.seq ?_) | (with_reducible refine KQ.next ?_))
  refine K.reg ?_
  refine KO.mv rfl rfl ?_
  refine KO.nc rfl rfl ?_
  refine KO.fo0 (off := 0) rfl Tryz.runUnderlying122 rfl rfl Tryz.sizeOf120 rfl ?_
  refine KO.ldb hw rfl rfl Tryz.isAgg120 (by with_reducible (repeat (exact Pick.head))) (by exact rfl) rfl ?_
  refine KO.len rfl Tryz.underlying120 rfl ?_
  refine KO.mv rfl rfl ?_
  refine KO.nil ?_
  repeat (first | (with_reducible refine KQ.next ?_) | (with_reducible refine K.block ?_))
  refine K.loop (fun k : Nat × Value => [(3, k.2), (9, .slice sa q.l.length cap), (10, .int .i64 (q.l.length : Nat)), (11, .int .i64 (k.1 : Nat))]) (fun k => [msS k.2 (((q.l.take k.1).filter fun e => decide (e.put < 0)).map (·.m))]) (fun k => k.1 ≤ q.l.length) (fun k => q.l.length - k.1) (0, .slice none 0 0)
    (Nat.zero_le _) ⟨rfl, rfl, rfl, rfl, trivial⟩ (fun _ h => SL_nil h) ?_
  rintro ⟨k, vo⟩ hk
  dsimp only at hk ⊢
  repeat ((with_reducible refine K.seq ?_))
  refine K.reg ?_
  refine KO.lss rfl rfl rfl ?_
  refine KO.nil ?_
  repeat (first | (with_reducible refine K.seq ?_) | (with_reducible refine KQ.next ?_))
  refine K.condD rfl (fun h => ?_) (fun h => ?_)
  · obtain ⟨g, rfl⟩ := hsa (by omega)
    obtain ⟨e, he⟩ : ∃ e, q.l[k]? = some e := ⟨q.l[k], List.getElem?_eq_getElem (by omega)⟩
    have hlen : (((q.l.take k).filter fun e => decide (e.put < 0)).map (·.m)).length < 900000 := by
      have := List.length_filter_le (fun e : It => decide (e.put < 0)) (q.l.take k); simp at this ⊢; omega
    have hstep : ((q.l.take (k + 1)).filter fun e => decide (e.put < 0)).map (·.m) = ((q.l.take k).filter fun e => decide (e.put < 0)).map (·.m) ++ (if e.put < 0 then [e.m] else []) := by
      rw [take_succ_some he, List.filter_append]
      by_cases ha : e.put < 0 <;> simp [ha]
    repeat (first | (with_reducible refine K.seq ?_) | (with_reducible refine KQ.next ?_) | (with_reducible refine K.skip ?_) | (with_reducible refine K.block ?_))
    refine K.reg ?_
    refine KO.idx0 rfl rfl Tryz.runUnderlying120 Tryz.sizeOf243 (by exact rfl) (by omega) rfl ?_
    refine KO.ldN0 (cs := (itC e).toArray) rfl rfl Tryz.isAgg243 Tryz.sizeOf243 rfl (hc g rfl k e he) rfl ?_
    refine KO.alloc rfl Tryz.zeroValue243 (by exact rfl) rfl ?_; intro b5
    refine KO.sto0 rfl rfl rfl (by exact rfl) (by exact Tryz.sizeOf243) (by exact rfl) (by with_reducible (repeat (exact Pick.head))) (by exact rfl) ?_
    refine KO.nil ?_
    repeat (first | (with_reducible refine K.seq ?_) | (with_reducible refine KQ.next ?_))
    refine K.reg ?_
    refine KO.fo0 (off := 6) rfl Tryz.runUnderlying243 rfl rfl Tryz.sizeOf3 rfl ?_
    refine KO.ld rfl rfl Tryz.isAgg3 (by with_reducible (repeat (exact Pick.head))) (by exact rfl) rfl ?_
    refine KO.lss rfl rfl rfl ?_
    refine KO.nil ?_
    repeat ((with_reducible refine KQ.next ?_))
    refine K.condD rfl (fun h2 => ?_) (fun h2 => ?_)
    · rw [if_pos h2] at hstep
      refine K.reg ?_
      refine KO.mv rfl rfl ?_
      refine KO.fo0 (off := 0) rfl Tryz.runUnderlying243 rfl rfl Tryz.sizeOf44 rfl ?_
      (refine KO.ldB rfl rfl Tryz.isAgg44 Tryz.sizeOf44 (by with_reducible (repeat (exact Pick.head))) (by (try simp only [List.drop_zero, List.drop_succ_cons, List.take_succ_cons, List.take_zero]); (try exact rfl)) (by exact rfl) rfl ?_)
      refine KO.bs1 (z := (Value.agg #[.int .i64 0, .int .i64 0, .string ⟨#[]⟩, .string ⟨#[]⟩, .int .i64 0])) (sz := 5) (by' := 56) rfl rfl Tryz.underlying49 (by kernel_rfl) (by exact rfl) (by exact rfl) (by decide) (by decide) rfl ?_; intro b21
      refine KO.app (z := Value.agg #[.int .i64 0, .int .i64 0, .string ⟨#[]⟩, .string ⟨#[]⟩, .int .i64 0]) (sz := 5) (by' := 56) rfl rfl rfl (by with_reducible (repeat (first | exact Pick.head | apply Pick.tail))) (by with_reducible (repeat (exact Pick.head))) Tryz.underlying49 ms_info rfl e.m (by exact rfl) (by exact rfl) (by exact rfl) (by omega) (by decide) rfl ?_; intro v'
      refine KO.as rfl rfl ?_
      refine KO.nil ?_
      repeat (first | (with_reducible refine KQ.next ?_) | (with_reducible refine KQ.blk_normal ?_))
      refine K.reg ?_
      refine KO.add rfl rfl rfl (by omega) rfl ?_
      refine KO.mv rfl rfl ?_
      refine KO.nil ?_
      refine KQ.round (k + 1, v') (by dsimp only; omega) (by dsimp only; omega) ⟨rfl, rfl, rfl, rfl, trivial⟩ (fun _ h => ?_)
      dsimp only
      rw [hstep]
      exact (h.pick (by with_reducible (repeat (exact Pick.head)))).gc1 (by with_reducible repeat (first | exact LSub.refl | apply LSub.drop))
    · rw [if_neg h2, List.append_nil] at hstep
      repeat (first | (with_reducible refine KQ.next ?_) | (with_reducible refine KQ.blk_normal ?_) | (with_reducible refine K.skip ?_))
      refine K.reg ?_
      refine KO.add rfl rfl rfl (by omega) rfl ?_
      refine KO.mv rfl rfl ?_
      refine KO.nil ?_
      refine KQ.round (k + 1, vo) (by dsimp only; omega) (by dsimp only; omega) ⟨rfl, rfl, rfl, rfl, trivial⟩ (fun _ h => ?_)
      dsimp only
      rw [hstep]
      exact (h.pick (by with_reducible (repeat (first | exact Pick.head | apply Pick.tail)))).gc1 (by with_reducible repeat (first | exact LSub.refl | apply LSub.drop))
  · have hkl : k = q.l.length := by omega
    repeat (first | (with_reducible refine K.seq ?_) | (with_reducible refine KQ.next ?_) | (with_reducible refine KQ.then_exit ?_) | (with_reducible refine KQ.blk_exit ?_) | (with_reducible refine K.exit ?_))
    refine K.reg ?_
    refine KO.mv rfl rfl ?_
    refine KO.as rfl rfl ?_
    refine KO.nil ?_
    repeat (first | (with_reducible refine KQ.next ?_) | (with_reducible refine K.ret ?_))
    refine KQ.ret1 rfl rfl (fun w' hs => ⟨_, _, rfl, rfl, ?_, hs.below⟩)
    rw [hkl, List.take_length] at hs
    exact hw0.stack hs
end Go.Proofs.YtjhogocabcdjbabGreatDoor
/- queue: Ends. -/
namespace Go.Proofs.YtjhogocabcdjbabGreatDoor
open Go Go.RowKit WB
theorem ends1_e (w0 : World) (L R1 R2 : List HP) (e : It) (b1 b2 : Nat) (u : Int) (back : Bool) (E1 E2 : TypeId) (hp1 : Pick L (blk b1 (.cells [Value.int .i64 u].toArray E1 (0, 0))) R1) (hp2 : Pick L (blk b2 (.cells [Value.bool back].toArray E2 (0, 0))) R2) :
    KE Tryz.prog 159 #[.agg (itC e).toArray, .pointer (some ⟨b1, 0, none⟩), .pointer (some ⟨b2, 0, none⟩)] w0 L (fun v L' => v = .bool (endB u back e) ∧ L' = L) := by
  refine KE.mk (n := 22) Tryz.func159 rfl Tryz.ntmps159 (by simp) ?_
  intro w hw0
  have c1 : w.cell? ⟨b1, 0, none⟩ = some (.int .i64 u) := by rw [World.cell?, (hw0.lookP hp1).2]; rfl
  have c2 : w.cell? ⟨b2, 0, none⟩ = some (.bool back) := by rw [World.cell?, (hw0.lookP hp2).2]; rfl
  repeat ((with_reducible refine K.seq ?_))
  refine K.reg ?_
  refine KO.box rfl rfl (by exact rfl) rfl ?_; intro b3
  refine KO.as rfl rfl ?_
  refine KO.nil ?_
  repeat (first | (with_reducible refine K.seq ?_) | (with_reducible refine KQ.next ?_))
  by_cases h1 : e.put = u
  all_goals cases back
  all_goals by_cases h2 : e.got = u
  · refine K.reg ?_
    refine KO.fo0 (off := 6) rfl Tryz.runUnderlying243 rfl rfl Tryz.sizeOf3 rfl ?_
    refine KO.ld rfl rfl Tryz.isAgg3 (by with_reducible (repeat (exact Pick.head))) (by exact rfl) rfl ?_
    refine KO.ld0 rfl rfl Tryz.isAgg3 c1 rfl ?_
    refine KO.eqI rfl rfl rfl ?_
    refine KO.mv rfl rfl ?_
    refine KO.on rfl rfl (by simp [h1]) ?_; refine KO.ld0 rfl rfl Tryz.isAgg4 c2 rfl ?_
    (refine KO.pickT rfl ?_ rfl rfl ?_; (focus (simp only [decide_eq_true_eq, decide_eq_false_iff_not, Bool.not_eq_true, Bool.not_true, Bool.not_false, ne_eq]; omega)))
    refine KO.mv rfl rfl ?_
    (refine KO.on rfl rfl ?_ ?_; (focus rfl); (refine KO.fo0 (off := 7) rfl Tryz.runUnderlying243 rfl rfl Tryz.sizeOf3 rfl ?_))
    (refine KO.on rfl rfl ?_ ?_; (focus rfl); (refine KO.ld rfl rfl Tryz.isAgg3 (by with_reducible (repeat (exact Pick.head))) (by exact rfl) rfl ?_))
    refine KO.on rfl rfl rfl ?_; refine KO.ld0 rfl rfl Tryz.isAgg3 c1 rfl ?_
    (refine KO.on rfl rfl ?_ ?_; (focus rfl); (refine KO.eqI rfl rfl rfl ?_))
    (refine KO.on rfl rfl ?_ ?_; (focus rfl); (refine KO.mv rfl rfl ?_))
    refine KO.on rfl rfl (by simp [h2]) ?_; refine KO.ld0 rfl rfl Tryz.isAgg4 c2 rfl ?_
    (refine KO.on rfl rfl ?_ ?_; (focus (simp only [decide_eq_true_eq, decide_eq_false_iff_not, Bool.not_eq_true, Bool.not_true, Bool.not_false, ne_eq]; omega)); (refine KO.not rfl rfl ?_))
    (refine KO.on rfl rfl ?_ ?_; (focus rfl); ((refine KO.pickT rfl ?_ rfl rfl ?_; (focus (simp only [decide_eq_true_eq, decide_eq_false_iff_not, Bool.not_eq_true, Bool.not_true, Bool.not_false, ne_eq]; omega)))))
    (refine KO.pickF rfl ?_ rfl rfl ?_; (focus rfl))
    refine KO.as rfl rfl ?_
    refine KO.nil ?_
    repeat (first | (with_reducible refine KQ.next ?_) | (with_reducible refine K.ret ?_))
    refine KQ.ret1 rfl rfl (fun w' hs => ⟨_, _, rfl, ⟨?_, rfl⟩, hw0.below_step hs.below, hs.below⟩)
    simp [endB, h1, h2]
  · refine K.reg ?_
    refine KO.fo0 (off := 6) rfl Tryz.runUnderlying243 rfl rfl Tryz.sizeOf3 rfl ?_
    refine KO.ld rfl rfl Tryz.isAgg3 (by with_reducible (repeat (exact Pick.head))) (by exact rfl) rfl ?_
    refine KO.ld0 rfl rfl Tryz.isAgg3 c1 rfl ?_
    refine KO.eqI rfl rfl rfl ?_
    refine KO.mv rfl rfl ?_
    refine KO.on rfl rfl (by simp [h1]) ?_; refine KO.ld0 rfl rfl Tryz.isAgg4 c2 rfl ?_
    (refine KO.pickT rfl ?_ rfl rfl ?_; (focus (simp only [decide_eq_true_eq, decide_eq_false_iff_not, Bool.not_eq_true, Bool.not_true, Bool.not_false, ne_eq]; omega)))
    refine KO.mv rfl rfl ?_
    (refine KO.on rfl rfl ?_ ?_; (focus rfl); (refine KO.fo0 (off := 7) rfl Tryz.runUnderlying243 rfl rfl Tryz.sizeOf3 rfl ?_))
    (refine KO.on rfl rfl ?_ ?_; (focus rfl); (refine KO.ld rfl rfl Tryz.isAgg3 (by with_reducible (repeat (exact Pick.head))) (by exact rfl) rfl ?_))
    refine KO.on rfl rfl rfl ?_; refine KO.ld0 rfl rfl Tryz.isAgg3 c1 rfl ?_
    (refine KO.on rfl rfl ?_ ?_; (focus rfl); (refine KO.eqI rfl rfl rfl ?_))
    (refine KO.on rfl rfl ?_ ?_; (focus rfl); (refine KO.mv rfl rfl ?_))
    (refine KO.no rfl rfl ?_ rfl ?_; (focus (simp only [decide_eq_true_eq, decide_eq_false_iff_not, Bool.not_eq_true, Bool.not_true, Bool.not_false, ne_eq]; omega)))
    (refine KO.no rfl rfl ?_ rfl ?_; (focus (simp only [decide_eq_true_eq, decide_eq_false_iff_not, Bool.not_eq_true, Bool.not_true, Bool.not_false, ne_eq]; omega)))
    (refine KO.on rfl rfl ?_ ?_; (focus rfl); ((refine KO.pickF rfl ?_ rfl rfl ?_; (focus (simp only [decide_eq_true_eq, decide_eq_false_iff_not, Bool.not_eq_true, Bool.not_true, Bool.not_false, ne_eq]; omega)))))
    (refine KO.pickF rfl ?_ rfl rfl ?_; (focus rfl))
    refine KO.as rfl rfl ?_
    refine KO.nil ?_
    repeat (first | (with_reducible refine KQ.next ?_) | (with_reducible refine K.ret ?_))
    refine KQ.ret1 rfl rfl (fun w' hs => ⟨_, _, rfl, ⟨?_, rfl⟩, hw0.below_step hs.below, hs.below⟩)
    simp [endB, h1, h2]
  · refine K.reg ?_
    refine KO.fo0 (off := 6) rfl Tryz.runUnderlying243 rfl rfl Tryz.sizeOf3 rfl ?_
    refine KO.ld rfl rfl Tryz.isAgg3 (by with_reducible (repeat (exact Pick.head))) (by exact rfl) rfl ?_
    refine KO.ld0 rfl rfl Tryz.isAgg3 c1 rfl ?_
    refine KO.eqI rfl rfl rfl ?_
    refine KO.mv rfl rfl ?_
    refine KO.on rfl rfl (by simp [h1]) ?_; refine KO.ld0 rfl rfl Tryz.isAgg4 c2 rfl ?_
    (refine KO.pickT rfl ?_ rfl rfl ?_; (focus (simp only [decide_eq_true_eq, decide_eq_false_iff_not, Bool.not_eq_true, Bool.not_true, Bool.not_false, ne_eq]; omega)))
    refine KO.mv rfl rfl ?_
    (refine KO.no rfl rfl ?_ rfl ?_; (focus rfl))
    (refine KO.no rfl rfl ?_ rfl ?_; (focus rfl))
    (refine KO.no rfl rfl ?_ rfl ?_; (focus rfl))
    (refine KO.no rfl rfl ?_ rfl ?_; (focus rfl))
    (refine KO.no rfl rfl ?_ rfl ?_; (focus rfl))
    refine KO.no2 rfl rfl rfl ?_
    refine KO.no2 rfl rfl rfl ?_
    (refine KO.no rfl rfl ?_ rfl ?_; (focus rfl))
    (refine KO.pickT rfl ?_ rfl rfl ?_; (focus rfl))
    refine KO.as rfl rfl ?_
    refine KO.nil ?_
    repeat (first | (with_reducible refine KQ.next ?_) | (with_reducible refine K.ret ?_))
    refine KQ.ret1 rfl rfl (fun w' hs => ⟨_, _, rfl, ⟨?_, rfl⟩, hw0.below_step hs.below, hs.below⟩)
    simp [endB, h1]
  · refine K.reg ?_
    refine KO.fo0 (off := 6) rfl Tryz.runUnderlying243 rfl rfl Tryz.sizeOf3 rfl ?_
    refine KO.ld rfl rfl Tryz.isAgg3 (by with_reducible (repeat (exact Pick.head))) (by exact rfl) rfl ?_
    refine KO.ld0 rfl rfl Tryz.isAgg3 c1 rfl ?_
    refine KO.eqI rfl rfl rfl ?_
    refine KO.mv rfl rfl ?_
    refine KO.on rfl rfl (by simp [h1]) ?_; refine KO.ld0 rfl rfl Tryz.isAgg4 c2 rfl ?_
    (refine KO.pickT rfl ?_ rfl rfl ?_; (focus (simp only [decide_eq_true_eq, decide_eq_false_iff_not, Bool.not_eq_true, Bool.not_true, Bool.not_false, ne_eq]; omega)))
    refine KO.mv rfl rfl ?_
    (refine KO.no rfl rfl ?_ rfl ?_; (focus rfl))
    (refine KO.no rfl rfl ?_ rfl ?_; (focus rfl))
    (refine KO.no rfl rfl ?_ rfl ?_; (focus rfl))
    (refine KO.no rfl rfl ?_ rfl ?_; (focus rfl))
    (refine KO.no rfl rfl ?_ rfl ?_; (focus rfl))
    refine KO.no2 rfl rfl rfl ?_
    refine KO.no2 rfl rfl rfl ?_
    (refine KO.no rfl rfl ?_ rfl ?_; (focus rfl))
    (refine KO.pickT rfl ?_ rfl rfl ?_; (focus rfl))
    refine KO.as rfl rfl ?_
    refine KO.nil ?_
    repeat (first | (with_reducible refine KQ.next ?_) | (with_reducible refine K.ret ?_))
    refine KQ.ret1 rfl rfl (fun w' hs => ⟨_, _, rfl, ⟨?_, rfl⟩, hw0.below_step hs.below, hs.below⟩)
    simp [endB, h1]
  · refine K.reg ?_
    refine KO.fo0 (off := 6) rfl Tryz.runUnderlying243 rfl rfl Tryz.sizeOf3 rfl ?_
    refine KO.ld rfl rfl Tryz.isAgg3 (by with_reducible (repeat (exact Pick.head))) (by exact rfl) rfl ?_
    refine KO.ld0 rfl rfl Tryz.isAgg3 c1 rfl ?_
    refine KO.eqI rfl rfl rfl ?_
    refine KO.mv rfl rfl ?_
    (refine KO.no rfl rfl ?_ rfl ?_; (focus (simp only [decide_eq_true_eq, decide_eq_false_iff_not, Bool.not_eq_true, Bool.not_true, Bool.not_false, ne_eq]; omega)))
    (refine KO.pickF rfl ?_ rfl rfl ?_; (focus (simp only [decide_eq_true_eq, decide_eq_false_iff_not, Bool.not_eq_true, Bool.not_true, Bool.not_false, ne_eq]; omega)))
    refine KO.mv rfl rfl ?_
    (refine KO.on rfl rfl ?_ ?_; (focus rfl); (refine KO.fo0 (off := 7) rfl Tryz.runUnderlying243 rfl rfl Tryz.sizeOf3 rfl ?_))
    (refine KO.on rfl rfl ?_ ?_; (focus rfl); (refine KO.ld rfl rfl Tryz.isAgg3 (by with_reducible (repeat (exact Pick.head))) (by exact rfl) rfl ?_))
    refine KO.on rfl rfl rfl ?_; refine KO.ld0 rfl rfl Tryz.isAgg3 c1 rfl ?_
    (refine KO.on rfl rfl ?_ ?_; (focus rfl); (refine KO.eqI rfl rfl rfl ?_))
    (refine KO.on rfl rfl ?_ ?_; (focus rfl); (refine KO.mv rfl rfl ?_))
    refine KO.on rfl rfl (by simp [h2]) ?_; refine KO.ld0 rfl rfl Tryz.isAgg4 c2 rfl ?_
    (refine KO.on rfl rfl ?_ ?_; (focus (simp only [decide_eq_true_eq, decide_eq_false_iff_not, Bool.not_eq_true, Bool.not_true, Bool.not_false, ne_eq]; omega)); (refine KO.not rfl rfl ?_))
    (refine KO.on rfl rfl ?_ ?_; (focus rfl); ((refine KO.pickT rfl ?_ rfl rfl ?_; (focus (simp only [decide_eq_true_eq, decide_eq_false_iff_not, Bool.not_eq_true, Bool.not_true, Bool.not_false, ne_eq]; omega)))))
    (refine KO.pickF rfl ?_ rfl rfl ?_; (focus rfl))
    refine KO.as rfl rfl ?_
    refine KO.nil ?_
    repeat (first | (with_reducible refine KQ.next ?_) | (with_reducible refine K.ret ?_))
    refine KQ.ret1 rfl rfl (fun w' hs => ⟨_, _, rfl, ⟨?_, rfl⟩, hw0.below_step hs.below, hs.below⟩)
    simp [endB, h1, h2]
  · refine K.reg ?_
    refine KO.fo0 (off := 6) rfl Tryz.runUnderlying243 rfl rfl Tryz.sizeOf3 rfl ?_
    refine KO.ld rfl rfl Tryz.isAgg3 (by with_reducible (repeat (exact Pick.head))) (by exact rfl) rfl ?_
    refine KO.ld0 rfl rfl Tryz.isAgg3 c1 rfl ?_
    refine KO.eqI rfl rfl rfl ?_
    refine KO.mv rfl rfl ?_
    (refine KO.no rfl rfl ?_ rfl ?_; (focus (simp only [decide_eq_true_eq, decide_eq_false_iff_not, Bool.not_eq_true, Bool.not_true, Bool.not_false, ne_eq]; omega)))
    (refine KO.pickF rfl ?_ rfl rfl ?_; (focus (simp only [decide_eq_true_eq, decide_eq_false_iff_not, Bool.not_eq_true, Bool.not_true, Bool.not_false, ne_eq]; omega)))
    refine KO.mv rfl rfl ?_
    (refine KO.on rfl rfl ?_ ?_; (focus rfl); (refine KO.fo0 (off := 7) rfl Tryz.runUnderlying243 rfl rfl Tryz.sizeOf3 rfl ?_))
    (refine KO.on rfl rfl ?_ ?_; (focus rfl); (refine KO.ld rfl rfl Tryz.isAgg3 (by with_reducible (repeat (exact Pick.head))) (by exact rfl) rfl ?_))
    refine KO.on rfl rfl rfl ?_; refine KO.ld0 rfl rfl Tryz.isAgg3 c1 rfl ?_
    (refine KO.on rfl rfl ?_ ?_; (focus rfl); (refine KO.eqI rfl rfl rfl ?_))
    (refine KO.on rfl rfl ?_ ?_; (focus rfl); (refine KO.mv rfl rfl ?_))
    (refine KO.no rfl rfl ?_ rfl ?_; (focus (simp only [decide_eq_true_eq, decide_eq_false_iff_not, Bool.not_eq_true, Bool.not_true, Bool.not_false, ne_eq]; omega)))
    (refine KO.no rfl rfl ?_ rfl ?_; (focus (simp only [decide_eq_true_eq, decide_eq_false_iff_not, Bool.not_eq_true, Bool.not_true, Bool.not_false, ne_eq]; omega)))
    (refine KO.on rfl rfl ?_ ?_; (focus rfl); ((refine KO.pickF rfl ?_ rfl rfl ?_; (focus (simp only [decide_eq_true_eq, decide_eq_false_iff_not, Bool.not_eq_true, Bool.not_true, Bool.not_false, ne_eq]; omega)))))
    (refine KO.pickF rfl ?_ rfl rfl ?_; (focus rfl))
    refine KO.as rfl rfl ?_
    refine KO.nil ?_
    repeat (first | (with_reducible refine KQ.next ?_) | (with_reducible refine K.ret ?_))
    refine KQ.ret1 rfl rfl (fun w' hs => ⟨_, _, rfl, ⟨?_, rfl⟩, hw0.below_step hs.below, hs.below⟩)
    simp [endB, h1, h2]
  · refine K.reg ?_
    refine KO.fo0 (off := 6) rfl Tryz.runUnderlying243 rfl rfl Tryz.sizeOf3 rfl ?_
    refine KO.ld rfl rfl Tryz.isAgg3 (by with_reducible (repeat (exact Pick.head))) (by exact rfl) rfl ?_
    refine KO.ld0 rfl rfl Tryz.isAgg3 c1 rfl ?_
    refine KO.eqI rfl rfl rfl ?_
    refine KO.mv rfl rfl ?_
    (refine KO.no rfl rfl ?_ rfl ?_; (focus (simp only [decide_eq_true_eq, decide_eq_false_iff_not, Bool.not_eq_true, Bool.not_true, Bool.not_false, ne_eq]; omega)))
    (refine KO.pickF rfl ?_ rfl rfl ?_; (focus (simp only [decide_eq_true_eq, decide_eq_false_iff_not, Bool.not_eq_true, Bool.not_true, Bool.not_false, ne_eq]; omega)))
    refine KO.mv rfl rfl ?_
    (refine KO.on rfl rfl ?_ ?_; (focus rfl); (refine KO.fo0 (off := 7) rfl Tryz.runUnderlying243 rfl rfl Tryz.sizeOf3 rfl ?_))
    (refine KO.on rfl rfl ?_ ?_; (focus rfl); (refine KO.ld rfl rfl Tryz.isAgg3 (by with_reducible (repeat (exact Pick.head))) (by exact rfl) rfl ?_))
    refine KO.on rfl rfl rfl ?_; refine KO.ld0 rfl rfl Tryz.isAgg3 c1 rfl ?_
    (refine KO.on rfl rfl ?_ ?_; (focus rfl); (refine KO.eqI rfl rfl rfl ?_))
    (refine KO.on rfl rfl ?_ ?_; (focus rfl); (refine KO.mv rfl rfl ?_))
    refine KO.on rfl rfl (by simp [h2]) ?_; refine KO.ld0 rfl rfl Tryz.isAgg4 c2 rfl ?_
    (refine KO.on rfl rfl ?_ ?_; (focus (simp only [decide_eq_true_eq, decide_eq_false_iff_not, Bool.not_eq_true, Bool.not_true, Bool.not_false, ne_eq]; omega)); (refine KO.not rfl rfl ?_))
    (refine KO.on rfl rfl ?_ ?_; (focus rfl); ((refine KO.pickT rfl ?_ rfl rfl ?_; (focus (simp only [decide_eq_true_eq, decide_eq_false_iff_not, Bool.not_eq_true, Bool.not_true, Bool.not_false, ne_eq]; omega)))))
    (refine KO.pickF rfl ?_ rfl rfl ?_; (focus rfl))
    refine KO.as rfl rfl ?_
    refine KO.nil ?_
    repeat (first | (with_reducible refine KQ.next ?_) | (with_reducible refine K.ret ?_))
    refine KQ.ret1 rfl rfl (fun w' hs => ⟨_, _, rfl, ⟨?_, rfl⟩, hw0.below_step hs.below, hs.below⟩)
    simp [endB, h1, h2]
  · refine K.reg ?_
    refine KO.fo0 (off := 6) rfl Tryz.runUnderlying243 rfl rfl Tryz.sizeOf3 rfl ?_
    refine KO.ld rfl rfl Tryz.isAgg3 (by with_reducible (repeat (exact Pick.head))) (by exact rfl) rfl ?_
    refine KO.ld0 rfl rfl Tryz.isAgg3 c1 rfl ?_
    refine KO.eqI rfl rfl rfl ?_
    refine KO.mv rfl rfl ?_
    (refine KO.no rfl rfl ?_ rfl ?_; (focus (simp only [decide_eq_true_eq, decide_eq_false_iff_not, Bool.not_eq_true, Bool.not_true, Bool.not_false, ne_eq]; omega)))
    (refine KO.pickF rfl ?_ rfl rfl ?_; (focus (simp only [decide_eq_true_eq, decide_eq_false_iff_not, Bool.not_eq_true, Bool.not_true, Bool.not_false, ne_eq]; omega)))
    refine KO.mv rfl rfl ?_
    (refine KO.on rfl rfl ?_ ?_; (focus rfl); (refine KO.fo0 (off := 7) rfl Tryz.runUnderlying243 rfl rfl Tryz.sizeOf3 rfl ?_))
    (refine KO.on rfl rfl ?_ ?_; (focus rfl); (refine KO.ld rfl rfl Tryz.isAgg3 (by with_reducible (repeat (exact Pick.head))) (by exact rfl) rfl ?_))
    refine KO.on rfl rfl rfl ?_; refine KO.ld0 rfl rfl Tryz.isAgg3 c1 rfl ?_
    (refine KO.on rfl rfl ?_ ?_; (focus rfl); (refine KO.eqI rfl rfl rfl ?_))
    (refine KO.on rfl rfl ?_ ?_; (focus rfl); (refine KO.mv rfl rfl ?_))
    (refine KO.no rfl rfl ?_ rfl ?_; (focus (simp only [decide_eq_true_eq, decide_eq_false_iff_not, Bool.not_eq_true, Bool.not_true, Bool.not_false, ne_eq]; omega)))
    (refine KO.no rfl rfl ?_ rfl ?_; (focus (simp only [decide_eq_true_eq, decide_eq_false_iff_not, Bool.not_eq_true, Bool.not_true, Bool.not_false, ne_eq]; omega)))
    (refine KO.on rfl rfl ?_ ?_; (focus rfl); ((refine KO.pickF rfl ?_ rfl rfl ?_; (focus (simp only [decide_eq_true_eq, decide_eq_false_iff_not, Bool.not_eq_true, Bool.not_true, Bool.not_false, ne_eq]; omega)))))
    (refine KO.pickF rfl ?_ rfl rfl ?_; (focus rfl))
    refine KO.as rfl rfl ?_
    refine KO.nil ?_
    repeat (first | (with_reducible refine KQ.next ?_) | (with_reducible refine K.ret ?_))
    refine KQ.ret1 rfl rfl (fun w' hs => ⟨_, _, rfl, ⟨?_, rfl⟩, hw0.below_step hs.below, hs.below⟩)
    simp [endB, h1, h2]
def ysAt (u : Int) (l : List It) (k : Nat) : List It := (l.take k).map (freeIt u) ++ l.drop k
theorem ysAt_get {u : Int} {l : List It} {k : Nat} {e : It} (he : l[k]? = some e) : (ysAt u l k)[k]? = some e := by
  have hk := (List.getElem?_eq_some_iff.1 he).1
  unfold ysAt
  rw [List.getElem?_append_right (by simp; omega)]
  simp [show k - min k l.length = 0 by omega, he]
theorem ysAt_step {u : Int} {l : List It} {k : Nat} {e : It} (he : l[k]? = some e) : (ysAt u l k).set k (freeIt u e) = ysAt u l (k + 1) := by
  have hk := (List.getElem?_eq_some_iff.1 he).1
  have hd : l.drop k = e :: l.drop (k + 1) := by rw [← (List.getElem?_eq_some_iff.1 he).2, List.getElem_cons_drop]
  unfold ysAt
  rw [take_succ_some he, List.map_append, hd, List.set_append_right _ _ (by simp; omega)]
  simp [show k - min k l.length = 0 by omega]
theorem setIt_same {l : List It} {k : Nat} {e : It} (he : l[k]? = some e) : l.set k e = l := by
  obtain ⟨hk, h⟩ := List.getElem?_eq_some_iff.1 he
  rw [← h]; exact List.set_getElem_self hk
theorem ends_c (w0 : World) (L : List HP) (b : Nat) (q : Qu) (u : Int) (back : Bool) (hq : q.l.length < 900000) :
    KC Tryz.prog 64 #[.pointer (some ⟨b, 0, none⟩), .int .i64 u, .bool back] w0 (quP b q :: L) (fun v L' => v = .tuple #[] ∧ L' = quP b (qends q u back) :: L) := by
  refine KC.mk (n := 52) Tryz.func64 rfl Tryz.ntmps64 (by simp) ?_
  repeat ((with_reducible refine K.seq ?_))
  refine K.open' (fun _ h => quP_open h) fun v => ?_
  refine K.reg ?_
  refine KO.box rfl rfl (by exact rfl) rfl ?_; intro b4
  refine KO.box rfl rfl (by exact rfl) rfl ?_; intro b5
  refine KO.nil ?_
  repeat (first | (with_reducible refine K.seq ?_) | (with_reducible refine KQ.next ?_))
  refine K.reg ?_
  refine KO.ld rfl rfl Tryz.isAgg3 (by with_reducible (repeat (first | exact Pick.head | apply Pick.tail))) (by exact rfl) rfl ?_
  refine KO.lss rfl rfl rfl ?_
  refine KO.nil ?_
  repeat ((with_reducible refine KQ.next ?_))
  refine K.condD rfl (fun h => ?_) (fun h => ?_)
  · repeat (first | (with_reducible refine KQ.then_ret ?_) | (with_reducible refine K.ret ?_))
    refine KQ.ret0 rfl (fun w' hs => ⟨_, _, rfl, ⟨rfl, rfl⟩, ?_⟩)
    rw [show qends q u back = q by simp only [qends, h, if_true]]
    exact quP_mk ((hs.pick2 (by with_reducible (repeat (first | exact Pick.head | apply Pick.tail))) (by with_reducible (repeat (first | exact Pick.head | apply Pick.tail)))).gc2 (by with_reducible repeat (first | exact LSub.refl | apply LSub.drop)))
  · rw [show qends q u back = ⟨(q.l.filter fun e => !endB u back e).map (freeIt u), q.next⟩ by simp only [qends, h, if_false]]
    have hfl : (q.l.filter fun e => !endB u back e).length < 900000 := Nat.lt_of_le_of_lt (List.length_filter_le _ _) hq
    repeat (first | (with_reducible refine K.seq ?_) | (with_reducible refine KQ.next ?_) | (with_reducible refine K.skip ?_))
    refine K.reg ?_
    refine KO.mv rfl rfl ?_
    refine KO.mv rfl rfl ?_
    refine KO.nc rfl rfl ?_
    refine KO.fo0 (off := 0) rfl Tryz.runUnderlying122 rfl rfl Tryz.sizeOf120 rfl ?_
    refine KO.ld rfl rfl Tryz.isAgg120 (by with_reducible (repeat (first | exact Pick.head | apply Pick.tail))) (by exact rfl) rfl ?_
    refine KO.mkc rfl rfl rfl ?_
    refine KO.cl rfl rfl rfl Tryz.call158 rfl (KC.pk1 (by with_reducible (repeat (first | exact Pick.head | apply Pick.tail))) (delf_c w0 _ v q.l 159 [.pointer (some ⟨b4, 0, none⟩), .pointer (some ⟨b5, 0, none⟩)] (endB u back) (by omega) Tryz.call159 (fun e v ys _ => ends1_e w0 _ _ _ e b4 b5 u back _ _ (by with_reducible (repeat (first | exact Pick.head | apply Pick.tail))) (by with_reducible (repeat (first | exact Pick.head | apply Pick.tail)))))) ?_; rintro v' L' rfl; refine KO.fact (fun _ hs => SL_form hs) ?_; rintro ⟨a', c', rfl, ha'⟩
    refine KO.nc rfl rfl ?_
    refine KO.fo0 (off := 0) rfl Tryz.runUnderlying122 rfl rfl Tryz.sizeOf120 rfl ?_
    (refine KO.sto rfl rfl rfl (by exact rfl) (by exact Tryz.sizeOf120) (by exact rfl) (by with_reducible (repeat (first | exact Pick.head | apply Pick.tail))) (by exact rfl) (by (try simp only [putL, List.drop_succ_cons, List.drop_zero, List.drop_nil, List.cons_append, List.nil_append, List.length_cons, List.length_nil, Nat.zero_add, Nat.reduceAdd]); (try exact rfl)) ?_)
    refine KO.nil ?_
    repeat (first | (with_reducible refine K.seq ?_) | (with_reducible refine KQ.next ?_))
    generalize q.l.filter (fun e => !endB u back e) = l at *
    refine K.reg ?_
    refine KO.mv rfl rfl ?_
    refine KO.nc rfl rfl ?_
    refine KO.fo0 (off := 0) rfl Tryz.runUnderlying122 rfl rfl Tryz.sizeOf120 rfl ?_
    refine KO.ld rfl rfl Tryz.isAgg120 (by with_reducible (repeat (exact Pick.head))) (by exact rfl) rfl ?_
    refine KO.len rfl Tryz.underlying120 rfl ?_
    refine KO.mv rfl rfl ?_
    refine KO.nil ?_
    repeat (first | (with_reducible refine KQ.next ?_) | (with_reducible refine K.block ?_))
    refine K.loop (fun k : Nat => [(0, .pointer (some ⟨b, 0, none⟩)), (4, .pointer (some ⟨b4, 0, none⟩)), (23, .int .i64 (l.length : Nat)), (24, .int .i64 (k : Nat))]) (fun k => itS (.slice a' l.length c') (ysAt u l k) :: quB b (.slice a' l.length c') q.next :: blk b4 (.cells [Value.int .i64 u].toArray 3 (0, 0)) :: L) (fun k => k ≤ l.length) (fun k => l.length - k) 0
      (Nat.zero_le _) ⟨rfl, rfl, rfl, rfl, trivial⟩ (fun _ h => by rw [show ysAt u l 0 = l by simp [ysAt]]; exact (h.pick3 (by with_reducible (repeat (first | exact Pick.head | apply Pick.tail))) (by with_reducible (repeat (exact Pick.head))) (by with_reducible (repeat (first | exact Pick.head | apply Pick.tail)))).gc3 (by with_reducible repeat (first | exact LSub.refl | apply LSub.drop))) ?_
    intro k hk
    repeat ((with_reducible refine K.seq ?_))
    refine K.reg ?_
    refine KO.lss rfl rfl rfl ?_
    refine KO.nil ?_
    repeat (first | (with_reducible refine K.seq ?_) | (with_reducible refine KQ.next ?_))
    refine K.condD rfl (fun h1 => ?_) (fun h1 => ?_)
    · obtain ⟨g, rfl⟩ := ha' (by omega)
      obtain ⟨e, he⟩ : ∃ e, l[k]? = some e := ⟨l[k], List.getElem?_eq_getElem (by omega)⟩
      have hye := ysAt_get (u := u) he
      have hstep := ysAt_step (u := u) he
      have hfree : freeIt u e = { e with put := if e.put = u then -1 else e.put, got := if e.got = u then -1 else e.got } := rfl
      generalize ysAt u l k = ys at *
      have hyk := (List.getElem?_eq_some_iff.1 hye).1
      repeat (first | (with_reducible refine K.seq ?_) | (with_reducible refine KQ.next ?_) | (with_reducible refine K.skip ?_) | (with_reducible refine K.block ?_))
      refine K.reg ?_
      refine KO.mv rfl rfl ?_
      refine KO.as rfl rfl ?_
      refine KO.nil ?_
      repeat (first | (with_reducible refine K.seq ?_) | (with_reducible refine KQ.next ?_))
      refine K.reg ?_
      refine KO.mv rfl rfl ?_
      refine KO.nc rfl rfl ?_
      refine KO.fo0 (off := 0) rfl Tryz.runUnderlying122 rfl rfl Tryz.sizeOf120 rfl ?_
      refine KO.ld rfl rfl Tryz.isAgg120 (by with_reducible (repeat (first | exact Pick.head | apply Pick.tail))) (by exact rfl) rfl ?_
      refine KO.mv rfl rfl ?_
      refine KO.idx0 rfl rfl Tryz.runUnderlying120 Tryz.sizeOf243 (by exact rfl) (by omega) rfl ?_
      refine KO.as rfl rfl ?_
      refine KO.nil ?_
      repeat (first | (with_reducible refine K.seq ?_) | (with_reducible refine KQ.next ?_))
      refine K.draw [.pure, .pure, .pure, .read, .read, .pure] [0, 1, 2, 3, 4, 5] (by kernel_rfl) (by kernel_rfl) ?_
      refine KO.mv rfl rfl ?_
      refine KO.nc rfl rfl ?_
      refine KO.fo (off := 6) rfl Tryz.runUnderlying243 rfl rfl Tryz.sizeOf3 rfl ?_
      refine KO.ldE rfl rfl Tryz.isAgg3 (by with_reducible (repeat (exact Pick.head))) (fun _ => rfl) (by assumption) (by exact rfl) (by exact rfl) rfl ?_
      refine KO.ld rfl rfl Tryz.isAgg3 (by with_reducible (repeat (first | exact Pick.head | apply Pick.tail))) (by exact rfl) rfl ?_
      refine KO.eqI rfl rfl rfl ?_
      refine KO.nil ?_
      repeat ((with_reducible refine KQ.next ?_))
      refine K.condD rfl (fun h2 => ?_) (fun h2 => ?_)
      · have hye2 : (ys.set k { e with put := -1 })[k]? = some { e with put := -1 } := by rw [List.getElem?_set_self hyk]
        refine K.reg ?_
        refine KO.mv rfl rfl ?_
        refine KO.nc rfl rfl ?_
        refine KO.fo (off := 6) rfl Tryz.runUnderlying243 rfl rfl Tryz.sizeOf3 rfl ?_
        refine KO.stE rfl rfl rfl (by exact rfl) (by exact Tryz.sizeOf3) (by exact rfl) (by with_reducible (repeat (exact Pick.head))) (fun _ => rfl) hye rfl { e with put := -1 } rfl ?_
        refine KO.nil ?_
        repeat (first | (with_reducible refine K.seq ?_) | (with_reducible refine KQ.next ?_))
        refine K.draw [.pure, .pure, .pure, .read, .read, .pure] [0, 1, 2, 3, 4, 5] (by kernel_rfl) (by kernel_rfl) ?_
        refine KO.mv rfl rfl ?_
        refine KO.nc rfl rfl ?_
        refine KO.fo (off := 7) rfl Tryz.runUnderlying243 rfl rfl Tryz.sizeOf3 rfl ?_
        refine KO.ldE rfl rfl Tryz.isAgg3 (by with_reducible (repeat (exact Pick.head))) (fun _ => rfl) (by assumption) (by exact rfl) (by exact rfl) rfl ?_
        refine KO.ld rfl rfl Tryz.isAgg3 (by with_reducible (repeat (first | exact Pick.head | apply Pick.tail))) (by exact rfl) rfl ?_
        refine KO.eqI rfl rfl rfl ?_
        refine KO.nil ?_
        repeat ((with_reducible refine KQ.next ?_))
        refine K.condD rfl (fun h3 => ?_) (fun h3 => ?_)
        · (skip)
          refine K.reg ?_
          refine KO.mv rfl rfl ?_
          refine KO.nc rfl rfl ?_
          refine KO.fo (off := 7) rfl Tryz.runUnderlying243 rfl rfl Tryz.sizeOf3 rfl ?_
          refine KO.stE rfl rfl rfl (by exact rfl) (by exact Tryz.sizeOf3) (by exact rfl) (by with_reducible (repeat (exact Pick.head))) (fun _ => rfl) hye2 rfl { e with put := -1, got := -1 } rfl ?_
          refine KO.nil ?_
          repeat (first | (with_reducible refine KQ.next ?_) | (with_reducible refine KQ.blk_normal ?_))
          refine K.reg ?_
          refine KO.add rfl rfl rfl (by omega) rfl ?_
          refine KO.mv rfl rfl ?_
          refine KO.nil ?_
          refine KQ.round (k + 1) (by omega) (by omega) ⟨rfl, rfl, rfl, rfl, trivial⟩ (fun _ hs => ?_)
          rw [← hstep, hfree, if_pos h2, if_pos h3]
          rw [List.set_set] at hs
          exact hs
        · repeat (first | (with_reducible refine KQ.next ?_) | (with_reducible refine KQ.blk_normal ?_) | (with_reducible refine K.skip ?_))
          refine K.reg ?_
          refine KO.add rfl rfl rfl (by omega) rfl ?_
          refine KO.mv rfl rfl ?_
          refine KO.nil ?_
          refine KQ.round (k + 1) (by omega) (by omega) ⟨rfl, rfl, rfl, rfl, trivial⟩ (fun _ hs => ?_)
          rw [← hstep, hfree, if_pos h2, if_neg h3]
          exact hs
      · repeat (first | (with_reducible refine K.seq ?_) | (with_reducible refine KQ.next ?_) | (with_reducible refine K.skip ?_))
        refine K.draw [.pure, .pure, .pure, .read, .read, .pure] [0, 1, 2, 3, 4, 5] (by kernel_rfl) (by kernel_rfl) ?_
        refine KO.mv rfl rfl ?_
        refine KO.nc rfl rfl ?_
        refine KO.fo (off := 7) rfl Tryz.runUnderlying243 rfl rfl Tryz.sizeOf3 rfl ?_
        refine KO.ldE rfl rfl Tryz.isAgg3 (by with_reducible (repeat (exact Pick.head))) (fun _ => rfl) (by assumption) (by exact rfl) (by exact rfl) rfl ?_
        refine KO.ld rfl rfl Tryz.isAgg3 (by with_reducible (repeat (first | exact Pick.head | apply Pick.tail))) (by exact rfl) rfl ?_
        refine KO.eqI rfl rfl rfl ?_
        refine KO.nil ?_
        repeat ((with_reducible refine KQ.next ?_))
        refine K.condD rfl (fun h3 => ?_) (fun h3 => ?_)
        · (skip)
          refine K.reg ?_
          refine KO.mv rfl rfl ?_
          refine KO.nc rfl rfl ?_
          refine KO.fo (off := 7) rfl Tryz.runUnderlying243 rfl rfl Tryz.sizeOf3 rfl ?_
          refine KO.stE rfl rfl rfl (by exact rfl) (by exact Tryz.sizeOf3) (by exact rfl) (by with_reducible (repeat (exact Pick.head))) (fun _ => rfl) hye rfl { e with got := -1 } rfl ?_
          refine KO.nil ?_
          repeat (first | (with_reducible refine KQ.next ?_) | (with_reducible refine KQ.blk_normal ?_))
          refine K.reg ?_
          refine KO.add rfl rfl rfl (by omega) rfl ?_
          refine KO.mv rfl rfl ?_
          refine KO.nil ?_
          refine KQ.round (k + 1) (by omega) (by omega) ⟨rfl, rfl, rfl, rfl, trivial⟩ (fun _ hs => ?_)
          rw [← hstep, hfree, if_neg h2, if_pos h3]
          exact hs
        · repeat (first | (with_reducible refine KQ.next ?_) | (with_reducible refine KQ.blk_normal ?_) | (with_reducible refine K.skip ?_))
          refine K.reg ?_
          refine KO.add rfl rfl rfl (by omega) rfl ?_
          refine KO.mv rfl rfl ?_
          refine KO.nil ?_
          refine KQ.round (k + 1) (by omega) (by omega) ⟨rfl, rfl, rfl, rfl, trivial⟩ (fun _ hs => ?_)
          rw [← hstep, hfree, if_neg h2, if_neg h3, show ({ e with put := e.put, got := e.got } : It) = e from rfl, setIt_same hye]
          exact hs
    · have hkl : k = l.length := by omega
      repeat (first | (with_reducible refine KQ.then_exit ?_) | (with_reducible refine KQ.blk_exit ?_) | (with_reducible refine K.exit ?_))
      refine KQ.end0 rfl (fun w' hs => ⟨_, _, rfl, ⟨rfl, rfl⟩, ?_⟩)
      rw [hkl, show ysAt u l l.length = l.map (freeIt u) by simp [ysAt]] at hs
      exact quP_mk ((hs.pick2 (by with_reducible (repeat (first | exact Pick.head | apply Pick.tail))) (by with_reducible (repeat (exact Pick.head)))).gc2 (by with_reducible repeat (first | exact LSub.refl | apply LSub.drop)))
end Go.Proofs.YtjhogocabcdjbabGreatDoor
/- msg.Right; queue.Put. -/
namespace Go.Proofs.YtjhogocabcdjbabGreatDoor
open Go Go.RowKit WB
theorem body_e (w0 : World) (L : List HP) (s : ByteArray) (hs : s.size ≤ maxLen) : KE Tryz.prog 54 #[.string s] w0 L (fun u L' => u = .bool (bodyB s) ∧ L' = L) := KE.of_below fun w _ => body_is s _ w hs rfl
theorem word_e (w0 : World) (L : List HP) (s : ByteArray) (hs : s.size ≤ maxLen) : KE Tryz.prog 240 #[.string s] w0 L (fun u L' => u = .bool (wordB s) ∧ L' = L) := KE.of_below fun w _ => word_is s _ w hs rfl
set_option maxHeartbeats 1000000 in
theorem right_e (w0 : World) (L : List HP) (m : Ms) (hb : m.body.size ≤ maxLen) (hq : m.queue.size ≤ maxLen) :
    KE Tryz.prog 145 #[.agg (msC m).toArray] w0 L (fun v L' => v = .bool (msRight m) ∧ L' = L) := by
  refine KE.mk (n := 41) Tryz.func145 rfl Tryz.ntmps145 (by simp) ?_
  intro w hw
  repeat ((with_reducible refine K.seq ?_))
  refine K.reg ?_
  refine KO.box rfl rfl (by exact rfl) rfl ?_; intro b1
  refine KO.as rfl rfl ?_
  refine KO.nil ?_
  repeat (first | (with_reducible refine K.seq ?_) | (with_reducible refine KQ.next ?_))
  have hcase : ¬ 0 ≤ m.id ∨ (0 ≤ m.id ∧ ¬ m.id ≤ 1099511627776) ∨ (0 ≤ m.id ∧ m.id ≤ 1099511627776 ∧ ¬ 0 ≤ m.pri) ∨ (0 ≤ m.id ∧ m.id ≤ 1099511627776 ∧ 0 ≤ m.pri ∧ ¬ m.pri ≤ 9) ∨ (0 ≤ m.id ∧ m.id ≤ 1099511627776 ∧ 0 ≤ m.pri ∧ m.pri ≤ 9 ∧ bodyB m.body = false) ∨
      (0 ≤ m.id ∧ m.id ≤ 1099511627776 ∧ 0 ≤ m.pri ∧ m.pri ≤ 9 ∧ bodyB m.body = true ∧ wordB m.queue = false) ∨ (0 ≤ m.id ∧ m.id ≤ 1099511627776 ∧ 0 ≤ m.pri ∧ m.pri ≤ 9 ∧ bodyB m.body = true ∧ wordB m.queue = true ∧ ¬ 0 ≤ m.house) ∨
      (0 ≤ m.id ∧ m.id ≤ 1099511627776 ∧ 0 ≤ m.pri ∧ m.pri ≤ 9 ∧ bodyB m.body = true ∧ wordB m.queue = true ∧ 0 ≤ m.house) := by
    cases bodyB m.body <;> cases wordB m.queue <;> simp <;> omega
  have fin : ∀ (b : Bool) (w' : World) (M : List HP), b = msRight m → St w M w' → ∃ v L', Ending.returned (.bool b) = Ending.returned v ∧ (v = .bool (msRight m) ∧ L' = L) ∧ St w0 L' w' ∧ Below w.heap.size w w' := fun b w' M e hs => ⟨_, _, rfl, ⟨by rw [e], rfl⟩, hw.below_step hs.below, hs.below⟩
  rcases hcase with h1 | ⟨h1, h2⟩ | ⟨h1, h2, h3⟩ | ⟨h1, h2, h3, h4⟩ | ⟨h1, h2, h3, h4, h5⟩ | ⟨h1, h2, h3, h4, h5, h6⟩ | ⟨h1, h2, h3, h4, h5, h6, h7⟩ | ⟨h1, h2, h3, h4, h5, h6, h7⟩
  · refine K.reg ?_
    refine KO.fo0 (off := 0) rfl Tryz.runUnderlying44 rfl rfl Tryz.sizeOf3 rfl ?_
    refine KO.ld rfl rfl Tryz.isAgg3 (by with_reducible (repeat (exact Pick.head))) (by exact rfl) rfl ?_
    refine KO.geq rfl rfl rfl ?_
    refine KO.mv rfl rfl ?_
    (refine KO.no rfl rfl ?_ rfl ?_; (focus (simp only [decide_eq_true_eq, decide_eq_false_iff_not, Bool.not_eq_true, Bool.not_true, Bool.not_false, ne_eq]; omega)))
    (refine KO.no rfl rfl ?_ rfl ?_; (focus (simp only [decide_eq_true_eq, decide_eq_false_iff_not, Bool.not_eq_true, Bool.not_true, Bool.not_false, ne_eq]; omega)))
    (refine KO.no rfl rfl ?_ rfl ?_; (focus (simp only [decide_eq_true_eq, decide_eq_false_iff_not, Bool.not_eq_true, Bool.not_true, Bool.not_false, ne_eq]; omega)))
    (refine KO.pickF rfl ?_ rfl rfl ?_; (focus (simp only [decide_eq_true_eq, decide_eq_false_iff_not, Bool.not_eq_true, Bool.not_true, Bool.not_false, ne_eq]; omega)))
    refine KO.mv rfl rfl ?_
    (refine KO.no rfl rfl ?_ rfl ?_; (focus rfl))
    (refine KO.no rfl rfl ?_ rfl ?_; (focus rfl))
    (refine KO.no rfl rfl ?_ rfl ?_; (focus rfl))
    (refine KO.pickF rfl ?_ rfl rfl ?_; (focus rfl))
    refine KO.mv rfl rfl ?_
    (refine KO.no rfl rfl ?_ rfl ?_; (focus rfl))
    (refine KO.no rfl rfl ?_ rfl ?_; (focus rfl))
    (refine KO.no rfl rfl ?_ rfl ?_; (focus rfl))
    (refine KO.pickF rfl ?_ rfl rfl ?_; (focus rfl))
    refine KO.mv rfl rfl ?_
    (refine KO.no rfl rfl ?_ rfl ?_; (focus rfl))
    (refine KO.no rfl rfl ?_ rfl ?_; (focus rfl))
    (refine KO.no rfl rfl ?_ rfl ?_; (rfl))
    (refine KO.pickF rfl ?_ rfl rfl ?_; (focus rfl))
    refine KO.mv rfl rfl ?_
    (refine KO.no rfl rfl ?_ rfl ?_; (focus rfl))
    (refine KO.no rfl rfl ?_ rfl ?_; (focus rfl))
    (refine KO.no rfl rfl ?_ rfl ?_; (rfl))
    (refine KO.pickF rfl ?_ rfl rfl ?_; (focus rfl))
    refine KO.mv rfl rfl ?_
    (refine KO.no rfl rfl ?_ rfl ?_; (focus rfl))
    (refine KO.no rfl rfl ?_ rfl ?_; (focus rfl))
    (refine KO.no rfl rfl ?_ rfl ?_; (focus rfl))
    (refine KO.pickF rfl ?_ rfl rfl ?_; (focus rfl))
    refine KO.mv rfl rfl ?_
    (refine KO.no rfl rfl ?_ rfl ?_; (focus rfl))
    (refine KO.no rfl rfl ?_ rfl ?_; (focus rfl))
    (refine KO.no rfl rfl ?_ rfl ?_; (focus rfl))
    (refine KO.pickF rfl ?_ rfl rfl ?_; (focus rfl))
    refine KO.as rfl rfl ?_
    refine KO.nil ?_
    repeat (first | (with_reducible refine KQ.next ?_) | (with_reducible refine K.ret ?_))
    exact KQ.ret1 rfl rfl (fun w' hs => fin _ w' _ (by simp [msRight, *]) hs)
  · refine K.reg ?_
    refine KO.fo0 (off := 0) rfl Tryz.runUnderlying44 rfl rfl Tryz.sizeOf3 rfl ?_
    refine KO.ld rfl rfl Tryz.isAgg3 (by with_reducible (repeat (exact Pick.head))) (by exact rfl) rfl ?_
    refine KO.geq rfl rfl rfl ?_
    refine KO.mv rfl rfl ?_
    (refine KO.on rfl rfl ?_ ?_; (focus (simp only [decide_eq_true_eq, decide_eq_false_iff_not, Bool.not_eq_true, Bool.not_true, Bool.not_false, ne_eq]; omega)); (refine KO.fo0 (off := 0) rfl Tryz.runUnderlying44 rfl rfl Tryz.sizeOf3 rfl ?_))
    (refine KO.on rfl rfl ?_ ?_; (focus (simp only [decide_eq_true_eq, decide_eq_false_iff_not, Bool.not_eq_true, Bool.not_true, Bool.not_false, ne_eq]; omega)); (refine KO.ld rfl rfl Tryz.isAgg3 (by with_reducible (repeat (exact Pick.head))) (by exact rfl) rfl ?_))
    (refine KO.on rfl rfl ?_ ?_; (focus (simp only [decide_eq_true_eq, decide_eq_false_iff_not, Bool.not_eq_true, Bool.not_true, Bool.not_false, ne_eq]; omega)); (refine KO.leq rfl rfl rfl ?_))
    (refine KO.pickT rfl ?_ rfl rfl ?_; (focus (simp only [decide_eq_true_eq, decide_eq_false_iff_not, Bool.not_eq_true, Bool.not_true, Bool.not_false, ne_eq]; omega)))
    refine KO.mv rfl rfl ?_
    (refine KO.no rfl rfl ?_ rfl ?_; (focus (simp only [decide_eq_true_eq, decide_eq_false_iff_not, Bool.not_eq_true, Bool.not_true, Bool.not_false, ne_eq]; omega)))
    (refine KO.no rfl rfl ?_ rfl ?_; (focus (simp only [decide_eq_true_eq, decide_eq_false_iff_not, Bool.not_eq_true, Bool.not_true, Bool.not_false, ne_eq]; omega)))
    (refine KO.no rfl rfl ?_ rfl ?_; (focus (simp only [decide_eq_true_eq, decide_eq_false_iff_not, Bool.not_eq_true, Bool.not_true, Bool.not_false, ne_eq]; omega)))
    (refine KO.pickF rfl ?_ rfl rfl ?_; (focus (simp only [decide_eq_true_eq, decide_eq_false_iff_not, Bool.not_eq_true, Bool.not_true, Bool.not_false, ne_eq]; omega)))
    refine KO.mv rfl rfl ?_
    (refine KO.no rfl rfl ?_ rfl ?_; (focus rfl))
    (refine KO.no rfl rfl ?_ rfl ?_; (focus rfl))
    (refine KO.no rfl rfl ?_ rfl ?_; (focus rfl))
    (refine KO.pickF rfl ?_ rfl rfl ?_; (focus rfl))
    refine KO.mv rfl rfl ?_
    (refine KO.no rfl rfl ?_ rfl ?_; (focus rfl))
    (refine KO.no rfl rfl ?_ rfl ?_; (focus rfl))
    (refine KO.no rfl rfl ?_ rfl ?_; (rfl))
    (refine KO.pickF rfl ?_ rfl rfl ?_; (focus rfl))
    refine KO.mv rfl rfl ?_
    (refine KO.no rfl rfl ?_ rfl ?_; (focus rfl))
    (refine KO.no rfl rfl ?_ rfl ?_; (focus rfl))
    (refine KO.no rfl rfl ?_ rfl ?_; (rfl))
    (refine KO.pickF rfl ?_ rfl rfl ?_; (focus rfl))
    refine KO.mv rfl rfl ?_
    (refine KO.no rfl rfl ?_ rfl ?_; (focus rfl))
    (refine KO.no rfl rfl ?_ rfl ?_; (focus rfl))
    (refine KO.no rfl rfl ?_ rfl ?_; (focus rfl))
    (refine KO.pickF rfl ?_ rfl rfl ?_; (focus rfl))
    refine KO.mv rfl rfl ?_
    (refine KO.no rfl rfl ?_ rfl ?_; (focus rfl))
    (refine KO.no rfl rfl ?_ rfl ?_; (focus rfl))
    (refine KO.no rfl rfl ?_ rfl ?_; (focus rfl))
    (refine KO.pickF rfl ?_ rfl rfl ?_; (focus rfl))
    refine KO.as rfl rfl ?_
    refine KO.nil ?_
    repeat (first | (with_reducible refine KQ.next ?_) | (with_reducible refine K.ret ?_))
    exact KQ.ret1 rfl rfl (fun w' hs => fin _ w' _ (by simp [msRight, *]) hs)
  · refine K.reg ?_
    refine KO.fo0 (off := 0) rfl Tryz.runUnderlying44 rfl rfl Tryz.sizeOf3 rfl ?_
    refine KO.ld rfl rfl Tryz.isAgg3 (by with_reducible (repeat (exact Pick.head))) (by exact rfl) rfl ?_
    refine KO.geq rfl rfl rfl ?_
    refine KO.mv rfl rfl ?_
    (refine KO.on rfl rfl ?_ ?_; (focus (simp only [decide_eq_true_eq, decide_eq_false_iff_not, Bool.not_eq_true, Bool.not_true, Bool.not_false, ne_eq]; omega)); (refine KO.fo0 (off := 0) rfl Tryz.runUnderlying44 rfl rfl Tryz.sizeOf3 rfl ?_))
    (refine KO.on rfl rfl ?_ ?_; (focus (simp only [decide_eq_true_eq, decide_eq_false_iff_not, Bool.not_eq_true, Bool.not_true, Bool.not_false, ne_eq]; omega)); (refine KO.ld rfl rfl Tryz.isAgg3 (by with_reducible (repeat (exact Pick.head))) (by exact rfl) rfl ?_))
    (refine KO.on rfl rfl ?_ ?_; (focus (simp only [decide_eq_true_eq, decide_eq_false_iff_not, Bool.not_eq_true, Bool.not_true, Bool.not_false, ne_eq]; omega)); (refine KO.leq rfl rfl rfl ?_))
    (refine KO.pickT rfl ?_ rfl rfl ?_; (focus (simp only [decide_eq_true_eq, decide_eq_false_iff_not, Bool.not_eq_true, Bool.not_true, Bool.not_false, ne_eq]; omega)))
    refine KO.mv rfl rfl ?_
    (refine KO.on rfl rfl ?_ ?_; (focus (simp only [decide_eq_true_eq, decide_eq_false_iff_not, Bool.not_eq_true, Bool.not_true, Bool.not_false, ne_eq]; omega)); (refine KO.fo0 (off := 1) rfl Tryz.runUnderlying44 rfl rfl Tryz.sizeOf3 rfl ?_))
    (refine KO.on rfl rfl ?_ ?_; (focus (simp only [decide_eq_true_eq, decide_eq_false_iff_not, Bool.not_eq_true, Bool.not_true, Bool.not_false, ne_eq]; omega)); (refine KO.ld rfl rfl Tryz.isAgg3 (by with_reducible (repeat (exact Pick.head))) (by exact rfl) rfl ?_))
    (refine KO.on rfl rfl ?_ ?_; (focus (simp only [decide_eq_true_eq, decide_eq_false_iff_not, Bool.not_eq_true, Bool.not_true, Bool.not_false, ne_eq]; omega)); (refine KO.geq rfl rfl rfl ?_))
    (refine KO.pickT rfl ?_ rfl rfl ?_; (focus (simp only [decide_eq_true_eq, decide_eq_false_iff_not, Bool.not_eq_true, Bool.not_true, Bool.not_false, ne_eq]; omega)))
    refine KO.mv rfl rfl ?_
    (refine KO.no rfl rfl ?_ rfl ?_; (focus (simp only [decide_eq_true_eq, decide_eq_false_iff_not, Bool.not_eq_true, Bool.not_true, Bool.not_false, ne_eq]; omega)))
    (refine KO.no rfl rfl ?_ rfl ?_; (focus (simp only [decide_eq_true_eq, decide_eq_false_iff_not, Bool.not_eq_true, Bool.not_true, Bool.not_false, ne_eq]; omega)))
    (refine KO.no rfl rfl ?_ rfl ?_; (focus (simp only [decide_eq_true_eq, decide_eq_false_iff_not, Bool.not_eq_true, Bool.not_true, Bool.not_false, ne_eq]; omega)))
    (refine KO.pickF rfl ?_ rfl rfl ?_; (focus (simp only [decide_eq_true_eq, decide_eq_false_iff_not, Bool.not_eq_true, Bool.not_true, Bool.not_false, ne_eq]; omega)))
    refine KO.mv rfl rfl ?_
    (refine KO.no rfl rfl ?_ rfl ?_; (focus rfl))
    (refine KO.no rfl rfl ?_ rfl ?_; (focus rfl))
    (refine KO.no rfl rfl ?_ rfl ?_; (rfl))
    (refine KO.pickF rfl ?_ rfl rfl ?_; (focus rfl))
    refine KO.mv rfl rfl ?_
    (refine KO.no rfl rfl ?_ rfl ?_; (focus rfl))
    (refine KO.no rfl rfl ?_ rfl ?_; (focus rfl))
    (refine KO.no rfl rfl ?_ rfl ?_; (rfl))
    (refine KO.pickF rfl ?_ rfl rfl ?_; (focus rfl))
    refine KO.mv rfl rfl ?_
    (refine KO.no rfl rfl ?_ rfl ?_; (focus rfl))
    (refine KO.no rfl rfl ?_ rfl ?_; (focus rfl))
    (refine KO.no rfl rfl ?_ rfl ?_; (focus rfl))
    (refine KO.pickF rfl ?_ rfl rfl ?_; (focus rfl))
    refine KO.mv rfl rfl ?_
    (refine KO.no rfl rfl ?_ rfl ?_; (focus rfl))
    (refine KO.no rfl rfl ?_ rfl ?_; (focus rfl))
    (refine KO.no rfl rfl ?_ rfl ?_; (focus rfl))
    (refine KO.pickF rfl ?_ rfl rfl ?_; (focus rfl))
    refine KO.as rfl rfl ?_
    refine KO.nil ?_
    repeat (first | (with_reducible refine KQ.next ?_) | (with_reducible refine K.ret ?_))
    exact KQ.ret1 rfl rfl (fun w' hs => fin _ w' _ (by simp [msRight, *]) hs)
  · refine K.reg ?_
    refine KO.fo0 (off := 0) rfl Tryz.runUnderlying44 rfl rfl Tryz.sizeOf3 rfl ?_
    refine KO.ld rfl rfl Tryz.isAgg3 (by with_reducible (repeat (exact Pick.head))) (by exact rfl) rfl ?_
    refine KO.geq rfl rfl rfl ?_
    refine KO.mv rfl rfl ?_
    (refine KO.on rfl rfl ?_ ?_; (focus (simp only [decide_eq_true_eq, decide_eq_false_iff_not, Bool.not_eq_true, Bool.not_true, Bool.not_false, ne_eq]; omega)); (refine KO.fo0 (off := 0) rfl Tryz.runUnderlying44 rfl rfl Tryz.sizeOf3 rfl ?_))
    (refine KO.on rfl rfl ?_ ?_; (focus (simp only [decide_eq_true_eq, decide_eq_false_iff_not, Bool.not_eq_true, Bool.not_true, Bool.not_false, ne_eq]; omega)); (refine KO.ld rfl rfl Tryz.isAgg3 (by with_reducible (repeat (exact Pick.head))) (by exact rfl) rfl ?_))
    (refine KO.on rfl rfl ?_ ?_; (focus (simp only [decide_eq_true_eq, decide_eq_false_iff_not, Bool.not_eq_true, Bool.not_true, Bool.not_false, ne_eq]; omega)); (refine KO.leq rfl rfl rfl ?_))
    (refine KO.pickT rfl ?_ rfl rfl ?_; (focus (simp only [decide_eq_true_eq, decide_eq_false_iff_not, Bool.not_eq_true, Bool.not_true, Bool.not_false, ne_eq]; omega)))
    refine KO.mv rfl rfl ?_
    (refine KO.on rfl rfl ?_ ?_; (focus (simp only [decide_eq_true_eq, decide_eq_false_iff_not, Bool.not_eq_true, Bool.not_true, Bool.not_false, ne_eq]; omega)); (refine KO.fo0 (off := 1) rfl Tryz.runUnderlying44 rfl rfl Tryz.sizeOf3 rfl ?_))
    (refine KO.on rfl rfl ?_ ?_; (focus (simp only [decide_eq_true_eq, decide_eq_false_iff_not, Bool.not_eq_true, Bool.not_true, Bool.not_false, ne_eq]; omega)); (refine KO.ld rfl rfl Tryz.isAgg3 (by with_reducible (repeat (exact Pick.head))) (by exact rfl) rfl ?_))
    (refine KO.on rfl rfl ?_ ?_; (focus (simp only [decide_eq_true_eq, decide_eq_false_iff_not, Bool.not_eq_true, Bool.not_true, Bool.not_false, ne_eq]; omega)); (refine KO.geq rfl rfl rfl ?_))
    (refine KO.pickT rfl ?_ rfl rfl ?_; (focus (simp only [decide_eq_true_eq, decide_eq_false_iff_not, Bool.not_eq_true, Bool.not_true, Bool.not_false, ne_eq]; omega)))
    refine KO.mv rfl rfl ?_
    (refine KO.on rfl rfl ?_ ?_; (focus (simp only [decide_eq_true_eq, decide_eq_false_iff_not, Bool.not_eq_true, Bool.not_true, Bool.not_false, ne_eq]; omega)); (refine KO.fo0 (off := 1) rfl Tryz.runUnderlying44 rfl rfl Tryz.sizeOf3 rfl ?_))
    (refine KO.on rfl rfl ?_ ?_; (focus (simp only [decide_eq_true_eq, decide_eq_false_iff_not, Bool.not_eq_true, Bool.not_true, Bool.not_false, ne_eq]; omega)); (refine KO.ld rfl rfl Tryz.isAgg3 (by with_reducible (repeat (exact Pick.head))) (by exact rfl) rfl ?_))
    (refine KO.on rfl rfl ?_ ?_; (focus (simp only [decide_eq_true_eq, decide_eq_false_iff_not, Bool.not_eq_true, Bool.not_true, Bool.not_false, ne_eq]; omega)); (refine KO.leq rfl rfl rfl ?_))
    (refine KO.pickT rfl ?_ rfl rfl ?_; (focus (simp only [decide_eq_true_eq, decide_eq_false_iff_not, Bool.not_eq_true, Bool.not_true, Bool.not_false, ne_eq]; omega)))
    refine KO.mv rfl rfl ?_
    (refine KO.no rfl rfl ?_ rfl ?_; (focus (simp only [decide_eq_true_eq, decide_eq_false_iff_not, Bool.not_eq_true, Bool.not_true, Bool.not_false, ne_eq]; omega)))
    (refine KO.no rfl rfl ?_ rfl ?_; (focus (simp only [decide_eq_true_eq, decide_eq_false_iff_not, Bool.not_eq_true, Bool.not_true, Bool.not_false, ne_eq]; omega)))
    (refine KO.no rfl rfl ?_ rfl ?_; ((simp; omega)))
    (refine KO.pickF rfl ?_ rfl rfl ?_; (focus (simp only [decide_eq_true_eq, decide_eq_false_iff_not, Bool.not_eq_true, Bool.not_true, Bool.not_false, ne_eq]; omega)))
    refine KO.mv rfl rfl ?_
    (refine KO.no rfl rfl ?_ rfl ?_; (focus rfl))
    (refine KO.no rfl rfl ?_ rfl ?_; (focus rfl))
    (refine KO.no rfl rfl ?_ rfl ?_; (rfl))
    (refine KO.pickF rfl ?_ rfl rfl ?_; (focus rfl))
    refine KO.mv rfl rfl ?_
    (refine KO.no rfl rfl ?_ rfl ?_; (focus rfl))
    (refine KO.no rfl rfl ?_ rfl ?_; (focus rfl))
    (refine KO.no rfl rfl ?_ rfl ?_; (focus rfl))
    (refine KO.pickF rfl ?_ rfl rfl ?_; (focus rfl))
    refine KO.mv rfl rfl ?_
    (refine KO.no rfl rfl ?_ rfl ?_; (focus rfl))
    (refine KO.no rfl rfl ?_ rfl ?_; (focus rfl))
    (refine KO.no rfl rfl ?_ rfl ?_; (focus rfl))
    (refine KO.pickF rfl ?_ rfl rfl ?_; (focus rfl))
    refine KO.as rfl rfl ?_
    refine KO.nil ?_
    repeat (first | (with_reducible refine KQ.next ?_) | (with_reducible refine K.ret ?_))
    exact KQ.ret1 rfl rfl (fun w' hs => fin _ w' _ (by simp [msRight, *]) hs)
  · refine K.reg ?_
    refine KO.fo0 (off := 0) rfl Tryz.runUnderlying44 rfl rfl Tryz.sizeOf3 rfl ?_
    refine KO.ld rfl rfl Tryz.isAgg3 (by with_reducible (repeat (exact Pick.head))) (by exact rfl) rfl ?_
    refine KO.geq rfl rfl rfl ?_
    refine KO.mv rfl rfl ?_
    (refine KO.on rfl rfl ?_ ?_; (focus (simp only [decide_eq_true_eq, decide_eq_false_iff_not, Bool.not_eq_true, Bool.not_true, Bool.not_false, ne_eq]; omega)); (refine KO.fo0 (off := 0) rfl Tryz.runUnderlying44 rfl rfl Tryz.sizeOf3 rfl ?_))
    (refine KO.on rfl rfl ?_ ?_; (focus (simp only [decide_eq_true_eq, decide_eq_false_iff_not, Bool.not_eq_true, Bool.not_true, Bool.not_false, ne_eq]; omega)); (refine KO.ld rfl rfl Tryz.isAgg3 (by with_reducible (repeat (exact Pick.head))) (by exact rfl) rfl ?_))
    (refine KO.on rfl rfl ?_ ?_; (focus (simp only [decide_eq_true_eq, decide_eq_false_iff_not, Bool.not_eq_true, Bool.not_true, Bool.not_false, ne_eq]; omega)); (refine KO.leq rfl rfl rfl ?_))
    (refine KO.pickT rfl ?_ rfl rfl ?_; (focus (simp only [decide_eq_true_eq, decide_eq_false_iff_not, Bool.not_eq_true, Bool.not_true, Bool.not_false, ne_eq]; omega)))
    refine KO.mv rfl rfl ?_
    (refine KO.on rfl rfl ?_ ?_; (focus (simp only [decide_eq_true_eq, decide_eq_false_iff_not, Bool.not_eq_true, Bool.not_true, Bool.not_false, ne_eq]; omega)); (refine KO.fo0 (off := 1) rfl Tryz.runUnderlying44 rfl rfl Tryz.sizeOf3 rfl ?_))
    (refine KO.on rfl rfl ?_ ?_; (focus (simp only [decide_eq_true_eq, decide_eq_false_iff_not, Bool.not_eq_true, Bool.not_true, Bool.not_false, ne_eq]; omega)); (refine KO.ld rfl rfl Tryz.isAgg3 (by with_reducible (repeat (exact Pick.head))) (by exact rfl) rfl ?_))
    (refine KO.on rfl rfl ?_ ?_; (focus (simp only [decide_eq_true_eq, decide_eq_false_iff_not, Bool.not_eq_true, Bool.not_true, Bool.not_false, ne_eq]; omega)); (refine KO.geq rfl rfl rfl ?_))
    (refine KO.pickT rfl ?_ rfl rfl ?_; (focus (simp only [decide_eq_true_eq, decide_eq_false_iff_not, Bool.not_eq_true, Bool.not_true, Bool.not_false, ne_eq]; omega)))
    refine KO.mv rfl rfl ?_
    (refine KO.on rfl rfl ?_ ?_; (focus (simp only [decide_eq_true_eq, decide_eq_false_iff_not, Bool.not_eq_true, Bool.not_true, Bool.not_false, ne_eq]; omega)); (refine KO.fo0 (off := 1) rfl Tryz.runUnderlying44 rfl rfl Tryz.sizeOf3 rfl ?_))
    (refine KO.on rfl rfl ?_ ?_; (focus (simp only [decide_eq_true_eq, decide_eq_false_iff_not, Bool.not_eq_true, Bool.not_true, Bool.not_false, ne_eq]; omega)); (refine KO.ld rfl rfl Tryz.isAgg3 (by with_reducible (repeat (exact Pick.head))) (by exact rfl) rfl ?_))
    (refine KO.on rfl rfl ?_ ?_; (focus (simp only [decide_eq_true_eq, decide_eq_false_iff_not, Bool.not_eq_true, Bool.not_true, Bool.not_false, ne_eq]; omega)); (refine KO.leq rfl rfl rfl ?_))
    (refine KO.pickT rfl ?_ rfl rfl ?_; (focus (simp only [decide_eq_true_eq, decide_eq_false_iff_not, Bool.not_eq_true, Bool.not_true, Bool.not_false, ne_eq]; omega)))
    refine KO.mv rfl rfl ?_
    (refine KO.on rfl rfl ?_ ?_; (focus (simp only [decide_eq_true_eq, decide_eq_false_iff_not, Bool.not_eq_true, Bool.not_true, Bool.not_false, ne_eq]; omega)); (refine KO.fo0 (off := 2) rfl Tryz.runUnderlying44 rfl rfl Tryz.sizeOf9 rfl ?_))
    (refine KO.on rfl rfl ?_ ?_; (focus (simp only [decide_eq_true_eq, decide_eq_false_iff_not, Bool.not_eq_true, Bool.not_true, Bool.not_false, ne_eq]; omega)); (refine KO.ld rfl rfl Tryz.isAgg9 (by with_reducible (repeat (exact Pick.head))) (by exact rfl) rfl ?_))
    (refine KO.on rfl rfl ?_ ?_; (simp; omega); refine KO.ce (cp := []) rfl rfl rfl Tryz.call54 rfl (body_e w _ _ hb) ?_; rintro v L' ⟨rfl, rfl⟩)
    (refine KO.pickT rfl ?_ rfl rfl ?_; (focus (simp only [decide_eq_true_eq, decide_eq_false_iff_not, Bool.not_eq_true, Bool.not_true, Bool.not_false, ne_eq]; omega)))
    refine KO.mv rfl rfl ?_
    (refine KO.no rfl rfl ?_ rfl ?_; (focus assumption))
    (refine KO.no rfl rfl ?_ rfl ?_; (focus assumption))
    (refine KO.no rfl rfl ?_ rfl ?_; (assumption))
    (refine KO.pickF rfl ?_ rfl rfl ?_; (focus assumption))
    refine KO.mv rfl rfl ?_
    (refine KO.no rfl rfl ?_ rfl ?_; (focus rfl))
    (refine KO.no rfl rfl ?_ rfl ?_; (focus rfl))
    (refine KO.no rfl rfl ?_ rfl ?_; (focus rfl))
    (refine KO.pickF rfl ?_ rfl rfl ?_; (focus rfl))
    refine KO.mv rfl rfl ?_
    (refine KO.no rfl rfl ?_ rfl ?_; (focus rfl))
    (refine KO.no rfl rfl ?_ rfl ?_; (focus rfl))
    (refine KO.no rfl rfl ?_ rfl ?_; (focus rfl))
    (refine KO.pickF rfl ?_ rfl rfl ?_; (focus rfl))
    refine KO.as rfl rfl ?_
    refine KO.nil ?_
    repeat (first | (with_reducible refine KQ.next ?_) | (with_reducible refine K.ret ?_))
    exact KQ.ret1 rfl rfl (fun w' hs => fin _ w' _ (by simp [msRight, *]) hs)
  · refine K.reg ?_
    refine KO.fo0 (off := 0) rfl Tryz.runUnderlying44 rfl rfl Tryz.sizeOf3 rfl ?_
    refine KO.ld rfl rfl Tryz.isAgg3 (by with_reducible (repeat (exact Pick.head))) (by exact rfl) rfl ?_
    refine KO.geq rfl rfl rfl ?_
    refine KO.mv rfl rfl ?_
    (refine KO.on rfl rfl ?_ ?_; (focus (simp only [decide_eq_true_eq, decide_eq_false_iff_not, Bool.not_eq_true, Bool.not_true, Bool.not_false, ne_eq]; omega)); (refine KO.fo0 (off := 0) rfl Tryz.runUnderlying44 rfl rfl Tryz.sizeOf3 rfl ?_))
    (refine KO.on rfl rfl ?_ ?_; (focus (simp only [decide_eq_true_eq, decide_eq_false_iff_not, Bool.not_eq_true, Bool.not_true, Bool.not_false, ne_eq]; omega)); (refine KO.ld rfl rfl Tryz.isAgg3 (by with_reducible (repeat (exact Pick.head))) (by exact rfl) rfl ?_))
    (refine KO.on rfl rfl ?_ ?_; (focus (simp only [decide_eq_true_eq, decide_eq_false_iff_not, Bool.not_eq_true, Bool.not_true, Bool.not_false, ne_eq]; omega)); (refine KO.leq rfl rfl rfl ?_))
    (refine KO.pickT rfl ?_ rfl rfl ?_; (focus (simp only [decide_eq_true_eq, decide_eq_false_iff_not, Bool.not_eq_true, Bool.not_true, Bool.not_false, ne_eq]; omega)))
    refine KO.mv rfl rfl ?_
    (refine KO.on rfl rfl ?_ ?_; (focus (simp only [decide_eq_true_eq, decide_eq_false_iff_not, Bool.not_eq_true, Bool.not_true, Bool.not_false, ne_eq]; omega)); (refine KO.fo0 (off := 1) rfl Tryz.runUnderlying44 rfl rfl Tryz.sizeOf3 rfl ?_))
    (refine KO.on rfl rfl ?_ ?_; (focus (simp only [decide_eq_true_eq, decide_eq_false_iff_not, Bool.not_eq_true, Bool.not_true, Bool.not_false, ne_eq]; omega)); (refine KO.ld rfl rfl Tryz.isAgg3 (by with_reducible (repeat (exact Pick.head))) (by exact rfl) rfl ?_))
    (refine KO.on rfl rfl ?_ ?_; (focus (simp only [decide_eq_true_eq, decide_eq_false_iff_not, Bool.not_eq_true, Bool.not_true, Bool.not_false, ne_eq]; omega)); (refine KO.geq rfl rfl rfl ?_))
    (refine KO.pickT rfl ?_ rfl rfl ?_; (focus (simp only [decide_eq_true_eq, decide_eq_false_iff_not, Bool.not_eq_true, Bool.not_true, Bool.not_false, ne_eq]; omega)))
    refine KO.mv rfl rfl ?_
    (refine KO.on rfl rfl ?_ ?_; (focus (simp only [decide_eq_true_eq, decide_eq_false_iff_not, Bool.not_eq_true, Bool.not_true, Bool.not_false, ne_eq]; omega)); (refine KO.fo0 (off := 1) rfl Tryz.runUnderlying44 rfl rfl Tryz.sizeOf3 rfl ?_))
    (refine KO.on rfl rfl ?_ ?_; (focus (simp only [decide_eq_true_eq, decide_eq_false_iff_not, Bool.not_eq_true, Bool.not_true, Bool.not_false, ne_eq]; omega)); (refine KO.ld rfl rfl Tryz.isAgg3 (by with_reducible (repeat (exact Pick.head))) (by exact rfl) rfl ?_))
    (refine KO.on rfl rfl ?_ ?_; (focus (simp only [decide_eq_true_eq, decide_eq_false_iff_not, Bool.not_eq_true, Bool.not_true, Bool.not_false, ne_eq]; omega)); (refine KO.leq rfl rfl rfl ?_))
    (refine KO.pickT rfl ?_ rfl rfl ?_; (focus (simp only [decide_eq_true_eq, decide_eq_false_iff_not, Bool.not_eq_true, Bool.not_true, Bool.not_false, ne_eq]; omega)))
    refine KO.mv rfl rfl ?_
    (refine KO.on rfl rfl ?_ ?_; (focus (simp only [decide_eq_true_eq, decide_eq_false_iff_not, Bool.not_eq_true, Bool.not_true, Bool.not_false, ne_eq]; omega)); (refine KO.fo0 (off := 2) rfl Tryz.runUnderlying44 rfl rfl Tryz.sizeOf9 rfl ?_))
    (refine KO.on rfl rfl ?_ ?_; (focus (simp only [decide_eq_true_eq, decide_eq_false_iff_not, Bool.not_eq_true, Bool.not_true, Bool.not_false, ne_eq]; omega)); (refine KO.ld rfl rfl Tryz.isAgg9 (by with_reducible (repeat (exact Pick.head))) (by exact rfl) rfl ?_))
    (refine KO.on rfl rfl ?_ ?_; (simp; omega); refine KO.ce (cp := []) rfl rfl rfl Tryz.call54 rfl (body_e w _ _ hb) ?_; rintro v L' ⟨rfl, rfl⟩)
    (refine KO.pickT rfl ?_ rfl rfl ?_; (focus (simp only [decide_eq_true_eq, decide_eq_false_iff_not, Bool.not_eq_true, Bool.not_true, Bool.not_false, ne_eq]; omega)))
    refine KO.mv rfl rfl ?_
    (refine KO.on rfl rfl ?_ ?_; (focus assumption); (refine KO.fo0 (off := 3) rfl Tryz.runUnderlying44 rfl rfl Tryz.sizeOf9 rfl ?_))
    (refine KO.on rfl rfl ?_ ?_; (focus assumption); (refine KO.ld rfl rfl Tryz.isAgg9 (by with_reducible (repeat (exact Pick.head))) (by exact rfl) rfl ?_))
    (refine KO.on rfl rfl ?_ ?_; (assumption); refine KO.ce (cp := []) rfl rfl rfl Tryz.call240 rfl (word_e w _ _ hq) ?_; rintro v L' ⟨rfl, rfl⟩)
    (refine KO.pickT rfl ?_ rfl rfl ?_; (focus assumption))
    refine KO.mv rfl rfl ?_
    (refine KO.no rfl rfl ?_ rfl ?_; (focus assumption))
    (refine KO.no rfl rfl ?_ rfl ?_; (focus assumption))
    (refine KO.no rfl rfl ?_ rfl ?_; (focus assumption))
    (refine KO.pickF rfl ?_ rfl rfl ?_; (focus assumption))
    refine KO.mv rfl rfl ?_
    (refine KO.no rfl rfl ?_ rfl ?_; (focus rfl))
    (refine KO.no rfl rfl ?_ rfl ?_; (focus rfl))
    (refine KO.no rfl rfl ?_ rfl ?_; (focus rfl))
    (refine KO.pickF rfl ?_ rfl rfl ?_; (focus rfl))
    refine KO.as rfl rfl ?_
    refine KO.nil ?_
    repeat (first | (with_reducible refine KQ.next ?_) | (with_reducible refine K.ret ?_))
    exact KQ.ret1 rfl rfl (fun w' hs => fin _ w' _ (by simp [msRight, *]) hs)
  · refine K.reg ?_
    refine KO.fo0 (off := 0) rfl Tryz.runUnderlying44 rfl rfl Tryz.sizeOf3 rfl ?_
    refine KO.ld rfl rfl Tryz.isAgg3 (by with_reducible (repeat (exact Pick.head))) (by exact rfl) rfl ?_
    refine KO.geq rfl rfl rfl ?_
    refine KO.mv rfl rfl ?_
    (refine KO.on rfl rfl ?_ ?_; (focus (simp only [decide_eq_true_eq, decide_eq_false_iff_not, Bool.not_eq_true, Bool.not_true, Bool.not_false, ne_eq]; omega)); (refine KO.fo0 (off := 0) rfl Tryz.runUnderlying44 rfl rfl Tryz.sizeOf3 rfl ?_))
    (refine KO.on rfl rfl ?_ ?_; (focus (simp only [decide_eq_true_eq, decide_eq_false_iff_not, Bool.not_eq_true, Bool.not_true, Bool.not_false, ne_eq]; omega)); (refine KO.ld rfl rfl Tryz.isAgg3 (by with_reducible (repeat (exact Pick.head))) (by exact rfl) rfl ?_))
    (refine KO.on rfl rfl ?_ ?_; (focus (simp only [decide_eq_true_eq, decide_eq_false_iff_not, Bool.not_eq_true, Bool.not_true, Bool.not_false, ne_eq]; omega)); (refine KO.leq rfl rfl rfl ?_))
    (refine KO.pickT rfl ?_ rfl rfl ?_; (focus (simp only [decide_eq_true_eq, decide_eq_false_iff_not, Bool.not_eq_true, Bool.not_true, Bool.not_false, ne_eq]; omega)))
    refine KO.mv rfl rfl ?_
    (refine KO.on rfl rfl ?_ ?_; (focus (simp only [decide_eq_true_eq, decide_eq_false_iff_not, Bool.not_eq_true, Bool.not_true, Bool.not_false, ne_eq]; omega)); (refine KO.fo0 (off := 1) rfl Tryz.runUnderlying44 rfl rfl Tryz.sizeOf3 rfl ?_))
    (refine KO.on rfl rfl ?_ ?_; (focus (simp only [decide_eq_true_eq, decide_eq_false_iff_not, Bool.not_eq_true, Bool.not_true, Bool.not_false, ne_eq]; omega)); (refine KO.ld rfl rfl Tryz.isAgg3 (by with_reducible (repeat (exact Pick.head))) (by exact rfl) rfl ?_))
    (refine KO.on rfl rfl ?_ ?_; (focus (simp only [decide_eq_true_eq, decide_eq_false_iff_not, Bool.not_eq_true, Bool.not_true, Bool.not_false, ne_eq]; omega)); (refine KO.geq rfl rfl rfl ?_))
    (refine KO.pickT rfl ?_ rfl rfl ?_; (focus (simp only [decide_eq_true_eq, decide_eq_false_iff_not, Bool.not_eq_true, Bool.not_true, Bool.not_false, ne_eq]; omega)))
    refine KO.mv rfl rfl ?_
    (refine KO.on rfl rfl ?_ ?_; (focus (simp only [decide_eq_true_eq, decide_eq_false_iff_not, Bool.not_eq_true, Bool.not_true, Bool.not_false, ne_eq]; omega)); (refine KO.fo0 (off := 1) rfl Tryz.runUnderlying44 rfl rfl Tryz.sizeOf3 rfl ?_))
    (refine KO.on rfl rfl ?_ ?_; (focus (simp only [decide_eq_true_eq, decide_eq_false_iff_not, Bool.not_eq_true, Bool.not_true, Bool.not_false, ne_eq]; omega)); (refine KO.ld rfl rfl Tryz.isAgg3 (by with_reducible (repeat (exact Pick.head))) (by exact rfl) rfl ?_))
    (refine KO.on rfl rfl ?_ ?_; (focus (simp only [decide_eq_true_eq, decide_eq_false_iff_not, Bool.not_eq_true, Bool.not_true, Bool.not_false, ne_eq]; omega)); (refine KO.leq rfl rfl rfl ?_))
    (refine KO.pickT rfl ?_ rfl rfl ?_; (focus (simp only [decide_eq_true_eq, decide_eq_false_iff_not, Bool.not_eq_true, Bool.not_true, Bool.not_false, ne_eq]; omega)))
    refine KO.mv rfl rfl ?_
    (refine KO.on rfl rfl ?_ ?_; (focus (simp only [decide_eq_true_eq, decide_eq_false_iff_not, Bool.not_eq_true, Bool.not_true, Bool.not_false, ne_eq]; omega)); (refine KO.fo0 (off := 2) rfl Tryz.runUnderlying44 rfl rfl Tryz.sizeOf9 rfl ?_))
    (refine KO.on rfl rfl ?_ ?_; (focus (simp only [decide_eq_true_eq, decide_eq_false_iff_not, Bool.not_eq_true, Bool.not_true, Bool.not_false, ne_eq]; omega)); (refine KO.ld rfl rfl Tryz.isAgg9 (by with_reducible (repeat (exact Pick.head))) (by exact rfl) rfl ?_))
    (refine KO.on rfl rfl ?_ ?_; (simp; omega); refine KO.ce (cp := []) rfl rfl rfl Tryz.call54 rfl (body_e w _ _ hb) ?_; rintro v L' ⟨rfl, rfl⟩)
    (refine KO.pickT rfl ?_ rfl rfl ?_; (focus (simp only [decide_eq_true_eq, decide_eq_false_iff_not, Bool.not_eq_true, Bool.not_true, Bool.not_false, ne_eq]; omega)))
    refine KO.mv rfl rfl ?_
    (refine KO.on rfl rfl ?_ ?_; (focus assumption); (refine KO.fo0 (off := 3) rfl Tryz.runUnderlying44 rfl rfl Tryz.sizeOf9 rfl ?_))
    (refine KO.on rfl rfl ?_ ?_; (focus assumption); (refine KO.ld rfl rfl Tryz.isAgg9 (by with_reducible (repeat (exact Pick.head))) (by exact rfl) rfl ?_))
    (refine KO.on rfl rfl ?_ ?_; (assumption); refine KO.ce (cp := []) rfl rfl rfl Tryz.call240 rfl (word_e w _ _ hq) ?_; rintro v L' ⟨rfl, rfl⟩)
    (refine KO.pickT rfl ?_ rfl rfl ?_; (focus assumption))
    refine KO.mv rfl rfl ?_
    (refine KO.on rfl rfl ?_ ?_; (focus assumption); (refine KO.fo0 (off := 4) rfl Tryz.runUnderlying44 rfl rfl Tryz.sizeOf3 rfl ?_))
    (refine KO.on rfl rfl ?_ ?_; (focus assumption); (refine KO.ld rfl rfl Tryz.isAgg3 (by with_reducible (repeat (exact Pick.head))) (by exact rfl) rfl ?_))
    (refine KO.on rfl rfl ?_ ?_; (focus assumption); (refine KO.geq rfl rfl rfl ?_))
    (refine KO.pickT rfl ?_ rfl rfl ?_; (focus assumption))
    refine KO.mv rfl rfl ?_
    (refine KO.no rfl rfl ?_ rfl ?_; (focus (simp only [decide_eq_true_eq, decide_eq_false_iff_not, Bool.not_eq_true, Bool.not_true, Bool.not_false, ne_eq]; omega)))
    (refine KO.no rfl rfl ?_ rfl ?_; (focus (simp only [decide_eq_true_eq, decide_eq_false_iff_not, Bool.not_eq_true, Bool.not_true, Bool.not_false, ne_eq]; omega)))
    (refine KO.no rfl rfl ?_ rfl ?_; (focus (simp only [decide_eq_true_eq, decide_eq_false_iff_not, Bool.not_eq_true, Bool.not_true, Bool.not_false, ne_eq]; omega)))
    (refine KO.pickF rfl ?_ rfl rfl ?_; (focus (simp only [decide_eq_true_eq, decide_eq_false_iff_not, Bool.not_eq_true, Bool.not_true, Bool.not_false, ne_eq]; omega)))
    refine KO.as rfl rfl ?_
    refine KO.nil ?_
    repeat (first | (with_reducible refine KQ.next ?_) | (with_reducible refine K.ret ?_))
    exact KQ.ret1 rfl rfl (fun w' hs => fin _ w' _ (by simp [msRight, *]) hs)
  · refine K.reg ?_
    refine KO.fo0 (off := 0) rfl Tryz.runUnderlying44 rfl rfl Tryz.sizeOf3 rfl ?_
    refine KO.ld rfl rfl Tryz.isAgg3 (by with_reducible (repeat (exact Pick.head))) (by exact rfl) rfl ?_
    refine KO.geq rfl rfl rfl ?_
    refine KO.mv rfl rfl ?_
    (refine KO.on rfl rfl ?_ ?_; (focus (simp only [decide_eq_true_eq, decide_eq_false_iff_not, Bool.not_eq_true, Bool.not_true, Bool.not_false, ne_eq]; omega)); (refine KO.fo0 (off := 0) rfl Tryz.runUnderlying44 rfl rfl Tryz.sizeOf3 rfl ?_))
    (refine KO.on rfl rfl ?_ ?_; (focus (simp only [decide_eq_true_eq, decide_eq_false_iff_not, Bool.not_eq_true, Bool.not_true, Bool.not_false, ne_eq]; omega)); (refine KO.ld rfl rfl Tryz.isAgg3 (by with_reducible (repeat (exact Pick.head))) (by exact rfl) rfl ?_))
    (refine KO.on rfl rfl ?_ ?_; (focus (simp only [decide_eq_true_eq, decide_eq_false_iff_not, Bool.not_eq_true, Bool.not_true, Bool.not_false, ne_eq]; omega)); (refine KO.leq rfl rfl rfl ?_))
    (refine KO.pickT rfl ?_ rfl rfl ?_; (focus (simp only [decide_eq_true_eq, decide_eq_false_iff_not, Bool.not_eq_true, Bool.not_true, Bool.not_false, ne_eq]; omega)))
    refine KO.mv rfl rfl ?_
    (refine KO.on rfl rfl ?_ ?_; (focus (simp only [decide_eq_true_eq, decide_eq_false_iff_not, Bool.not_eq_true, Bool.not_true, Bool.not_false, ne_eq]; omega)); (refine KO.fo0 (off := 1) rfl Tryz.runUnderlying44 rfl rfl Tryz.sizeOf3 rfl ?_))
    (refine KO.on rfl rfl ?_ ?_; (focus (simp only [decide_eq_true_eq, decide_eq_false_iff_not, Bool.not_eq_true, Bool.not_true, Bool.not_false, ne_eq]; omega)); (refine KO.ld rfl rfl Tryz.isAgg3 (by with_reducible (repeat (exact Pick.head))) (by exact rfl) rfl ?_))
    (refine KO.on rfl rfl ?_ ?_; (focus (simp only [decide_eq_true_eq, decide_eq_false_iff_not, Bool.not_eq_true, Bool.not_true, Bool.not_false, ne_eq]; omega)); (refine KO.geq rfl rfl rfl ?_))
    (refine KO.pickT rfl ?_ rfl rfl ?_; (focus (simp only [decide_eq_true_eq, decide_eq_false_iff_not, Bool.not_eq_true, Bool.not_true, Bool.not_false, ne_eq]; omega)))
    refine KO.mv rfl rfl ?_
    (refine KO.on rfl rfl ?_ ?_; (focus (simp only [decide_eq_true_eq, decide_eq_false_iff_not, Bool.not_eq_true, Bool.not_true, Bool.not_false, ne_eq]; omega)); (refine KO.fo0 (off := 1) rfl Tryz.runUnderlying44 rfl rfl Tryz.sizeOf3 rfl ?_))
    (refine KO.on rfl rfl ?_ ?_; (focus (simp only [decide_eq_true_eq, decide_eq_false_iff_not, Bool.not_eq_true, Bool.not_true, Bool.not_false, ne_eq]; omega)); (refine KO.ld rfl rfl Tryz.isAgg3 (by with_reducible (repeat (exact Pick.head))) (by exact rfl) rfl ?_))
    (refine KO.on rfl rfl ?_ ?_; (focus (simp only [decide_eq_true_eq, decide_eq_false_iff_not, Bool.not_eq_true, Bool.not_true, Bool.not_false, ne_eq]; omega)); (refine KO.leq rfl rfl rfl ?_))
    (refine KO.pickT rfl ?_ rfl rfl ?_; (focus (simp only [decide_eq_true_eq, decide_eq_false_iff_not, Bool.not_eq_true, Bool.not_true, Bool.not_false, ne_eq]; omega)))
    refine KO.mv rfl rfl ?_
    (refine KO.on rfl rfl ?_ ?_; (focus (simp only [decide_eq_true_eq, decide_eq_false_iff_not, Bool.not_eq_true, Bool.not_true, Bool.not_false, ne_eq]; omega)); (refine KO.fo0 (off := 2) rfl Tryz.runUnderlying44 rfl rfl Tryz.sizeOf9 rfl ?_))
    (refine KO.on rfl rfl ?_ ?_; (focus (simp only [decide_eq_true_eq, decide_eq_false_iff_not, Bool.not_eq_true, Bool.not_true, Bool.not_false, ne_eq]; omega)); (refine KO.ld rfl rfl Tryz.isAgg9 (by with_reducible (repeat (exact Pick.head))) (by exact rfl) rfl ?_))
    (refine KO.on rfl rfl ?_ ?_; (simp; omega); refine KO.ce (cp := []) rfl rfl rfl Tryz.call54 rfl (body_e w _ _ hb) ?_; rintro v L' ⟨rfl, rfl⟩)
    (refine KO.pickT rfl ?_ rfl rfl ?_; (focus (simp only [decide_eq_true_eq, decide_eq_false_iff_not, Bool.not_eq_true, Bool.not_true, Bool.not_false, ne_eq]; omega)))
    refine KO.mv rfl rfl ?_
    (refine KO.on rfl rfl ?_ ?_; (focus assumption); (refine KO.fo0 (off := 3) rfl Tryz.runUnderlying44 rfl rfl Tryz.sizeOf9 rfl ?_))
    (refine KO.on rfl rfl ?_ ?_; (focus assumption); (refine KO.ld rfl rfl Tryz.isAgg9 (by with_reducible (repeat (exact Pick.head))) (by exact rfl) rfl ?_))
    (refine KO.on rfl rfl ?_ ?_; (assumption); refine KO.ce (cp := []) rfl rfl rfl Tryz.call240 rfl (word_e w _ _ hq) ?_; rintro v L' ⟨rfl, rfl⟩)
    (refine KO.pickT rfl ?_ rfl rfl ?_; (focus assumption))
    refine KO.mv rfl rfl ?_
    (refine KO.on rfl rfl ?_ ?_; (focus assumption); (refine KO.fo0 (off := 4) rfl Tryz.runUnderlying44 rfl rfl Tryz.sizeOf3 rfl ?_))
    (refine KO.on rfl rfl ?_ ?_; (focus assumption); (refine KO.ld rfl rfl Tryz.isAgg3 (by with_reducible (repeat (exact Pick.head))) (by exact rfl) rfl ?_))
    (refine KO.on rfl rfl ?_ ?_; (focus assumption); (refine KO.geq rfl rfl rfl ?_))
    (refine KO.pickT rfl ?_ rfl rfl ?_; (focus assumption))
    refine KO.mv rfl rfl ?_
    (refine KO.on rfl rfl ?_ ?_; (focus (simp only [decide_eq_true_eq, decide_eq_false_iff_not, Bool.not_eq_true, Bool.not_true, Bool.not_false, ne_eq]; omega)); (refine KO.fo0 (off := 4) rfl Tryz.runUnderlying44 rfl rfl Tryz.sizeOf3 rfl ?_))
    (refine KO.on rfl rfl ?_ ?_; (focus (simp only [decide_eq_true_eq, decide_eq_false_iff_not, Bool.not_eq_true, Bool.not_true, Bool.not_false, ne_eq]; omega)); (refine KO.ld rfl rfl Tryz.isAgg3 (by with_reducible (repeat (exact Pick.head))) (by exact rfl) rfl ?_))
    (refine KO.on rfl rfl ?_ ?_; (focus (simp only [decide_eq_true_eq, decide_eq_false_iff_not, Bool.not_eq_true, Bool.not_true, Bool.not_false, ne_eq]; omega)); (refine KO.lss rfl rfl rfl ?_))
    (refine KO.pickT rfl ?_ rfl rfl ?_; (focus (simp only [decide_eq_true_eq, decide_eq_false_iff_not, Bool.not_eq_true, Bool.not_true, Bool.not_false, ne_eq]; omega)))
    refine KO.as rfl rfl ?_
    refine KO.nil ?_
    repeat (first | (with_reducible refine KQ.next ?_) | (with_reducible refine K.ret ?_))
    exact KQ.ret1 rfl rfl (fun w' hs => fin _ w' _ (by simp [msRight, *]) hs)
theorem put_c (w0 : World) (L : List HP) (b : Nat) (q : Qu) (m : Ms) (u : Int) (hq : QuOk q) (hb : m.body.size ≤ maxLen) (hs : m.queue.size ≤ maxLen) :
    KC Tryz.prog 56 #[.pointer (some ⟨b, 0, none⟩), .agg (msC m).toArray, .int .i64 u] w0 (quP b q :: L) (fun v L' => v = errV 70 (qputE q m) ∧ L' = quP b (qput q m u) :: L) := by
  have hl := hq.len
  refine KC.mk (n := 30) Tryz.func56 rfl Tryz.ntmps56 (by simp) ?_
  repeat ((with_reducible refine K.seq ?_))
  refine K.reg ?_
  refine KO.box rfl rfl (by exact rfl) rfl ?_; intro b4
  refine KO.as rfl rfl ?_
  refine KO.nil ?_
  repeat (first | (with_reducible refine K.seq ?_) | (with_reducible refine KQ.next ?_) | (with_reducible refine K.block ?_))
  refine K.reg ?_
  refine KO.ldB0 rfl rfl Tryz.isAgg44 Tryz.sizeOf44 (by with_reducible (repeat (exact Pick.head))) (by exact rfl) rfl ?_
  refine KO.ce (cp := []) rfl rfl rfl Tryz.call145 rfl (right_e w0 _ m hb hs) ?_; rintro v L' ⟨rfl, rfl⟩
  refine KO.not rfl rfl ?_
  refine KO.as rfl rfl ?_
  refine KO.nil ?_
  repeat ((with_reducible refine KQ.next ?_))
  refine K.cond rfl (fun h => ?_) (fun h => ?_)
  · have hr : msRight m = false := by simpa using h
    repeat ((with_reducible refine K.seq ?_))
    refine K.reg ?_
    refine KO.mki rfl (by kernel_rfl) rfl ?_
    refine KO.as rfl rfl ?_
    refine KO.nil ?_
    repeat (first | (with_reducible refine KQ.next ?_) | (with_reducible refine KQ.then_ret ?_) | (with_reducible refine KQ.blk_ret ?_) | (with_reducible refine K.ret ?_))
    refine KQ.ret1 rfl rfl (fun w' hs => ⟨_, _, rfl, ⟨by simp only [qputE, hr, if_true]; rfl, rfl⟩, ?_⟩)
    rw [show qput q m u = q by simp [qput, qputE, hr]]
    exact (hs.pick (by with_reducible (repeat (first | exact Pick.head | apply Pick.tail)))).gc1 (by with_reducible repeat (first | exact LSub.refl | apply LSub.drop))
  · have hr : msRight m = true := by simpa using h
    have hp := msRight_parts hr
    repeat ((with_reducible refine K.seq ?_))
    refine K.reg ?_
    refine KO.mv rfl rfl ?_
    refine KO.fo0 (off := 0) rfl Tryz.runUnderlying44 rfl rfl Tryz.sizeOf3 rfl ?_
    refine KO.ld rfl rfl Tryz.isAgg3 (by with_reducible (repeat (exact Pick.head))) (by exact rfl) rfl ?_
    refine KO.ce (cp := []) rfl rfl rfl Tryz.call146 rfl (has_e w0 _ _ b q m.id (by with_reducible (repeat (first | exact Pick.head | apply Pick.tail))) (by omega)) ?_; rintro v L' ⟨rfl, rfl⟩
    refine KO.as rfl rfl ?_
    refine KO.nil ?_
    repeat ((with_reducible refine KQ.next ?_))
    refine K.cond rfl (fun h1 => ?_) (fun h1 => ?_)
    · repeat ((with_reducible refine K.seq ?_))
      refine K.reg ?_
      refine KO.mki rfl (by kernel_rfl) rfl ?_
      refine KO.as rfl rfl ?_
      refine KO.nil ?_
      repeat (first | (with_reducible refine KQ.next ?_) | (with_reducible refine KQ.then_ret ?_) | (with_reducible refine KQ.blk_ret ?_) | (with_reducible refine K.ret ?_))
      refine KQ.ret1 rfl rfl (fun w' hs => ⟨_, _, rfl, ⟨by simp only [qputE, hr, h1, if_true, Bool.true_eq_false, if_false]; rfl, rfl⟩, ?_⟩)
      rw [show qput q m u = q by simp [qput, qputE, hr, h1]]
      exact (hs.pick (by with_reducible (repeat (first | exact Pick.head | apply Pick.tail)))).gc1 (by with_reducible repeat (first | exact LSub.refl | apply LSub.drop))
    · refine K.pk (A := quP b q) (by with_reducible (repeat (first | exact Pick.head | apply Pick.tail))) ?_
      refine K.open' (fun _ h => quP_open h) fun v => ?_
      refine K.fact (fun _ h => SL_form h.drop) ?_
      rintro ⟨sa, cap, rfl, hsa⟩
      repeat ((with_reducible refine K.seq ?_))
      refine K.reg ?_
      refine KO.mv rfl rfl ?_
      refine KO.nc rfl rfl ?_
      refine KO.fo0 (off := 0) rfl Tryz.runUnderlying122 rfl rfl Tryz.sizeOf120 rfl ?_
      refine KO.ld rfl rfl Tryz.isAgg120 (by with_reducible (repeat (exact Pick.head))) (by exact rfl) rfl ?_
      refine KO.len rfl Tryz.underlying120 rfl ?_
      refine KO.geq rfl rfl rfl ?_
      refine KO.as rfl rfl ?_
      refine KO.nil ?_
      repeat ((with_reducible refine KQ.next ?_))
      refine K.condD rfl (fun h2 => ?_) (fun h2 => ?_)
      · have h3 : 20 ≤ q.l.length := by omega
        repeat ((with_reducible refine K.seq ?_))
        refine K.reg ?_
        refine KO.mki rfl (by kernel_rfl) rfl ?_
        refine KO.as rfl rfl ?_
        refine KO.nil ?_
        repeat (first | (with_reducible refine KQ.next ?_) | (with_reducible refine KQ.then_ret ?_) | (with_reducible refine KQ.blk_ret ?_) | (with_reducible refine K.ret ?_))
        refine KQ.ret1 rfl rfl (fun w' hs => ⟨_, _, rfl, ⟨by simp only [qputE, hr, h1, h3, if_true, Bool.true_eq_false, Bool.false_eq_true, if_false]; rfl, rfl⟩, ?_⟩)
        rw [show qput q m u = q by simp [qput, qputE, hr, h1, h3]]
        exact quP_mk ((hs.pick2 (by with_reducible (repeat (exact Pick.head))) (by with_reducible (repeat (exact Pick.head)))).gc2 (by with_reducible repeat (first | exact LSub.refl | apply LSub.drop)))
      · have h3 : ¬ 20 ≤ q.l.length := by omega
        refine K.conv (fun _ h => quP_mk h) ?_
        repeat (first | (with_reducible refine K.seq ?_) | (with_reducible refine KQ.next ?_) | (with_reducible refine KQ.blk_normal ?_) | (with_reducible refine K.skip ?_))
        refine K.reg ?_
        refine KO.mv rfl rfl ?_
        refine KO.ldB0 rfl rfl Tryz.isAgg44 Tryz.sizeOf44 (by with_reducible (repeat (first | exact Pick.head | apply Pick.tail))) (by exact rfl) rfl ?_
        refine KO.mv rfl rfl ?_
        refine KO.cl (cp := []) rfl rfl rfl Tryz.call147 rfl (KC.pk1 (by with_reducible (repeat (exact Pick.head))) (push_c w0 _ b q m u hq (by unfold small; omega))) ?_; rintro v L' ⟨rfl, rfl⟩
        refine KO.nil ?_
        repeat (first | (with_reducible refine K.seq ?_) | (with_reducible refine KQ.next ?_))
        refine K.reg ?_
        refine KO.as rfl rfl ?_
        refine KO.nil ?_
        repeat (first | (with_reducible refine KQ.next ?_) | (with_reducible refine K.ret ?_))
        refine KQ.ret1 rfl rfl (fun w' hs => ⟨_, _, rfl, ⟨by simp only [qputE, hr, h1, h3, Bool.true_eq_false, Bool.false_eq_true, if_false]; rfl, rfl⟩, ?_⟩)
        rw [show qput q m u = qpush q m u by simp [qput, qputE, hr, h1, h3]]
        exact hs.gc1 (by with_reducible repeat (first | exact LSub.refl | apply LSub.drop))
end Go.Proofs.YtjhogocabcdjbabGreatDoor
/- the steps of the calculus: structs compared, errors asked for, slices that came in -/
namespace WB
open Go Go.RowKit
deriving instance DecidableEq for Ms
section
variable {P : Program} {w : World} {d : Nat} {xs ys : Array Value} {f : Field} {fs : List Field} {r : Bool}
end
/-- these parts, in this order, and no others -/
inductive PAll : List HP → List HP → Prop
  | nil {L : List HP} : PAll L []
  | cons {L R M : List HP} {A : HP} (p : Pick L A R) (h : PAll R M) : PAll L (A :: M)
theorem PAll.drop {A : HP} {L M : List HP} (h : PAll L M) : PAll (A :: L) M := by
  induction h with
  | nil => exact .nil
  | cons p _ ih => exact .cons (.tail p) ih
theorem PAll.refl : ∀ {L : List HP}, PAll L L
  | [] => .nil
  | _ :: _ => .cons .head PAll.refl
theorem PAll.seps {L M : List HP} (h : PAll L M) : ∀ x, WB.seps L x → ∃ h1 h2, Disj h1 h2 ∧ x = uni h1 h2 ∧ WB.seps M h2 := by
  induction h with
  | nil => exact fun x _ => ⟨x, fun _ => none, fun _ => .inr rfl, by rw [uni_comm (fun _ => .inr rfl), uni_emp fun _ => rfl], fun _ => rfl⟩
  | cons p _ ih =>
    intro x hx
    obtain ⟨h1, h2, d, rfl, a, b⟩ := p.seps hx
    obtain ⟨g1, g2, d2, rfl, c⟩ := ih h2 b
    rw [disj_uni'] at d
    refine ⟨g1, uni h1 g2, disj_uni'.2 ⟨d.1.symm, d2⟩, ?_, h1, g2, d.2, rfl, a, c⟩
    rw [← uni_assoc, ← uni_assoc, uni_comm d.1]
theorem St.all {w0 w : World} {L M : List HP} (hw : St w0 L w) (h : PAll L M) : St w0 M w := by
  obtain ⟨x, hx, hs⟩ := hw.own
  obtain ⟨h1, h2, d, rfl, hm⟩ := h.seps x hs
  refine { hw with own := ⟨h2, fun k o hk => hx k o ?_, hm⟩ }
  rw [uni_comm d]
  unfold uni; rw [hk]; rfl
/-- what is left of a number by a small one -/
def pk (a n : Int) : Int := (a % 18446744073709551616) % n
theorem pk_lt (a : Int) {n : Int} (h1 : 1 ≤ n) : 0 ≤ pk a n ∧ pk a n < n := ⟨Int.emod_nonneg _ (by omega), Int.emod_lt_of_pos _ (by omega)⟩
section
variable {P : Program} {ops : Array Oper} {d : Bool} {Q : Exit → Act → World → Prop} {n : Nat} {D : List Deferred} {w0 : World} {G : Env} {L R : List HP} {l : List (Kd × Oper)} {k : Kd}
  {t : Nat} {op : Op} {ty T T' E EN : TypeId} {pos : String} {af : Array Edge} {x y z : Operand} {v u : Value} {b : Bool} {i off : Nat} {a c r : Int} {ad : Addr} {kk : IntKind}
theorem KO.eqN (hx : ev G x = some (errV EN c)) (hT : P.underlying T = some (.interface (P.methodsAt T))) (ht : Nat.blt t n = true) (h : KO P ops d Q n D w0 ((t, .bool (decide (c = 0))) :: G) L l) :
    KO P ops d Q n D w0 G L ((k, ⟨some t, .binOp .eql T x (.const .nilIface) T', ty, pos, af, none⟩) :: l) :=
  KO.val (fun a w ha => by
    simp only [execOp, ha.eval hx, show a.eval (.const .nilIface) = .nilIface from rfl]
    unfold errV
    by_cases h0 : c = 0
    · simp [h0, run_eql_nil_nil w T hT, eqGuard_nil_constR]
    · simp [h0, run_eql_held_nil w T _ _ hT, eqGuard_at_iface]) ht h
theorem KO.neN (hx : ev G x = some (errV EN c)) (hT : P.underlying T = some (.interface (P.methodsAt T))) (ht : Nat.blt t n = true) (h : KO P ops d Q n D w0 ((t, .bool (decide (c ≠ 0))) :: G) L l) :
    KO P ops d Q n D w0 G L ((k, ⟨some t, .binOp .neq T x (.const .nilIface) T', ty, pos, af, none⟩) :: l) :=
  KO.val (fun a w ha => by
    simp only [execOp, ha.eval hx, show a.eval (.const .nilIface) = .nilIface from rfl]
    unfold errV
    by_cases h0 : c = 0
    · simp [h0, run_neq_nil_nil w T hT, eqGuard_nil_constR]
    · simp [h0, run_neq_held_nil w T _ _ hT, eqGuard_at_iface]) ht h
/-- what holds between two pieces of code -/
def MidI {α : Type} (n : Nat) (D : List Deferred) (w0 : World) (E : α → Env) (H : α → List HP) (φ : α → Prop) (a : Act) (w : World) : Prop := ∃ y, φ y ∧ Knows n D (E y) a ∧ St w0 (H y) w
theorem K.mid {α : Type} {c1 c2 : Code} {L : List HP} (E : α → Env) (H : α → List HP) (φ : α → Prop) (h1 : K P c1 (Exit.then (MidI n D w0 E H φ) Q) n D w0 G L) (h2 : ∀ y, φ y → K P c2 Q n D w0 (E y) (H y)) : K P (.seq c1 c2) Q n D w0 G L := fun a w ha hw =>
  wp_seq (Go.wp_mono (h1 a w ha hw) fun e a w hq => by
    cases e with
    | normal => obtain ⟨y, hy, ha, hw⟩ := hq; exact h2 y hy a w ha hw
    | _ => exact hq)
theorem K.cut {α : Type} {c1 c2 : Code} {L : List HP} (E : α → Env) (H : α → List HP) (φ : α → Prop) (h1 : K P c1 (Exit.then (MidI n D w0 E H φ) Q) n D w0 G L) (h2 : ∀ y, φ y → K P c2 Q n D w0 (E y) (H y)) : K P c1 (Exit.then (c2.wp P Q) Q) n D w0 G L := fun a w ha hw =>
  Go.wp_mono (h1 a w ha hw) fun e a w hq => by
    cases e with
    | normal => obtain ⟨y, hy, ha, hw⟩ := hq; exact h2 y hy a w ha hw
    | _ => exact hq
theorem KQ.mid {α : Type} {E : α → Env} {H : α → List HP} {φ : α → Prop} (y : α) (hy : φ y) (hG : SubL G (E y)) (hL : ∀ w, St w0 L w → St w0 (H y) w) : KQ (Exit.then (MidI n D w0 E H φ) Q) .normal n D w0 G L := fun _ w ha hw => ⟨y, hy, ha.sub hG, hL w hw⟩
/-- a cell of a block, by its number -/
theorem KO.ldAt {b : Nat} {cs : List Value} {fz : Nat × Nat} (hk : (!d || k != .pure) = true) (hx : ev G x = some (.pointer (some ad))) (hT : ∀ w, (isAgg T).run P w = .ok false w) (hp : Pick L (blk b (.cells cs.toArray E fz)) R) (ha : ad = ⟨b, i, none⟩) (hc : cs[i]? = some v) (ht : Nat.blt t n = true)
    (h : KO P ops d Q n D w0 ((t, v) :: G) L l) : KO P ops d Q n D w0 G L ((k, ⟨some t, .load T x, ty, pos, af, none⟩) :: l) := KO.ld hk (ha ▸ hx) hT hp hc ht h
theorem putL_one (v : Value) : ∀ (i : Nat) (cs : List Value), i < cs.length → putL i [v] cs = cs.set i v
  | 0, c :: cs, _ => by simp [putL]
  | i + 1, c :: cs, h => by simp [putL, putL_one v i cs (by simpa using h)]
theorem KO.stAt {b : Nat} {cs : List Value} (hk : (!d || k == .write) = true) (hx : ev G x = some (.pointer (some ad))) (hy : ev G y = some v) (hv : v.cells = [v].toArray) (hn : ∀ w, (Go.sizeOf T).run P w = .ok 1 w) (h1 : v.oneCell' = true)
    (hp : Pick L (blk b (.cells cs.toArray E (0, 0))) R) (ha : ad = ⟨b, i, none⟩) (hi : i < cs.length) (h : KO P ops d Q n D w0 G (blk b (.cells (cs.set i v).toArray E (0, 0)) :: R) l) :
    KO P ops d Q n D w0 G L ((k, ⟨none, .store T x y, ty, pos, af, none⟩) :: l) :=
  KO.sto hk (ha ▸ hx) hy hv hn (by simp [h1]) hp (by simp [Nat.ble_eq]; omega) (putL_one v i cs hi) h
/-- the place of an element of a slice that lies anywhere -/
theorem KO.idxH {len cap sz : Nat} (hx : ev G x = some (.slice (some ad) len cap)) (hy : ev G y = some (.int kk a)) (hu : ∀ w, (underlying T).run P w = .ok (.slice E) w) (hs : ∀ w, (Go.sizeOf E).run P w = .ok sz w)
    (ha : a = (i : Int)) (hb : i < len) (ht : Nat.blt t n = true) (h : KO P ops d Q n D w0 ((t, .pointer (some (ad.add (i * sz)))) :: G) L l) : KO P ops d Q n D w0 G L ((k, ⟨some t, .indexAddr T x y, ty, pos, af, none⟩) :: l) :=
  KO.val (fun a' w ha' => by
    subst ha
    have : (0 : Int) ≤ (i : Int) ∧ (i : Int) < (len : Int) := ⟨by omega, by omega⟩
    simp [execOp, ha'.eval hx, ha'.eval hy, Instr.indexAt, hu w, asIntOf, hs w, this, hb]) ht h
theorem KO.fldH {fs : Array Field} {f sz off : Nat} {fd : Field} (hx : ev G x = some (.pointer (some ad))) (hu : ∀ w, (underlying T).run P w = .ok (.struct fs) w) (hf : fs[f]? = some fd) (ho : fd.offset = off) (hs : ∀ w, (Go.sizeOf fd.type).run P w = .ok (sz + 1) w) (ht : Nat.blt t n = true)
    (h : KO P ops d Q n D w0 ((t, .pointer (some (ad.add off))) :: G) L l) : KO P ops d Q n D w0 G L ((k, ⟨some t, .fieldAddr T x f, ty, pos, af, none⟩) :: l) :=
  KO.fld hx hu hf hs ht (by rw [ho]; exact h)
end
end WB
/- what the laws ask: pick, plain.Same, api.Tell; lined. -/
namespace Go.Proofs.YtjhogocabcdjbabGreatDoor
open Go Go.RowKit WB
theorem pick_e (w0 : World) (L : List HP) (a n : Int) (h1 : 1 ≤ n) (h2 : n ≤ 1000) : KE Tryz.prog 13 #[.int .i64 a, .int .i64 n] w0 L (fun u L' => u = .int .i64 (pk a n) ∧ L' = L) := KE.of_below fun w _ => by
  have hu : IntKind.u64.wrap a = a % 18446744073709551616 := rfl
  have h0 : 0 ≤ a % 18446744073709551616 := Int.emod_nonneg _ (by omega)
  have hp : (IntKind.u64.wrap a).tmod n = pk a n := by rw [hu, Int.tmod_eq_emod_of_nonneg h0]; rfl
  have hw : wrap64 ((IntKind.u64.wrap a).tmod n) = pk a n := by rw [hp]; have := pk_lt a h1; unfold wrap64; omega
  have HW := Lib.hid hw
  clear hw hp h0 hu
  go_enter Tryz.func13, Tryz.ntmps13
  go_wp2_with fail
  rw [HW.out]
  go_ret
  exact ⟨rfl, Below.refl _ _⟩
end Go.Proofs.YtjhogocabcdjbabGreatDoor
/- a region that draws its order, where some pairs of operations may come either way: each way is walked -/
namespace WB
open Go Go.RowKit
variable {P : Program} {ops : Array Oper} {Q : Exit → Act → World → Prop}
def via (anc : List (List Nat)) (x i : Nat) (q : Nat × Nat) : Bool := (q.1 == x || (anc.getD q.1 []).contains x) && (q.2 == i || (anc.getD i []).contains q.2)
/-- for each of these pairs, which comes first -/
def ways : List (Nat × Nat) → List (List (Nat × Nat))
  | [] => [[]]
  | q :: r => (ways r).map (q :: ·) ++ (ways r).map ((q.2, q.1) :: ·)
def okRE (ops : Array Oper) (ks : List Kd) (E : List (Nat × Nat)) (ord : List Nat) : Bool :=
  let anc := mkAnc ops.toList []
  onlyBack ops && (ancOk ops anc && ((List.range ops.size).all (fun i => ord.contains i) && (ord.all (fun i => Nat.blt i ops.size) &&
    pairsOk (fun x i => !(x == i) && ((anc.getD i []).contains x || (lightFree ops ks x i || E.any (via anc x i)))) ord)))
/-- no schedule goes so -/
def badE (ops : Array Oper) (E : List (Nat × Nat)) : Bool :=
  let anc := mkAnc ops.toList []
  ancOk ops anc && E.any fun q => E.any (via anc q.2 q.1)
def okX (ops : Array Oper) (ks : List Kd) : List (List (Nat × Nat)) → List (List Nat) → Bool
  | [], [] => true
  | E :: r, O => if badE ops E then okX ops ks r O else match O with | o :: s => okRE ops ks E o && okX ops ks r s | [] => false
  | _, _ => false
@[reducible] def allD (f : List Nat → Prop) : List (List Nat) → Prop
  | [] => True
  | o :: r => f o ∧ allD f r
end WB
/- the steps of the calculus: empty slices, slices appended to slices -/
namespace WB
open Go Go.RowKit
/-- a slice, wherever it lies, that reads so -/
def Src {α : Type} (w : World) (cf : α → List Value) (v : Value) (xs : List α) : Prop :=
  ∃ a cap, v = .slice a xs.length cap ∧ (a = none → xs = []) ∧ ∀ ad, a = some ad → HasCells w ad (xs.flatMap cf)
section
variable {w0 w : World} {L R : List HP} {E : TypeId} {α : Type} {cf : α → List Value} {sz : Nat} {xs ys : List α} {v : Value}
theorem flatC_len (hsz : ∀ e, (cf e).length = sz) : ∀ xs : List α, (xs.flatMap cf).length = xs.length * sz
  | [] => by simp
  | a :: l => by simp [flatC_len hsz l, hsz, Nat.succ_mul]; omega
theorem HasCells.take {ad : Addr} {cs ds : List Value} (h : HasCells w ad (cs ++ ds)) : HasCells w ad cs := fun j c hj => h j c (by rw [List.getElem?_append_left (List.getElem?_eq_some_iff.1 hj).1]; exact hj)
theorem Src.of (hp : Pick L (SL E sz cf v xs) R) (w : World) (hw : St w0 L w) : Src w cf v xs := by
  rcases (hw.pick hp).osl_cases with ⟨h1, h2, h3, _⟩ | ⟨g, cap, cur, h1, h2, h3, h4, h5, h6, h7⟩
  · have : xs = [] := List.eq_nil_of_length_eq_zero h2
    exact ⟨none, 0, by rw [h1, this]; rfl, fun _ => this, fun ad h => (by cases h)⟩
  · refine ⟨some ⟨g, 0, none⟩, cap, h1, (fun h => by cases h), fun ad h => ?_⟩
    cases h
    have hl := h7.look.2
    intro j c hj
    rw [Addr.add_lit, World.cell?, hl]
    rw [← h5, List.getElem?_take] at hj
    split at hj
    · simpa using hj
    · simp at hj
theorem Src.take {a : Option Addr} {len cap : Nat} (h : Src w cf (.slice a len cap) xs) (k : Nat) (hk : k ≤ xs.length) : Src w cf (.slice a k cap) (xs.take k) := by
  obtain ⟨b, c, e, h1, h2⟩ := h
  simp only [Value.slice.injEq] at e
  obtain ⟨rfl, rfl, rfl⟩ := e
  refine ⟨a, cap, by rw [List.length_take, Nat.min_eq_left hk], fun e => by rw [h1 e]; simp, fun ad e => ?_⟩
  have := h2 ad e
  rw [← List.take_append_drop k xs, List.flatMap_append] at this
  exact this.take
theorem Src.cut (hsz : ∀ e, (cf e).length = sz) {g len cap : Nat} (h : Src w cf (.slice (some ⟨g, 0, none⟩) len cap) xs) (k : Nat) (hk : k ≤ xs.length) (hc : xs.length ≤ cap) : Src w cf (.slice (some (cutAt g k sz cap)) (xs.length - k) (cap - k)) (xs.drop k) := by
  obtain ⟨b, c, e, h1, h2⟩ := h
  simp only [Value.slice.injEq] at e
  obtain ⟨rfl, rfl, rfl⟩ := e
  refine ⟨_, _, by rw [List.length_drop], (fun e => by cases e), fun ad e => ?_⟩
  cases e
  unfold cutAt
  by_cases hck : cap = k
  · have : xs.drop k = [] := List.drop_eq_nil_of_le (by omega)
    rw [this]; exact fun j c hj => by simp at hj
  · rw [if_neg hck]
    have := h2 _ rfl
    rw [← List.take_append_drop k xs, List.flatMap_append] at this
    intro j c hj
    have h3 := this (k * sz + j) c (by
      rw [List.getElem?_append_right (by rw [flatC_len hsz, List.length_take]; have := Nat.mul_le_mul_right sz (Nat.min_le_left k xs.length); omega)]
      rw [flatC_len hsz, List.length_take, Nat.min_eq_left hk]
      simpa using hj)
    rw [Addr.add_lit] at h3 ⊢
    simpa using h3
theorem Src.ext {w' : World} (h : Src w cf v xs) (e : Ext w w') : Src w' cf v xs := by
  obtain ⟨a, cap, h1, h2, h3⟩ := h
  exact ⟨a, cap, h1, h2, fun ad ha => (h3 ad ha).ext e⟩
end
section
variable {P : Program} {ops : Array Oper} {d : Bool} {Q : Exit → Act → World → Prop} {n : Nat} {D : List Deferred} {w0 : World} {G : Env} {L R R' N : List HP} {l : List (Kd × Oper)} {k : Kd}
  {t : Nat} {op : Op} {ty T T' E E' : TypeId} {pos : String} {af : Array Edge} {x y : Operand} {v u z : Value} {i j : Nat} {a c r : Int} {ad : Addr} {α : Type} {cf : α → List Value} {sz by' : Nat} {xs ys : List α} {e e' : α}
theorem run_buildSlice0 (w : World) (t e : TypeId) (sz : Nat) (hu : P.underlying t = some (.slice e)) (hs : (Go.sizeOf e).run P w = .ok sz w) :
    (Instr.buildSlice t 0 #[]).run P w = .ok (.slice (some ⟨w.heap.size, 0, none⟩) 0 0) (w.alloc (.cells #[] e)) := by
  simp [Instr.buildSlice, run_underlying hu, hs, Instr.fill, newRow]
  rw [show Array.range 0 = #[] from rfl, Array.map_empty]
/-- []T{} -/
theorem KO.bs0 (cf : α → List Value) (hk : (!d || (k == .keep || k == .write)) = true) (hT : P.underlying T = some (.slice E)) (hs : ∀ w, (Go.sizeOf E).run P w = .ok sz w) (ht : Nat.blt t n = true)
    (h : ∀ bb, KO P ops d Q n D w0 ((t, .slice (some ⟨bb, 0, none⟩) 0 0) :: G) (SL E sz cf (.slice (some ⟨bb, 0, none⟩) 0 0) [] :: L) l) : KO P ops d Q n D w0 G L ((k, ⟨some t, .buildSlice T 0 #[], ty, pos, af, none⟩) :: l) := by
  refine KO.keepRun hk (F := fun bb => .slice (some ⟨bb, 0, none⟩) 0 0) (N := fun bb => SL E sz cf (.slice (some ⟨bb, 0, none⟩) 0 0) [] :: L) (fun a w ha hw => ⟨w.heap.size, w.alloc (.cells #[] E), ?_, Ext.alloc w _, ?_⟩) ht h
  · have hr := run_buildSlice0 (P := P) w T E sz hT (hs w)
    simp [execOp, hr]
  · exact (hw.alloc (.cells #[] E)).osl_mk (n := 0) (cap := 0) (Nat.le_refl _) (by unfold maxLen; omega) (by simp) (by simp)
theorem run_append_none (w : World) (t ty e : TypeId) (b : Option Addr) (m cap c s : Nat) (hu : P.underlying t = some (.slice e)) (hs : (Go.sizeOf e).run P w = .ok s w) (h : m ≤ cap) :
    (Builtin.append_ #[t, t] ty #[.slice b m cap, .slice none 0 c]).run P w = .ok (.slice b m cap) w := by
  cases b <;> simp [Builtin.append_, run_underlying hu, hs, Builtin.lenOf, Builtin.firstCells, h, storeCells]
/-- append(x, y...) -/
theorem KO.appS (hk : (!d || k == .write) = true) (hx : ev G x = some v) (hy : ev G y = some u) (hp : Pick L (SL E sz cf v xs) R) (hs : ∀ w, St w0 L w → Src w cf u ys)
    (hT : P.underlying T = some (.slice E)) (hi : (P.info? E).map (fun i => (i.zero, i.size, i.bytes)) = some (some z, sz, by')) (hzs : z.cells.size = sz) (hsz : ∀ e, (cf e).length = sz) (h1 : ∀ e, (cf e).all Value.oneCell' = true) (hb : xs.length + ys.length < 1000000000) (hby : by' ≤ 10000) (ht : Nat.blt t n = true)
    (h : ∀ v', KO P ops d Q n D w0 ((t, v') :: G) (SL E sz cf v' (xs ++ ys) :: R) l) : KO P ops d Q n D w0 G L ((k, ⟨some t, .call ⟨.builtin .append, #[x, y], #[T, T]⟩, ty, pos, af, none⟩) :: l) := by
  obtain ⟨i0, hi1, hz0, hz1, hz2⟩ := info_parts hi
  refine KO.wvE hk (F := fun v' => SL E sz cf v' (xs ++ ys) :: R) (fun a w ha hw => ?_) ht h
  have hw2 := hw.pick hp
  obtain ⟨sa, cap, rfl, hn, hc⟩ := hs w hw
  cases sa with
  | none =>
    obtain rfl := hn rfl
    obtain ⟨b, c2, rfl, hb2⟩ : ∃ b c2, v = .slice b xs.length c2 ∧ xs.length ≤ c2 := by
      rcases hw2.osl_cases with ⟨h1, h2, _⟩ | ⟨g, cap, cur, h1, h2, _⟩
      · exact ⟨none, 0, by rw [h1, h2], by omega⟩
      · exact ⟨_, cap, h1, h2⟩
    refine ⟨.slice b xs.length c2, w, exec_append2 x y T T rfl _ _ (ha.eval hx) (ha.eval hy) (run_append_none (P := P) w T ty E b _ c2 cap sz hT (by simp [Go.sizeOf, typeInfo, hi1, hz1]) hb2), ?_⟩
    rw [List.append_nil]; exact hw2
  | some ad =>
    have hcells := hc ad rfl
    have hbb : (xs.length + ys.length) * by' ≤ 140737488355328 := by
      have := Nat.mul_le_mul (show xs.length + ys.length ≤ 1000000000 by omega) hby; omega
    obtain ⟨v', w', hr, hst⟩ := append_st (P := P) T ty E i0 z sz by' hT hi1 hz0 hz1 hz2 hzs hw2 ad ys.length cap (ys.flatMap cf) (flatC_len hsz ys) hcells (flat_one (fun e u hu => List.all_eq_true.1 (h1 e) u hu) ys) (by unfold maxLen; omega) hbb
    refine ⟨v', w', exec_append2 x y T T rfl v _ (ha.eval hx) (ha.eval hy) hr, ?_⟩
    show St w0 (osl E sz v' (xs ++ ys).length ((xs ++ ys).flatMap cf) :: R) w'
    rw [List.length_append, List.flatMap_append]
    exact hst
theorem LSub.nil : ∀ (M : List HP), LSub [] M
  | [] => .refl
  | _ :: M => .drop (LSub.nil M)
/-- a byte of a string -/
theorem KO.idxStr {s : ByteArray} {b : UInt8} (hx : ev G x = some (.string s)) (hy : ev G y = some (.int .i64 a)) (hT : P.underlying T = some .string) (ha : a = (i : Int)) (hc : s[i]? = some b) (ht : Nat.blt t n = true)
    (h : KO P ops d Q n D w0 ((t, .int .u8 (b.toNat : Nat)) :: G) L l) : KO P ops d Q n D w0 G L ((k, ⟨some t, .index T x y, ty, pos, af, none⟩) :: l) :=
  KO.val (fun a' w ha' => by
    subst ha
    simp [execOp, ha'.eval hx, ha'.eval hy, Instr.index, asIntOf, run_underlying hT, hc]) ht h
def noIface (u : Option TypeDesc) : Bool := match u with | some (.interface _) => false | none => false | some _ => true
theorem KO.neIf {T0 : TypeId} (hx : ev G x = some (.iface T0 v)) (hT : P.underlying T = some (.interface (P.methodsAt T))) (ht : Nat.blt t n = true) (h : KO P ops d Q n D w0 ((t, .bool true) :: G) L l) :
    KO P ops d Q n D w0 G L ((k, ⟨some t, .binOp .neq T x (.const .nilIface) T', ty, pos, af, none⟩) :: l) :=
  KO.val (fun a w ha => by
    simp only [execOp, ha.eval hx, show a.eval (.const .nilIface) = .nilIface from rfl]
    simp [run_neq_held_nil w T _ _ hT, eqGuard_at_iface]) ht h
theorem KO.eqIf {T0 : TypeId} (hx : ev G x = some (.iface T0 v)) (hT : P.underlying T = some (.interface (P.methodsAt T))) (ht : Nat.blt t n = true) (h : KO P ops d Q n D w0 ((t, .bool false) :: G) L l) :
    KO P ops d Q n D w0 G L ((k, ⟨some t, .binOp .eql T x (.const .nilIface) T', ty, pos, af, none⟩) :: l) :=
  KO.val (fun a w ha => by
    simp only [execOp, ha.eval hx, show a.eval (.const .nilIface) = .nilIface from rfl]
    simp [run_eql_held_nil w T _ _ hT, eqGuard_at_iface]) ht h
theorem KO.neI0 (hx : ev G x = some .nilIface) (hT : P.underlying T = some (.interface (P.methodsAt T))) (ht : Nat.blt t n = true) (h : KO P ops d Q n D w0 ((t, .bool false) :: G) L l) :
    KO P ops d Q n D w0 G L ((k, ⟨some t, .binOp .neq T x (.const .nilIface) T', ty, pos, af, none⟩) :: l) :=
  KO.val (fun a w ha => by
    simp only [execOp, ha.eval hx, show a.eval (.const .nilIface) = .nilIface from rfl]
    simp [run_neq_nil_nil w T hT, eqGuard_nil_constR]) ht h
theorem KO.eqI0 (hx : ev G x = some .nilIface) (hT : P.underlying T = some (.interface (P.methodsAt T))) (ht : Nat.blt t n = true) (h : KO P ops d Q n D w0 ((t, .bool true) :: G) L l) :
    KO P ops d Q n D w0 G L ((k, ⟨some t, .binOp .eql T x (.const .nilIface) T', ty, pos, af, none⟩) :: l) :=
  KO.val (fun a w ha => by
    simp only [execOp, ha.eval hx, show a.eval (.const .nilIface) = .nilIface from rfl]
    simp [run_eql_nil_nil w T hT, eqGuard_nil_constR]) ht h
end
end WB
namespace WB
open Go Go.RowKit
section
variable {P : Program} {fn : Func} {R : Ending → World → Prop} {n : Nat} {w0 : World} {G : Env} {L M : List HP} {v v1 v2 v3 : Value} {t t1 t2 t3 : Nat} {T E : TypeId} {b : Nat} {cs : List Value} {fz : Nat × Nat}
end
end WB
namespace WB
open Go Go.RowKit
theorem KE.turn {P : Program} {f : FuncId} {args : Array Value} {w0 : World} {L : List HP} {R R' : Value → List HP → Prop} (h : KE P f args w0 L R) (hr : ∀ v M, R v M → ∃ M', R' v M' ∧ ∀ w, St w0 M w → St w0 M' w) : KE P f args w0 L R' := fun w hw =>
  (h w hw).mono fun _ _ ⟨v, M, e, r, s, b⟩ => let ⟨M', r', c⟩ := hr v M r; ⟨v, M', e, r', c _ s, b⟩
end WB
/- the document's words: what may be; errors held beside it. -/
namespace Go.Proofs.YtjhogocabcdjbabGreatDoor
open Go Go.RowKit WB
end Go.Proofs.YtjhogocabcdjbabGreatDoor
/- plain.Place, waybilllaw.is at an At. -/
namespace Go.Proofs.YtjhogocabcdjbabGreatDoor
open Go Go.RowKit WB
abbrev atB (b : Nat) (k p : Int) : HP := blk b (.cells [Value.int .i64 k, .int .i64 p].toArray 248 (0, 0))
def atV (b : Nat) : Value := .iface 247 (.pointer (some ⟨b, 0, none⟩))
end Go.Proofs.YtjhogocabcdjbabGreatDoor
/- messages' text: plain -/
namespace WB
open Go
def itoaS (n : Int) : ByteArray := ⟨(Lib.itoa n).toArray⟩
def joinS (xs : List ByteArray) (sep : ByteArray) : ByteArray := ⟨(Lib.join (xs.map (·.data.toList)) sep.data.toList).toArray⟩
def intB (n : Int) : Prop := -9223372036854775808 ≤ n ∧ n ≤ 9223372036854775807
def sp : ByteArray := ⟨#[32]⟩
def msgS (m : Ms) : ByteArray := itoaS m.id ++ sp ++ itoaS m.pri ++ sp ++ m.body ++ sp ++ m.queue ++ sp ++ itoaS m.house
def plus : ByteArray := ⟨#[43]⟩
def writeS (xs : List Ms) : ByteArray := joinS (xs.map msgS) plus
theorem ba_size (s : ByteArray) : s.size = s.data.toList.length := rfl
theorem itoaS_size {n : Int} (h : intB n) : (itoaS n).size ≤ 21 := by
  have := Lib.itoa_length_le n h.1 h.2
  simpa [itoaS, ByteArray.size] using this
theorem join_cons2 (x y : List UInt8) (r : List (List UInt8)) (sep : List UInt8) : Lib.join (x :: y :: r) sep = x ++ sep ++ Lib.join (y :: r) sep := by
  simp [Lib.join_cons, Lib.joinTail]
theorem join_snoc (l : List (List UInt8)) (x sep : List UInt8) (h : l ≠ []) : Lib.join (l ++ [x]) sep = Lib.join l sep ++ sep ++ x := by
  cases l with
  | nil => exact absurd rfl h
  | cons a r => rw [List.cons_append, Lib.join_cons, Lib.join_cons]; simp [Lib.joinTail]
theorem joinS_snoc (l : List ByteArray) (x sep : ByteArray) (h : l ≠ []) : joinS (l ++ [x]) sep = joinS l sep ++ sep ++ x := by
  unfold joinS
  rw [List.map_append, List.map_cons, List.map_nil, join_snoc _ _ _ (by simpa using h)]
  apply ByteArray.ext
  apply Array.ext'
  simp
theorem joinS_one (x sep : ByteArray) : joinS [x] sep = x := by
  unfold joinS
  rw [List.map_cons, List.map_nil, Lib.join_one]
theorem joinS_nil (sep : ByteArray) : joinS [] sep = ⟨#[]⟩ := rfl
theorem joinS_two (x y sep : ByteArray) : joinS [x, y] sep = x ++ sep ++ y := by
  have := joinS_snoc [x] y sep (by simp)
  rw [joinS_one] at this; exact this
theorem joinS_cons2 (x y : ByteArray) (r : List ByteArray) (sep : ByteArray) : joinS (x :: y :: r) sep = x ++ sep ++ joinS (y :: r) sep := by
  unfold joinS
  rw [List.map_cons, List.map_cons, join_cons2]
  apply ByteArray.ext
  apply Array.ext'
  simp
theorem joinS_size (sep : ByteArray) (c : Nat) : ∀ (l : List ByteArray), (∀ x ∈ l, x.size ≤ c) → (joinS l sep).size ≤ l.length * (c + sep.size)
  | [], _ => by rw [joinS_nil]; exact Nat.zero_le _
  | [x], h => by
    have := h x (by simp)
    rw [joinS_one]; simp; omega
  | x :: y :: r, h => by
    have h1 := joinS_size sep c (y :: r) fun z hz => h z (List.mem_cons_of_mem _ hz)
    have h2 := h x (by simp)
    rw [joinS_cons2, ByteArray.size_append, ByteArray.size_append, List.length_cons, Nat.succ_mul]; omega
theorem join_len (l : List ByteArray) (sep : ByteArray) : (Lib.join (l.map (·.data.toList)) sep.data.toList).length = (joinS l sep).size := by simp [joinS, ByteArray.size]
theorem cat_assoc (a b c : ByteArray) : a ++ b ++ c = a ++ (b ++ c) := ByteArray.append_assoc
theorem msgS_size {m : Ms} (h : msRight m = true) : (msgS m).size ≤ 100 := by
  obtain ⟨h1, h2, h3, h4, h5, h6, h7, h8⟩ := msRight_parts h
  have a1 := itoaS_size (n := m.id) ⟨by omega, by omega⟩
  have a2 := itoaS_size (n := m.pri) ⟨by omega, by omega⟩
  have a3 := itoaS_size (n := m.house) ⟨by omega, by omega⟩
  have a4 : m.body.size ≤ 12 := by unfold bodyB lettersB at h5; simp at h5; omega
  have a5 : m.queue.size ≤ 8 := by unfold wordB lettersB at h6; simp at h6; omega
  have a6 : sp.size = 1 := rfl
  unfold msgS
  simp only [ByteArray.size_append, a6]
  omega
theorem writeS_size {l : List Ms} (h : ∀ m ∈ l, msRight m = true) : (writeS l).size ≤ l.length * 101 := by
  unfold writeS
  have := joinS_size plus 100 (l.map msgS) (fun x hx => by obtain ⟨m, hm, rfl⟩ := List.mem_map.1 hx; exact msgS_size (h m hm))
  rw [List.length_map] at this
  exact this
/-- the first that may not be -/
def badI (xs : List Ms) : Option Nat := xs.findIdx? fun m => !msRight m
def writeE (xs : List Ms) : Int := match badI xs with | none => 0 | some _ => 1
def writeP (xs : List Ms) : Int := match badI xs with | none => -1 | some k => (k : Int)
def writeT (xs : List Ms) : ByteArray := match badI xs with | none => writeS xs | some _ => ⟨#[]⟩
theorem badI_none {xs : List Ms} (h : ∀ (j : Nat) m, xs[j]? = some m → msRight m = true) : badI xs = none := by
  unfold badI
  rw [List.findIdx?_eq_none_iff]
  intro m hm
  obtain ⟨j, hj, rfl⟩ := List.getElem_of_mem hm
  simp [h j _ (List.getElem?_eq_getElem hj)]
theorem badI_all {xs : List Ms} (h : badI xs = none) : ∀ m ∈ xs, msRight m = true := by
  unfold badI at h
  intro m hm
  simpa using List.findIdx?_eq_none_iff.1 h m hm
end WB
/- what a law's row wants beside its walk: arguments opened, read again, a witness -/
namespace WB
open Go Go.RowKit Go.ChangeShapes Go.WideShapes Go.Deep
section
variable {H : Type} {enc : TypeId × Value → H}
theorem witness_row_sh {C : Checked} {os : Os} {f : FuncId} {fn : Func} {s : OpenSpec} {conds : List PathCond} {apart : Bool} {laid : List (String × DataW Unit)} (modest : Bool) (w0 : World) (args : Array Value) (hos : w0.os = os)
    (hsh : (w0.forCall (fun _ _ => 0) ⟨#[], args, []⟩).Shaped C.prog)
    (hok : Input.okWideB C.prog (w0.forCall (fun _ _ => 0) ⟨#[], args, []⟩) f ⟨#[], args, []⟩ = true)
    (hrow : s.preRow enc C.prog fn conds apart laid (w0.forCall (fun _ _ => 0) ⟨#[], args, []⟩).memory args) :
    ∃ (w : World) (tape : Tape) (i : Input), w.os = os ∧ (w.forCall tape i).Shaped C.prog ∧ i.vars = [] ∧ Input.okWide C.prog (w.forCall tape i) .any w.heap.size f i ∧
      s.preRow enc C.prog fn conds apart laid (w.forCall tape i).memory i.args ∧ ({ modest := modest } : Assume).holds C.prog (lone (Frame.enter C.prog f i.args .normal) [] (w.forCall tape i)) :=
  ⟨w0, fun _ _ => 0, ⟨#[], args, []⟩, hos, hsh, (Input.okWide_of_okWideB (base := 0) hok).1, (Input.okWide_of_okWideB hok).2, hrow, by
    simp only [Assume.holds]
    exact ⟨by simp, by simp, fun _ => Modest.zero, by simp, by simp⟩⟩
variable {P : Program}
/-- the arguments read again as they did -/
theorem law_args (hl : laidOutB P = true) {W W' : World} (hb : Below W.heap.size W W') : ∀ {ts : List TypeId} {vs : List Value} {ds : List (DataW H)} {ps : List MemPlace}, (ts.all fun t => P.readableRec t && decide (t < P.types.size)) = true →
    DataW.TrodAll enc P W 0 (fun _ => true) true ts vs ds ps → (∀ x ∈ ps, x.block < W.heap.size) → DataW.TrodAll enc P W' 0 (fun b => decide (b < W.heap.size)) true ts vs ds ps
  | [], [], [], _, _, h, _ => h
  | t :: ts, v :: vs, d :: ds, ps, hr, ⟨p, q, h1, h2, e⟩, hlt => by
    simp only [List.all_cons, Bool.and_eq_true, decide_eq_true_eq] at hr
    exact ⟨p, q, Below.trod hl hr.1.1 hr.1.2 h1 hb (fun x hx => hlt x (by rw [e]; exact List.mem_append_left _ hx)), law_args hl hb (by simpa using hr.2) h2 (fun x hx => hlt x (by rw [e]; exact List.mem_append_right _ hx)), e⟩
theorem list_of_each {α : Type} {p : Nat → α → Prop} : ∀ (n : Nat), (∀ i, i < n → ∃ x, p i x) → ∃ l : List α, l.length = n ∧ ∀ (i : Nat) (x : α), l[i]? = some x → p i x
  | 0, _ => ⟨[], rfl, fun i x h => by simp at h⟩
  | n + 1, h => by
    obtain ⟨l, hl, hp⟩ := list_of_each n fun i hi => h i (by omega)
    obtain ⟨x, hx⟩ := h n (by omega)
    refine ⟨l ++ [x], by simp [hl], fun i y hy => ?_⟩
    by_cases hi : i < l.length
    · rw [List.getElem?_append_left hi] at hy; exact hp i y hy
    · rw [List.getElem?_append_right (by omega)] at hy
      have : i - l.length = 0 := by
        rcases Nat.eq_zero_or_pos (i - l.length) with h0 | h0
        · exact h0
        · rw [List.getElem?_eq_none (by simp; omega)] at hy; simp at hy
      rw [this] at hy
      simp only [List.getElem?_cons_zero, Option.some.injEq] at hy
      rw [← hy, show i = n by omega]; exact hx
/-- a slice that came in -/
def RdA {α : Type} (W : World) (sz : Nat) (cf : α → List Value) (v : Value) (xs : List α) : Prop :=
  ∃ a cap, v = .slice a xs.length cap ∧ ∀ (i : Nat) (x : α), xs[i]? = some x → ∃ ad, a = some ad ∧ HasCells W (ad.add (i * sz)) (cf x)
theorem open_sl {α : Type} {φ : α → Prop} {cf : α → List Value} {W : World} {t e : TypeId} {v : Value} {d : DataW H} {p : List MemPlace} {r : Reach} {base sz : Nat} (ht : P.underlying t = some (.slice e)) (hv : Value.okWide P W r base t v)
    (h : DataW.Trod enc P W 0 (fun _ => true) true t v d p) (hsz : P.cellsOf e = sz) (rd : ∀ n cs y, DataW.trod enc P W 0 (fun _ => true) true n e cs = some y → ∃ x : α, φ x ∧ cs = cf x) :
    ∃ xs : List α, RdA W sz cf v xs ∧ ∀ x ∈ xs, φ x := by
  obtain ⟨a, len, cap, rfl⟩ := okWide_slice ht hv
  obtain ⟨fuel, hf⟩ := h
  rcases open_slice ht hf with ⟨hcs, _⟩ | ⟨a', len', cap', m, n, D, Pl, hcs, _, hl, _, hm, _, hi⟩
  · simp [Value.cells] at hcs
    obtain ⟨rfl, rfl, rfl⟩ := hcs
    exact ⟨[], ⟨none, 0, rfl, fun i x h => by simp at h⟩, fun x hx => by simp at hx⟩
  · simp [Value.cells] at hcs
    obtain ⟨rfl, rfl, rfl⟩ := hcs
    have key : ∀ i, i < len → ∃ x : α, φ x ∧ HasCells W (a'.add (i * sz)) (cf x) := fun i hlt => by
      obtain ⟨cs', hc, htr⟩ := hi i (by rw [hm]; simp; omega)
      obtain ⟨x, hx, rfl⟩ := rd n cs' _ htr
      obtain ⟨_, hlen, hcell⟩ := World.cells?_some hc
      refine ⟨x, hx, fun j c hj => ?_⟩
      have hlt2 := (List.getElem?_eq_some_iff.1 hj).1
      rw [← hsz]
      rw [hcell j (by omega)]; exact hj
    obtain ⟨l, hll, hp⟩ := list_of_each len key
    refine ⟨l, ⟨some a', cap, by rw [hll], fun i x hx => ⟨a', rfl, (hp i x hx).2⟩⟩, fun x hx => ?_⟩
    obtain ⟨i, hi, rfl⟩ := List.getElem_of_mem hx
    exact (hp i _ (List.getElem?_eq_getElem hi)).1
end
end WB
namespace WB
open Go Go.RowKit Go.ChangeShapes Go.WideShapes Go.Deep
section
variable {H : Type} {enc : TypeId × Value → H} {P : Program} {W : World} {base : Nat} {spare : Nat → Bool} {held : Bool}
theorem trod_len {t : TypeId} {fs : Array Field} {n : Nat} {cs : List Value} {y : DataW H × List MemPlace} (hu : P.underlying t = some (.struct fs)) (h : DataW.trod enc P W base spare held n t cs = some y) {k : Nat} (hk : P.cellsOf t = k) : cs.length = k := by
  obtain ⟨_, _, _, _, hl, _⟩ := DataW.trod_struct hu h
  rw [hl, hk]
theorem trod_field {t : TypeId} {fs : Array Field} {n : Nat} {cs : List Value} {y : DataW H × List MemPlace} (hu : P.underlying t = some (.struct fs)) (h : DataW.trod enc P W base spare held n t cs = some y) (i off : Nat) (ty : TypeId) (sz : Nat)
    (hf : (fs[i]?).map (fun f => (f.offset, f.type)) = some (off, ty)) (hc : P.cellsOf ty = sz) : ∃ m y', DataW.trod enc P W base spare held m ty ((cs.drop off).take sz) = some y' := by
  obtain ⟨xs, m, _, _, _, hx, hall⟩ := DataW.trod_struct hu h
  cases hfi : fs[i]? with
  | none => rw [hfi] at hf; simp at hf
  | some f =>
    rw [hfi] at hf
    simp only [Option.map_some, Option.some.injEq, Prod.mk.injEq] at hf
    obtain ⟨rfl, rfl⟩ := hf
    have h1 := hall i f hfi
    have hlt : i < xs.length := by rw [hx]; exact (Array.getElem?_eq_some_iff.1 hfi).1
    rw [List.getElem?_eq_getElem hlt, hc] at h1
    exact ⟨m, _, h1⟩
theorem trod_i {t : TypeId} {fs : Array Field} {n : Nat} {cs : List Value} {y : DataW H × List MemPlace} (hu : P.underlying t = some (.struct fs)) (h : DataW.trod enc P W base spare held n t cs = some y) (i off : Nat) (ty : TypeId) {k : IntKind}
    (hf : (fs[i]?).map (fun f => (f.offset, f.type)) = some (off, ty)) (hc : P.cellsOf ty = 1) (hty : P.underlying ty = some (.int k)) : ∃ z : Int, cs[off]? = some (.int k z) ∧ (Lit.int k z).wf = true := by
  obtain ⟨m, y', h1⟩ := trod_field hu h i off ty 1 hf hc
  obtain ⟨z, e, _, hz⟩ := DataW.trod_int hty h1
  refine ⟨z, ?_, hz⟩
  have := congrArg (fun l => l[0]?) e
  simpa using this
end
end WB
namespace WB
open Go Go.RowKit
theorem laidVars_mem {P : Program} {W : World} : ∀ {l : List (String × DataW Unit)} {ps : List MemPlace}, DataW.LaidVars P W l ps → ∀ x ∈ l, ∃ g t cs fuel p, P.globalNamed x.1 = some g ∧ (P.globals[g]?).map (·.type) = some t ∧ W.var? P x.1 = some cs ∧ DataW.trod (fun _ => ()) P W 0 (fun _ => true) false fuel t cs.toList = some (x.2, p)
  | [], _, _, x, hx => by cases hx
  | (n, d) :: r, ps, h, x, hx => by
    obtain ⟨g, t, cs, fuel, p, q, h1, h2, h3, h4, h5, _⟩ := h
    rcases List.mem_cons.1 hx with rfl | hx
    · exact ⟨g, t, cs, fuel, p, h1, h2, h3, h4⟩
    · exact laidVars_mem h5 x hx
theorem tab_of_laid {P : Program} {W : World} {name : String} {k : IntKind} {zs : List Int} {l : List (String × DataW Unit)} {g : Nat} {t e : TypeId} {n : Nat}
    (h : laidMet P l W) (hm : (name, Lib.tabData k zs) ∈ l) (hg : P.globalNamed name = some g) (hty : (P.globals[g]?).map (·.type) = some t) (ht : P.underlying t = some (.array n e)) (he : P.underlying e = some (.int k)) (hce : P.cellsOf e = 1) (hct : P.cellsOf t = n) : Lib.TabIs P W name k zs := by
  obtain ⟨ps, hv, _⟩ := h
  obtain ⟨g', t', cs, fuel, p, h1, h2, h3, h4⟩ := laidVars_mem hv _ hm
  obtain rfl := Option.some.inj (hg.symm.trans h1)
  obtain rfl := Option.some.inj (hty.symm.trans h2)
  unfold Lib.TabIs
  rw [h3, ← Lib.cells_of_tab ht he hce hct h4]
end WB
namespace WB
open Go Go.RowKit Go.ChangeShapes Go.WideShapes Go.Deep
end WB
