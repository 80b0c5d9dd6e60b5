/- the steps of the calculus: what grows, what is moved, elements written -/
import Derived.Test.YtjhogocabcdjbaaDoorWbKf
import Derived.Great.BuildSlice
set_option linter.unusedSimpArgs false
set_option linter.unusedVariables false
namespace WB
open Go Go.RowKit
section
variable {P : Program} {ops : Array Oper} {d : Bool} {Q : Exit → Act → World → Prop} {n : Nat} {D : List Deferred} {w0 : World} {G : Env} {L R R' N : List HP} {l : List (Kd × Oper)} {k : Kd}
  {t : Nat} {op : Op} {ty T T' E E' : TypeId} {pos : String} {af : Array Edge} {x y : Operand} {v u z : Value} {i j : Nat} {a c r : Int} {α : Type} {cf : α → List Value} {sz by' : Nat} {xs ys : List α} {e e' : α}
theorem KO.bs (hk : (!d || (k == .keep || k == .write)) = true) {len : Nat} {parts : Array (Nat × Operand)} (os : List Operand) {vs cs : List Value} (hp : parts.toList = (os.zipIdx 0).map fun x => (x.2, x.1)) (hv : evs G os = some vs) (hT : P.underlying T = some (.slice E))
    (hi : (P.info? E).map (fun i => (i.zero, i.size, i.bytes)) = some (some z, sz, by')) (hsz : vs.all (fun v => v.cells.size == sz) = true) (hlen : vs.length = len) (hs : ¬ len * sz > 2 ^ 24) (hpos : ¬ len * sz = 0) (hcs : (vs.flatMap fun v => v.cells.toList) = cs) (ht : Nat.blt t n = true)
    (h : ∀ bb, KO P ops d Q n D w0 ((t, .slice (some ⟨bb, 0, none⟩) len len) :: G) (blk bb (.cells cs.toArray E (0, 0)) :: L) l) : KO P ops d Q n D w0 G L ((k, ⟨some t, .buildSlice T len parts, ty, pos, af, none⟩) :: l) := by
  obtain ⟨i0, hi1, hz0, hz1, _⟩ := info_parts hi
  refine KO.keepRun hk (F := fun bb => .slice (some ⟨bb, 0, none⟩) len len) (N := fun bb => blk bb (.cells cs.toArray E (0, 0)) :: L) (fun a w ha hw => ⟨w.heap.size, w.alloc (.cells cs.toArray E), ?_, Ext.alloc w _, hw.alloc _⟩) ht h
  have hparts : (parts.map fun (i, x) => (i, a.eval x)).toList = (vs.zipIdx 0).map fun x => (x.2, x.1) := by
    have key : ∀ (os : List Operand) (vs : List Value) (q : Nat), os.map (ev G) = vs.map some → ((os.zipIdx q).map fun x => (x.2, x.1)).map (fun (p : Nat × Operand) => (p.1, a.eval p.2)) = (vs.zipIdx q).map fun x => (x.2, x.1) := by
      intro os
      induction os with
      | nil => intro vs q h; cases vs with | nil => rfl | cons _ _ => simp at h
      | cons o os ih => intro vs q h; cases vs with
        | nil => simp at h
        | cons v vs =>
          simp only [List.map_cons, List.cons.injEq] at h
          simp only [List.zipIdx_cons, List.map_cons, ha.eval h.1]
          rw [ih vs (q + 1) h.2]
    rw [Array.toList_map, hp]
    exact key os vs 0 (evs_map hv)
  have hsp : 0 < sz := Nat.pos_of_ne_zero fun e => hpos (by rw [e, Nat.mul_zero])
  have hf := Great.fill_whole hsp vs ((Array.range (len * sz)).map (z.cells[· % z.cells.size]!)) (fun v hv => by simpa using List.all_eq_true.1 hsz v hv) (by simp [hlen])
  rw [← hz1] at hf hs hpos
  have hr := run_buildSlice (P := P) w T E len (parts.map fun (i, x) => (i, a.eval x)) _ i0 z hT hi1 hz0 hs hpos (by rw [hparts]; exact hf)
  simp only [hcs] at hr
  simp only [execOp, hr, Sem.run_bind, Sem.run_pure, Result.andThen_ok]
/-- append of one element -/
theorem KO.app (hk : (!d || k == .write) = true) {bv cp : Nat} {us : List Value} (hx : ev G x = some v) (hy : ev G y = some (.slice (some ⟨bv, 0, none⟩) 1 cp)) (hp : Pick L (SL E sz cf v xs) R) (hq : Pick R (blk bv (.cells us.toArray E' (0, 0))) R')
    (hT : P.underlying T = some (.slice E)) (hi : (P.info? E).map (fun i => (i.zero, i.size, i.bytes)) = some (some z, sz, by')) (hzs : z.cells.size = sz) (e : α) (he : cf e = us) (hus : us.length = sz) (h1 : us.all Value.oneCell' = true) (hb : xs.length < 1000000000) (hby : by' ≤ 10000) (ht : Nat.blt t n = true)
    (h : ∀ v', KO P ops d Q n D w0 ((t, v') :: G) (SL E sz cf v' (xs ++ [e]) :: R') l) : KO P ops d Q n D w0 G L ((k, ⟨some t, .call ⟨.builtin .append, #[x, y], #[T, T]⟩, ty, pos, af, none⟩) :: l) := by
  obtain ⟨i0, hi1, hz0, hz1, hz2⟩ := info_parts hi
  refine KO.wvE hk (F := fun v' => SL E sz cf v' (xs ++ [e]) :: R') (fun a w ha hw => ?_) ht h
  have hs := hw.pick hp

  have hcells : HasCells w ⟨bv, 0, none⟩ us := by
    have := hs.drop.pick hq
    exact this.hasCells fun j c hj => by simpa using hj
  have hbb : (xs.length + 1) * by' ≤ 140737488355328 := by
    have := Nat.mul_le_mul (show xs.length + 1 ≤ 1000000000 by omega) hby; omega
  obtain ⟨v', w', hr, hst⟩ := append_st (P := P) T ty E i0 z sz by' hT hi1 hz0 hz1 hz2 hzs hs ⟨bv, 0, none⟩ 1 cp us (by rw [hus, Nat.one_mul]) hcells (fun u hu => List.all_eq_true.1 h1 u hu) (by unfold maxLen; omega) hbb
  refine ⟨v', w', exec_append2 x y T T rfl v _ (ha.eval hx) (ha.eval hy) hr, ?_⟩
  have hfin := (hst.swapQ hq).drop2
  show St w0 (osl E sz v' (xs ++ [e]).length ((xs ++ [e]).flatMap cf) :: R') w'
  rw [show (xs ++ [e]).length = xs.length + 1 by simp, show (xs ++ [e]).flatMap cf = xs.flatMap cf ++ us by simp [he]]
  exact hfin
/-- append(s[:k], s[j:]...) -/
theorem KO.move (hk : (!d || k == .write) = true) {g n' cap kk c : Nat} (hx : ev G x = some (.slice (some ⟨g, 0, none⟩) kk cap)) (hy : ev G y = some (.slice (some (cutAt g j sz cap)) (n' - j) c)) (hp : Pick L (SL E sz cf (.slice (some ⟨g, 0, none⟩) n' cap) xs) R) (hn : n' = xs.length) (hnc : n' ≤ cap)
    (hT : P.underlying T = some (.slice E)) (hi : (P.info? E).map (fun i => (i.zero, i.size, i.bytes)) = some (some z, sz, by')) (hsz : ∀ e, (cf e).length = sz) (h1 : ∀ e, (cf e).all Value.oneCell' = true) (hkj : kk ≤ j) (hj : j ≤ xs.length) (ht : Nat.blt t n = true)
    (h : KO P ops d Q n D w0 ((t, .slice (some ⟨g, 0, none⟩) (kk + (n' - j)) cap) :: G) (SL E sz cf (.slice (some ⟨g, 0, none⟩) n' cap) (xs.take kk ++ xs.drop j ++ xs.drop (kk + (n' - j))) :: R) l) :
    KO P ops d Q n D w0 G L ((k, ⟨some t, .call ⟨.builtin .append, #[x, y], #[T, T]⟩, ty, pos, af, none⟩) :: l) := by
  obtain ⟨i0, hi1, hz0, hz1, _⟩ := info_parts hi
  subst hn
  refine KO.wv hk (fun a w ha hw => ?_) ht h
  obtain ⟨w', hr, hs⟩ := SL_move (P := P) (ty := ty) hsz (fun e u hu => List.all_eq_true.1 (h1 e) u hu) hT hi1 hz1 (c := c) (o := (cutAt g j sz cap).off) (hw.pick hp) hkj hj (by
    by_cases hc : cap = j
    · left; omega
    · right; simp [cutAt, hc])
  exact ⟨w', exec_append2 x y T T rfl _ _ (ha.eval hx) (ha.eval hy) hr, hs⟩
/-- clear(s[q:]) -/
theorem KO.clear (hk : (!d || k == .write) = true) {g n' cap q m c : Nat} (hx : ev G x = some (.slice (some (cutAt g q sz cap)) m c)) (hp : Pick L (SL E sz cf (.slice (some ⟨g, 0, none⟩) n' cap) xs) R) (hnc : n' ≤ cap) (hn : n' = xs.length) (hq : q + m ≤ xs.length)
    (hT : P.underlying T = some (.slice E)) (hi : (P.info? E).map (fun i => (i.zero, i.size, i.bytes)) = some (some z, sz, by')) (hsz : ∀ e, (cf e).length = sz) (hz1 : z.cells.toList.all Value.oneCell' = true) (hzs : z.cells.size = sz)
    (h : KO P ops d Q n D w0 G (SL E sz cf (.slice (some ⟨g, 0, none⟩) q cap) (xs.take q) :: R) l) :
    KO P ops d Q n D w0 G L ((k, ⟨none, .call ⟨.builtin .clear, #[x], #[T]⟩, ty, pos, af, none⟩) :: l) := by
  obtain ⟨i0, hi1, hz0, _, _⟩ := info_parts hi
  refine KO.wn hk (fun a w ha hw => ?_) h
  obtain ⟨w', u, hr, hs⟩ := SL_clear (P := P) (ty := ty) hsz hT hi1 hz0 (fun u hu => List.all_eq_true.1 hz1 u hu) hzs (m := m) (c := c) (o := (cutAt g q sz cap).off) (hw.pick hp) hq (by
    by_cases hc : cap = q
    · left; omega
    · right; simp [cutAt, hc])
  refine ⟨w', u, ?_, hs⟩
  have e : a.eval x = .slice (some ⟨g, (cutAt g q sz cap).off, none⟩) m c := ha.eval hx
  simp [execOp, resolve, invoke, builtin, e, hr]
theorem SL_set {w : World} {g cap n' : Nat} {us : List Value} {o : Nat} (hsz : ∀ e, (cf e).length = sz) (hw : St w0 (SL E sz cf (.slice (some ⟨g, 0, none⟩) n' cap) xs :: R) w) (he : xs[i]? = some e) (hfit : j + us.length ≤ sz) (hu : putL j us (cf e) = cf e') (ho : o = i * sz + j)
    (hn : (Go.sizeOf T).run P w = .ok us.length w) (h1 : ∀ u ∈ us, u.oneCell' = true) (hv : v.cells = us.toArray) :
    ∃ w', (storeVar T ⟨g, o, none⟩ v).run P w = .ok () w' ∧ St w0 (SL E sz cf (.slice (some ⟨g, 0, none⟩) n' cap) (xs.set i e') :: R) w' := by
  obtain ⟨rfl, hnc, hcm, cur, hcs, htake, hb⟩ := SL_open hw
  have hi := (List.getElem?_eq_some_iff.1 he).1
  have hei := (List.getElem?_eq_some_iff.1 he).2
  have hile : (i + 1) * sz ≤ xs.length * sz := Nat.mul_le_mul_right _ hi
  have hile2 : xs.length * sz ≤ cap * sz := Nat.mul_le_mul_right _ hnc
  rw [Nat.succ_mul] at hile
  have hcl : cur.toList.length = cap * sz := by simpa using hcs
  have hst := run_store_row (P := P) (T := T) (off := o) (v := v) hb (by simpa [hv] using hn) (by simp [hv, hcs]; omega) (by simpa [hv] using h1)
  simp only [hv] at hst
  refine ⟨_, hst, ?_⟩
  have hlen : (xs.set i e').length = xs.length := by simp
  have := SL_mk (xs := xs.set i e') (cf := cf) (sz := sz) (cap := cap) (hb.setRow (c' := (cur.toList.take o ++ us ++ cur.toList.drop (o + us.length)).toArray)) (by omega) hcm ?_ ?_
  · rw [hlen] at this; exact this
  · simp only [List.size_toArray, List.length_append, List.length_take, List.length_drop, hcl, Nat.min_def]
    rw [if_pos (by omega)]; omega
  · rw [hlen]
    have hset : (xs.set i e').flatMap cf = (xs.take i).flatMap cf ++ cf e' ++ (xs.drop (i + 1)).flatMap cf := by
      rw [List.set_eq_take_append_cons_drop, if_pos hi]; simp
    have hold : xs.flatMap cf = (xs.take i).flatMap cf ++ cf e ++ (xs.drop (i + 1)).flatMap cf := by
      have hsplit : xs = xs.take i ++ e :: xs.drop (i + 1) := by
        rw [← hei, List.getElem_cons_drop, List.take_append_drop]
      conv => lhs; rw [hsplit]
      simp
    have hti : ((xs.take i).flatMap cf).length = i * sz := by rw [flat_len cf sz hsz, List.length_take, Nat.min_eq_left (by omega)]
    rw [hset, ← hu, ← putL_eq j us (cf e) (by rw [hsz]; exact hfit)]
    -- cur's head is the old flat list
    obtain ⟨tl, htl⟩ : ∃ tl, cur.toList = xs.flatMap cf ++ tl := ⟨cur.toList.drop (xs.length * sz), by rw [← htake, List.take_append_drop]⟩
    rw [htl, hold, ho]
    have hcfe := hsz e
    generalize (xs.take i).flatMap cf = A at hti
    generalize hC : (xs.drop (i + 1)).flatMap cf = C
    have hCl : C.length = (xs.length - (i + 1)) * sz := by rw [← hC, flat_len cf sz hsz, List.length_drop]
    have hsum : i * sz + sz + (xs.length - (i + 1)) * sz = xs.length * sz := by
      have : (i + 1) * sz + (xs.length - (i + 1)) * sz = xs.length * sz := by rw [← Nat.add_mul]; congr 1; omega
      rw [Nat.succ_mul] at this; omega
    generalize cf e = B at hcfe
    clear hst hset hold htl hu hsz htake
    have h1 : (A ++ B ++ C ++ tl).take (i * sz + j) = A ++ B.take j := by
      rw [List.append_assoc, List.append_assoc, ← hti, List.take_length_add_append, List.take_append_of_le_length (by omega)]
    have h2 : (A ++ B ++ C ++ tl).drop (i * sz + j + us.length) = B.drop (j + us.length) ++ C ++ tl := by
      rw [List.append_assoc, List.append_assoc, ← hti, Nat.add_assoc, List.drop_length_add_append, List.drop_append_of_le_length (by omega), List.append_assoc]
    rw [h1, h2]
    have e1 : A ++ List.take j B ++ us ++ (List.drop (j + us.length) B ++ C ++ tl) = (A ++ (List.take j B ++ us ++ List.drop (j + us.length) B) ++ C) ++ tl := by simp
    rw [e1, List.take_append_of_le_length (by simp; omega), List.take_of_length_le (by simp; omega)]
/-- a field of an element is written -/
theorem KO.stE (hk : (!d || k == .write) = true) {g n' cap : Nat} {us : List Value} (hx : ev G x = some (.pointer (some ⟨g, i * sz + j, none⟩))) (hy : ev G y = some v) (hv : v.cells = us.toArray) (hn : ∀ w, (Go.sizeOf T).run P w = .ok us.length w) (h1 : us.all Value.oneCell' = true)
    (hp : Pick L (SL E sz cf (.slice (some ⟨g, 0, none⟩) n' cap) xs) R) (hsz : ∀ e, (cf e).length = sz) (he : xs[i]? = some e) (hfit : Nat.ble (j + us.length) sz = true) (e' : α) (hu : putL j us (cf e) = cf e')
    (h : KO P ops d Q n D w0 G (SL E sz cf (.slice (some ⟨g, 0, none⟩) n' cap) (xs.set i e') :: R) l) : KO P ops d Q n D w0 G L ((k, ⟨none, .store T x y, ty, pos, af, none⟩) :: l) :=
  KO.wrRun hk (fun a w ha hw => by
    obtain ⟨w', hr, hs⟩ := SL_set (P := P) (T := T) (v := v) hsz (hw.pick hp) he (by simpa [Nat.ble_eq] using hfit) hu rfl (hn w) (fun u hu => List.all_eq_true.1 h1 u hu) hv
    exact ⟨w', by simp [execOp, ha.eval hx, ha.eval hy, Instr.storeAt, Instr.sureAddr, hr], hs⟩) h
/-- a whole element is written -/
theorem KO.stEN (hk : (!d || k == .write) = true) {g n' cap : Nat} (hx : ev G x = some (.pointer (some ⟨g, i * sz, none⟩))) (e' : α) (hy : ev G y = some (.agg (cf e').toArray)) (hn : ∀ w, (Go.sizeOf T).run P w = .ok sz w) (h1 : ∀ e, (cf e).all Value.oneCell' = true)
    (hp : Pick L (SL E sz cf (.slice (some ⟨g, 0, none⟩) n' cap) xs) R) (hsz : ∀ e, (cf e).length = sz) (he : xs[i]? = some e)
    (h : KO P ops d Q n D w0 G (SL E sz cf (.slice (some ⟨g, 0, none⟩) n' cap) (xs.set i e') :: R) l) : KO P ops d Q n D w0 G L ((k, ⟨none, .store T x y, ty, pos, af, none⟩) :: l) :=
  KO.wrRun hk (fun a w ha hw => by
    obtain ⟨w', hr, hs⟩ := SL_set (P := P) (T := T) (v := .agg (cf e').toArray) (us := cf e') (o := i * sz) (j := 0) (e' := e') hsz (hw.pick hp) he (by rw [hsz]; omega) (by simp [putL, hsz, List.drop_of_length_le]) rfl (by rw [hsz]; exact hn w) (fun u hu => List.all_eq_true.1 (h1 e') u hu) rfl
    exact ⟨w', by simp [execOp, ha.eval hx, ha.eval hy, Instr.storeAt, Instr.sureAddr, hr], hs⟩) h
end
end WB
namespace WB
open Go Go.RowKit
section
variable {P : Program} {f : FuncId} {args : Array Value} {w0 : World} {L R1 R2 R3 : List HP} {A B C : HP} {R : Value → List HP → Prop}
theorem KC.pk1 (p1 : Pick L A R1) (h : KC P f args w0 (A :: R1) R) : KC P f args w0 L R := fun w hw => h w (hw.pick p1)
theorem St.pick2 {w : World} (hw : St w0 L w) (p1 : Pick L A R1) (p2 : Pick R1 B R2) : St w0 (A :: B :: R2) w := (hw.pick p1).swapQ p2
theorem St.pick3 {w : World} (hw : St w0 L w) (p1 : Pick L A R1) (p2 : Pick R1 B R2) (p3 : Pick R2 C R3) : St w0 (A :: B :: C :: R3) w := by
  have h1 := hw.pick2 p1 p2
  have h2 := h1.pick (.tail (.tail p3))
  exact (h2.pick (.tail .head)).pick (.tail (.tail .head)) |>.pick (.tail .head)
theorem KC.pk2 (p1 : Pick L A R1) (p2 : Pick R1 B R2) (h : KC P f args w0 (A :: B :: R2) R) : KC P f args w0 L R := fun w hw => h w (hw.pick2 p1 p2)
theorem KE.pk1 (p1 : Pick L A R1) (h : KE P f args w0 (A :: R1) R) : KE P f args w0 L R := fun w hw => h w (hw.pick p1)
theorem KE.pk2 (p1 : Pick L A R1) (p2 : Pick R1 B R2) (h : KE P f args w0 (A :: B :: R2) R) : KE P f args w0 L R := fun w hw => h w (hw.pick2 p1 p2)
/-- a contract that keeps what was there: the parts stand as they stood -/
theorem KE.keep {v : Value} (h : KE P f args w0 L (fun u _ => u = v)) : KE P f args w0 L (fun u M => u = v ∧ M = L) := fun w hw =>
  (h w hw).mono fun _ _ ⟨u, _, he, hu, _, hb⟩ => ⟨u, L, he, ⟨hu, rfl⟩, hw.below_step hb, hb⟩
end
section
variable {P : Program} {ops : Array Oper} {d : Bool} {Q : Exit → Act → World → Prop} {n : Nat} {D : List Deferred} {w0 : World} {G : Env} {L R : List HP} {A : HP} {l : List (Kd × Oper)} {k : Kd}
  {t : Nat} {ty T : TypeId} {pos : String} {af : Array Edge} {v : Value} {c : Code} {e : Exit}
theorem K.pk (hp : Pick L A R) (h : K P c Q n D w0 G (A :: R)) : K P c Q n D w0 G L := K.conv (fun _ hw => hw.pick hp) h
theorem KO.pk (hp : Pick L A R) (h : KO P ops d Q n D w0 G (A :: R) l) : KO P ops d Q n D w0 G L l := KO.conv (fun _ hw => hw.pick hp) h
theorem KQ.pk (hp : Pick L A R) (h : KQ Q e n D w0 G (A :: R)) : KQ Q e n D w0 G L := KQ.conv (fun _ hw => hw.pick hp) h
theorem K.dropP (hp : Pick L A R) (h : K P c Q n D w0 G R) : K P c Q n D w0 G L := K.conv (fun _ hw => (hw.pick hp).drop) h
theorem KO.bld {parts : Array (Nat × Operand)} {vs : List Value} (hv : evs G (parts.toList.map (·.2)) = some vs) (hr : ∀ w, (Instr.build T ((parts.toList.map (·.1)).zip vs).toArray).run P w = .ok v w) (ht : Nat.blt t n = true)
    (h : KO P ops d Q n D w0 ((t, v) :: G) L l) : KO P ops d Q n D w0 G L ((k, ⟨some t, .build T parts, ty, pos, af, none⟩) :: l) :=
  KO.val (fun a w ha => by
    have key : ∀ (ps : List (Nat × Operand)) (vs : List Value), (ps.map (·.2)).map (ev G) = vs.map some → ps.map (fun (p : Nat × Operand) => (p.1, a.eval p.2)) = (ps.map (·.1)).zip vs := by
      intro ps
      induction ps with
      | nil => intro vs h; cases vs with | nil => rfl | cons _ _ => simp at h
      | cons p ps ih => intro vs h; cases vs with
        | nil => simp at h
        | cons v vs =>
          simp only [List.map_cons, List.cons.injEq] at h
          simp only [List.map_cons, List.zip_cons_cons, ha.eval h.1, ih vs h.2]
    have e : parts.map (fun (i, x) => (i, a.eval x)) = ((parts.toList.map (·.1)).zip vs).toArray := by
      apply Array.ext'
      rw [Array.toList_map]
      exact key _ _ (evs_map hv)
    simp only [execOp, e, hr w, Sem.run_bind, Sem.run_pure, Result.andThen_ok]) ht h
end
end WB
namespace WB
open Go Go.RowKit
def bldL (pl : List (Nat × Nat)) : List Value → List (Nat × Value) → Option (List Value)
  | cs, [] => some cs
  | cs, (i, v) :: rest => match pl[i]? with
    | some (off, size) => match (Nat.beq v.cells.toList.length size && Nat.ble (off + v.cells.toList.length) cs.length) with | true => bldL pl (putL off v.cells.toList cs) rest | false => none
    | none => none
theorem putL_len : ∀ (i : Nat) (us cs : List Value), i + us.length ≤ cs.length → (putL i us cs).length = cs.length := fun i us cs h => by
  rw [← putL_eq i us cs h]; simp; omega
theorem fill_bldL (pl : List (Nat × Nat)) (place : Nat → Option (Nat × Nat)) (hpl : ∀ i, place i = pl[i]?) : ∀ (parts : List (Nat × Value)) (cs cs' : List Value), bldL pl cs parts = some cs' → Instr.fill place cs.toArray parts = some cs'.toArray
  | [], cs, cs', h => by simp only [bldL, Option.some.injEq] at h; subst h; rfl
  | (i, v) :: rest, cs, cs', h => by
    unfold bldL at h
    cases hp : pl[i]? with
    | none => rw [hp] at h; simp at h
    | some os =>
      obtain ⟨off, size⟩ := os
      rw [hp] at h
      simp only at h
      cases hb : (Nat.beq v.cells.toList.length size && Nat.ble (off + v.cells.toList.length) cs.length) with
      | false => rw [hb] at h; simp at h
      | true =>
        rw [hb] at h
        simp only at h
        simp only [Bool.and_eq_true] at hb
        have h1 : v.cells.toList.length = size := Nat.eq_of_beq_eq_true hb.1
        have h2 : off + v.cells.toList.length ≤ cs.length := Nat.le_of_ble_eq_true hb.2
        unfold Instr.fill
        rw [hpl i, hp]
        simp only
        rw [if_neg (by simp only [Array.length_toList] at h1 h2; simp; omega)]
        have hset : (v.cells.zipIdx.foldl (fun cs (x : Value × Nat) => cs.setIfInBounds (off + x.2) x.1) cs.toArray) = (putL off v.cells.toList cs).toArray := by
          have e0 : v.cells.zipIdx.foldl (fun cs (x : Value × Nat) => cs.setIfInBounds (off + x.2) x.1) cs.toArray = (v.cells.toList.zipIdx 0).foldl (fun cs (x : Value × Nat) => cs.setIfInBounds (off + x.2) x.1) cs.toArray := by
            rw [← Array.foldl_toList]; simp
          obtain ⟨g1, g2⟩ := Great.foldl_set off v.cells.toList 0 cs.toArray
          rw [e0]
          apply Array.ext_getElem?
          intro q
          rw [g2 q]
          simp only [List.getElem?_toArray, List.size_toArray, Nat.add_zero]
          rw [← putL_eq off _ cs h2]
          by_cases hq : off ≤ q ∧ q < off + v.cells.toList.length ∧ q < cs.length
          · rw [if_pos hq, List.append_assoc, List.getElem?_append_right (by rw [List.length_take]; omega), List.length_take, Nat.min_eq_left (by omega), List.getElem?_append_left (by omega)]
          · rw [if_neg hq, List.append_assoc]
            by_cases hq1 : q < off
            · rw [List.getElem?_append_left (by rw [List.length_take]; omega), List.getElem?_take, if_pos hq1]
            · rw [List.getElem?_append_right (by rw [List.length_take]; omega), List.length_take, Nat.min_eq_left (by omega)]
              by_cases hq2 : q < cs.length
              · have h3 : off + v.cells.toList.length ≤ q := Nat.not_lt.1 fun h4 => hq ⟨by omega, h4, hq2⟩
                rw [List.getElem?_append_right (by omega), List.getElem?_drop]
                congr 1; omega
              · rw [List.getElem?_eq_none (by omega), List.getElem?_append_right (by omega), List.getElem?_eq_none (by rw [List.length_drop]; omega)]
        show Instr.fill place (v.cells.zipIdx.foldl (fun cs (x : Value × Nat) => cs.setIfInBounds (off + x.2) x.1) cs.toArray) rest = _
        rw [hset]
        exact fill_bldL pl place hpl rest _ _ h
section
variable {P : Program} {ops : Array Oper} {d : Bool} {Q : Exit → Act → World → Prop} {n : Nat} {D : List Deferred} {w0 : World} {G : Env} {L R : List HP} {l : List (Kd × Oper)} {k : Kd} {t : Nat} {ty T : TypeId} {pos : String} {af : Array Edge} {v z : Value}
theorem KO.bldS {parts : Array (Nat × Operand)} {vs : List Value} {fs : Array Field} {pl : List (Nat × Nat)} (cs : List Value) (hv : evs G (parts.toList.map (·.2)) = some vs) (hz : ∀ w, (zeroValue T).run P w = .ok z w) (hu : ∀ w, (underlying T).run P w = .ok (.struct fs) w)
    (hpl : ∀ w, (fs.mapM fun (f : Field) => (do pure (f.offset, ← Go.sizeOf f.type) : Sem (Nat × Nat))).run P w = .ok pl.toArray w) (hb : bldL pl z.cells.toList ((parts.toList.map (·.1)).zip vs) = some cs) (ht : Nat.blt t n = true)
    (h : KO P ops d Q n D w0 ((t, .agg cs.toArray) :: G) L l) : KO P ops d Q n D w0 G L ((k, ⟨some t, .build T parts, ty, pos, af, none⟩) :: l) :=
  KO.bld hv (fun w => by
    have := fill_bldL pl (fun x => pl[x]?) (fun i => rfl) _ _ _ hb
    simp only [Array.toArray_toList] at this
    simp only [Instr.build, hz w, hu w, Sem.run_bind, Result.andThen_ok]
    rw [hpl w]
    simp [this]) ht h
end
end WB
namespace WB
open Go Go.RowKit
section
variable {P : Program} {ops : Array Oper} {d : Bool} {Q : Exit → Act → World → Prop} {n : Nat} {D : List Deferred} {w0 : World} {G : Env} {L R : List HP} {l : List (Kd × Oper)} {k : Kd} {t : Nat} {ty T : TypeId} {pos : String} {af : Array Edge} {v z : Value}
/-- as KO.bldS, the cells found by reckoning -/
theorem KO.bldN {parts : Array (Nat × Operand)} {vs : List Value} {fs : Array Field} {pl : List (Nat × Nat)} {cs : List Value} (hv : evs G (parts.toList.map (·.2)) = some vs) (hz : ∀ w, (zeroValue T).run P w = .ok z w) (hu : ∀ w, (underlying T).run P w = .ok (.struct fs) w)
    (hpl : ∀ w, (fs.mapM fun (f : Field) => (do pure (f.offset, ← Go.sizeOf f.type) : Sem (Nat × Nat))).run P w = .ok pl.toArray w) (hb : bldL pl z.cells.toList ((parts.toList.map (·.1)).zip vs) = some cs) (ht : Nat.blt t n = true)
    (h : KO P ops d Q n D w0 ((t, .agg cs.toArray) :: G) L l) : KO P ops d Q n D w0 G L ((k, ⟨some t, .build T parts, ty, pos, af, none⟩) :: l) := KO.bldS cs hv hz hu hpl hb ht h
end
end WB
namespace WB
open Go Go.RowKit
section
variable {P : Program} {ops : Array Oper} {d : Bool} {Q : Exit → Act → World → Prop} {n : Nat} {D : List Deferred} {w0 : World} {G : Env} {L R : List HP} {l : List (Kd × Oper)} {k : Kd} {t : Nat} {ty T E : TypeId} {pos : String} {af : Array Edge} {v : Value} {x y : Operand}
/-- a whole block is written -/
theorem KO.sto0 {b : Nat} {cs us : List Value} (hk : (!d || k == .write) = true) (hx : ev G x = some (.pointer (some ⟨b, 0, none⟩))) (hy : ev G y = some v) (hv : v.cells = us.toArray) (hn : ∀ w, (Go.sizeOf T).run P w = .ok us.length w) (h1 : us.all Value.oneCell' = true)
    (hp : Pick L (blk b (.cells cs.toArray E (0, 0))) R) (hfit : Nat.beq us.length cs.length = true) (h : KO P ops d Q n D w0 G (blk b (.cells us.toArray E (0, 0)) :: R) l) :
    KO P ops d Q n D w0 G L ((k, ⟨none, .store T x y, ty, pos, af, none⟩) :: l) :=
  have e : us.length = cs.length := Nat.eq_of_beq_eq_true hfit
  KO.sto hk hx hy hv hn h1 hp (Nat.ble_eq_true_of_le (by omega)) (by rw [putL, e, List.drop_length, List.append_nil]) h
end
end WB
namespace WB
open Go Go.RowKit
section
variable {P : Program} {ops : Array Oper} {d : Bool} {Q : Exit → Act → World → Prop} {n : Nat} {D : List Deferred} {w0 : World} {G : Env} {L R : List HP} {l : List (Kd × Oper)} {k : Kd} {t : Nat} {ty T E : TypeId} {pos : String} {af : Array Edge} {v z : Value} {x y : Operand} {sz by' : Nat}
theorem KO.bs1 (hk : (!d || (k == .keep || k == .write)) = true) {cs : List Value} (hv : ev G x = some v) (hT : P.underlying T = some (.slice E))
    (hi : (P.info? E).map (fun i => (i.zero, i.size, i.bytes)) = some (some z, sz, by')) (hc : v.cells = cs.toArray) (hsz : cs.length = sz) (hs : ¬ 1 * sz > 2 ^ 24) (hpos : ¬ 1 * sz = 0) (ht : Nat.blt t n = true)
    (h : ∀ bb, KO P ops d Q n D w0 ((t, .slice (some ⟨bb, 0, none⟩) 1 1) :: G) (blk bb (.cells cs.toArray E (0, 0)) :: L) l) : KO P ops d Q n D w0 G L ((k, ⟨some t, .buildSlice T 1 #[(0, x)], ty, pos, af, none⟩) :: l) :=
  KO.bs hk [x] rfl (vs := [v]) (by simp [evs, hv]) hT hi (by simp [hc, hsz]) rfl hs hpos (by simp [hc]) ht h
/-- of one-cell elements -/
theorem KO.bsF (hk : (!d || (k == .keep || k == .write)) = true) {len : Nat} {parts : Array (Nat × Operand)} (os : List Operand) {vs : List Value} (hp : parts.toList = (os.zipIdx 0).map fun x => (x.2, x.1)) (hv : evs G os = some vs) (hT : P.underlying T = some (.slice E))
    (hi : (P.info? E).map (fun i => (i.zero, i.size, i.bytes)) = some (some z, 1, by')) (hsz : vs.all (fun v => v.cells.size == 1) = true) (hlen : vs.length = len) (hs : ¬ len * 1 > 2 ^ 24) (hpos : ¬ len * 1 = 0) (hcs : (vs.flatMap fun v => v.cells.toList) = vs) (ht : Nat.blt t n = true)
    (h : ∀ bb, KO P ops d Q n D w0 ((t, .slice (some ⟨bb, 0, none⟩) len len) :: G) (blk bb (.cells vs.toArray E (0, 0)) :: L) l) : KO P ops d Q n D w0 G L ((k, ⟨some t, .buildSlice T len parts, ty, pos, af, none⟩) :: l) :=
  KO.bs hk os hp hv hT hi hsz hlen hs hpos hcs ht h
end
end WB
namespace WB
open Go
/-- what is left when parts are forgotten -/
inductive LSub : List HP → List HP → Prop
  | refl {L : List HP} : LSub L L
  | drop {A : HP} {L M : List HP} : LSub L M → LSub L (A :: M)
theorem St.gc {w0 w : World} {L M : List HP} (h : St w0 M w) (hs : LSub L M) : St w0 L w := by
  induction hs with
  | refl => exact h
  | drop _ ih => exact ih h.drop
theorem St.under {w0 w : World} {A : HP} {L M : List HP} (f : ∀ w, St w0 M w → St w0 L w) (h : St w0 (A :: M) w) : St w0 (A :: M) w := h
theorem St.mapTail {w0 w : World} {A : HP} {L M : List HP} (f : ∀ h, seps M h → ∃ h1 h2, Disj h1 h2 ∧ h = uni h1 h2 ∧ seps L h2) (h : St w0 (A :: M) w) : St w0 (A :: L) w := by
  obtain ⟨x, hx, h1, h2, d, rfl, a, b⟩ := h.own
  obtain ⟨g1, g2, d2, rfl, c⟩ := f h2 b
  rw [disj_uni'] at d
  refine { h with own := ⟨uni h1 g2, fun k o hk => hx k o ?_, h1, g2, d.2, rfl, a, c⟩ }
  simp only [uni] at hk ⊢
  cases e1 : h1 k with
  | some v => rw [e1] at hk; simpa using hk
  | none =>
    rw [e1] at hk
    simp only [Option.none_or] at hk ⊢
    rcases d2 k with e | e
    · rw [e]; simpa using hk
    · rw [e] at hk; simp at hk
theorem LSub.seps {L M : List HP} (hs : LSub L M) : ∀ h, WB.seps M h → ∃ h1 h2, Disj h1 h2 ∧ h = uni h1 h2 ∧ WB.seps L h2 := by
  induction hs with
  | refl => exact fun h hh => ⟨fun _ => none, h, fun _ => .inl rfl, (uni_emp fun _ => rfl).symm, hh⟩
  | drop _ ih =>
    rintro h ⟨h1, h2, d, rfl, _, b⟩
    obtain ⟨g1, g2, d2, rfl, c⟩ := ih h2 b
    rw [disj_uni'] at d
    refine ⟨uni h1 g1, g2, disj_uni.2 ⟨d.2, d2⟩, (uni_assoc _ _ _).symm, c⟩
theorem St.gc1 {w0 w : World} {A : HP} {L M : List HP} (h : St w0 (A :: M) w) (hs : LSub L M) : St w0 (A :: L) w := h.mapTail hs.seps
theorem St.gc2 {w0 w : World} {A B : HP} {L M : List HP} (h : St w0 (A :: B :: M) w) (hs : LSub L M) : St w0 (A :: B :: L) w := ((h.join).gc1 hs).split
theorem St.gc3 {w0 w : World} {A B C : HP} {L M : List HP} (h : St w0 (A :: B :: C :: M) w) (hs : LSub L M) : St w0 (A :: B :: C :: L) w := ((h.join).gc2 hs).split
end WB
