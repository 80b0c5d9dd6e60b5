/- the steps of the calculus: one law an operation -/
import Derived.Test.YtjhogocabcdjbaaDoorWbKa
set_option linter.unusedSimpArgs false
set_option linter.unusedVariables false
namespace WB
open Go Go.RowKit
section
variable {P : Program} {ops : Array Oper} {d : Bool} {Q : Exit → Act → World → Prop} {n : Nat} {D : List Deferred} {w0 : World} {G : Env} {L R : List HP} {l : List (Kd × Oper)} {k : Kd}
  {t : Nat} {op : Op} {ty T T' E : TypeId} {pos : String} {af : Array Edge} {x y z : Operand} {v u : Value} {b b' : Bool} {i j off : Nat} {a c : Int} {ad : Addr} {g : Option (Nat × Bool)} {dst : Option Nat}

theorem KO.dropGuard (h : ∀ a, Knows n D G a → Region.wanted ⟨dst, op, ty, pos, af, g⟩ (yielded ops a.tmps) = true) (hk : KO P ops d Q n D w0 G L ((k, ⟨dst, op, ty, pos, af, none⟩) :: l)) :
    KO P ops d Q n D w0 G L ((k, ⟨dst, op, ty, pos, af, g⟩) :: l) := fun a w ha hw => by
  have h1 := h a ha
  have h2 := hk a w ha hw
  have h0 : Region.wanted ⟨dst, op, ty, pos, af, none⟩ (yielded ops a.tmps) = true := rfl
  cases d with
  | true =>
    change vcL _ _ _ _ _ _ at h2
    show vcL _ _ _ _ _ _
    by_cases hl : k.light = true
    · rw [vcL_light hl h0] at h2; rw [vcL_light hl h1]; exact h2
    · cases k with
      | keep => rw [vcL_keep h0] at h2; rw [vcL_keep h1]; exact h2
      | write => rw [vcL_write h0] at h2; rw [vcL_write h1]; exact h2
      | _ => exact absurd rfl hl
  | false =>
    simp only [vcG, List.map_cons, wpList, h0, h1, if_true] at h2 ⊢
    exact h2
theorem wanted_known {a : Act} (ha : Knows n D G a) (hj : (ops[j]?).bind (·.dst) = some t) (hb : envAt G t = some (.bool b)) : Region.wanted ⟨dst, op, ty, pos, af, some (j, b')⟩ (yielded ops a.tmps) = (b == b') := by
  simp only [Region.wanted, yielded, hj, Option.bind_some, ha.get _ _ hb]
  cases b <;> cases b' <;> rfl
/-- a guard that holds -/
theorem KO.on (hj : (ops[j]?).bind (·.dst) = some t) (hb : envAt G t = some (.bool b)) (he : b = b') (hk : KO P ops d Q n D w0 G L ((k, ⟨dst, op, ty, pos, af, none⟩) :: l)) :
    KO P ops d Q n D w0 G L ((k, ⟨dst, op, ty, pos, af, some (j, b')⟩) :: l) := KO.dropGuard (fun _ ha => by rw [wanted_known ha hj hb, he]; simp) hk
theorem put_dst {a : Act} (ha : Knows n D G a) (v : Value) (ht : Nat.blt t n = true) : Knows n D ((t, v) :: G) (a.put (some t) v) := ha.put t v (by simpa [Nat.blt_eq] using ht)
/-- one that does not -/
theorem KO.no {s : Nat} (hj : (ops[j]?).bind (·.dst) = some s) (hb : envAt G s = some (.bool b)) (he : b = !b') (ht : Nat.blt t n = true) (hk : KO P ops d Q n D w0 ((t, undef) :: G) L l) :
    KO P ops d Q n D w0 G L ((k, ⟨some t, op, ty, pos, af, some (j, b')⟩) :: l) := fun a w ha hw =>
  vcG_skip (by rw [wanted_known ha hj hb, he]; cases b' <;> rfl) (hk _ w (put_dst ha undef ht) hw)
/-- one that does not, because what it hangs on did not run -/
theorem wanted_undef {a : Act} (ha : Knows n D G a) (hj : (ops[j]?).bind (·.dst) = some t) (hb : envAt G t = some undef) : Region.wanted ⟨dst, op, ty, pos, af, some (j, b')⟩ (yielded ops a.tmps) = false := by
  simp only [Region.wanted, yielded, hj, Option.bind_some, ha.get _ _ hb]
  cases b' <;> rfl
theorem KO.no2 {s : Nat} (hj : (ops[j]?).bind (·.dst) = some s) (hb : envAt G s = some undef) (ht : Nat.blt t n = true) (hk : KO P ops d Q n D w0 ((t, undef) :: G) L l) :
    KO P ops d Q n D w0 G L ((k, ⟨some t, op, ty, pos, af, some (j, b')⟩) :: l) := fun a w ha hw =>
  vcG_skip (wanted_undef ha hj hb) (hk _ w (put_dst ha undef ht) hw)

/-! the general ones -/
theorem KO.val (hv : ∀ a w, Knows n D G a → (execOp a.eval ⟨some t, op, ty, pos, af, none⟩).run P w = .ok (.value v) w) (ht : Nat.blt t n = true) (h : KO P ops d Q n D w0 ((t, v) :: G) L l) :
    KO P ops d Q n D w0 G L ((k, ⟨some t, op, ty, pos, af, none⟩) :: l) := fun a w ha hw => vcG_val rfl (fun w' => hv a w' ha) (h _ w (put_dst ha v ht) hw)
theorem KO.rd (hk : (!d || k != .pure) = true) (hv : ∀ a w w', Knows n D G a → St w0 L w → Ext w w' → (execOp a.eval ⟨some t, op, ty, pos, af, none⟩).run P w' = .ok (.value v) w') (ht : Nat.blt t n = true) (h : KO P ops d Q n D w0 ((t, v) :: G) L l) :
    KO P ops d Q n D w0 G L ((k, ⟨some t, op, ty, pos, af, none⟩) :: l) := fun a w ha hw => vcG_read hk rfl (fun w' e => hv a w w' ha hw e) (h _ w (put_dst ha v ht) hw)
/-- by reckoning: all operands known -/
def evF (G : Env) (x : Operand) : Value := (ev G x).getD undef
theorem KO.pv (hp : plainOp op = true) (hk : op.operands.toList.all (fun x => (ev G x).isSome) = true) (hv : ∀ w, (execOp (evF G) ⟨some t, op, ty, pos, af, none⟩).run P w = .ok (.value v) w) (ht : Nat.blt t n = true)
    (h : KO P ops d Q n D w0 ((t, v) :: G) L l) : KO P ops d Q n D w0 G L ((k, ⟨some t, op, ty, pos, af, none⟩) :: l) := by
  refine KO.val (fun a w ha => ?_) ht h
  rw [execOp_congr (ρ := a.eval) (ρ' := evF G) hp fun x hx => ?_]
  · exact hv w
  · have := List.all_eq_true.1 hk x hx
    obtain ⟨u, hu⟩ := Option.isSome_iff_exists.1 this
    rw [ha.eval hu, evF, hu]; rfl

/-! moves -/
theorem KO.mv (hx : ev G x = some v) (ht : Nat.blt t n = true) (h : KO P ops d Q n D w0 ((t, v) :: G) L l) : KO P ops d Q n D w0 G L ((k, ⟨some t, .move x, ty, pos, af, none⟩) :: l) :=
  KO.val (fun a w ha => by simp [execOp, ha.eval hx]) ht h
theorem KO.as (hx : ev G x = some v) (ht : Nat.blt t n = true) (h : KO P ops d Q n D w0 ((t, v) :: G) L l) : KO P ops d Q n D w0 G L ((k, ⟨some t, .assign x, ty, pos, af, none⟩) :: l) :=
  KO.val (fun a w ha => by simp [execOp, ha.eval hx]) ht h
theorem KO.pick (hx : ev G x = some (.bool b)) (hv : (if b then ev G y else ev G z) = some v) (ht : Nat.blt t n = true) (h : KO P ops d Q n D w0 ((t, v) :: G) L l) : KO P ops d Q n D w0 G L ((k, ⟨some t, .pick x y z, ty, pos, af, none⟩) :: l) :=
  KO.val (fun a w ha => by
    cases b with
    | true => simp only [if_true] at hv; simp [execOp, ha.eval hx, ha.eval hv, asBool]
    | false => simp only [Bool.false_eq_true, if_false] at hv; simp [execOp, ha.eval hx, ha.eval hv, asBool]) ht h
theorem KO.nc (hx : ev G x = some (.pointer (some ad))) (ht : Nat.blt t n = true) (h : KO P ops d Q n D w0 ((t, .pointer (some ad)) :: G) L l) : KO P ops d Q n D w0 G L ((k, ⟨some t, .nilCheck x, ty, pos, af, none⟩) :: l) :=
  KO.val (fun a w ha => by simp [execOp, ha.eval hx]) ht h
theorem KO.ncF {f : FuncId} {c1 c2 : Array Value} (hx : ev G x = some (.func (.func f) c1 c2)) (ht : Nat.blt t n = true) (h : KO P ops d Q n D w0 ((t, .func (.func f) c1 c2) :: G) L l) : KO P ops d Q n D w0 G L ((k, ⟨some t, .nilCheck x, ty, pos, af, none⟩) :: l) :=
  KO.val (fun a w ha => by simp [execOp, ha.eval hx]) ht h
theorem KO.extr {vs : Array Value} (hx : ev G x = some (.tuple vs)) (hv : vs[i]? = some v) (ht : Nat.blt t n = true) (h : KO P ops d Q n D w0 ((t, v) :: G) L l) : KO P ops d Q n D w0 G L ((k, ⟨some t, .extract x i, ty, pos, af, none⟩) :: l) :=
  KO.val (fun a w ha => by simp [execOp, ha.eval hx, Instr.extract, hv]) ht h
theorem KO.extrL {vs : List Value} (hx : ev G x = some (.tuple vs.toArray)) (hv : vs[i]? = some v) (ht : Nat.blt t n = true) (h : KO P ops d Q n D w0 ((t, v) :: G) L l) : KO P ops d Q n D w0 G L ((k, ⟨some t, .extract x i, ty, pos, af, none⟩) :: l) :=
  KO.extr hx (by simpa using hv) ht h
theorem KO.mki (hx : ev G x = some v) (hc : P.concrete T = true) (ht : Nat.blt t n = true) (h : KO P ops d Q n D w0 ((t, .iface T v) :: G) L l) : KO P ops d Q n D w0 G L ((k, ⟨some t, .makeInterface T x, ty, pos, af, none⟩) :: l) :=
  KO.val (fun a w ha => by simp [execOp, ha.eval hx, run_makeInterface _ _ _ hc]) ht h
theorem KO.mkf {f : Fn} {xs ys : Array Operand} {us vs : Array Value} (h1 : xs.toList.map (ev G) = us.toList.map some) (h2 : ys.toList.map (ev G) = vs.toList.map some) (ht : Nat.blt t n = true) (h : KO P ops d Q n D w0 ((t, .func f us vs) :: G) L l) :
    KO P ops d Q n D w0 G L ((k, ⟨some t, .makeFunc f xs ys, ty, pos, af, none⟩) :: l) :=
  KO.val (fun a w ha => by
    have key : ∀ (xs : List Operand) (us : List Value), xs.map (ev G) = us.map some → xs.map a.eval = us := by
      intro xs
      induction xs with
      | nil => intro us h; cases us with | nil => rfl | cons _ _ => simp at h
      | cons x xs ih => intro us h; cases us with
        | nil => simp at h
        | cons u us => simp only [List.map_cons, List.cons.injEq] at h ⊢; exact ⟨ha.eval h.1, ih us h.2⟩
    have e1 : xs.map a.eval = us := by apply Array.ext'; simpa using key _ _ h1
    have e2 : ys.map a.eval = vs := by apply Array.ext'; simpa using key _ _ h2
    simp [execOp, Instr.makeFunc, e1, e2]) ht h
/-! addresses -/
theorem KO.fld {fs : Array Field} {f : Nat} {fd : Field} {sz : Nat} (hx : ev G x = some (.pointer (some ad))) (hu : ∀ w, (underlying T).run P w = .ok (.struct fs) w) (hf : fs[f]? = some fd) (hs : ∀ w, (Go.sizeOf fd.type).run P w = .ok (sz + 1) w) (ht : Nat.blt t n = true)
    (h : KO P ops d Q n D w0 ((t, .pointer (some (ad.add fd.offset))) :: G) L l) : KO P ops d Q n D w0 G L ((k, ⟨some t, .fieldAddr T x f, ty, pos, af, none⟩) :: l) :=
  KO.val (fun a w ha => by simp [execOp, ha.eval hx, Instr.fieldAt, hu w, hf, Instr.sureAddr, fieldPlace, hs w]) ht h
theorem KO.idx {g : Nat} {o len cap sz : Nat} {kk : IntKind} (hx : ev G x = some (.slice (some ⟨g, o, none⟩) len cap)) (hy : ev G y = some (.int kk a)) (hu : ∀ w, (underlying T).run P w = .ok (.slice E) w) (hs : ∀ w, (Go.sizeOf E).run P w = .ok sz w)
    (ha : a = (i : Int)) (hb : i < len) (ht : Nat.blt t n = true) (h : KO P ops d Q n D w0 ((t, .pointer (some ⟨g, o + i * sz, none⟩)) :: G) L l) : KO P ops d Q n D w0 G L ((k, ⟨some t, .indexAddr T x y, ty, pos, af, none⟩) :: l) :=
  KO.val (fun a' w ha' => by
    subst ha
    have : (0 : Int) ≤ (i : Int) ∧ (i : Int) < (len : Int) := ⟨by omega, by omega⟩
    simp [execOp, ha'.eval hx, ha'.eval hy, Instr.indexAt, hu w, asIntOf, hs w, hb, Addr.add_lit]) ht h
/-- an array behind a pointer -/
theorem KO.idxA {len sz : Nat} {kk : IntKind} (hx : ev G x = some (.pointer (some ad))) (hy : ev G y = some (.int kk a)) (hu : ∀ w, (underlying T).run P w = .ok (.array len E) w) (hs : ∀ w, (Go.sizeOf E).run P w = .ok sz w)
    (ha : a = (i : Int)) (hb : i < len) (ht : Nat.blt t n = true) (h : KO P ops d Q n D w0 ((t, .pointer (some (ad.add (i * sz)))) :: G) L l) : KO P ops d Q n D w0 G L ((k, ⟨some t, .indexAddr T x y, ty, pos, af, none⟩) :: l) :=
  KO.val (fun a' w ha' => by
    subst ha
    simp [execOp, ha'.eval hx, ha'.eval hy, Instr.indexAt, hu w, asIntOf, hs w, hb, Instr.sureAddr]) ht h
/-! reading -/
theorem KO.ld {b : Nat} {cs : List Value} {fz : Nat × Nat} (hk : (!d || k != .pure) = true) (hx : ev G x = some (.pointer (some ⟨b, off, none⟩))) (hT : ∀ w, (isAgg T).run P w = .ok false w) (hp : Pick L (blk b (.cells cs.toArray E fz)) R) (hc : cs[off]? = some v) (ht : Nat.blt t n = true)
    (h : KO P ops d Q n D w0 ((t, v) :: G) L l) : KO P ops d Q n D w0 G L ((k, ⟨some t, .load T x, ty, pos, af, none⟩) :: l) :=
  KO.rd hk (fun a w w' ha hw e => by
    have hcell : w.cell? ⟨b, off, none⟩ = some v := by rw [World.cell?, (hw.lookP hp).2]; simpa using hc
    simp [execOp, ha.eval hx, Instr.loadAt, Instr.sureAddr, run_load_one (hT w') (e.cell hcell)]) ht h
/-- a cell that was there at first -/
theorem KO.ld0 (hk : (!d || k != .pure) = true) (hx : ev G x = some (.pointer (some ad))) (hT : ∀ w, (isAgg T).run P w = .ok false w) (hc : w0.cell? ad = some v) (ht : Nat.blt t n = true)
    (h : KO P ops d Q n D w0 ((t, v) :: G) L l) : KO P ops d Q n D w0 G L ((k, ⟨some t, .load T x, ty, pos, af, none⟩) :: l) :=
  KO.rd hk (fun a w w' ha hw e => by
    simp [execOp, ha.eval hx, Instr.loadAt, Instr.sureAddr, run_load_one (hT w') (e.cell ((Ext.of_below hw.below).cell hc))]) ht h
/-- whatever the parts say of it -/
theorem KO.ldS (hk : (!d || k != .pure) = true) (hx : ev G x = some (.pointer (some ad))) (hT : ∀ w, (isAgg T).run P w = .ok false w) (hc : ∀ w, St w0 L w → w.cell? ad = some v) (ht : Nat.blt t n = true)
    (h : KO P ops d Q n D w0 ((t, v) :: G) L l) : KO P ops d Q n D w0 G L ((k, ⟨some t, .load T x, ty, pos, af, none⟩) :: l) :=
  KO.rd hk (fun a w w' ha hw e => by
    simp [execOp, ha.eval hx, Instr.loadAt, Instr.sureAddr, run_load_one (hT w') (e.cell (hc w hw))]) ht h
theorem KO.ldN {cs : Array Value} {sz : Nat} (hk : (!d || k != .pure) = true) (hx : ev G x = some (.pointer (some ad))) (hT : ∀ w, (isAgg T).run P w = .ok true w) (hn : ∀ w, (Go.sizeOf T).run P w = .ok sz w) (hsz : cs.size = sz) (hc : ∀ w, St w0 L w → HasCells w ad cs.toList) (ht : Nat.blt t n = true)
    (h : KO P ops d Q n D w0 ((t, .agg cs) :: G) L l) : KO P ops d Q n D w0 G L ((k, ⟨some t, .load T x, ty, pos, af, none⟩) :: l) :=
  KO.rd hk (fun a w w' ha hw e => by
    have := run_load_agg (P := P) (hT w') (by rw [hn w', ← hsz]; rfl) ((hc w hw).ext e)
    simp [execOp, ha.eval hx, Instr.loadAt, Instr.sureAddr, this]) ht h
/-- a whole struct out of a block -/
theorem KO.ldB {b : Nat} {cs : List Value} {us : List Value} {fz : Nat × Nat} {sz : Nat} (hk : (!d || k != .pure) = true) (hx : ev G x = some (.pointer (some ⟨b, off, none⟩))) (hT : ∀ w, (isAgg T).run P w = .ok true w) (hn : ∀ w, (Go.sizeOf T).run P w = .ok sz w) (hp : Pick L (blk b (.cells cs.toArray E fz)) R)
    (hu : (cs.drop off).take sz = us) (hsz : us.length = sz) (ht : Nat.blt t n = true)
    (h : KO P ops d Q n D w0 ((t, .agg us.toArray) :: G) L l) : KO P ops d Q n D w0 G L ((k, ⟨some t, .load T x, ty, pos, af, none⟩) :: l) :=
  KO.ldN hk hx hT hn (by simpa using hsz) (fun w hw j c hj => by
    have hlk := (hw.lookP hp).2
    rw [show (us.toArray).toList = us from rfl, ← hu, List.getElem?_take] at hj
    split at hj
    · rw [List.getElem?_drop] at hj
      rw [Addr.add_lit, World.cell?, hlk]; simpa using hj
    · simp at hj) ht h
/-! new blocks -/
theorem KO.keepRun (hk : (!d || (k == .keep || k == .write)) = true) {F : Nat → Value} {N : Nat → List HP} (hr : ∀ a w, Knows n D G a → St w0 L w → ∃ bb w', (execOp a.eval ⟨some t, op, ty, pos, af, none⟩).run P w = .ok (.value (F bb)) w' ∧ Ext w w' ∧ St w0 (N bb) w') (ht : Nat.blt t n = true)
    (h : ∀ bb, KO P ops d Q n D w0 ((t, F bb) :: G) (N bb) l) : KO P ops d Q n D w0 G L ((k, ⟨some t, op, ty, pos, af, none⟩) :: l) := fun a w ha hw => by
  obtain ⟨bb, w', hr, he, hs⟩ := hr a w ha hw
  refine vcG_keep hk rfl ?_
  unfold Oper.wp
  rw [hr]
  exact ⟨he, h bb _ w' (put_dst ha _ ht) hs⟩
theorem KO.box (hk : (!d || (k == .keep || k == .write)) = true) {cs : List Value} (hx : ev G x = some v) (hc : v.cells = cs.toArray) (ht : Nat.blt t n = true)
    (h : ∀ bb, KO P ops d Q n D w0 ((t, .pointer (some ⟨bb, 0, none⟩)) :: G) (blk bb (.cells cs.toArray E (0, 0)) :: L) l) : KO P ops d Q n D w0 G L ((k, ⟨some t, .box E x, ty, pos, af, none⟩) :: l) :=
  KO.keepRun hk (F := fun bb => .pointer (some ⟨bb, 0, none⟩)) (N := fun bb => blk bb (.cells cs.toArray E (0, 0)) :: L) (fun a w ha hw => ⟨w.heap.size, w.alloc (.cells cs.toArray E), by simp [execOp, ha.eval hx, Instr.box, newVar, newRow, hc], Ext.alloc w _, hw.alloc _⟩) ht h
theorem KO.alloc (hk : (!d || (k == .keep || k == .write)) = true) {cs : List Value} (hz : ∀ w, (zeroValue E).run P w = .ok v w) (hc : v.cells = cs.toArray) (ht : Nat.blt t n = true)
    (h : ∀ bb, KO P ops d Q n D w0 ((t, .pointer (some ⟨bb, 0, none⟩)) :: G) (blk bb (.cells cs.toArray E (0, 0)) :: L) l) : KO P ops d Q n D w0 G L ((k, ⟨some t, .alloc E, ty, pos, af, none⟩) :: l) :=
  KO.keepRun hk (F := fun bb => .pointer (some ⟨bb, 0, none⟩)) (N := fun bb => blk bb (.cells cs.toArray E (0, 0)) :: L) (fun a w ha hw => ⟨w.heap.size, w.alloc (.cells cs.toArray E), by simp [execOp, Instr.alloc, newVar, newRow, hz w, hc], Ext.alloc w _, hw.alloc _⟩) ht h
/-! writing -/
theorem KO.wrRun (hk : (!d || k == .write) = true) {N : List HP} (hr : ∀ a w, Knows n D G a → St w0 L w → ∃ w', (execOp a.eval ⟨none, op, ty, pos, af, none⟩).run P w = .ok .skip w' ∧ St w0 N w')
    (h : KO P ops d Q n D w0 G N l) : KO P ops d Q n D w0 G L ((k, ⟨none, op, ty, pos, af, none⟩) :: l) := fun a w ha hw => by
  obtain ⟨w', hr, hs⟩ := hr a w ha hw
  refine vcG_write hk rfl ?_
  unfold Oper.wp
  rw [hr]
  exact h _ w' ha hs
theorem KO.st {b : Nat} {cs cs' us : List Value} (hk : (!d || k == .write) = true) (hx : ev G x = some (.pointer (some ⟨b, off, none⟩))) (hy : ev G y = some v) (hv : v.cells = us.toArray) (hn : ∀ w, (Go.sizeOf T).run P w = .ok us.length w) (h1 : ∀ u ∈ us, u.oneCell' = true)
    (hp : Pick L (blk b (.cells cs.toArray E (0, 0))) R) (hfit : off + us.length ≤ cs.length) (hc : cs.take off ++ us ++ cs.drop (off + us.length) = cs') (h : KO P ops d Q n D w0 G (blk b (.cells cs'.toArray E (0, 0)) :: R) l) :
    KO P ops d Q n D w0 G L ((k, ⟨none, .store T x y, ty, pos, af, none⟩) :: l) :=
  KO.wrRun hk (N := blk b (.cells cs'.toArray E (0, 0)) :: R) (fun a w ha hw => by
    have hb := hw.pick hp
    have hst := run_store_row (P := P) (T := T) (off := off) (v := v) hb (by simpa [hv] using hn w) (by simpa [hv] using hfit) (by simpa [hv] using h1)
    refine ⟨_, ?_, hb.setRow (c' := cs'.toArray)⟩
    simp only [hv, hc] at hst
    simp [execOp, ha.eval hx, ha.eval hy, Instr.storeAt, Instr.sureAddr, hst]) h
end
end WB
