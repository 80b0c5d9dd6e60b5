/- the steps of the calculus: structs compared, errors asked for, slices that came in -/
import Derived.Test.YtjhogocabcdjbaaDoorWbKh
import Derived.Test.YtjhogocabcdjbaaDoorWbQa
import Derived.WideLaws
set_option linter.unusedSimpArgs false
set_option linter.unusedVariables false
namespace WB
open Go Go.RowKit
deriving instance DecidableEq for Ms
section
variable {P : Program} {w : World} {d : Nat} {xs ys : Array Value} {f : Field} {fs : List Field} {r : Bool}
theorem part_one {T : TypeId} {off : Nat} {v : Value} (ha : (isAgg T).run P w = .ok false w) (hx : xs[off]? = some v) : (part T xs off).run P w = .ok v w := by
  simp [part, ha, hx]
theorem eqF_int {k : IntKind} {a c : Int} (hn : f.name ≠ "_") (hu : P.underlying f.type = some (.int k)) (hT : (isAgg f.type).run P w = .ok false w) (hx : xs[f.offset]? = some (.int k a)) (hy : ys[f.offset]? = some (.int k c)) (h : (Op.eqFields (d + 1) xs ys fs).run P w = .ok r w) :
    (Op.eqFields (d + 1) xs ys (f :: fs)).run P w = .ok (decide (a = c) && r) w := by
  simp only [Op.eqFields, if_pos hn, Sem.run_bind, part_one hT hx, part_one hT hy, Result.andThen_ok, run_equalIn_int w d _ _ k a c hu]
  by_cases e : a = c
  · subst e; simp [h]
  · simp [e]
theorem eqF_str {a c : ByteArray} (hn : f.name ≠ "_") (hu : P.underlying f.type = some .string) (hT : (isAgg f.type).run P w = .ok false w) (hx : xs[f.offset]? = some (.string a)) (hy : ys[f.offset]? = some (.string c)) (h : (Op.eqFields (d + 1) xs ys fs).run P w = .ok r w) :
    (Op.eqFields (d + 1) xs ys (f :: fs)).run P w = .ok (decide (a = c) && r) w := by
  simp only [Op.eqFields, if_pos hn, Sem.run_bind, part_one hT hx, part_one hT hy, Result.andThen_ok, run_equalIn_string w d _ _ _ hu, toList_eq_iff]
  by_cases e : a = c
  · subst e; simp [h]
  · simp [e]
theorem eqF_nil : (Op.eqFields d xs ys []).run P w = .ok true w := by simp [Op.eqFields]
theorem ms_bools (a b : Ms) : (decide (a.id = b.id) && (decide (a.pri = b.pri) && (decide (a.body = b.body) && (decide (a.queue = b.queue) && (decide (a.house = b.house) && true))))) = decide (a = b) := by
  obtain ⟨a1, a2, a3, a4, a5⟩ := a
  obtain ⟨b1, b2, b3, b4, b5⟩ := b
  rw [Bool.eq_iff_iff]; simp
end
/-- these parts, in this order, and no others -/
inductive PAll : List HP → List HP → Prop
  | nil {L : List HP} : PAll L []
  | cons {L R M : List HP} {A : HP} (p : Pick L A R) (h : PAll R M) : PAll L (A :: M)
theorem PAll.seps {L M : List HP} (h : PAll L M) : ∀ x, WB.seps L x → ∃ h1 h2, Disj h1 h2 ∧ x = uni h1 h2 ∧ WB.seps M h2 := by
  induction h with
  | nil => exact fun x _ => ⟨x, fun _ => none, fun _ => .inr rfl, by rw [uni_comm (fun _ => .inr rfl), uni_emp fun _ => rfl], fun _ => rfl⟩
  | cons p _ ih =>
    intro x hx
    obtain ⟨h1, h2, d, rfl, a, b⟩ := p.seps hx
    obtain ⟨g1, g2, d2, rfl, c⟩ := ih h2 b
    rw [disj_uni'] at d
    refine ⟨g1, uni h1 g2, disj_uni'.2 ⟨d.1.symm, d2⟩, ?_, h1, g2, d.2, rfl, a, c⟩
    rw [← uni_assoc, ← uni_assoc, uni_comm d.1]
theorem St.all {w0 w : World} {L M : List HP} (hw : St w0 L w) (h : PAll L M) : St w0 M w := by
  obtain ⟨x, hx, hs⟩ := hw.own
  obtain ⟨h1, h2, d, rfl, hm⟩ := h.seps x hs
  refine { hw with own := ⟨h2, fun k o hk => hx k o ?_, hm⟩ }
  rw [uni_comm d]
  unfold uni; rw [hk]; rfl
/-- what is left of a number by a small one -/
def pk (a n : Int) : Int := (a % 18446744073709551616) % n
theorem pk_lt (a : Int) {n : Int} (h1 : 1 ≤ n) : 0 ≤ pk a n ∧ pk a n < n := ⟨Int.emod_nonneg _ (by omega), Int.emod_lt_of_pos _ (by omega)⟩
section
variable {P : Program} {ops : Array Oper} {d : Bool} {Q : Exit → Act → World → Prop} {n : Nat} {D : List Deferred} {w0 : World} {G : Env} {L R : List HP} {l : List (Kd × Oper)} {k : Kd}
  {t : Nat} {op : Op} {ty T T' E EN : TypeId} {pos : String} {af : Array Edge} {x y z : Operand} {v u : Value} {b : Bool} {i off : Nat} {a c r : Int} {ad : Addr} {kk : IntKind}
theorem KO.eqA {xs ys : Array Value} (hx : ev G x = some (.agg xs)) (hy : ev G y = some (.agg ys)) (hg : P.eqGuardType P.depth T = false) (hr : ∀ w, (Op.equalIn 10000 T (.agg xs) (.agg ys)).run P w = .ok b w) (ht : Nat.blt t n = true) (h : KO P ops d Q n D w0 ((t, .bool b) :: G) L l) :
    KO P ops d Q n D w0 G L ((k, ⟨some t, .binOp .eql T x y T', ty, pos, af, none⟩) :: l) :=
  KO.val (fun a w ha => by simp [execOp, ha.eval hx, ha.eval hy, run_eqGuard_agg w _ _ _ _ _ _ hg, run_eql_struct, hr w]) ht h
theorem KO.neA {xs ys : Array Value} (hx : ev G x = some (.agg xs)) (hy : ev G y = some (.agg ys)) (hg : P.eqGuardType P.depth T = false) (hr : ∀ w, (Op.equalIn 10000 T (.agg xs) (.agg ys)).run P w = .ok b w) (ht : Nat.blt t n = true) (h : KO P ops d Q n D w0 ((t, .bool (!b)) :: G) L l) :
    KO P ops d Q n D w0 G L ((k, ⟨some t, .binOp .neq T x y T', ty, pos, af, none⟩) :: l) :=
  KO.val (fun a w ha => by simp [execOp, ha.eval hx, ha.eval hy, run_eqGuard_agg w _ _ _ _ _ _ hg, run_neq_struct, hr w]) ht h
theorem KO.eqN (hx : ev G x = some (errV EN c)) (hT : P.underlying T = some (.interface (P.methodsAt T))) (ht : Nat.blt t n = true) (h : KO P ops d Q n D w0 ((t, .bool (decide (c = 0))) :: G) L l) :
    KO P ops d Q n D w0 G L ((k, ⟨some t, .binOp .eql T x (.const .nilIface) T', ty, pos, af, none⟩) :: l) :=
  KO.val (fun a w ha => by
    simp only [execOp, ha.eval hx, show a.eval (.const .nilIface) = .nilIface from rfl]
    unfold errV
    by_cases h0 : c = 0
    · simp [h0, run_eql_nil_nil w T hT, eqGuard_nil_constR]
    · simp [h0, run_eql_held_nil w T _ _ hT, eqGuard_at_iface]) ht h
theorem KO.neN (hx : ev G x = some (errV EN c)) (hT : P.underlying T = some (.interface (P.methodsAt T))) (ht : Nat.blt t n = true) (h : KO P ops d Q n D w0 ((t, .bool (decide (c ≠ 0))) :: G) L l) :
    KO P ops d Q n D w0 G L ((k, ⟨some t, .binOp .neq T x (.const .nilIface) T', ty, pos, af, none⟩) :: l) :=
  KO.val (fun a w ha => by
    simp only [execOp, ha.eval hx, show a.eval (.const .nilIface) = .nilIface from rfl]
    unfold errV
    by_cases h0 : c = 0
    · simp [h0, run_neq_nil_nil w T hT, eqGuard_nil_constR]
    · simp [h0, run_neq_held_nil w T _ _ hT, eqGuard_at_iface]) ht h
/-- what holds between two pieces of code -/
def MidI {α : Type} (n : Nat) (D : List Deferred) (w0 : World) (E : α → Env) (H : α → List HP) (φ : α → Prop) (a : Act) (w : World) : Prop := ∃ y, φ y ∧ Knows n D (E y) a ∧ St w0 (H y) w
theorem K.mid {α : Type} {c1 c2 : Code} {L : List HP} (E : α → Env) (H : α → List HP) (φ : α → Prop) (h1 : K P c1 (Exit.then (MidI n D w0 E H φ) Q) n D w0 G L) (h2 : ∀ y, φ y → K P c2 Q n D w0 (E y) (H y)) : K P (.seq c1 c2) Q n D w0 G L := fun a w ha hw =>
  wp_seq (Go.wp_mono (h1 a w ha hw) fun e a w hq => by
    cases e with
    | normal => obtain ⟨y, hy, ha, hw⟩ := hq; exact h2 y hy a w ha hw
    | _ => exact hq)
theorem K.cut {α : Type} {c1 c2 : Code} {L : List HP} (E : α → Env) (H : α → List HP) (φ : α → Prop) (h1 : K P c1 (Exit.then (MidI n D w0 E H φ) Q) n D w0 G L) (h2 : ∀ y, φ y → K P c2 Q n D w0 (E y) (H y)) : K P c1 (Exit.then (c2.wp P Q) Q) n D w0 G L := fun a w ha hw =>
  Go.wp_mono (h1 a w ha hw) fun e a w hq => by
    cases e with
    | normal => obtain ⟨y, hy, ha, hw⟩ := hq; exact h2 y hy a w ha hw
    | _ => exact hq
theorem KQ.mid {α : Type} {E : α → Env} {H : α → List HP} {φ : α → Prop} (y : α) (hy : φ y) (hG : SubL G (E y)) (hL : ∀ w, St w0 L w → St w0 (H y) w) : KQ (Exit.then (MidI n D w0 E H φ) Q) .normal n D w0 G L := fun _ w ha hw => ⟨y, hy, ha.sub hG, hL w hw⟩
/-- a cell of a block, by its number -/
theorem KO.ldAt {b : Nat} {cs : List Value} {fz : Nat × Nat} (hk : (!d || k != .pure) = true) (hx : ev G x = some (.pointer (some ad))) (hT : ∀ w, (isAgg T).run P w = .ok false w) (hp : Pick L (blk b (.cells cs.toArray E fz)) R) (ha : ad = ⟨b, i, none⟩) (hc : cs[i]? = some v) (ht : Nat.blt t n = true)
    (h : KO P ops d Q n D w0 ((t, v) :: G) L l) : KO P ops d Q n D w0 G L ((k, ⟨some t, .load T x, ty, pos, af, none⟩) :: l) := KO.ld hk (ha ▸ hx) hT hp hc ht h
theorem putL_one (v : Value) : ∀ (i : Nat) (cs : List Value), i < cs.length → putL i [v] cs = cs.set i v
  | 0, c :: cs, _ => by simp [putL]
  | i + 1, c :: cs, h => by simp [putL, putL_one v i cs (by simpa using h)]
theorem KO.stAt {b : Nat} {cs : List Value} (hk : (!d || k == .write) = true) (hx : ev G x = some (.pointer (some ad))) (hy : ev G y = some v) (hv : v.cells = [v].toArray) (hn : ∀ w, (Go.sizeOf T).run P w = .ok 1 w) (h1 : v.oneCell' = true)
    (hp : Pick L (blk b (.cells cs.toArray E (0, 0))) R) (ha : ad = ⟨b, i, none⟩) (hi : i < cs.length) (h : KO P ops d Q n D w0 G (blk b (.cells (cs.set i v).toArray E (0, 0)) :: R) l) :
    KO P ops d Q n D w0 G L ((k, ⟨none, .store T x y, ty, pos, af, none⟩) :: l) :=
  KO.sto hk (ha ▸ hx) hy hv hn (by simp [h1]) hp (by simp [Nat.ble_eq]; omega) (putL_one v i cs hi) h
/-- the place of an element of a slice that lies anywhere -/
theorem KO.idxH {len cap sz : Nat} (hx : ev G x = some (.slice (some ad) len cap)) (hy : ev G y = some (.int kk a)) (hu : ∀ w, (underlying T).run P w = .ok (.slice E) w) (hs : ∀ w, (Go.sizeOf E).run P w = .ok sz w)
    (ha : a = (i : Int)) (hb : i < len) (ht : Nat.blt t n = true) (h : KO P ops d Q n D w0 ((t, .pointer (some (ad.add (i * sz)))) :: G) L l) : KO P ops d Q n D w0 G L ((k, ⟨some t, .indexAddr T x y, ty, pos, af, none⟩) :: l) :=
  KO.val (fun a' w ha' => by
    subst ha
    have : (0 : Int) ≤ (i : Int) ∧ (i : Int) < (len : Int) := ⟨by omega, by omega⟩
    simp [execOp, ha'.eval hx, ha'.eval hy, Instr.indexAt, hu w, asIntOf, hs w, this, hb]) ht h
theorem KO.fldH {fs : Array Field} {f sz off : Nat} {fd : Field} (hx : ev G x = some (.pointer (some ad))) (hu : ∀ w, (underlying T).run P w = .ok (.struct fs) w) (hf : fs[f]? = some fd) (ho : fd.offset = off) (hs : ∀ w, (Go.sizeOf fd.type).run P w = .ok (sz + 1) w) (ht : Nat.blt t n = true)
    (h : KO P ops d Q n D w0 ((t, .pointer (some (ad.add off))) :: G) L l) : KO P ops d Q n D w0 G L ((k, ⟨some t, .fieldAddr T x f, ty, pos, af, none⟩) :: l) :=
  KO.fld hx hu hf hs ht (by rw [ho]; exact h)
end
end WB
