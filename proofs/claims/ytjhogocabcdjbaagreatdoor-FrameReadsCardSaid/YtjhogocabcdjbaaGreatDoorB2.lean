import Derived.WideLaws
import Derived.Stop.Asserts
import Derived.Lib.ItoaLen
import Derived.Lib.Join
import Derived.ProofKit
import Derived.OpenShut
import Derived.Deep.DeepHandedRow
import Derived.Deep.Slices
import Derived.Lay
import Derived.LaidHandle
import Derived.Lib.LaidTab
import Derived.Lib.AppendIntMem
import Derived.RangeFuncRecord
import Derived.RangeFuncCalls
import Derived.RangeFuncBound
import Derived.OrdersIn
import Derived.Lib.SplitLaws
import Derived.Lib.AtoiAll
import Derived.Lib.IndexLaws
import Derived.Lib.IndexBytes
import Derived.Lib.ItoaMem
import Derived.Laws.Strings3
import Derived.Laws.Slices
import Derived.Test.YtjhogocabcdjbaaGreatDoorShelf
import Derived.Lib.AtoiErrMem
import Derived.Test.YtjhogocabcdjbaaGreatDoorB1
set_option linter.unusedSimpArgs false
set_option linter.unusedVariables false
/- the steps of the calculus: structs compared, errors asked for, slices that came in -/
namespace WB
open Go Go.RowKit
deriving instance DecidableEq for Ms
section
variable {P : Program} {w : World} {d : Nat} {xs ys : Array Value} {f : Field} {fs : List Field} {r : Bool}
theorem part_one {T : TypeId} {off : Nat} {v : Value} (ha : (isAgg T).run P w = .ok false w) (hx : xs[off]? = some v) : (part T xs off).run P w = .ok v w := by
  simp [part, ha, hx]
theorem eqF_int {k : IntKind} {a c : Int} (hn : f.name ≠ "_") (hu : P.underlying f.type = some (.int k)) (hT : (isAgg f.type).run P w = .ok false w) (hx : xs[f.offset]? = some (.int k a)) (hy : ys[f.offset]? = some (.int k c)) (h : (Op.eqFields (d + 1) xs ys fs).run P w = .ok r w) :
    (Op.eqFields (d + 1) xs ys (f :: fs)).run P w = .ok (decide (a = c) && r) w := by
  simp only [Op.eqFields, if_pos hn, Sem.run_bind, part_one hT hx, part_one hT hy, Result.andThen_ok, run_equalIn_int w d _ _ k a c hu]
  by_cases e : a = c
  · subst e; simp [h]
  · simp [e]
theorem eqF_str {a c : ByteArray} (hn : f.name ≠ "_") (hu : P.underlying f.type = some .string) (hT : (isAgg f.type).run P w = .ok false w) (hx : xs[f.offset]? = some (.string a)) (hy : ys[f.offset]? = some (.string c)) (h : (Op.eqFields (d + 1) xs ys fs).run P w = .ok r w) :
    (Op.eqFields (d + 1) xs ys (f :: fs)).run P w = .ok (decide (a = c) && r) w := by
  simp only [Op.eqFields, if_pos hn, Sem.run_bind, part_one hT hx, part_one hT hy, Result.andThen_ok, run_equalIn_string w d _ _ _ hu, toList_eq_iff]
  by_cases e : a = c
  · subst e; simp [h]
  · simp [e]
theorem eqF_nil : (Op.eqFields d xs ys []).run P w = .ok true w := by simp [Op.eqFields]
theorem ms_bools (a b : Ms) : (decide (a.id = b.id) && (decide (a.pri = b.pri) && (decide (a.body = b.body) && (decide (a.queue = b.queue) && (decide (a.house = b.house) && true))))) = decide (a = b) := by
  obtain ⟨a1, a2, a3, a4, a5⟩ := a
  obtain ⟨b1, b2, b3, b4, b5⟩ := b
  rw [Bool.eq_iff_iff]; simp
end
/-- these parts, in this order, and no others -/
inductive PAll : List HP → List HP → Prop
  | nil {L : List HP} : PAll L []
  | cons {L R M : List HP} {A : HP} (p : Pick L A R) (h : PAll R M) : PAll L (A :: M)
theorem PAll.drop {A : HP} {L M : List HP} (h : PAll L M) : PAll (A :: L) M := by
  induction h with
  | nil => exact .nil
  | cons p _ ih => exact .cons (.tail p) ih
theorem PAll.refl : ∀ {L : List HP}, PAll L L
  | [] => .nil
  | _ :: _ => .cons .head PAll.refl
theorem PAll.seps {L M : List HP} (h : PAll L M) : ∀ x, WB.seps L x → ∃ h1 h2, Disj h1 h2 ∧ x = uni h1 h2 ∧ WB.seps M h2 := by
  induction h with
  | nil => exact fun x _ => ⟨x, fun _ => none, fun _ => .inr rfl, by rw [uni_comm (fun _ => .inr rfl), uni_emp fun _ => rfl], fun _ => rfl⟩
  | cons p _ ih =>
    intro x hx
    obtain ⟨h1, h2, d, rfl, a, b⟩ := p.seps hx
    obtain ⟨g1, g2, d2, rfl, c⟩ := ih h2 b
    rw [disj_uni'] at d
    refine ⟨g1, uni h1 g2, disj_uni'.2 ⟨d.1.symm, d2⟩, ?_, h1, g2, d.2, rfl, a, c⟩
    rw [← uni_assoc, ← uni_assoc, uni_comm d.1]
theorem St.all {w0 w : World} {L M : List HP} (hw : St w0 L w) (h : PAll L M) : St w0 M w := by
  obtain ⟨x, hx, hs⟩ := hw.own
  obtain ⟨h1, h2, d, rfl, hm⟩ := h.seps x hs
  refine { hw with own := ⟨h2, fun k o hk => hx k o ?_, hm⟩ }
  rw [uni_comm d]
  unfold uni; rw [hk]; rfl
/-- what is left of a number by a small one -/
def pk (a n : Int) : Int := (a % 18446744073709551616) % n
theorem pk_lt (a : Int) {n : Int} (h1 : 1 ≤ n) : 0 ≤ pk a n ∧ pk a n < n := ⟨Int.emod_nonneg _ (by omega), Int.emod_lt_of_pos _ (by omega)⟩
section
variable {P : Program} {ops : Array Oper} {d : Bool} {Q : Exit → Act → World → Prop} {n : Nat} {D : List Deferred} {w0 : World} {G : Env} {L R : List HP} {l : List (Kd × Oper)} {k : Kd}
  {t : Nat} {op : Op} {ty T T' E EN : TypeId} {pos : String} {af : Array Edge} {x y z : Operand} {v u : Value} {b : Bool} {i off : Nat} {a c r : Int} {ad : Addr} {kk : IntKind}
theorem KO.eqA {xs ys : Array Value} (hx : ev G x = some (.agg xs)) (hy : ev G y = some (.agg ys)) (hg : P.eqGuardType P.depth T = false) (hr : ∀ w, (Op.equalIn 10000 T (.agg xs) (.agg ys)).run P w = .ok b w) (ht : Nat.blt t n = true) (h : KO P ops d Q n D w0 ((t, .bool b) :: G) L l) :
    KO P ops d Q n D w0 G L ((k, ⟨some t, .binOp .eql T x y T', ty, pos, af, none⟩) :: l) :=
  KO.val (fun a w ha => by simp [execOp, ha.eval hx, ha.eval hy, run_eqGuard_agg w _ _ _ _ _ _ hg, run_eql_struct, hr w]) ht h
theorem KO.neA {xs ys : Array Value} (hx : ev G x = some (.agg xs)) (hy : ev G y = some (.agg ys)) (hg : P.eqGuardType P.depth T = false) (hr : ∀ w, (Op.equalIn 10000 T (.agg xs) (.agg ys)).run P w = .ok b w) (ht : Nat.blt t n = true) (h : KO P ops d Q n D w0 ((t, .bool (!b)) :: G) L l) :
    KO P ops d Q n D w0 G L ((k, ⟨some t, .binOp .neq T x y T', ty, pos, af, none⟩) :: l) :=
  KO.val (fun a w ha => by simp [execOp, ha.eval hx, ha.eval hy, run_eqGuard_agg w _ _ _ _ _ _ hg, run_neq_struct, hr w]) ht h
theorem KO.eqN (hx : ev G x = some (errV EN c)) (hT : P.underlying T = some (.interface (P.methodsAt T))) (ht : Nat.blt t n = true) (h : KO P ops d Q n D w0 ((t, .bool (decide (c = 0))) :: G) L l) :
    KO P ops d Q n D w0 G L ((k, ⟨some t, .binOp .eql T x (.const .nilIface) T', ty, pos, af, none⟩) :: l) :=
  KO.val (fun a w ha => by
    simp only [execOp, ha.eval hx, show a.eval (.const .nilIface) = .nilIface from rfl]
    unfold errV
    by_cases h0 : c = 0
    · simp [h0, run_eql_nil_nil w T hT, eqGuard_nil_constR]
    · simp [h0, run_eql_held_nil w T _ _ hT, eqGuard_at_iface]) ht h
theorem KO.neN (hx : ev G x = some (errV EN c)) (hT : P.underlying T = some (.interface (P.methodsAt T))) (ht : Nat.blt t n = true) (h : KO P ops d Q n D w0 ((t, .bool (decide (c ≠ 0))) :: G) L l) :
    KO P ops d Q n D w0 G L ((k, ⟨some t, .binOp .neq T x (.const .nilIface) T', ty, pos, af, none⟩) :: l) :=
  KO.val (fun a w ha => by
    simp only [execOp, ha.eval hx, show a.eval (.const .nilIface) = .nilIface from rfl]
    unfold errV
    by_cases h0 : c = 0
    · simp [h0, run_neq_nil_nil w T hT, eqGuard_nil_constR]
    · simp [h0, run_neq_held_nil w T _ _ hT, eqGuard_at_iface]) ht h
/-- what holds between two pieces of code -/
def MidI {α : Type} (n : Nat) (D : List Deferred) (w0 : World) (E : α → Env) (H : α → List HP) (φ : α → Prop) (a : Act) (w : World) : Prop := ∃ y, φ y ∧ Knows n D (E y) a ∧ St w0 (H y) w
theorem K.mid {α : Type} {c1 c2 : Code} {L : List HP} (E : α → Env) (H : α → List HP) (φ : α → Prop) (h1 : K P c1 (Exit.then (MidI n D w0 E H φ) Q) n D w0 G L) (h2 : ∀ y, φ y → K P c2 Q n D w0 (E y) (H y)) : K P (.seq c1 c2) Q n D w0 G L := fun a w ha hw =>
  wp_seq (Go.wp_mono (h1 a w ha hw) fun e a w hq => by
    cases e with
    | normal => obtain ⟨y, hy, ha, hw⟩ := hq; exact h2 y hy a w ha hw
    | _ => exact hq)
theorem K.cut {α : Type} {c1 c2 : Code} {L : List HP} (E : α → Env) (H : α → List HP) (φ : α → Prop) (h1 : K P c1 (Exit.then (MidI n D w0 E H φ) Q) n D w0 G L) (h2 : ∀ y, φ y → K P c2 Q n D w0 (E y) (H y)) : K P c1 (Exit.then (c2.wp P Q) Q) n D w0 G L := fun a w ha hw =>
  Go.wp_mono (h1 a w ha hw) fun e a w hq => by
    cases e with
    | normal => obtain ⟨y, hy, ha, hw⟩ := hq; exact h2 y hy a w ha hw
    | _ => exact hq
theorem KQ.mid {α : Type} {E : α → Env} {H : α → List HP} {φ : α → Prop} (y : α) (hy : φ y) (hG : SubL G (E y)) (hL : ∀ w, St w0 L w → St w0 (H y) w) : KQ (Exit.then (MidI n D w0 E H φ) Q) .normal n D w0 G L := fun _ w ha hw => ⟨y, hy, ha.sub hG, hL w hw⟩
/-- a cell of a block, by its number -/
theorem KO.ldAt {b : Nat} {cs : List Value} {fz : Nat × Nat} (hk : (!d || k != .pure) = true) (hx : ev G x = some (.pointer (some ad))) (hT : ∀ w, (isAgg T).run P w = .ok false w) (hp : Pick L (blk b (.cells cs.toArray E fz)) R) (ha : ad = ⟨b, i, none⟩) (hc : cs[i]? = some v) (ht : Nat.blt t n = true)
    (h : KO P ops d Q n D w0 ((t, v) :: G) L l) : KO P ops d Q n D w0 G L ((k, ⟨some t, .load T x, ty, pos, af, none⟩) :: l) := KO.ld hk (ha ▸ hx) hT hp hc ht h
theorem putL_one (v : Value) : ∀ (i : Nat) (cs : List Value), i < cs.length → putL i [v] cs = cs.set i v
  | 0, c :: cs, _ => by simp [putL]
  | i + 1, c :: cs, h => by simp [putL, putL_one v i cs (by simpa using h)]
theorem KO.stAt {b : Nat} {cs : List Value} (hk : (!d || k == .write) = true) (hx : ev G x = some (.pointer (some ad))) (hy : ev G y = some v) (hv : v.cells = [v].toArray) (hn : ∀ w, (Go.sizeOf T).run P w = .ok 1 w) (h1 : v.oneCell' = true)
    (hp : Pick L (blk b (.cells cs.toArray E (0, 0))) R) (ha : ad = ⟨b, i, none⟩) (hi : i < cs.length) (h : KO P ops d Q n D w0 G (blk b (.cells (cs.set i v).toArray E (0, 0)) :: R) l) :
    KO P ops d Q n D w0 G L ((k, ⟨none, .store T x y, ty, pos, af, none⟩) :: l) :=
  KO.sto hk (ha ▸ hx) hy hv hn (by simp [h1]) hp (by simp [Nat.ble_eq]; omega) (putL_one v i cs hi) h
/-- the place of an element of a slice that lies anywhere -/
theorem KO.idxH {len cap sz : Nat} (hx : ev G x = some (.slice (some ad) len cap)) (hy : ev G y = some (.int kk a)) (hu : ∀ w, (underlying T).run P w = .ok (.slice E) w) (hs : ∀ w, (Go.sizeOf E).run P w = .ok sz w)
    (ha : a = (i : Int)) (hb : i < len) (ht : Nat.blt t n = true) (h : KO P ops d Q n D w0 ((t, .pointer (some (ad.add (i * sz)))) :: G) L l) : KO P ops d Q n D w0 G L ((k, ⟨some t, .indexAddr T x y, ty, pos, af, none⟩) :: l) :=
  KO.val (fun a' w ha' => by
    subst ha
    have : (0 : Int) ≤ (i : Int) ∧ (i : Int) < (len : Int) := ⟨by omega, by omega⟩
    simp [execOp, ha'.eval hx, ha'.eval hy, Instr.indexAt, hu w, asIntOf, hs w, this, hb]) ht h
theorem KO.fldH {fs : Array Field} {f sz off : Nat} {fd : Field} (hx : ev G x = some (.pointer (some ad))) (hu : ∀ w, (underlying T).run P w = .ok (.struct fs) w) (hf : fs[f]? = some fd) (ho : fd.offset = off) (hs : ∀ w, (Go.sizeOf fd.type).run P w = .ok (sz + 1) w) (ht : Nat.blt t n = true)
    (h : KO P ops d Q n D w0 ((t, .pointer (some (ad.add off))) :: G) L l) : KO P ops d Q n D w0 G L ((k, ⟨some t, .fieldAddr T x f, ty, pos, af, none⟩) :: l) :=
  KO.fld hx hu hf hs ht (by rw [ho]; exact h)
end
end WB
/- what the laws ask: pick, plain.Same, api.Tell; lined. -/
namespace Go.Proofs.YtjhogocabcdjbaaGreatDoor
open Go Go.RowKit WB
theorem tell_e (w0 : World) (L : List HP) (k : Int) (hg : ErrType w0) : KE Tryz.prog 177 #[errV 39 k] w0 L (fun u L' => u = .int .i64 k ∧ L' = L) := KE.of_below fun w hw => by
  unfold errV
  split
  · next h => subst h; exact tell_nil w
  · exact tell_errno k w ((Ext.of_below hw.below).cell hg)
theorem ms_eq (a b : Ms) (w : World) : (Op.equalIn 10000 31 (.agg (msC a).toArray) (.agg (msC b).toArray)).run Tryz.prog w = .ok (decide (a = b)) w := by
  rw [run_equalIn_agg w 9999 31 _ _ (by kernel_rfl) (by kernel_rfl), ← ms_bools]
  simp only [Program.fieldsOf, Tryz.underlying31]
  refine eqF_int (by decide) Tryz.underlying3 (Tryz.isAgg3 w) rfl rfl (eqF_int (by decide) Tryz.underlying3 (Tryz.isAgg3 w) rfl rfl (eqF_str (by decide) Tryz.underlying9 (Tryz.isAgg9 w) rfl rfl (eqF_str (by decide) Tryz.underlying9 (Tryz.isAgg9 w) rfl rfl (eqF_int (by decide) Tryz.underlying3 (Tryz.isAgg3 w) rfl rfl eqF_nil))))
theorem same_e (w0 : World) (L : List HP) (v1 v2 : Value) (xs ys : List Ms) (h1 : ∀ w, St w0 L w → RdS w 5 msC v1 xs) (h2 : ∀ w, St w0 L w → RdS w 5 msC v2 ys) (hx : xs.length < 1000000) (hy : ys.length < 1000000) :
    KE Tryz.prog 22 #[v1, v2] w0 L (fun u M => u = .bool (decide (xs = ys)) ∧ M = L) := by
  refine KE.mk (n := 26) Tryz.func22 rfl Tryz.ntmps22 (by simp) ?_
  intro w hw
  obtain ⟨a1, c1, rfl, ha1, hc1⟩ := h1 w hw
  obtain ⟨a2, c2, rfl, ha2, hc2⟩ := h2 w hw
  have fin : ∀ (b : Bool) (w' : World) (M : List HP), b = decide (xs = ys) → St w M w' → ∃ v L', Ending.returned (.bool b) = Ending.returned v ∧ (v = .bool (decide (xs = ys)) ∧ L' = L) ∧ St w0 L' w' ∧ Below w.heap.size w w' := fun b w' M e hs => ⟨_, _, rfl, ⟨by rw [e], rfl⟩, hw.below_step hs.below, hs.below⟩
  repeat ((with_reducible refine K.seq ?_))
  refine K.reg ?_
  refine KO.as rfl rfl ?_
  refine KO.nil ?_
  repeat (first | (with_reducible refine K.seq ?_) | (with_reducible refine KQ.next ?_))
  refine K.reg ?_
  refine KO.mv rfl rfl ?_
  refine KO.len rfl Tryz.underlying50 rfl ?_
  refine KO.mv rfl rfl ?_
  refine KO.len rfl Tryz.underlying50 rfl ?_
  refine KO.neI rfl rfl rfl ?_
  refine KO.nil ?_
  repeat ((with_reducible refine KQ.next ?_))
  refine K.condD rfl (fun h => ?_) (fun h => ?_)
  · repeat ((with_reducible refine K.seq ?_))
    refine K.reg ?_
    refine KO.as rfl rfl ?_
    refine KO.nil ?_
    repeat (first | (with_reducible refine KQ.next ?_) | (with_reducible refine KQ.then_ret ?_) | (with_reducible refine K.ret ?_))
    refine KQ.ret1 rfl rfl (fun w' hs => fin _ w' _ (by rw [eq_comm, decide_eq_false_iff_not]; rintro rfl; exact h rfl) hs)
  · have hlen : xs.length = ys.length := by omega
    repeat (first | (with_reducible refine K.seq ?_) | (with_reducible refine KQ.next ?_) | (with_reducible refine K.skip ?_))
    refine K.reg ?_
    refine KO.mv rfl rfl ?_
    refine KO.len rfl Tryz.underlying50 rfl ?_
    refine KO.mv rfl rfl ?_
    refine KO.nil ?_
    repeat (first | (with_reducible refine KQ.next ?_) | (with_reducible refine K.block ?_))
    refine K.loop (fun k : Nat => [(0, .slice a1 xs.length c1), (1, .slice a2 ys.length c2), (4, .bool false), (12, .int .i64 (xs.length : Nat)), (13, .int .i64 (k : Nat))]) (fun _ => []) (fun k => k ≤ xs.length ∧ xs.take k = ys.take k) (fun k => xs.length - k) 0
      ⟨Nat.zero_le _, rfl⟩ ⟨rfl, rfl, rfl, rfl, rfl, trivial⟩ (fun _ h => h) ?_
    rintro k ⟨hk, hkk⟩
    repeat ((with_reducible refine K.seq ?_))
    refine K.reg ?_
    refine KO.lss rfl rfl rfl ?_
    refine KO.nil ?_
    repeat (first | (with_reducible refine K.seq ?_) | (with_reducible refine KQ.next ?_))
    refine K.condD rfl (fun h3 => ?_) (fun h3 => ?_)
    · obtain ⟨g1, rfl⟩ := ha1 (by omega)
      obtain ⟨g2, rfl⟩ := ha2 (by omega)
      obtain ⟨e1, he1⟩ : ∃ e, xs[k]? = some e := ⟨xs[k], List.getElem?_eq_getElem (by omega)⟩
      obtain ⟨e2, he2⟩ : ∃ e, ys[k]? = some e := ⟨ys[k], List.getElem?_eq_getElem (by omega)⟩
      repeat (first | (with_reducible refine K.seq ?_) | (with_reducible refine KQ.next ?_) | (with_reducible refine K.skip ?_) | (with_reducible refine K.block ?_))
      refine K.reg ?_
      refine KO.mv rfl rfl ?_
      refine KO.as rfl rfl ?_
      refine KO.nil ?_
      repeat (first | (with_reducible refine K.seq ?_) | (with_reducible refine KQ.next ?_))
      refine K.draw [.pure, .pure, .pure, .read, .pure, .pure, .pure, .read, .pure] [0, 1, 2, 3, 4, 5, 6, 7, 8] (by kernel_rfl) (by kernel_rfl) ?_
      refine KO.mv rfl rfl ?_
      refine KO.mv rfl rfl ?_
      refine KO.idx0 rfl rfl Tryz.runUnderlying50 Tryz.sizeOf31 (by exact rfl) (by omega) rfl ?_
      refine KO.ldN0 (cs := (msC e1).toArray) rfl rfl Tryz.isAgg31 Tryz.sizeOf31 rfl (hc1 g1 rfl k e1 he1) rfl ?_
      refine KO.mv rfl rfl ?_
      refine KO.mv rfl rfl ?_
      refine KO.idx0 rfl rfl Tryz.runUnderlying50 Tryz.sizeOf31 (by exact rfl) (by omega) rfl ?_
      refine KO.ldN0 (cs := (msC e2).toArray) rfl rfl Tryz.isAgg31 Tryz.sizeOf31 rfl (hc2 g2 rfl k e2 he2) rfl ?_
      refine KO.neA rfl rfl (by kernel_rfl) (ms_eq e1 e2) rfl ?_
      refine KO.nil ?_
      repeat ((with_reducible refine KQ.next ?_))
      refine K.cond rfl (fun h4 => ?_) (fun h4 => ?_)
      · repeat ((with_reducible refine K.seq ?_))
        refine K.reg ?_
        refine KO.as rfl rfl ?_
        refine KO.nil ?_
        repeat (first | (with_reducible refine KQ.next ?_) | (with_reducible refine KQ.then_ret ?_) | (with_reducible refine KQ.blk_ret ?_) | (with_reducible refine K.ret ?_))
        refine KQ.ret1 rfl rfl (fun w' hs => fin _ w' _ ?_ hs)
        rw [eq_comm, decide_eq_false_iff_not]
        rintro rfl
        rw [he1] at he2
        simp only [Option.some.injEq] at he2
        simp [he2] at h4
      · have e12 : e1 = e2 := by simpa using h4
        repeat (first | (with_reducible refine KQ.next ?_) | (with_reducible refine KQ.blk_normal ?_) | (with_reducible refine K.skip ?_))
        refine K.reg ?_
        refine KO.add rfl rfl rfl (by omega) rfl ?_
        refine KO.mv rfl rfl ?_
        refine KO.nil ?_
        refine KQ.round (k + 1) ⟨by omega, by rw [take_succ_some he1, take_succ_some he2, hkk, e12]⟩ (by omega) ⟨rfl, rfl, rfl, rfl, rfl, trivial⟩ (fun _ hs => hs)
    · have hkl : k = xs.length := by omega
      repeat (first | (with_reducible refine K.seq ?_) | (with_reducible refine KQ.next ?_) | (with_reducible refine KQ.then_exit ?_) | (with_reducible refine KQ.blk_exit ?_) | (with_reducible refine K.exit ?_))
      refine K.reg ?_
      refine KO.as rfl rfl ?_
      refine KO.nil ?_
      repeat (first | (with_reducible refine KQ.next ?_) | (with_reducible refine K.ret ?_))
      refine KQ.ret1 rfl rfl (fun w' hs => fin _ w' _ ?_ hs)
      rw [eq_comm, decide_eq_true_eq]
      rw [hkl, List.take_length, hlen, List.take_length] at hkk
      exact hkk
end Go.Proofs.YtjhogocabcdjbaaGreatDoor
/- a region that draws its order, where some pairs of operations may come either way: each way is walked -/
namespace WB
open Go Go.RowKit
variable {P : Program} {ops : Array Oper} {Q : Exit → Act → World → Prop}
def via (anc : List (List Nat)) (x i : Nat) (q : Nat × Nat) : Bool := (q.1 == x || (anc.getD q.1 []).contains x) && (q.2 == i || (anc.getD i []).contains q.2)
theorem via_sound {anc : List (List Nat)} (hb : onlyBack ops = true) (ha : ancOk ops anc = true) {l : List Nat} (hv : Valid ops l) {q : Nat × Nat} (hE : ∀ p s, l = p ++ q.2 :: s → q.1 ∈ p) {x i : Nat} (h : via anc x i q = true) : ∀ p s, l = p ++ i :: s → x ∈ p := by
  intro p s hl
  unfold via at h
  simp only [Bool.and_eq_true, Bool.or_eq_true, beq_iff_eq] at h
  have lt : ∀ y, y ∈ l → y < ops.size := fun y hy => (hv.2.1 y).1 hy
  have h1 : q.1 ∈ p := by
    rcases h.2 with e | e
    · exact hE p s (by rw [e]; exact hl)
    · have := anc_sound hb ha hv i i (Nat.le_refl _) (lt i (by rw [hl]; simp)) p s hl q.2 (List.contains_iff_mem.1 e)
      obtain ⟨p1, p2, rfl⟩ := List.append_of_mem this
      have := hE p1 (p2 ++ i :: s) (by rw [hl]; simp)
      simp [this]
  rcases h.1 with e | e
  · rw [← e]; exact h1
  · obtain ⟨p1, p2, rfl⟩ := List.append_of_mem h1
    have := anc_sound hb ha hv q.1 q.1 (Nat.le_refl _) (lt q.1 (by rw [hl]; simp)) p1 (p2 ++ i :: s) (by rw [hl]; simp) x (List.contains_iff_mem.1 e)
    simp [this]
theorem main_stepE {E : List (Nat × Nat)} {ks : List Kd} {anc : List (List Nat)} (hb : onlyBack ops = true) (ha : ancOk ops anc = true) {l : List Nat} (hv : Valid ops l) (hE : ∀ q ∈ E, ∀ p s, l = p ++ q.2 :: s → q.1 ∈ p) :
    ∀ (s p rem : List Nat), l = p ++ s → (∀ x, x ∈ rem ↔ x ∈ s) →
      pairsOk (fun x i => !(x == i) && ((anc.getD i []).contains x || (lightFree ops ks x i || E.any (via anc x i)))) rem = true →
      ∀ a w, vcL P ops Q (rem.map (item ops ks)) a w → wpOps P ops Q s a w
  | [], p, rem, hl, hm, hp, a, w, h => by
    have : rem = [] := List.eq_nil_iff_forall_not_mem.2 fun x hx => by simpa using (hm x).1 hx
    subst this; exact h
  | i :: s, p, rem, hl, hm, hp, a, w, h => by
    have hi : i < ops.size := (hv.2.1 i).1 (by rw [hl]; simp)
    have hnd := hv.1
    rw [hl] at hnd
    have hnp : ∀ x ∈ i :: s, x ∉ p := fun x hx hxp => (List.nodup_append.1 hnd).2.2 x hxp x hx rfl
    have hns : i ∉ s := (List.nodup_cons.1 (List.nodup_append.1 hnd).2.1).1
    obtain ⟨pre, post, rfl⟩ := List.append_of_mem ((hm i).2 List.mem_cons_self)
    obtain ⟨h1, h2, h3⟩ := pairsOk_split pre hp
    have hpre : ∀ x ∈ pre, lightFree ops ks x i = true := fun x hx => by
      have hf := h1 x hx
      simp only [Bool.and_eq_true, Bool.or_eq_true] at hf
      rcases hf.2 with hc | hc | hc
      · have hxp := anc_sound hb ha hv i i (Nat.le_refl _) hi p s hl x (List.contains_iff_mem.1 hc)
        exact absurd hxp (hnp x ((hm x).1 (by simp [hx])))
      · exact hc
      · obtain ⟨q, hq, hqv⟩ := List.any_eq_true.1 hc
        have hxp := via_sound hb ha hv (hE q hq) hqv p s hl
        exact absurd hxp (hnp x ((hm x).1 (by simp [hx])))
    have hbub := bubble pre hpre a w h
    have hm' : ∀ x, x ∈ pre ++ post ↔ x ∈ s := fun x => by
      have hx := hm x
      constructor
      · intro hxx
        have hx2 : x ∈ pre ++ i :: post := by
          rcases List.mem_append.1 hxx with e | e <;> simp [e]
        rcases List.mem_cons.1 (hx.1 hx2) with rfl | e
        · exfalso
          rcases List.mem_append.1 hxx with e | e
          · have := h1 x e; simp at this
          · have := h3 x e; simp at this
        · exact e
      · intro hxs
        have := hx.2 (List.mem_cons_of_mem _ hxs)
        rcases List.mem_append.1 this with e | e
        · simp [e]
        · rcases List.mem_cons.1 e with rfl | e
          · exact absurd hxs hns
          · simp [e]
    have IH := main_stepE hb ha hv hE s (p ++ [i]) (pre ++ post) (by rw [hl]; simp) hm' h2
    have hget : ops[i]? = some (item ops ks i).2 := by simp [item, hi]
    simp only [List.map_cons] at hbub
    simp only [wpOps, hget]
    cases hw : Region.wanted (item ops ks i).2 (yielded ops a.tmps) with
    | false =>
      simp only [Bool.false_eq_true, if_false]
      rw [show item ops ks i = ((item ops ks i).1, (item ops ks i).2) from rfl, vcL_no hw] at hbub
      exact IH _ _ hbub
    | true =>
      simp only [if_true]
      left
      rw [show item ops ks i = ((item ops ks i).1, (item ops ks i).2) from rfl] at hbub
      by_cases hlt : (item ops ks i).1.light = true
      · rw [vcL_light hlt hw] at hbub
        obtain ⟨v, hv', hr⟩ := hbub
        have hst : stays (item ops ks i).1 w w := by
          cases (item ops ks i).1 <;> first | trivial | exact Ext.refl w | rfl
        unfold Oper.wp
        rcases hv' w hst with hg | ⟨f, args, hg, hcall⟩
        · rw [hg]; exact IH _ _ hr
        · rw [hg]
          refine hcall.mono ?_
          rintro e w' ⟨rfl, rfl⟩
          exact IH _ _ hr
      · generalize hk : (item ops ks i).1 = k at hbub hlt
        cases k with
        | keep => rw [vcL_keep hw] at hbub; exact wp_mono_F (fun a w hh => IH _ _ hh.2) hbub
        | write => rw [vcL_write hw] at hbub; exact wp_mono_F (fun a w hh => IH _ _ hh) hbub
        | _ => exact absurd rfl hlt

/-- for each of these pairs, which comes first -/
def ways : List (Nat × Nat) → List (List (Nat × Nat))
  | [] => [[]]
  | q :: r => (ways r).map (q :: ·) ++ (ways r).map ((q.2, q.1) :: ·)
theorem ways_some {l : List Nat} (hn : l.Nodup) : ∀ (X : List (Nat × Nat)), (∀ q ∈ X, q.1 ∈ l ∧ q.2 ∈ l ∧ q.1 ≠ q.2) → ∃ E ∈ ways X, (∀ q ∈ E, ∀ p s, l = p ++ q.2 :: s → q.1 ∈ p) ∧ ∀ q ∈ E, q.2 ∈ l
  | [], _ => ⟨[], by simp [ways], (fun _ h => by cases h), fun _ h => by cases h⟩
  | q :: X, h => by
    obtain ⟨E, hE, hall, hmem⟩ := ways_some hn X fun q hq => h q (List.mem_cons_of_mem _ hq)
    obtain ⟨h1, h2, h3⟩ := h q List.mem_cons_self
    obtain ⟨p1, s1, hl⟩ := List.append_of_mem h2
    have uniq : ∀ {y : Nat} {p s p' s' : List Nat}, l = p ++ y :: s → l = p' ++ y :: s' → p = p' := by
      intro y p s p' s' e1 e2
      have : ∀ (p p' s s' : List Nat), (p ++ y :: s).Nodup → p ++ y :: s = p' ++ y :: s' → p = p' := by
        intro p
        induction p with
        | nil =>
          intro p' s s' hn e
          cases p' with
          | nil => rfl
          | cons x p' =>
            simp only [List.nil_append, List.cons_append, List.cons.injEq] at e
            obtain ⟨rfl, e⟩ := e
            simp only [List.nil_append, List.nodup_cons] at hn
            exact absurd (by rw [e]; simp) hn.1
        | cons x p ih =>
          intro p' s s' hn e
          cases p' with
          | nil =>
            simp only [List.nil_append, List.cons_append, List.cons.injEq] at e
            obtain ⟨rfl, e⟩ := e
            simp only [List.cons_append, List.nodup_cons] at hn
            exact absurd (by simp) hn.1
          | cons x' p' =>
            simp only [List.cons_append, List.cons.injEq] at e
            simp only [List.cons_append, List.nodup_cons] at hn
            rw [e.1, ih p' s s' hn.2 e.2]
      exact this p p' s s' (e1 ▸ hn) (e1.symm.trans e2)
    by_cases hin : q.1 ∈ p1
    · refine ⟨q :: E, by simp only [ways, List.mem_append, List.mem_map]; exact .inl ⟨E, hE, rfl⟩, fun q' hq' p s e => ?_, fun q' hq' => (List.mem_cons.1 hq').elim (fun e => e ▸ h2) (hmem q')⟩
      rcases List.mem_cons.1 hq' with rfl | hq'
      · rw [← uniq hl e]; exact hin
      · exact hall q' hq' p s e
    · refine ⟨(q.2, q.1) :: E, by simp only [ways, List.mem_append, List.mem_map]; exact .inr ⟨E, hE, rfl⟩, fun q' hq' p s e => ?_, fun q' hq' => (List.mem_cons.1 hq').elim (fun e => e ▸ h1) (hmem q')⟩
      rcases List.mem_cons.1 hq' with rfl | hq'
      · dsimp only at e ⊢
        have h4 : q.1 ∈ s1 := by
          have := h1; rw [hl] at this
          simp only [List.mem_append, List.mem_cons] at this
          rcases this with a | a | a
          · exact absurd a hin
          · exact absurd a h3
          · exact a
        obtain ⟨p2, s2, rfl⟩ := List.append_of_mem h4
        have e2 : l = (p1 ++ q.2 :: p2) ++ q.1 :: s2 := by rw [hl]; simp
        rw [← uniq e2 e]; simp
      · exact hall q' hq' p s e
def okRE (ops : Array Oper) (ks : List Kd) (E : List (Nat × Nat)) (ord : List Nat) : Bool :=
  let anc := mkAnc ops.toList []
  onlyBack ops && (ancOk ops anc && ((List.range ops.size).all (fun i => ord.contains i) && (ord.all (fun i => Nat.blt i ops.size) &&
    pairsOk (fun x i => !(x == i) && ((anc.getD i []).contains x || (lightFree ops ks x i || E.any (via anc x i)))) ord)))
/-- no schedule goes so -/
def badE (ops : Array Oper) (E : List (Nat × Nat)) : Bool :=
  let anc := mkAnc ops.toList []
  ancOk ops anc && E.any fun q => E.any (via anc q.2 q.1)
theorem badE_sound {E : List (Nat × Nat)} (hb : onlyBack ops = true) {l : List Nat} (hv : Valid ops l) (hE : ∀ q ∈ E, ∀ p s, l = p ++ q.2 :: s → q.1 ∈ p) (hm : ∀ q ∈ E, q.2 ∈ l) (h : badE ops E = true) : False := by
  simp only [badE, Bool.and_eq_true] at h
  obtain ⟨ha, h⟩ := h
  obtain ⟨q, hq, h⟩ := List.any_eq_true.1 h
  obtain ⟨q', hq', h⟩ := List.any_eq_true.1 h
  obtain ⟨p1, s1, hl⟩ := List.append_of_mem (hm q hq)
  obtain ⟨a, b, rfl⟩ := List.append_of_mem (hE q hq p1 s1 hl)
  have := via_sound hb ha hv (hE q' hq') h a (b ++ q.2 :: s1) (by rw [hl]; simp)
  have hn := hv.1
  rw [hl] at hn
  simp only [List.append_assoc, List.cons_append] at hn
  exact (List.nodup_append.1 hn).2.2 q.2 this q.2 (by simp) rfl
def okX (ops : Array Oper) (ks : List Kd) : List (List (Nat × Nat)) → List (List Nat) → Bool
  | [], [] => true
  | E :: r, O => if badE ops E then okX ops ks r O else match O with | o :: s => okRE ops ks E o && okX ops ks r s | [] => false
  | _, _ => false
@[reducible] def allD (f : List Nat → Prop) : List (List Nat) → Prop
  | [] => True
  | o :: r => f o ∧ allD f r
theorem okX_some {ks : List Kd} {f : List Nat → Prop} {E : List (Nat × Nat)} : ∀ {W : List (List (Nat × Nat))} {O : List (List Nat)}, okX ops ks W O = true → allD f O → E ∈ W → badE ops E = true ∨ ∃ o, okRE ops ks E o = true ∧ f o
  | [], _, _, _, h => by cases h
  | F :: r, O, h, hf, hE => by
    cases hB : badE ops F with
    | true =>
      have h2 : okX ops ks r O = true := by unfold okX at h; rw [hB] at h; simpa using h
      rcases List.mem_cons.1 hE with rfl | hE
      · exact .inl hB
      · exact okX_some h2 hf hE
    | false =>
      unfold okX at h
      rw [hB] at h
      cases O with
      | nil => simp at h
      | cons o s =>
        simp only [Bool.false_eq_true, if_false, Bool.and_eq_true] at h
        rcases List.mem_cons.1 hE with rfl | hE
        · exact .inr ⟨o, h.1, hf.1⟩
        · exact okX_some h.2 hf.2 hE
theorem wp_region_ways {id : Nat} {a : Act} {w : World} (ks : List Kd) (X : List (Nat × Nat)) (O : List (List Nat)) (hmix : P.follows .mixedOrders = true) (hX : (onlyBack ops && X.all fun q => Nat.blt q.1 ops.size && (Nat.blt q.2 ops.size && !(q.1 == q.2))) = true) (hok : okX ops ks (ways X) O = true)
    (h : allD (fun ord => vcL P ops Q (ord.map (item ops ks)) a w.drew) O) : (Code.region id ops true).wp P Q a w := by
  rw [Bool.and_eq_true] at hX
  obtain ⟨hb, hX⟩ := hX
  refine wp_region_draw fun t => ?_
  have hv : Valid ops (Region.schedule (P.follows .mixedOrders) ops t) := schedule_valid _ hmix _ _ fun i o ho d hd => by
    have hi : i < ops.size := (Array.getElem?_eq_some_iff.1 ho).1
    have h1 := List.all_eq_true.1 (List.all_eq_true.1 hb i (List.mem_range.2 hi)) d (by
      have : ops.toList.getD i default = o := by
        simp [Array.getElem?_eq_getElem hi] at ho ⊢
        simp [ho]
      rw [this]; exact hd)
    simpa [Nat.blt_eq] using h1
  generalize Region.schedule (P.follows .mixedOrders) ops t = l at hv ⊢
  obtain ⟨E, hE, hEl, hEm⟩ := ways_some hv.1 X fun q hq => by
    have := List.all_eq_true.1 hX q hq
    simp only [Bool.and_eq_true, Nat.blt_eq, Bool.not_eq_true', beq_eq_false_iff_ne] at this
    exact ⟨(hv.2.1 _).2 this.1, (hv.2.1 _).2 this.2.1, this.2.2⟩
  rcases okX_some hok h hE with hbad | ⟨ord, hok, h⟩
  · exact (badE_sound hb hv hEl hEm hbad).elim
  simp only [okRE, Bool.and_eq_true] at hok
  obtain ⟨hb, ha, hall, hlt, hp⟩ := hok
  refine main_stepE hb ha hv hEl l [] ord rfl (fun x => ?_) hp a _ h
  rw [hv.2.1 x]
  constructor
  · intro hx; simpa [Nat.blt_eq] using List.all_eq_true.1 hlt x hx
  · intro hx; exact List.contains_iff_mem.1 (List.all_eq_true.1 hall x (List.mem_range.2 hx))
theorem allD_mono {f g : List Nat → Prop} (h : ∀ o, f o → g o) : ∀ {O : List (List Nat)}, allD f O → allD g O
  | [], _ => trivial
  | _ :: _, hf => ⟨h _ hf.1, allD_mono h hf.2⟩
theorem K.drawX {n : Nat} {D : List Deferred} {w0 : World} {G : Env} {L : List HP} {id : Nat} (ks : List Kd) (X : List (Nat × Nat)) (O : List (List Nat)) (hmix : P.follows .mixedOrders = true) (hX : (onlyBack ops && X.all fun q => Nat.blt q.1 ops.size && (Nat.blt q.2 ops.size && !(q.1 == q.2))) = true) (hok : okX ops ks (ways X) O = true)
    (h : allD (fun ord => KO P ops true Q n D w0 G L (ord.map (item ops ks))) O) : K P (.region id ops true) Q n D w0 G L := fun a _ ha hw =>
  wp_region_ways ks X O hmix hX hok (allD_mono (fun _ hh => hh a _ ha hw.drew) h)
end WB
/- the steps of the calculus: empty slices, slices appended to slices -/
namespace WB
open Go Go.RowKit
/-- a slice, wherever it lies, that reads so -/
def Src {α : Type} (w : World) (cf : α → List Value) (v : Value) (xs : List α) : Prop :=
  ∃ a cap, v = .slice a xs.length cap ∧ (a = none → xs = []) ∧ ∀ ad, a = some ad → HasCells w ad (xs.flatMap cf)
section
variable {w0 w : World} {L R : List HP} {E : TypeId} {α : Type} {cf : α → List Value} {sz : Nat} {xs ys : List α} {v : Value}
theorem flatC_len (hsz : ∀ e, (cf e).length = sz) : ∀ xs : List α, (xs.flatMap cf).length = xs.length * sz
  | [] => by simp
  | a :: l => by simp [flatC_len hsz l, hsz, Nat.succ_mul]; omega
theorem HasCells.take {ad : Addr} {cs ds : List Value} (h : HasCells w ad (cs ++ ds)) : HasCells w ad cs := fun j c hj => h j c (by rw [List.getElem?_append_left (List.getElem?_eq_some_iff.1 hj).1]; exact hj)
theorem Src.of (hp : Pick L (SL E sz cf v xs) R) (w : World) (hw : St w0 L w) : Src w cf v xs := by
  rcases (hw.pick hp).osl_cases with ⟨h1, h2, h3, _⟩ | ⟨g, cap, cur, h1, h2, h3, h4, h5, h6, h7⟩
  · have : xs = [] := List.eq_nil_of_length_eq_zero h2
    exact ⟨none, 0, by rw [h1, this]; rfl, fun _ => this, fun ad h => (by cases h)⟩
  · refine ⟨some ⟨g, 0, none⟩, cap, h1, (fun h => by cases h), fun ad h => ?_⟩
    cases h
    have hl := h7.look.2
    intro j c hj
    rw [Addr.add_lit, World.cell?, hl]
    rw [← h5, List.getElem?_take] at hj
    split at hj
    · simpa using hj
    · simp at hj
theorem Src.take {a : Option Addr} {len cap : Nat} (h : Src w cf (.slice a len cap) xs) (k : Nat) (hk : k ≤ xs.length) : Src w cf (.slice a k cap) (xs.take k) := by
  obtain ⟨b, c, e, h1, h2⟩ := h
  simp only [Value.slice.injEq] at e
  obtain ⟨rfl, rfl, rfl⟩ := e
  refine ⟨a, cap, by rw [List.length_take, Nat.min_eq_left hk], fun e => by rw [h1 e]; simp, fun ad e => ?_⟩
  have := h2 ad e
  rw [← List.take_append_drop k xs, List.flatMap_append] at this
  exact this.take
theorem Src.cut (hsz : ∀ e, (cf e).length = sz) {g len cap : Nat} (h : Src w cf (.slice (some ⟨g, 0, none⟩) len cap) xs) (k : Nat) (hk : k ≤ xs.length) (hc : xs.length ≤ cap) : Src w cf (.slice (some (cutAt g k sz cap)) (xs.length - k) (cap - k)) (xs.drop k) := by
  obtain ⟨b, c, e, h1, h2⟩ := h
  simp only [Value.slice.injEq] at e
  obtain ⟨rfl, rfl, rfl⟩ := e
  refine ⟨_, _, by rw [List.length_drop], (fun e => by cases e), fun ad e => ?_⟩
  cases e
  unfold cutAt
  by_cases hck : cap = k
  · have : xs.drop k = [] := List.drop_eq_nil_of_le (by omega)
    rw [this]; exact fun j c hj => by simp at hj
  · rw [if_neg hck]
    have := h2 _ rfl
    rw [← List.take_append_drop k xs, List.flatMap_append] at this
    intro j c hj
    have h3 := this (k * sz + j) c (by
      rw [List.getElem?_append_right (by rw [flatC_len hsz, List.length_take]; have := Nat.mul_le_mul_right sz (Nat.min_le_left k xs.length); omega)]
      rw [flatC_len hsz, List.length_take, Nat.min_eq_left hk]
      simpa using hj)
    rw [Addr.add_lit] at h3 ⊢
    simpa using h3
theorem Src.ext {w' : World} (h : Src w cf v xs) (e : Ext w w') : Src w' cf v xs := by
  obtain ⟨a, cap, h1, h2, h3⟩ := h
  exact ⟨a, cap, h1, h2, fun ad ha => (h3 ad ha).ext e⟩
theorem SL_cap {g n cap : Nat} (hw : St w0 (SL E sz cf (.slice (some ⟨g, 0, none⟩) n cap) xs :: R) w) : n = xs.length ∧ n ≤ cap := by
  obtain ⟨h1, h2, _⟩ := SL_open hw
  exact ⟨h1, h2⟩
end
section
variable {P : Program} {ops : Array Oper} {d : Bool} {Q : Exit → Act → World → Prop} {n : Nat} {D : List Deferred} {w0 : World} {G : Env} {L R R' N : List HP} {l : List (Kd × Oper)} {k : Kd}
  {t : Nat} {op : Op} {ty T T' E E' : TypeId} {pos : String} {af : Array Edge} {x y : Operand} {v u z : Value} {i j : Nat} {a c r : Int} {ad : Addr} {α : Type} {cf : α → List Value} {sz by' : Nat} {xs ys : List α} {e e' : α}
theorem run_buildSlice0 (w : World) (t e : TypeId) (sz : Nat) (hu : P.underlying t = some (.slice e)) (hs : (Go.sizeOf e).run P w = .ok sz w) :
    (Instr.buildSlice t 0 #[]).run P w = .ok (.slice (some ⟨w.heap.size, 0, none⟩) 0 0) (w.alloc (.cells #[] e)) := by
  simp [Instr.buildSlice, run_underlying hu, hs, Instr.fill, newRow]
  rw [show Array.range 0 = #[] from rfl, Array.map_empty]
/-- []T{} -/
theorem KO.bs0 (cf : α → List Value) (hk : (!d || (k == .keep || k == .write)) = true) (hT : P.underlying T = some (.slice E)) (hs : ∀ w, (Go.sizeOf E).run P w = .ok sz w) (ht : Nat.blt t n = true)
    (h : ∀ bb, KO P ops d Q n D w0 ((t, .slice (some ⟨bb, 0, none⟩) 0 0) :: G) (SL E sz cf (.slice (some ⟨bb, 0, none⟩) 0 0) [] :: L) l) : KO P ops d Q n D w0 G L ((k, ⟨some t, .buildSlice T 0 #[], ty, pos, af, none⟩) :: l) := by
  refine KO.keepRun hk (F := fun bb => .slice (some ⟨bb, 0, none⟩) 0 0) (N := fun bb => SL E sz cf (.slice (some ⟨bb, 0, none⟩) 0 0) [] :: L) (fun a w ha hw => ⟨w.heap.size, w.alloc (.cells #[] E), ?_, Ext.alloc w _, ?_⟩) ht h
  · have hr := run_buildSlice0 (P := P) w T E sz hT (hs w)
    simp [execOp, hr]
  · exact (hw.alloc (.cells #[] E)).osl_mk (n := 0) (cap := 0) (Nat.le_refl _) (by unfold maxLen; omega) (by simp) (by simp)
theorem run_append_none (w : World) (t ty e : TypeId) (b : Option Addr) (m cap c s : Nat) (hu : P.underlying t = some (.slice e)) (hs : (Go.sizeOf e).run P w = .ok s w) (h : m ≤ cap) :
    (Builtin.append_ #[t, t] ty #[.slice b m cap, .slice none 0 c]).run P w = .ok (.slice b m cap) w := by
  cases b <;> simp [Builtin.append_, run_underlying hu, hs, Builtin.lenOf, Builtin.firstCells, h, storeCells]
/-- append(x, y...) -/
theorem KO.appS (hk : (!d || k == .write) = true) (hx : ev G x = some v) (hy : ev G y = some u) (hp : Pick L (SL E sz cf v xs) R) (hs : ∀ w, St w0 L w → Src w cf u ys)
    (hT : P.underlying T = some (.slice E)) (hi : (P.info? E).map (fun i => (i.zero, i.size, i.bytes)) = some (some z, sz, by')) (hzs : z.cells.size = sz) (hsz : ∀ e, (cf e).length = sz) (h1 : ∀ e, (cf e).all Value.oneCell' = true) (hb : xs.length + ys.length < 1000000000) (hby : by' ≤ 10000) (ht : Nat.blt t n = true)
    (h : ∀ v', KO P ops d Q n D w0 ((t, v') :: G) (SL E sz cf v' (xs ++ ys) :: R) l) : KO P ops d Q n D w0 G L ((k, ⟨some t, .call ⟨.builtin .append, #[x, y], #[T, T]⟩, ty, pos, af, none⟩) :: l) := by
  obtain ⟨i0, hi1, hz0, hz1, hz2⟩ := info_parts hi
  refine KO.wvE hk (F := fun v' => SL E sz cf v' (xs ++ ys) :: R) (fun a w ha hw => ?_) ht h
  have hw2 := hw.pick hp
  obtain ⟨sa, cap, rfl, hn, hc⟩ := hs w hw
  cases sa with
  | none =>
    obtain rfl := hn rfl
    obtain ⟨b, c2, rfl, hb2⟩ : ∃ b c2, v = .slice b xs.length c2 ∧ xs.length ≤ c2 := by
      rcases hw2.osl_cases with ⟨h1, h2, _⟩ | ⟨g, cap, cur, h1, h2, _⟩
      · exact ⟨none, 0, by rw [h1, h2], by omega⟩
      · exact ⟨_, cap, h1, h2⟩
    refine ⟨.slice b xs.length c2, w, exec_append2 x y T T rfl _ _ (ha.eval hx) (ha.eval hy) (run_append_none (P := P) w T ty E b _ c2 cap sz hT (by simp [Go.sizeOf, typeInfo, hi1, hz1]) hb2), ?_⟩
    rw [List.append_nil]; exact hw2
  | some ad =>
    have hcells := hc ad rfl
    have hbb : (xs.length + ys.length) * by' ≤ 140737488355328 := by
      have := Nat.mul_le_mul (show xs.length + ys.length ≤ 1000000000 by omega) hby; omega
    obtain ⟨v', w', hr, hst⟩ := append_st (P := P) T ty E i0 z sz by' hT hi1 hz0 hz1 hz2 hzs hw2 ad ys.length cap (ys.flatMap cf) (flatC_len hsz ys) hcells (flat_one (fun e u hu => List.all_eq_true.1 (h1 e) u hu) ys) (by unfold maxLen; omega) hbb
    refine ⟨v', w', exec_append2 x y T T rfl v _ (ha.eval hx) (ha.eval hy) hr, ?_⟩
    show St w0 (osl E sz v' (xs ++ ys).length ((xs ++ ys).flatMap cf) :: R) w'
    rw [List.length_append, List.flatMap_append]
    exact hst
theorem LSub.nil : ∀ (M : List HP), LSub [] M
  | [] => .refl
  | _ :: M => .drop (LSub.nil M)
/-- a byte of a string -/
theorem KO.idxStr {s : ByteArray} {b : UInt8} (hx : ev G x = some (.string s)) (hy : ev G y = some (.int .i64 a)) (hT : P.underlying T = some .string) (ha : a = (i : Int)) (hc : s[i]? = some b) (ht : Nat.blt t n = true)
    (h : KO P ops d Q n D w0 ((t, .int .u8 (b.toNat : Nat)) :: G) L l) : KO P ops d Q n D w0 G L ((k, ⟨some t, .index T x y, ty, pos, af, none⟩) :: l) :=
  KO.val (fun a' w ha' => by
    subst ha
    simp [execOp, ha'.eval hx, ha'.eval hy, Instr.index, asIntOf, run_underlying hT, hc]) ht h
/-- x.(I), ok: it has not all of I's methods -/
theorem KO.taN {T0 : TypeId} {want : Array (String × TypeId)} (hx : ev G x = some (.iface T0 v)) (hu : P.underlying T' = some (.interface want)) (hl : (P.info? T0).map (fun i => (lacking want i.methods).isEmpty) = some false) (hz : (P.info? T').map (·.zero) = some (some z)) (ht : Nat.blt t n = true)
    (h : KO P ops d Q n D w0 ((t, .tuple #[z, .bool false]) :: G) L l) : KO P ops d Q n D w0 G L ((k, ⟨some t, .typeAssert x T T' true, ty, pos, af, none⟩) :: l) :=
  KO.val (fun a' w ha' => by
    simp [execOp, ha'.eval hx, run_typeAssert_lacksB hu hl hz v T w]) ht h
def noIface (u : Option TypeDesc) : Bool := match u with | some (.interface _) => false | none => false | some _ => true
theorem KO.taC {T0 : TypeId} (hx : ev G x = some (.iface T0 v)) (hu : noIface (P.underlying T') = true) (hne : Nat.beq T0 T' = false) (hz : ∀ w, (zeroValue T').run P w = .ok z w) (ht : Nat.blt t n = true)
    (h : KO P ops d Q n D w0 ((t, .tuple #[z, .bool false]) :: G) L l) : KO P ops d Q n D w0 G L ((k, ⟨some t, .typeAssert x T T' true, ty, pos, af, none⟩) :: l) :=
  KO.val (fun a' w ha' => by
    have hn : ¬ T0 = T' := fun e => by rw [e, Nat.beq_refl] at hne; cases hne
    cases hd : P.underlying T' with
    | none => rw [hd] at hu; cases hu
    | some dd =>
      rw [hd] at hu
      simp only [execOp, ha'.eval hx, Instr.typeAssert, run_underlying hd, Sem.run_bind, Result.andThen_ok]
      cases dd <;> first | (cases hu; done) | simp [hn, hz w]) ht h
theorem KO.taY (hx : ev G x = some (.iface T' v)) (hu : noIface (P.underlying T') = true) (ht : Nat.blt t n = true)
    (h : KO P ops d Q n D w0 ((t, .tuple #[v, .bool true]) :: G) L l) : KO P ops d Q n D w0 G L ((k, ⟨some t, .typeAssert x T T' true, ty, pos, af, none⟩) :: l) :=
  KO.val (fun a' w ha' => by
    cases hd : P.underlying T' with
    | none => rw [hd] at hu; cases hu
    | some dd =>
      rw [hd] at hu
      simp only [execOp, ha'.eval hx, Instr.typeAssert, run_underlying hd, Sem.run_bind, Result.andThen_ok]
      cases dd <;> first | (cases hu; done) | simp) ht h
theorem KO.neIf {T0 : TypeId} (hx : ev G x = some (.iface T0 v)) (hT : P.underlying T = some (.interface (P.methodsAt T))) (ht : Nat.blt t n = true) (h : KO P ops d Q n D w0 ((t, .bool true) :: G) L l) :
    KO P ops d Q n D w0 G L ((k, ⟨some t, .binOp .neq T x (.const .nilIface) T', ty, pos, af, none⟩) :: l) :=
  KO.val (fun a w ha => by
    simp only [execOp, ha.eval hx, show a.eval (.const .nilIface) = .nilIface from rfl]
    simp [run_neq_held_nil w T _ _ hT, eqGuard_at_iface]) ht h
theorem KO.eqIf {T0 : TypeId} (hx : ev G x = some (.iface T0 v)) (hT : P.underlying T = some (.interface (P.methodsAt T))) (ht : Nat.blt t n = true) (h : KO P ops d Q n D w0 ((t, .bool false) :: G) L l) :
    KO P ops d Q n D w0 G L ((k, ⟨some t, .binOp .eql T x (.const .nilIface) T', ty, pos, af, none⟩) :: l) :=
  KO.val (fun a w ha => by
    simp only [execOp, ha.eval hx, show a.eval (.const .nilIface) = .nilIface from rfl]
    simp [run_eql_held_nil w T _ _ hT, eqGuard_at_iface]) ht h
theorem KO.neI0 (hx : ev G x = some .nilIface) (hT : P.underlying T = some (.interface (P.methodsAt T))) (ht : Nat.blt t n = true) (h : KO P ops d Q n D w0 ((t, .bool false) :: G) L l) :
    KO P ops d Q n D w0 G L ((k, ⟨some t, .binOp .neq T x (.const .nilIface) T', ty, pos, af, none⟩) :: l) :=
  KO.val (fun a w ha => by
    simp only [execOp, ha.eval hx, show a.eval (.const .nilIface) = .nilIface from rfl]
    simp [run_neq_nil_nil w T hT, eqGuard_nil_constR]) ht h
theorem KO.eqI0 (hx : ev G x = some .nilIface) (hT : P.underlying T = some (.interface (P.methodsAt T))) (ht : Nat.blt t n = true) (h : KO P ops d Q n D w0 ((t, .bool true) :: G) L l) :
    KO P ops d Q n D w0 G L ((k, ⟨some t, .binOp .eql T x (.const .nilIface) T', ty, pos, af, none⟩) :: l) :=
  KO.val (fun a w ha => by
    simp only [execOp, ha.eval hx, show a.eval (.const .nilIface) = .nilIface from rfl]
    simp [run_eql_nil_nil w T hT, eqGuard_nil_constR]) ht h
theorem KO.nePn {E : TypeId} (hx : ev G x = some (.pointer (some ad))) (hT : P.underlying T = some (.pointer E)) (ht : Nat.blt t n = true) (h : KO P ops d Q n D w0 ((t, .bool true) :: G) L l) :
    KO P ops d Q n D w0 G L ((k, ⟨some t, .binOp .neq T x (.const (.pointer none)) T', ty, pos, af, none⟩) :: l) :=
  KO.val (fun a w ha => by
    simp only [execOp, ha.eval hx, show a.eval (.const (.pointer none)) = .pointer none from rfl]
    simp [go_sem, hT]) ht h
end
end WB
namespace WB
open Go Go.RowKit
section
variable {P : Program} {fn : Func} {R : Ending → World → Prop} {n : Nat} {w0 : World} {G : Env} {L M : List HP} {v v1 v2 v3 : Value} {t t1 t2 t3 : Nat} {T E : TypeId} {b : Nat} {cs : List Value} {fz : Nat × Nat}
theorem KQ.retTC (hr : fn.results = #[.tmp t2, .cell t1 T]) (h1 : envAt G t1 = some (.pointer (some ⟨b, 0, none⟩))) (hT : ∀ w, (isAgg T).run P w = .ok true w) (hp : Pick L (blk b (.cells cs.toArray E fz)) M) (hn : ∀ w, (Go.sizeOf T).run P w = .ok cs.length w)
    (h2 : envAt G t2 = some v2) (h : ∀ w, St w0 L w → R (.returned (.tuple #[v2, .agg cs.toArray])) w) : KQ (bodyPost P fn R) .ret n [] w0 G L :=
  KQ.fin (fun a w ha hw => by
    have hl := resC (P := P) h1 hT hn hp a w ha hw
    simp [results, hr, Array.getD_eq_getD_getElem?, ha.get _ _ h1, ha.get _ _ h2, asAddr, hl]) h
end
end WB
namespace WB
open Go Go.RowKit
theorem KE.turn {P : Program} {f : FuncId} {args : Array Value} {w0 : World} {L : List HP} {R R' : Value → List HP → Prop} (h : KE P f args w0 L R) (hr : ∀ v M, R v M → ∃ M', R' v M' ∧ ∀ w, St w0 M w → St w0 M' w) : KE P f args w0 L R' := fun w hw =>
  (h w hw).mono fun _ _ ⟨v, M, e, r, s, b⟩ => let ⟨M', r', c⟩ := hr v M r; ⟨v, M', e, r', c _ s, b⟩
end WB
/- the document's words: what may be; errors held beside it. -/
namespace Go.Proofs.YtjhogocabcdjbaaGreatDoor
open Go Go.RowKit WB
theorem in_e (w0 : World) (L : List HP) (n a b : Int) : KE Tryz.prog 62 #[.int .i64 n, .int .i64 a, .int .i64 b] w0 L (fun u M => u = .bool (decide (a ≤ n) && decide (n ≤ b)) ∧ M = L) := by
  refine KE.mk (n := 15) Tryz.func62 rfl Tryz.ntmps62 (by simp) ?_
  intro w hw
  repeat ((with_reducible refine K.seq ?_))
  refine K.reg ?_
  refine KO.as rfl rfl ?_
  refine KO.nil ?_
  repeat (first | (with_reducible refine K.seq ?_) | (with_reducible refine KQ.next ?_))
  by_cases h : a ≤ n
  · refine K.reg ?_
    refine KO.mv rfl rfl ?_
    refine KO.mv rfl rfl ?_
    refine KO.leq rfl rfl rfl ?_
    refine KO.mv rfl rfl ?_
    (refine KO.on rfl rfl ?_ ?_; (focus (simp only [decide_eq_true_eq, decide_eq_false_iff_not, Bool.not_eq_true, Bool.not_true, Bool.not_false, ne_eq]; omega)); (refine KO.mv rfl rfl ?_))
    (refine KO.on rfl rfl ?_ ?_; (focus (simp only [decide_eq_true_eq, decide_eq_false_iff_not, Bool.not_eq_true, Bool.not_true, Bool.not_false, ne_eq]; omega)); (refine KO.mv rfl rfl ?_))
    (refine KO.on rfl rfl ?_ ?_; (focus (simp only [decide_eq_true_eq, decide_eq_false_iff_not, Bool.not_eq_true, Bool.not_true, Bool.not_false, ne_eq]; omega)); (refine KO.leq rfl rfl rfl ?_))
    (refine KO.pickT rfl ?_ rfl rfl ?_; (focus (simp only [decide_eq_true_eq, decide_eq_false_iff_not, Bool.not_eq_true, Bool.not_true, Bool.not_false, ne_eq]; omega)))
    refine KO.as rfl rfl ?_
    refine KO.nil ?_
    repeat (first | (with_reducible refine KQ.next ?_) | (with_reducible refine K.ret ?_))
    refine KQ.ret1 rfl rfl (fun w' hs => ⟨_, _, rfl, ⟨by simp [h], rfl⟩, hw.below_step hs.below, hs.below⟩)
  · refine K.reg ?_
    refine KO.mv rfl rfl ?_
    refine KO.mv rfl rfl ?_
    refine KO.leq rfl rfl rfl ?_
    refine KO.mv rfl rfl ?_
    (refine KO.no rfl rfl ?_ rfl ?_; (focus (simp only [decide_eq_true_eq, decide_eq_false_iff_not, Bool.not_eq_true, Bool.not_true, Bool.not_false, ne_eq]; omega)))
    (refine KO.no rfl rfl ?_ rfl ?_; (focus (simp only [decide_eq_true_eq, decide_eq_false_iff_not, Bool.not_eq_true, Bool.not_true, Bool.not_false, ne_eq]; omega)))
    (refine KO.no rfl rfl ?_ rfl ?_; (focus (simp only [decide_eq_true_eq, decide_eq_false_iff_not, Bool.not_eq_true, Bool.not_true, Bool.not_false, ne_eq]; omega)))
    (refine KO.pickF rfl ?_ rfl rfl ?_; (focus (simp only [decide_eq_true_eq, decide_eq_false_iff_not, Bool.not_eq_true, Bool.not_true, Bool.not_false, ne_eq]; omega)))
    refine KO.as rfl rfl ?_
    refine KO.nil ?_
    repeat (first | (with_reducible refine KQ.next ?_) | (with_reducible refine K.ret ?_))
    refine KQ.ret1 rfl rfl (fun w' hs => ⟨_, _, rfl, ⟨by simp [h], rfl⟩, hw.below_step hs.below, hs.below⟩)
theorem isLet_of (c : UInt8) : isLet c = ((decide ((97 : Int) ≤ (c.toNat : Nat)) && decide (((c.toNat : Nat) : Int) ≤ 122)) || (decide ((48 : Int) ≤ (c.toNat : Nat)) && decide (((c.toNat : Nat) : Int) ≤ 57))) := by
  unfold isLet
  have e : ∀ n : Fin 256, ((97 : UInt8) ≤ UInt8.ofNat n.val ↔ (97 : Int) ≤ (n.val : Nat)) ∧ (UInt8.ofNat n.val ≤ (122 : UInt8) ↔ ((n.val : Nat) : Int) ≤ 122) ∧ ((48 : UInt8) ≤ UInt8.ofNat n.val ↔ (48 : Int) ≤ (n.val : Nat)) ∧ (UInt8.ofNat n.val ≤ (57 : UInt8) ↔ ((n.val : Nat) : Int) ≤ 57) := by decide +kernel
  have h := e ⟨c.toNat, c.toNat_lt⟩
  simp only [UInt8.ofNat_toNat] at h
  simp only [h.1, h.2.1, h.2.2.1, h.2.2.2]
theorem rletters_e (w0 : World) (L : List HP) (s : ByteArray) (m : Nat) (hs : s.size ≤ maxLen) : KE Tryz.prog 103 #[.string s, .int .i64 (m : Nat)] w0 L (fun u M => u = .bool (lettersB s m) ∧ M = L) := by
  refine KE.mk (n := 35) Tryz.func103 rfl Tryz.ntmps103 (by simp) ?_
  intro w hw
  have hs9 : s.size ≤ 9223372036854775807 := by unfold maxLen at hs; exact hs
  repeat ((with_reducible refine K.seq ?_))
  refine K.reg ?_
  refine KO.as rfl rfl ?_
  refine KO.nil ?_
  repeat (first | (with_reducible refine K.seq ?_) | (with_reducible refine KQ.next ?_))
  refine K.reg ?_
  refine KO.mv rfl rfl ?_
  refine KO.lenS rfl Tryz.underlying9 rfl ?_
  refine KO.mv rfl rfl ?_
  refine KO.nil ?_
  repeat (first | (with_reducible refine KQ.next ?_) | (with_reducible refine K.block ?_))
  refine K.loop (fun k : Nat => [(0, .string s), (1, .int .i64 (m : Nat)), (8, .int .i64 (s.size : Nat)), (9, .int .i64 (k : Nat))]) (fun _ => []) (fun k => k ≤ s.size ∧ ∀ j c, j < k → s[j]? = some c → isLet c = true) (fun k => s.size - k) 0
    ⟨Nat.zero_le _, fun j c h => by omega⟩ ⟨rfl, rfl, rfl, rfl, trivial⟩ (fun _ h => h) ?_
  rintro k ⟨hk, hall⟩
  repeat ((with_reducible refine K.seq ?_))
  refine K.reg ?_
  refine KO.lss rfl rfl rfl ?_
  refine KO.nil ?_
  repeat (first | (with_reducible refine K.seq ?_) | (with_reducible refine KQ.next ?_))
  refine K.condD rfl (fun h => ?_) (fun h => ?_)
  · obtain ⟨c, hc⟩ : ∃ c, s[k]? = some c := ⟨s[k]'(by omega), getElem?_eq_some_iff.2 ⟨by omega, rfl⟩⟩
    have hl := isLet_of c
    repeat (first | (with_reducible refine K.seq ?_) | (with_reducible refine KQ.next ?_) | (with_reducible refine K.skip ?_) | (with_reducible refine K.block ?_))
    refine K.reg ?_
    refine KO.mv rfl rfl ?_
    refine KO.as rfl rfl ?_
    refine KO.nil ?_
    repeat (first | (with_reducible refine K.seq ?_) | (with_reducible refine KQ.next ?_))
    refine K.reg ?_
    refine KO.mv rfl rfl ?_
    refine KO.mv rfl rfl ?_
    refine KO.idxStr rfl rfl Tryz.underlying9 (by exact rfl) (by assumption) rfl ?_
    refine KO.as rfl rfl ?_
    refine KO.nil ?_
    repeat (first | (with_reducible refine K.seq ?_) | (with_reducible refine KQ.next ?_))
    refine K.cut (fun b : Bool => [(29, .bool (!b)), (0, .string s), (1, .int .i64 (m : Nat)), (8, .int .i64 (s.size : Nat)), (9, .int .i64 (k : Nat))]) (fun _ => []) (fun b => b = isLet c) ?_ ?_
    · by_cases h1 : (97 : Int) ≤ (c.toNat : Nat)
      all_goals by_cases h2 : ((c.toNat : Nat) : Int) ≤ 122
      all_goals by_cases h3 : (48 : Int) ≤ (c.toNat : Nat)
      all_goals by_cases h4 : ((c.toNat : Nat) : Int) ≤ 57
      all_goals first | (exfalso; omega) | skip
      all_goals (simp only [h1, h2, h3, h4, decide_true, decide_false, Bool.and_true, Bool.and_false, Bool.or_true, Bool.or_false, Bool.true_or, Bool.false_or] at hl)
      all_goals (
        refine K.reg ?_
        refine KO.mv rfl rfl ?_
        refine KO.geq rfl rfl rfl ?_
        refine KO.mv rfl rfl ?_
        first | (refine KO.on rfl rfl ?_ ?_; (focus (simp only [decide_eq_true_eq, decide_eq_false_iff_not, Bool.not_eq_true, Bool.not_true, Bool.not_false, ne_eq]; omega)); (refine KO.mv rfl rfl ?_)) | (refine KO.no rfl rfl ?_ rfl ?_; (focus (simp only [decide_eq_true_eq, decide_eq_false_iff_not, Bool.not_eq_true, Bool.not_true, Bool.not_false, ne_eq]; omega)))
        first | (refine KO.on rfl rfl ?_ ?_; (focus (simp only [decide_eq_true_eq, decide_eq_false_iff_not, Bool.not_eq_true, Bool.not_true, Bool.not_false, ne_eq]; omega)); (refine KO.leq rfl rfl rfl ?_)) | (refine KO.no rfl rfl ?_ rfl ?_; (focus (simp only [decide_eq_true_eq, decide_eq_false_iff_not, Bool.not_eq_true, Bool.not_true, Bool.not_false, ne_eq]; omega)))
        first | (refine KO.pickT rfl ?_ rfl rfl ?_; (focus (simp only [decide_eq_true_eq, decide_eq_false_iff_not, Bool.not_eq_true, Bool.not_true, Bool.not_false, ne_eq]; omega))) | (refine KO.pickF rfl ?_ rfl rfl ?_; (focus (simp only [decide_eq_true_eq, decide_eq_false_iff_not, Bool.not_eq_true, Bool.not_true, Bool.not_false, ne_eq]; omega)))
        refine KO.mv rfl rfl ?_
        first | (refine KO.on rfl rfl ?_ ?_; (focus first | rfl | (simp only [decide_eq_true_eq, decide_eq_false_iff_not, Bool.not_eq_true, Bool.not_true, Bool.not_false, ne_eq]; omega)); (refine KO.mv rfl rfl ?_)) | (refine KO.no rfl rfl ?_ rfl ?_; (focus (simp only [decide_eq_true_eq, decide_eq_false_iff_not, Bool.not_eq_true, Bool.not_true, Bool.not_false, ne_eq]; omega)))
        first | (refine KO.on rfl rfl ?_ ?_; (focus first | rfl | (simp only [decide_eq_true_eq, decide_eq_false_iff_not, Bool.not_eq_true, Bool.not_true, Bool.not_false, ne_eq]; omega)); (refine KO.geq rfl rfl rfl ?_)) | (refine KO.no rfl rfl ?_ rfl ?_; (focus (simp only [decide_eq_true_eq, decide_eq_false_iff_not, Bool.not_eq_true, Bool.not_true, Bool.not_false, ne_eq]; omega)))
        first | (refine KO.on rfl rfl ?_ ?_; (focus first | rfl | (simp only [decide_eq_true_eq, decide_eq_false_iff_not, Bool.not_eq_true, Bool.not_true, Bool.not_false, ne_eq]; omega)); (refine KO.mv rfl rfl ?_)) | (refine KO.no rfl rfl ?_ rfl ?_; (focus (simp only [decide_eq_true_eq, decide_eq_false_iff_not, Bool.not_eq_true, Bool.not_true, Bool.not_false, ne_eq]; omega)))
        first | (refine KO.on rfl rfl ?_ ?_; (focus (simp only [decide_eq_true_eq, decide_eq_false_iff_not, Bool.not_eq_true, Bool.not_true, Bool.not_false, ne_eq]; omega)); (refine KO.mv rfl rfl ?_)) | (refine KO.no rfl rfl ?_ rfl ?_; (focus (simp only [decide_eq_true_eq, decide_eq_false_iff_not, Bool.not_eq_true, Bool.not_true, Bool.not_false, ne_eq]; omega))) | refine KO.no2 rfl rfl rfl ?_
        first | (refine KO.on rfl rfl ?_ ?_; (focus (simp only [decide_eq_true_eq, decide_eq_false_iff_not, Bool.not_eq_true, Bool.not_true, Bool.not_false, ne_eq]; omega)); (refine KO.leq rfl rfl rfl ?_)) | (refine KO.no rfl rfl ?_ rfl ?_; (focus (simp only [decide_eq_true_eq, decide_eq_false_iff_not, Bool.not_eq_true, Bool.not_true, Bool.not_false, ne_eq]; omega))) | refine KO.no2 rfl rfl rfl ?_
        first | (refine KO.on rfl rfl ?_ ?_; (focus first | rfl | (simp only [decide_eq_true_eq, decide_eq_false_iff_not, Bool.not_eq_true, Bool.not_true, Bool.not_false, ne_eq]; omega)); (first | (refine KO.pickT rfl ?_ rfl rfl ?_; (focus (simp only [decide_eq_true_eq, decide_eq_false_iff_not, Bool.not_eq_true, Bool.not_true, Bool.not_false, ne_eq]; omega))) | (refine KO.pickF rfl ?_ rfl rfl ?_; (focus (simp only [decide_eq_true_eq, decide_eq_false_iff_not, Bool.not_eq_true, Bool.not_true, Bool.not_false, ne_eq]; omega))))) | (refine KO.no rfl rfl ?_ rfl ?_; (focus (simp only [decide_eq_true_eq, decide_eq_false_iff_not, Bool.not_eq_true, Bool.not_true, Bool.not_false, ne_eq]; omega)))
        first | (refine KO.pickT rfl ?_ rfl rfl ?_; (focus (simp only [decide_eq_true_eq, decide_eq_false_iff_not, Bool.not_eq_true, Bool.not_true, Bool.not_false, ne_eq]; omega))) | (refine KO.pickF rfl ?_ rfl rfl ?_; (focus first | rfl | (simp only [decide_eq_true_eq, decide_eq_false_iff_not, Bool.not_eq_true, Bool.not_true, Bool.not_false, ne_eq]; omega)))
        refine KO.not rfl rfl ?_
        refine KO.nil ?_
        exact KQ.mid (isLet c) rfl ⟨by rw [hl]; first | rfl | simp [envAt, h1, h2, h3, h4], rfl, rfl, rfl, rfl, trivial⟩ (fun _ h => h))
    rintro b rfl
    refine K.cond rfl (fun h5 => ?_) (fun h5 => ?_)
    · repeat ((with_reducible refine K.seq ?_))
      refine K.reg ?_
      refine KO.as rfl rfl ?_
      refine KO.nil ?_
      repeat (first | (with_reducible refine KQ.next ?_) | (with_reducible refine KQ.then_ret ?_) | (with_reducible refine KQ.blk_ret ?_) | (with_reducible refine K.ret ?_))
      refine KQ.ret1 rfl rfl (fun w' hs' => ⟨_, _, rfl, ⟨?_, rfl⟩, hw.below_step hs'.below, hs'.below⟩)
      have : allLet s = false := by
        unfold allLet
        rw [List.all_eq_false]
        obtain ⟨hlt, rfl⟩ := getElem?_eq_some_iff.1 hc
        exact ⟨s[k], Array.mem_toList_iff.2 (Array.getElem_mem (xs := s.data) hlt), by simpa using h5⟩
      simp [lettersB, this]
    · repeat (first | (with_reducible refine KQ.next ?_) | (with_reducible refine KQ.blk_normal ?_) | (with_reducible refine K.skip ?_))
      refine K.reg ?_
      refine KO.add rfl rfl rfl (by omega) rfl ?_
      refine KO.mv rfl rfl ?_
      refine KO.nil ?_
      refine KQ.round (k + 1) ⟨by omega, fun j d hj hd => ?_⟩ (by omega) ⟨rfl, rfl, rfl, rfl, trivial⟩ (fun _ h => h)
      by_cases hjk : j = k
      · subst hjk; rw [hc] at hd; cases hd; simpa using h5
      · exact hall j d (by omega) hd
  · have hall2 : allLet s = true := by
      unfold allLet
      rw [List.all_eq_true]
      intro c hc
      obtain ⟨j, hj, rfl⟩ := List.getElem_of_mem hc
      have hj2 : j < s.size := by simpa using hj
      exact hall j _ (by omega) (getElem?_eq_some_iff.2 ⟨hj2, rfl⟩)
    repeat (first | (with_reducible refine K.seq ?_) | (with_reducible refine KQ.next ?_) | (with_reducible refine KQ.then_exit ?_) | (with_reducible refine KQ.blk_exit ?_) | (with_reducible refine K.exit ?_))
    refine K.reg ?_
    refine KO.mv rfl rfl ?_
    refine KO.lenS rfl Tryz.underlying9 rfl ?_
    refine KO.mv rfl rfl ?_
    refine KO.ce (cp := []) rfl rfl rfl Tryz.call62 rfl (in_e w _ _ _ _) ?_; rintro v' L' ⟨rfl, rfl⟩
    refine KO.as rfl rfl ?_
    refine KO.nil ?_
    repeat (first | (with_reducible refine KQ.next ?_) | (with_reducible refine K.ret ?_))
    refine KQ.ret1 rfl rfl (fun w' hs' => ⟨_, _, rfl, ⟨?_, rfl⟩, hw.below_step hs'.below, hs'.below⟩)
    simp only [lettersB, hall2, Bool.and_true]
    congr 2
    · exact decide_eq_decide.2 (by omega)
    · exact decide_eq_decide.2 (by omega)
theorem rword_e (w0 : World) (L : List HP) (s : ByteArray) (hs : s.size ≤ maxLen) : KE Tryz.prog 64 #[.string s] w0 L (fun u M => u = .bool (wordB s) ∧ M = L) := by
  refine KE.mk (n := 5) Tryz.func64 rfl Tryz.ntmps64 (by simp) ?_
  intro w hw
  repeat ((with_reducible refine K.seq ?_))
  refine K.reg ?_
  refine KO.as rfl rfl ?_
  refine KO.nil ?_
  repeat (first | (with_reducible refine K.seq ?_) | (with_reducible refine KQ.next ?_))
  refine K.reg ?_
  refine KO.mv rfl rfl ?_
  refine KO.ce (cp := []) rfl rfl rfl Tryz.call103 rfl (rletters_e w _ s 8 hs) ?_; rintro v' L' ⟨rfl, rfl⟩
  refine KO.as rfl rfl ?_
  refine KO.nil ?_
  repeat (first | (with_reducible refine KQ.next ?_) | (with_reducible refine K.ret ?_))
  refine KQ.ret1 rfl rfl (fun w' hs' => ⟨_, _, rfl, ⟨rfl, rfl⟩, hw.below_step hs'.below, hs'.below⟩)
theorem rbody_e (w0 : World) (L : List HP) (s : ByteArray) (hs : s.size ≤ maxLen) : KE Tryz.prog 63 #[.string s] w0 L (fun u M => u = .bool (bodyB s) ∧ M = L) := by
  refine KE.mk (n := 5) Tryz.func63 rfl Tryz.ntmps63 (by simp) ?_
  intro w hw
  repeat ((with_reducible refine K.seq ?_))
  refine K.reg ?_
  refine KO.as rfl rfl ?_
  refine KO.nil ?_
  repeat (first | (with_reducible refine K.seq ?_) | (with_reducible refine KQ.next ?_))
  refine K.reg ?_
  refine KO.mv rfl rfl ?_
  refine KO.ce (cp := []) rfl rfl rfl Tryz.call103 rfl (rletters_e w _ s 12 hs) ?_; rintro v' L' ⟨rfl, rfl⟩
  refine KO.as rfl rfl ?_
  refine KO.nil ?_
  repeat (first | (with_reducible refine KQ.next ?_) | (with_reducible refine K.ret ?_))
  refine KQ.ret1 rfl rfl (fun w' hs' => ⟨_, _, rfl, ⟨rfl, rfl⟩, hw.below_step hs'.below, hs'.below⟩)
theorem rright_e (w0 : World) (L : List HP) (m : Ms) (hb : m.body.size ≤ maxLen) (hq : m.queue.size ≤ maxLen) : KE Tryz.prog 19 #[.agg (msC m).toArray] w0 L (fun u M => u = .bool (msRight m) ∧ M = L) := by
  refine KE.mk (n := 26) Tryz.func19 rfl Tryz.ntmps19 (by simp) ?_
  intro w hw
  have fin : ∀ (b : Bool) (w' : World) (M : List HP), b = msRight m → St w M w' → ∃ v L', Ending.returned (.bool b) = Ending.returned v ∧ (v = .bool (msRight m) ∧ L' = L) ∧ St w0 L' w' ∧ Below w.heap.size w w' := fun b w' M e hs => ⟨_, _, rfl, ⟨by rw [e], rfl⟩, hw.below_step hs.below, hs.below⟩
  have hd : msRight m = ((decide (0 ≤ m.id) && decide (m.id ≤ 1099511627776)) && ((decide (0 ≤ m.pri) && decide (m.pri ≤ 9)) && (bodyB m.body && (wordB m.queue && (decide (0 ≤ m.house) && decide (m.house ≤ 3)))))) := by
    unfold msRight
    rw [show decide (m.house < 4) = decide (m.house ≤ 3) from decide_eq_decide.2 (by omega)]
    simp only [Bool.and_assoc]
  repeat ((with_reducible refine K.seq ?_))
  refine K.reg ?_
  refine KO.box rfl rfl (by exact rfl) rfl ?_; intro b1
  refine KO.as rfl rfl ?_
  refine KO.nil ?_
  repeat (first | (with_reducible refine K.seq ?_) | (with_reducible refine KQ.next ?_))
  generalize hc1 : (decide (0 ≤ m.id) && decide (m.id ≤ 1099511627776)) = c1 at hd
  generalize hc2 : (decide (0 ≤ m.pri) && decide (m.pri ≤ 9)) = c2 at hd
  generalize hc3 : bodyB m.body = c3 at hd
  generalize hc4 : wordB m.queue = c4 at hd
  generalize hc5 : (decide (0 ≤ m.house) && decide (m.house ≤ 3)) = c5 at hd
  cases c1
  · refine K.reg ?_
    refine KO.fo0 (off := 0) rfl Tryz.runUnderlying31 rfl rfl Tryz.sizeOf3 rfl ?_
    refine KO.ld rfl rfl Tryz.isAgg3 (by with_reducible (repeat (exact Pick.head))) (by exact rfl) rfl ?_
    refine KO.ce (cp := []) rfl rfl rfl Tryz.call62 rfl (in_e w _ _ _ _) ?_; rintro v' L' ⟨rfl, rfl⟩; rw [hc1]
    refine KO.mv rfl rfl ?_
    (refine KO.no rfl rfl ?_ rfl ?_; (focus rfl))
    (refine KO.no rfl rfl ?_ rfl ?_; (focus rfl))
    (refine KO.no rfl rfl ?_ rfl ?_; (focus rfl))
    (refine KO.pickF rfl ?_ rfl rfl ?_; (focus rfl))
    refine KO.mv rfl rfl ?_
    (refine KO.no rfl rfl ?_ rfl ?_; (focus rfl))
    (refine KO.no rfl rfl ?_ rfl ?_; (focus rfl))
    (refine KO.no rfl rfl ?_ rfl ?_; (focus rfl))
    (refine KO.pickF rfl ?_ rfl rfl ?_; (focus rfl))
    refine KO.mv rfl rfl ?_
    (refine KO.no rfl rfl ?_ rfl ?_; (focus rfl))
    (refine KO.no rfl rfl ?_ rfl ?_; (focus rfl))
    (refine KO.no rfl rfl ?_ rfl ?_; (focus rfl))
    (refine KO.pickF rfl ?_ rfl rfl ?_; (focus rfl))
    refine KO.mv rfl rfl ?_
    (refine KO.no rfl rfl ?_ rfl ?_; (focus rfl))
    (refine KO.no rfl rfl ?_ rfl ?_; (focus rfl))
    (refine KO.no rfl rfl ?_ rfl ?_; (focus rfl))
    (refine KO.pickF rfl ?_ rfl rfl ?_; (focus rfl))
    refine KO.as rfl rfl ?_
    refine KO.nil ?_
    repeat (first | (with_reducible refine KQ.next ?_) | (with_reducible refine K.ret ?_))
    exact KQ.ret1 rfl rfl (fun w' hs => fin _ w' _ (by simp [hd]) hs)
  cases c2
  · refine K.reg ?_
    refine KO.fo0 (off := 0) rfl Tryz.runUnderlying31 rfl rfl Tryz.sizeOf3 rfl ?_
    refine KO.ld rfl rfl Tryz.isAgg3 (by with_reducible (repeat (exact Pick.head))) (by exact rfl) rfl ?_
    refine KO.ce (cp := []) rfl rfl rfl Tryz.call62 rfl (in_e w _ _ _ _) ?_; rintro v' L' ⟨rfl, rfl⟩; rw [hc1]
    refine KO.mv rfl rfl ?_
    (refine KO.on rfl rfl ?_ ?_; (focus rfl); (refine KO.fo0 (off := 1) rfl Tryz.runUnderlying31 rfl rfl Tryz.sizeOf3 rfl ?_))
    (refine KO.on rfl rfl ?_ ?_; (focus rfl); (refine KO.ld rfl rfl Tryz.isAgg3 (by with_reducible (repeat (exact Pick.head))) (by exact rfl) rfl ?_))
    refine KO.on rfl rfl rfl ?_; refine KO.ce (cp := []) rfl rfl rfl Tryz.call62 rfl (in_e w _ _ _ _) ?_; rintro v' L' ⟨rfl, rfl⟩; rw [hc2]
    (refine KO.pickT rfl ?_ rfl rfl ?_; (focus rfl))
    refine KO.mv rfl rfl ?_
    (refine KO.no rfl rfl ?_ rfl ?_; (focus rfl))
    (refine KO.no rfl rfl ?_ rfl ?_; (focus rfl))
    (refine KO.no rfl rfl ?_ rfl ?_; (focus rfl))
    (refine KO.pickF rfl ?_ rfl rfl ?_; (focus rfl))
    refine KO.mv rfl rfl ?_
    (refine KO.no rfl rfl ?_ rfl ?_; (focus rfl))
    (refine KO.no rfl rfl ?_ rfl ?_; (focus rfl))
    (refine KO.no rfl rfl ?_ rfl ?_; (focus rfl))
    (refine KO.pickF rfl ?_ rfl rfl ?_; (focus rfl))
    refine KO.mv rfl rfl ?_
    (refine KO.no rfl rfl ?_ rfl ?_; (focus rfl))
    (refine KO.no rfl rfl ?_ rfl ?_; (focus rfl))
    (refine KO.no rfl rfl ?_ rfl ?_; (focus rfl))
    (refine KO.pickF rfl ?_ rfl rfl ?_; (focus rfl))
    refine KO.as rfl rfl ?_
    refine KO.nil ?_
    repeat (first | (with_reducible refine KQ.next ?_) | (with_reducible refine K.ret ?_))
    exact KQ.ret1 rfl rfl (fun w' hs => fin _ w' _ (by simp [hd]) hs)
  cases c3
  · refine K.reg ?_
    refine KO.fo0 (off := 0) rfl Tryz.runUnderlying31 rfl rfl Tryz.sizeOf3 rfl ?_
    refine KO.ld rfl rfl Tryz.isAgg3 (by with_reducible (repeat (exact Pick.head))) (by exact rfl) rfl ?_
    refine KO.ce (cp := []) rfl rfl rfl Tryz.call62 rfl (in_e w _ _ _ _) ?_; rintro v' L' ⟨rfl, rfl⟩; rw [hc1]
    refine KO.mv rfl rfl ?_
    (refine KO.on rfl rfl ?_ ?_; (focus rfl); (refine KO.fo0 (off := 1) rfl Tryz.runUnderlying31 rfl rfl Tryz.sizeOf3 rfl ?_))
    (refine KO.on rfl rfl ?_ ?_; (focus rfl); (refine KO.ld rfl rfl Tryz.isAgg3 (by with_reducible (repeat (exact Pick.head))) (by exact rfl) rfl ?_))
    refine KO.on rfl rfl rfl ?_; refine KO.ce (cp := []) rfl rfl rfl Tryz.call62 rfl (in_e w _ _ _ _) ?_; rintro v' L' ⟨rfl, rfl⟩; rw [hc2]
    (refine KO.pickT rfl ?_ rfl rfl ?_; (focus rfl))
    refine KO.mv rfl rfl ?_
    (refine KO.on rfl rfl ?_ ?_; (focus rfl); (refine KO.fo0 (off := 2) rfl Tryz.runUnderlying31 rfl rfl Tryz.sizeOf9 rfl ?_))
    (refine KO.on rfl rfl ?_ ?_; (focus rfl); (refine KO.ld rfl rfl Tryz.isAgg9 (by with_reducible (repeat (exact Pick.head))) (by exact rfl) rfl ?_))
    refine KO.on rfl rfl rfl ?_; refine KO.ce (cp := []) rfl rfl rfl Tryz.call63 rfl (rbody_e w _ _ hb) ?_; rintro v' L' ⟨rfl, rfl⟩; rw [hc3]
    (refine KO.pickT rfl ?_ rfl rfl ?_; (focus rfl))
    refine KO.mv rfl rfl ?_
    (refine KO.no rfl rfl ?_ rfl ?_; (focus rfl))
    (refine KO.no rfl rfl ?_ rfl ?_; (focus rfl))
    (refine KO.no rfl rfl ?_ rfl ?_; (focus rfl))
    (refine KO.pickF rfl ?_ rfl rfl ?_; (focus rfl))
    refine KO.mv rfl rfl ?_
    (refine KO.no rfl rfl ?_ rfl ?_; (focus rfl))
    (refine KO.no rfl rfl ?_ rfl ?_; (focus rfl))
    (refine KO.no rfl rfl ?_ rfl ?_; (focus rfl))
    (refine KO.pickF rfl ?_ rfl rfl ?_; (focus rfl))
    refine KO.as rfl rfl ?_
    refine KO.nil ?_
    repeat (first | (with_reducible refine KQ.next ?_) | (with_reducible refine K.ret ?_))
    exact KQ.ret1 rfl rfl (fun w' hs => fin _ w' _ (by simp [hd]) hs)
  cases c4
  · refine K.reg ?_
    refine KO.fo0 (off := 0) rfl Tryz.runUnderlying31 rfl rfl Tryz.sizeOf3 rfl ?_
    refine KO.ld rfl rfl Tryz.isAgg3 (by with_reducible (repeat (exact Pick.head))) (by exact rfl) rfl ?_
    refine KO.ce (cp := []) rfl rfl rfl Tryz.call62 rfl (in_e w _ _ _ _) ?_; rintro v' L' ⟨rfl, rfl⟩; rw [hc1]
    refine KO.mv rfl rfl ?_
    (refine KO.on rfl rfl ?_ ?_; (focus rfl); (refine KO.fo0 (off := 1) rfl Tryz.runUnderlying31 rfl rfl Tryz.sizeOf3 rfl ?_))
    (refine KO.on rfl rfl ?_ ?_; (focus rfl); (refine KO.ld rfl rfl Tryz.isAgg3 (by with_reducible (repeat (exact Pick.head))) (by exact rfl) rfl ?_))
    refine KO.on rfl rfl rfl ?_; refine KO.ce (cp := []) rfl rfl rfl Tryz.call62 rfl (in_e w _ _ _ _) ?_; rintro v' L' ⟨rfl, rfl⟩; rw [hc2]
    (refine KO.pickT rfl ?_ rfl rfl ?_; (focus rfl))
    refine KO.mv rfl rfl ?_
    (refine KO.on rfl rfl ?_ ?_; (focus rfl); (refine KO.fo0 (off := 2) rfl Tryz.runUnderlying31 rfl rfl Tryz.sizeOf9 rfl ?_))
    (refine KO.on rfl rfl ?_ ?_; (focus rfl); (refine KO.ld rfl rfl Tryz.isAgg9 (by with_reducible (repeat (exact Pick.head))) (by exact rfl) rfl ?_))
    refine KO.on rfl rfl rfl ?_; refine KO.ce (cp := []) rfl rfl rfl Tryz.call63 rfl (rbody_e w _ _ hb) ?_; rintro v' L' ⟨rfl, rfl⟩; rw [hc3]
    (refine KO.pickT rfl ?_ rfl rfl ?_; (focus rfl))
    refine KO.mv rfl rfl ?_
    (refine KO.on rfl rfl ?_ ?_; (focus rfl); (refine KO.fo0 (off := 3) rfl Tryz.runUnderlying31 rfl rfl Tryz.sizeOf9 rfl ?_))
    (refine KO.on rfl rfl ?_ ?_; (focus rfl); (refine KO.ld rfl rfl Tryz.isAgg9 (by with_reducible (repeat (exact Pick.head))) (by exact rfl) rfl ?_))
    refine KO.on rfl rfl rfl ?_; refine KO.ce (cp := []) rfl rfl rfl Tryz.call64 rfl (rword_e w _ _ hq) ?_; rintro v' L' ⟨rfl, rfl⟩; rw [hc4]
    (refine KO.pickT rfl ?_ rfl rfl ?_; (focus rfl))
    refine KO.mv rfl rfl ?_
    (refine KO.no rfl rfl ?_ rfl ?_; (focus rfl))
    (refine KO.no rfl rfl ?_ rfl ?_; (focus rfl))
    (refine KO.no rfl rfl ?_ rfl ?_; (focus rfl))
    (refine KO.pickF rfl ?_ rfl rfl ?_; (focus rfl))
    refine KO.as rfl rfl ?_
    refine KO.nil ?_
    repeat (first | (with_reducible refine KQ.next ?_) | (with_reducible refine K.ret ?_))
    exact KQ.ret1 rfl rfl (fun w' hs => fin _ w' _ (by simp [hd]) hs)
  · refine K.reg ?_
    refine KO.fo0 (off := 0) rfl Tryz.runUnderlying31 rfl rfl Tryz.sizeOf3 rfl ?_
    refine KO.ld rfl rfl Tryz.isAgg3 (by with_reducible (repeat (exact Pick.head))) (by exact rfl) rfl ?_
    refine KO.ce (cp := []) rfl rfl rfl Tryz.call62 rfl (in_e w _ _ _ _) ?_; rintro v' L' ⟨rfl, rfl⟩; rw [hc1]
    refine KO.mv rfl rfl ?_
    (refine KO.on rfl rfl ?_ ?_; (focus rfl); (refine KO.fo0 (off := 1) rfl Tryz.runUnderlying31 rfl rfl Tryz.sizeOf3 rfl ?_))
    (refine KO.on rfl rfl ?_ ?_; (focus rfl); (refine KO.ld rfl rfl Tryz.isAgg3 (by with_reducible (repeat (exact Pick.head))) (by exact rfl) rfl ?_))
    refine KO.on rfl rfl rfl ?_; refine KO.ce (cp := []) rfl rfl rfl Tryz.call62 rfl (in_e w _ _ _ _) ?_; rintro v' L' ⟨rfl, rfl⟩; rw [hc2]
    (refine KO.pickT rfl ?_ rfl rfl ?_; (focus rfl))
    refine KO.mv rfl rfl ?_
    (refine KO.on rfl rfl ?_ ?_; (focus rfl); (refine KO.fo0 (off := 2) rfl Tryz.runUnderlying31 rfl rfl Tryz.sizeOf9 rfl ?_))
    (refine KO.on rfl rfl ?_ ?_; (focus rfl); (refine KO.ld rfl rfl Tryz.isAgg9 (by with_reducible (repeat (exact Pick.head))) (by exact rfl) rfl ?_))
    refine KO.on rfl rfl rfl ?_; refine KO.ce (cp := []) rfl rfl rfl Tryz.call63 rfl (rbody_e w _ _ hb) ?_; rintro v' L' ⟨rfl, rfl⟩; rw [hc3]
    (refine KO.pickT rfl ?_ rfl rfl ?_; (focus rfl))
    refine KO.mv rfl rfl ?_
    (refine KO.on rfl rfl ?_ ?_; (focus rfl); (refine KO.fo0 (off := 3) rfl Tryz.runUnderlying31 rfl rfl Tryz.sizeOf9 rfl ?_))
    (refine KO.on rfl rfl ?_ ?_; (focus rfl); (refine KO.ld rfl rfl Tryz.isAgg9 (by with_reducible (repeat (exact Pick.head))) (by exact rfl) rfl ?_))
    refine KO.on rfl rfl rfl ?_; refine KO.ce (cp := []) rfl rfl rfl Tryz.call64 rfl (rword_e w _ _ hq) ?_; rintro v' L' ⟨rfl, rfl⟩; rw [hc4]
    (refine KO.pickT rfl ?_ rfl rfl ?_; (focus rfl))
    refine KO.mv rfl rfl ?_
    (refine KO.on rfl rfl ?_ ?_; (focus rfl); (refine KO.fo0 (off := 4) rfl Tryz.runUnderlying31 rfl rfl Tryz.sizeOf3 rfl ?_))
    (refine KO.on rfl rfl ?_ ?_; (focus rfl); (refine KO.ld rfl rfl Tryz.isAgg3 (by with_reducible (repeat (exact Pick.head))) (by exact rfl) rfl ?_))
    refine KO.on rfl rfl rfl ?_; refine KO.ce (cp := []) rfl rfl rfl Tryz.call62 rfl (in_e w _ _ _ _) ?_; rintro v' L' ⟨rfl, rfl⟩; rw [hc5]
    (refine KO.pickT rfl ?_ rfl rfl ?_; (focus rfl))
    refine KO.as rfl rfl ?_
    refine KO.nil ?_
    repeat (first | (with_reducible refine KQ.next ?_) | (with_reducible refine K.ret ?_))
    exact KQ.ret1 rfl rfl (fun w' hs => fin _ w' _ (by simp [hd]) hs)
theorem bare_e (w0 : World) (L : List HP) (k : Int) : KE Tryz.prog 51 #[.int .i64 k] w0 L (fun u M => u = .agg [Value.int .i64 k, .int .i64 (-1)].toArray ∧ M = L) := by
  refine KE.mk (n := 5) Tryz.func51 rfl Tryz.ntmps51 (by simp) ?_
  intro w hw
  repeat ((with_reducible refine K.seq ?_))
  refine K.reg ?_
  refine KO.alloc rfl Tryz.zeroValue97 (by exact rfl) rfl ?_; intro b2
  refine KO.nil ?_
  repeat (first | (with_reducible refine K.seq ?_) | (with_reducible refine KQ.next ?_))
  refine K.reg ?_
  refine KO.mv rfl rfl ?_
  refine KO.bldS (pl := [(0, 1), (1, 1)]) [.int .i64 k, .int .i64 (-1)] rfl Tryz.zeroValue97 Tryz.runUnderlying97 (by intro w; simp [Tryz.sizeOf3, Tryz.sizeOf39]) rfl rfl ?_
  refine KO.sto0 rfl rfl rfl (by exact rfl) (by exact Tryz.sizeOf97) (by exact rfl) (by with_reducible (repeat (exact Pick.head))) (by exact rfl) ?_
  refine KO.nil ?_
  repeat (first | (with_reducible refine KQ.next ?_) | (with_reducible refine K.ret ?_))
  refine KQ.retC rfl rfl Tryz.isAgg97 (by with_reducible (repeat (exact Pick.head))) (by exact Tryz.sizeOf97) (fun w' hs => ⟨_, _, rfl, ⟨rfl, rfl⟩, hw.below_step hs.below, hs.below⟩)
theorem place_e (w0 : World) (L : List HP) (k : Int) (hg : ErrType w0) : KE Tryz.prog 101 #[errV 39 k] w0 L (fun u M => u = .tuple #[.int .i64 k, .int .i64 (-1)] ∧ M = L) := by
  refine KE.mk (n := 38) Tryz.func101 rfl Tryz.ntmps101 (by simp) ?_
  intro w hw
  have hgw : ErrType w := (Ext.of_below hw.below).cell hg
  repeat ((with_reducible refine K.seq ?_))
  refine K.reg ?_
  refine KO.as rfl rfl ?_
  refine KO.as rfl rfl ?_
  refine KO.nil ?_
  repeat (first | (with_reducible refine K.seq ?_) | (with_reducible refine KQ.next ?_))
  refine K.reg ?_
  refine KO.mv rfl rfl ?_
  refine KO.ce (cp := []) rfl rfl rfl Tryz.call177 rfl (tell_e w _ k hgw) ?_; rintro v' L' ⟨rfl, rfl⟩
  refine KO.as rfl rfl ?_
  refine KO.nil ?_
  repeat (first | (with_reducible refine K.seq ?_) | (with_reducible refine KQ.next ?_) | (with_reducible refine K.block ?_))
  refine K.loop (fun _ : Unit => [(0, errV 39 k), (4, .int .i64 k)]) (fun _ => []) (fun _ => True) (fun _ => 0) () trivial ⟨rfl, rfl, trivial⟩ (fun _ h => h) ?_
  rintro _ _
  repeat ((with_reducible refine K.seq ?_))
  refine K.reg ?_
  refine KO.mv rfl rfl ?_
  refine KO.neN rfl (by kernel_rfl) rfl ?_
  refine KO.nil ?_
  repeat ((with_reducible refine KQ.next ?_))
  refine K.condD rfl (fun h => ?_) (fun h => ?_)
  · rw [show errV 39 k = .iface 39 (.int .i64 k) from if_neg h]
    repeat (first | (with_reducible refine K.seq ?_) | (with_reducible refine KQ.next ?_) | (with_reducible refine K.skip ?_) | (with_reducible refine K.block ?_))
    refine K.reg ?_
    refine KO.mv rfl rfl ?_
    refine KO.taC rfl (by kernel_rfl) (by exact rfl) Tryz.zeroValue259 rfl ?_
    refine KO.mv rfl rfl ?_
    refine KO.extrL rfl (by exact rfl) rfl ?_
    refine KO.extrL rfl (by exact rfl) rfl ?_
    refine KO.as rfl rfl ?_
    refine KO.as rfl rfl ?_
    refine KO.nil ?_
    repeat (first | (with_reducible refine K.seq ?_) | (with_reducible refine KQ.next ?_))
    refine K.reg ?_
    refine KO.mv rfl rfl ?_
    refine KO.mv rfl rfl ?_
    (refine KO.no rfl rfl ?_ rfl ?_; (focus rfl))
    (refine KO.no rfl rfl ?_ rfl ?_; (focus rfl))
    (refine KO.pickF rfl ?_ rfl rfl ?_; (focus rfl))
    refine KO.nil ?_
    repeat ((with_reducible refine KQ.next ?_))
    refine K.condF rfl rfl ?_
    repeat (first | (with_reducible refine K.seq ?_) | (with_reducible refine KQ.next ?_) | (with_reducible refine K.skip ?_))
    refine K.reg ?_
    refine KO.mv rfl rfl ?_
    refine KO.taN (z := Value.nilIface) rfl Tryz.underlying263 (by kernel_rfl) (by kernel_rfl) rfl ?_
    refine KO.mv rfl rfl ?_
    refine KO.extrL rfl (by exact rfl) rfl ?_
    refine KO.extrL rfl (by exact rfl) rfl ?_
    refine KO.as rfl rfl ?_
    refine KO.as rfl rfl ?_
    refine KO.nil ?_
    repeat (first | (with_reducible refine K.seq ?_) | (with_reducible refine KQ.next ?_))
    refine K.reg ?_
    refine KO.mv rfl rfl ?_
    refine KO.not rfl rfl ?_
    refine KO.nil ?_
    repeat ((with_reducible refine KQ.next ?_))
    refine K.condT rfl rfl ?_
    repeat (first | (with_reducible refine K.seq ?_) | (with_reducible refine KQ.next ?_) | (with_reducible refine KQ.then_exit ?_) | (with_reducible refine KQ.blk_exit ?_) | (refine KQ.blk_pass rfl ?_) | (with_reducible refine K.exit ?_))
    refine K.reg ?_
    refine KO.mv rfl rfl ?_
    refine KO.as rfl rfl ?_
    refine KO.as rfl rfl ?_
    refine KO.nil ?_
    repeat (first | (with_reducible refine KQ.next ?_) | (with_reducible refine K.ret ?_))
    refine KQ.ret2 rfl rfl rfl (fun w' hs => ⟨_, _, rfl, ⟨rfl, rfl⟩, hw.below_step hs.below, hs.below⟩)
  · repeat (first | (with_reducible refine K.seq ?_) | (with_reducible refine KQ.next ?_) | (with_reducible refine KQ.then_exit ?_) | (with_reducible refine KQ.blk_exit ?_) | (with_reducible refine K.exit ?_))
    refine K.reg ?_
    refine KO.mv rfl rfl ?_
    refine KO.as rfl rfl ?_
    refine KO.as rfl rfl ?_
    refine KO.nil ?_
    repeat (first | (with_reducible refine KQ.next ?_) | (with_reducible refine K.ret ?_))
    refine KQ.ret2 rfl rfl rfl (fun w' hs => ⟨_, _, rfl, ⟨rfl, rfl⟩, hw.below_step hs.below, hs.below⟩)
theorem is_e (w0 : World) (L : List HP) (k e p : Int) (hg : ErrType w0) : KE Tryz.prog 50 #[errV 39 k, .agg [Value.int .i64 e, .int .i64 p].toArray] w0 L (fun u M => u = .bool (decide (k = e) && decide (-1 = p)) ∧ M = L) := by
  refine KE.mk (n := 22) Tryz.func50 rfl Tryz.ntmps50 (by simp) ?_
  intro w hw
  have hgw : ErrType w := (Ext.of_below hw.below).cell hg
  repeat ((with_reducible refine K.seq ?_))
  refine K.reg ?_
  refine KO.box rfl rfl (by exact rfl) rfl ?_; intro b3
  refine KO.as rfl rfl ?_
  refine KO.nil ?_
  repeat (first | (with_reducible refine K.seq ?_) | (with_reducible refine KQ.next ?_))
  refine K.reg ?_
  refine KO.mv rfl rfl ?_
  refine KO.ce (cp := []) rfl rfl rfl Tryz.call101 rfl (place_e w _ k hgw) ?_; rintro v' L' ⟨rfl, rfl⟩
  refine KO.mv rfl rfl ?_
  refine KO.extrL rfl (by exact rfl) rfl ?_
  refine KO.extrL rfl (by exact rfl) rfl ?_
  refine KO.as rfl rfl ?_
  refine KO.as rfl rfl ?_
  refine KO.nil ?_
  repeat (first | (with_reducible refine K.seq ?_) | (with_reducible refine KQ.next ?_))
  by_cases h : k = e
  · refine K.reg ?_
    refine KO.mv rfl rfl ?_
    refine KO.fo0 (off := 0) rfl Tryz.runUnderlying97 rfl rfl Tryz.sizeOf39 rfl ?_
    refine KO.ld rfl rfl Tryz.isAgg39 (by with_reducible (repeat (exact Pick.head))) (by exact rfl) rfl ?_
    refine KO.eqI rfl rfl rfl ?_
    refine KO.mv rfl rfl ?_
    (refine KO.on rfl rfl ?_ ?_; (focus (simp only [decide_eq_true_eq, decide_eq_false_iff_not, Bool.not_eq_true, Bool.not_true, Bool.not_false, ne_eq]; omega)); (refine KO.mv rfl rfl ?_))
    (refine KO.on rfl rfl ?_ ?_; (focus (simp only [decide_eq_true_eq, decide_eq_false_iff_not, Bool.not_eq_true, Bool.not_true, Bool.not_false, ne_eq]; omega)); (refine KO.fo0 (off := 1) rfl Tryz.runUnderlying97 rfl rfl Tryz.sizeOf3 rfl ?_))
    (refine KO.on rfl rfl ?_ ?_; (focus (simp only [decide_eq_true_eq, decide_eq_false_iff_not, Bool.not_eq_true, Bool.not_true, Bool.not_false, ne_eq]; omega)); (refine KO.ld rfl rfl Tryz.isAgg3 (by with_reducible (repeat (exact Pick.head))) (by exact rfl) rfl ?_))
    (refine KO.on rfl rfl ?_ ?_; (focus (simp only [decide_eq_true_eq, decide_eq_false_iff_not, Bool.not_eq_true, Bool.not_true, Bool.not_false, ne_eq]; omega)); (refine KO.eqI rfl rfl rfl ?_))
    (refine KO.pickT rfl ?_ rfl rfl ?_; (focus (simp only [decide_eq_true_eq, decide_eq_false_iff_not, Bool.not_eq_true, Bool.not_true, Bool.not_false, ne_eq]; omega)))
    refine KO.as rfl rfl ?_
    refine KO.nil ?_
    repeat (first | (with_reducible refine KQ.next ?_) | (with_reducible refine K.ret ?_))
    refine KQ.ret1 rfl rfl (fun w' hs => ⟨_, _, rfl, ⟨by simp [h], rfl⟩, hw.below_step hs.below, hs.below⟩)
  · refine K.reg ?_
    refine KO.mv rfl rfl ?_
    refine KO.fo0 (off := 0) rfl Tryz.runUnderlying97 rfl rfl Tryz.sizeOf39 rfl ?_
    refine KO.ld rfl rfl Tryz.isAgg39 (by with_reducible (repeat (exact Pick.head))) (by exact rfl) rfl ?_
    refine KO.eqI rfl rfl rfl ?_
    refine KO.mv rfl rfl ?_
    (refine KO.no rfl rfl ?_ rfl ?_; (focus (simp only [decide_eq_true_eq, decide_eq_false_iff_not, Bool.not_eq_true, Bool.not_true, Bool.not_false, ne_eq]; omega)))
    (refine KO.no rfl rfl ?_ rfl ?_; (focus (simp only [decide_eq_true_eq, decide_eq_false_iff_not, Bool.not_eq_true, Bool.not_true, Bool.not_false, ne_eq]; omega)))
    (refine KO.no rfl rfl ?_ rfl ?_; (focus (simp only [decide_eq_true_eq, decide_eq_false_iff_not, Bool.not_eq_true, Bool.not_true, Bool.not_false, ne_eq]; omega)))
    (refine KO.no rfl rfl ?_ rfl ?_; (focus (simp only [decide_eq_true_eq, decide_eq_false_iff_not, Bool.not_eq_true, Bool.not_true, Bool.not_false, ne_eq]; omega)))
    (refine KO.pickF rfl ?_ rfl rfl ?_; (focus (simp only [decide_eq_true_eq, decide_eq_false_iff_not, Bool.not_eq_true, Bool.not_true, Bool.not_false, ne_eq]; omega)))
    refine KO.as rfl rfl ?_
    refine KO.nil ?_
    repeat (first | (with_reducible refine KQ.next ?_) | (with_reducible refine K.ret ?_))
    refine KQ.ret1 rfl rfl (fun w' hs => ⟨_, _, rfl, ⟨by simp [h], rfl⟩, hw.below_step hs.below, hs.below⟩)
theorem lbare_e (w0 : World) (L : List HP) (k e : Int) (hg : ErrType w0) : KE Tryz.prog 10 #[errV 39 k, .int .i64 e] w0 L (fun u M => u = .bool (decide (k = e)) ∧ M = L) := by
  refine KE.mk (n := 9) Tryz.func10 rfl Tryz.ntmps10 (by simp) ?_
  intro w hw
  have hgw : ErrType w := (Ext.of_below hw.below).cell hg
  repeat ((with_reducible refine K.seq ?_))
  refine K.reg ?_
  refine KO.as rfl rfl ?_
  refine KO.nil ?_
  repeat (first | (with_reducible refine K.seq ?_) | (with_reducible refine KQ.next ?_))
  refine K.reg ?_
  refine KO.mv rfl rfl ?_
  refine KO.mv rfl rfl ?_
  refine KO.ce (cp := []) rfl rfl rfl Tryz.call51 rfl (bare_e w _ e) ?_; rintro v' L' ⟨rfl, rfl⟩
  refine KO.ce (cp := []) rfl rfl rfl Tryz.call50 rfl (is_e w _ k e (-1) hgw) ?_; rintro v' L' ⟨rfl, rfl⟩
  refine KO.as rfl rfl ?_
  refine KO.nil ?_
  repeat (first | (with_reducible refine KQ.next ?_) | (with_reducible refine K.ret ?_))
  refine KQ.ret1 rfl rfl (fun w' hs => ⟨_, _, rfl, ⟨by simp, rfl⟩, hw.below_step hs.below, hs.below⟩)
theorem small_e (w0 : World) (L : List HP) (m : Ms) : KE Tryz.prog 9 #[.agg (msC m).toArray] w0 L (fun u M => u = .bool (decide (m.body.size ≤ 60) && decide (m.queue.size ≤ 60)) ∧ M = L) := by
  refine KE.mk (n := 13) Tryz.func9 rfl Tryz.ntmps9 (by simp) ?_
  intro w hw
  have fin : ∀ (b : Bool) (w' : World) (M : List HP), b = (decide (m.body.size ≤ 60) && decide (m.queue.size ≤ 60)) → St w M w' → ∃ v L', Ending.returned (.bool b) = Ending.returned v ∧ (v = .bool (decide (m.body.size ≤ 60) && decide (m.queue.size ≤ 60)) ∧ L' = L) ∧ St w0 L' w' ∧ Below w.heap.size w w' := fun b w' M e hs => ⟨_, _, rfl, ⟨by rw [e], rfl⟩, hw.below_step hs.below, hs.below⟩
  repeat ((with_reducible refine K.seq ?_))
  refine K.reg ?_
  refine KO.box rfl rfl (by exact rfl) rfl ?_; intro b1
  refine KO.as rfl rfl ?_
  refine KO.nil ?_
  repeat (first | (with_reducible refine K.seq ?_) | (with_reducible refine KQ.next ?_))
  by_cases h : ((m.body.size : Nat) : Int) ≤ 60
  · refine K.reg ?_
    refine KO.fo0 (off := 2) rfl Tryz.runUnderlying31 rfl rfl Tryz.sizeOf9 rfl ?_
    refine KO.ld rfl rfl Tryz.isAgg9 (by with_reducible (repeat (exact Pick.head))) (by exact rfl) rfl ?_
    refine KO.lenS rfl Tryz.underlying9 rfl ?_
    refine KO.leq rfl rfl rfl ?_
    refine KO.mv rfl rfl ?_
    (refine KO.on rfl rfl ?_ ?_; (focus (simp only [decide_eq_true_eq, decide_eq_false_iff_not, Bool.not_eq_true, Bool.not_true, Bool.not_false, ne_eq]; omega)); (refine KO.fo0 (off := 3) rfl Tryz.runUnderlying31 rfl rfl Tryz.sizeOf9 rfl ?_))
    (refine KO.on rfl rfl ?_ ?_; (focus (simp only [decide_eq_true_eq, decide_eq_false_iff_not, Bool.not_eq_true, Bool.not_true, Bool.not_false, ne_eq]; omega)); (refine KO.ld rfl rfl Tryz.isAgg9 (by with_reducible (repeat (exact Pick.head))) (by exact rfl) rfl ?_))
    (refine KO.on rfl rfl ?_ ?_; (focus (simp only [decide_eq_true_eq, decide_eq_false_iff_not, Bool.not_eq_true, Bool.not_true, Bool.not_false, ne_eq]; omega)); (refine KO.lenS rfl Tryz.underlying9 rfl ?_))
    (refine KO.on rfl rfl ?_ ?_; (focus (simp only [decide_eq_true_eq, decide_eq_false_iff_not, Bool.not_eq_true, Bool.not_true, Bool.not_false, ne_eq]; omega)); (refine KO.leq rfl rfl rfl ?_))
    (refine KO.pickT rfl ?_ rfl rfl ?_; (focus (simp only [decide_eq_true_eq, decide_eq_false_iff_not, Bool.not_eq_true, Bool.not_true, Bool.not_false, ne_eq]; omega)))
    refine KO.as rfl rfl ?_
    refine KO.nil ?_
    repeat (first | (with_reducible refine KQ.next ?_) | (with_reducible refine K.ret ?_))
    refine KQ.ret1 rfl rfl (fun w' hs => fin _ w' _ ?_ hs)
    have h1 : m.body.size ≤ 60 := by omega
    simp only [h1, decide_true, Bool.true_and]
    exact decide_eq_decide.2 (by omega)
  · refine K.reg ?_
    refine KO.fo0 (off := 2) rfl Tryz.runUnderlying31 rfl rfl Tryz.sizeOf9 rfl ?_
    refine KO.ld rfl rfl Tryz.isAgg9 (by with_reducible (repeat (exact Pick.head))) (by exact rfl) rfl ?_
    refine KO.lenS rfl Tryz.underlying9 rfl ?_
    refine KO.leq rfl rfl rfl ?_
    refine KO.mv rfl rfl ?_
    (refine KO.no rfl rfl ?_ rfl ?_; (focus (simp only [decide_eq_true_eq, decide_eq_false_iff_not, Bool.not_eq_true, Bool.not_true, Bool.not_false, ne_eq]; omega)))
    (refine KO.no rfl rfl ?_ rfl ?_; (focus (simp only [decide_eq_true_eq, decide_eq_false_iff_not, Bool.not_eq_true, Bool.not_true, Bool.not_false, ne_eq]; omega)))
    (refine KO.no rfl rfl ?_ rfl ?_; (focus (simp only [decide_eq_true_eq, decide_eq_false_iff_not, Bool.not_eq_true, Bool.not_true, Bool.not_false, ne_eq]; omega)))
    (refine KO.no rfl rfl ?_ rfl ?_; (focus (simp only [decide_eq_true_eq, decide_eq_false_iff_not, Bool.not_eq_true, Bool.not_true, Bool.not_false, ne_eq]; omega)))
    (refine KO.pickF rfl ?_ rfl rfl ?_; (focus (simp only [decide_eq_true_eq, decide_eq_false_iff_not, Bool.not_eq_true, Bool.not_true, Bool.not_false, ne_eq]; omega)))
    refine KO.as rfl rfl ?_
    refine KO.nil ?_
    repeat (first | (with_reducible refine KQ.next ?_) | (with_reducible refine K.ret ?_))
    refine KQ.ret1 rfl rfl (fun w' hs => fin _ w' _ ?_ hs)
    have h1 : ¬ m.body.size ≤ 60 := by omega
    simp [h1]
end Go.Proofs.YtjhogocabcdjbaaGreatDoor
/- plain.Place, waybilllaw.is at an At. -/
namespace Go.Proofs.YtjhogocabcdjbaaGreatDoor
open Go Go.RowKit WB
abbrev atB (b : Nat) (k p : Int) : HP := blk b (.cells [Value.int .i64 k, .int .i64 p].toArray 260 (0, 0))
def atV (b : Nat) : Value := .iface 259 (.pointer (some ⟨b, 0, none⟩))
theorem place_at (w0 : World) (L R : List HP) (b : Nat) (k p : Int) (hp : Pick L (atB b k p) R) (hg : ErrType w0) : KE Tryz.prog 101 #[atV b] w0 L (fun u M => u = .tuple #[.int .i64 k, .int .i64 p] ∧ M = L) := by
  refine KE.mk (n := 38) Tryz.func101 rfl Tryz.ntmps101 (by simp) ?_
  intro w hw
  have hgw : ErrType w := (Ext.of_below hw.below).cell hg
  have hlk := (hw.lookP hp).2
  have c0 : w.cell? ⟨b, 0, none⟩ = some (.int .i64 k) := by rw [World.cell?, hlk]; rfl
  have c1 : w.cell? ⟨b, 1, none⟩ = some (.int .i64 p) := by rw [World.cell?, hlk]; rfl
  have htell : KE Tryz.prog 177 #[atV b] w [] (fun u M => u = .int .i64 k ∧ M = []) := KE.of_below fun w' hw' => tell_at k _ w' ((Ext.of_below hw'.below).cell c0) ((Ext.of_below hw'.below).cell hgw)
  unfold atV at *
  repeat ((with_reducible refine K.seq ?_))
  refine K.reg ?_
  refine KO.as rfl rfl ?_
  refine KO.as rfl rfl ?_
  refine KO.nil ?_
  repeat (first | (with_reducible refine K.seq ?_) | (with_reducible refine KQ.next ?_))
  refine K.reg ?_
  refine KO.mv rfl rfl ?_
  refine KO.ce (cp := []) rfl rfl rfl Tryz.call177 rfl htell ?_; rintro v' L' ⟨rfl, rfl⟩
  refine KO.as rfl rfl ?_
  refine KO.nil ?_
  repeat (first | (with_reducible refine K.seq ?_) | (with_reducible refine KQ.next ?_) | (with_reducible refine K.block ?_))
  refine K.loop (fun _ : Unit => [(0, .iface 259 (.pointer (some ⟨b, 0, none⟩))), (4, .int .i64 k)]) (fun _ => []) (fun _ => True) (fun _ => 0) () trivial ⟨rfl, rfl, trivial⟩ (fun _ h => h) ?_
  rintro _ _
  repeat ((with_reducible refine K.seq ?_))
  refine K.reg ?_
  refine KO.mv rfl rfl ?_
  refine KO.neIf rfl (by kernel_rfl) rfl ?_
  refine KO.nil ?_
  repeat ((with_reducible refine KQ.next ?_))
  refine K.condT rfl rfl ?_
  repeat (first | (with_reducible refine K.seq ?_) | (with_reducible refine KQ.next ?_) | (with_reducible refine K.skip ?_) | (with_reducible refine K.block ?_))
  refine K.reg ?_
  refine KO.mv rfl rfl ?_
  refine KO.taY rfl (by kernel_rfl) rfl ?_
  refine KO.mv rfl rfl ?_
  refine KO.extrL rfl (by exact rfl) rfl ?_
  refine KO.extrL rfl (by exact rfl) rfl ?_
  refine KO.as rfl rfl ?_
  refine KO.as rfl rfl ?_
  refine KO.nil ?_
  repeat (first | (with_reducible refine K.seq ?_) | (with_reducible refine KQ.next ?_))
  refine K.reg ?_
  refine KO.mv rfl rfl ?_
  refine KO.mv rfl rfl ?_
  (refine KO.on rfl rfl ?_ ?_; (focus rfl); (refine KO.mv rfl rfl ?_))
  (refine KO.on rfl rfl ?_ ?_; (focus rfl); (refine KO.nePn rfl Tryz.underlying259 rfl ?_))
  (refine KO.pickT rfl ?_ rfl rfl ?_; (focus rfl))
  refine KO.nil ?_
  repeat ((with_reducible refine KQ.next ?_))
  refine K.condT rfl rfl ?_
  repeat ((with_reducible refine K.seq ?_))
  refine K.draw [.pure, .pure, .pure, .pure, .read, .pure, .pure] [0, 1, 2, 3, 4, 5, 6] (by kernel_rfl) (by kernel_rfl) ?_
  refine KO.mv rfl rfl ?_
  refine KO.mv rfl rfl ?_
  refine KO.nc rfl rfl ?_
  refine KO.fo0 (off := 1) rfl Tryz.runUnderlying260 rfl rfl Tryz.sizeOf3 rfl ?_
  refine KO.ld0 rfl rfl Tryz.isAgg3 c1 rfl ?_
  refine KO.as rfl rfl ?_
  refine KO.as rfl rfl ?_
  refine KO.nil ?_
  repeat (first | (with_reducible refine KQ.next ?_) | (with_reducible refine KQ.then_ret ?_) | (with_reducible refine KQ.blk_ret ?_) | (with_reducible refine K.ret ?_))
  refine KQ.ret2 rfl rfl rfl (fun w' hs => ⟨_, _, rfl, ⟨rfl, rfl⟩, hw.below_step hs.below, hs.below⟩)
theorem is_at (w0 : World) (L R : List HP) (b : Nat) (k p e q : Int) (hp : Pick L (atB b k p) R) (hg : ErrType w0) : KE Tryz.prog 50 #[atV b, .agg [Value.int .i64 e, .int .i64 q].toArray] w0 L (fun u M => u = .bool (decide (k = e) && decide (p = q)) ∧ M = L) := by
  refine KE.mk (n := 22) Tryz.func50 rfl Tryz.ntmps50 (by simp) ?_
  intro w hw
  have hpl := fun L2 => (place_at w0 L R b k p hp hg).rebase (L' := L2) hw
  repeat ((with_reducible refine K.seq ?_))
  refine K.reg ?_
  refine KO.box rfl rfl (by exact rfl) rfl ?_; intro b3
  refine KO.as rfl rfl ?_
  refine KO.nil ?_
  repeat (first | (with_reducible refine K.seq ?_) | (with_reducible refine KQ.next ?_))
  refine K.reg ?_
  refine KO.mv rfl rfl ?_
  refine KO.ce (cp := []) rfl rfl rfl Tryz.call101 rfl (hpl _) ?_; rintro v' L' ⟨rfl, rfl⟩
  refine KO.mv rfl rfl ?_
  refine KO.extrL rfl (by exact rfl) rfl ?_
  refine KO.extrL rfl (by exact rfl) rfl ?_
  refine KO.as rfl rfl ?_
  refine KO.as rfl rfl ?_
  refine KO.nil ?_
  repeat (first | (with_reducible refine K.seq ?_) | (with_reducible refine KQ.next ?_))
  by_cases h : k = e
  · refine K.reg ?_
    refine KO.mv rfl rfl ?_
    refine KO.fo0 (off := 0) rfl Tryz.runUnderlying97 rfl rfl Tryz.sizeOf39 rfl ?_
    refine KO.ld rfl rfl Tryz.isAgg39 (by with_reducible (repeat (exact Pick.head))) (by exact rfl) rfl ?_
    refine KO.eqI rfl rfl rfl ?_
    refine KO.mv rfl rfl ?_
    (refine KO.on rfl rfl ?_ ?_; (focus (simp only [decide_eq_true_eq, decide_eq_false_iff_not, Bool.not_eq_true, Bool.not_true, Bool.not_false, ne_eq]; omega)); (refine KO.mv rfl rfl ?_))
    (refine KO.on rfl rfl ?_ ?_; (focus (simp only [decide_eq_true_eq, decide_eq_false_iff_not, Bool.not_eq_true, Bool.not_true, Bool.not_false, ne_eq]; omega)); (refine KO.fo0 (off := 1) rfl Tryz.runUnderlying97 rfl rfl Tryz.sizeOf3 rfl ?_))
    (refine KO.on rfl rfl ?_ ?_; (focus (simp only [decide_eq_true_eq, decide_eq_false_iff_not, Bool.not_eq_true, Bool.not_true, Bool.not_false, ne_eq]; omega)); (refine KO.ld rfl rfl Tryz.isAgg3 (by with_reducible (repeat (exact Pick.head))) (by exact rfl) rfl ?_))
    (refine KO.on rfl rfl ?_ ?_; (focus (simp only [decide_eq_true_eq, decide_eq_false_iff_not, Bool.not_eq_true, Bool.not_true, Bool.not_false, ne_eq]; omega)); (refine KO.eqI rfl rfl rfl ?_))
    (refine KO.pickT rfl ?_ rfl rfl ?_; (focus (simp only [decide_eq_true_eq, decide_eq_false_iff_not, Bool.not_eq_true, Bool.not_true, Bool.not_false, ne_eq]; omega)))
    refine KO.as rfl rfl ?_
    refine KO.nil ?_
    repeat (first | (with_reducible refine KQ.next ?_) | (with_reducible refine K.ret ?_))
    refine KQ.ret1 rfl rfl (fun w' hs => ⟨_, _, rfl, ⟨by simp [h], rfl⟩, hw.below_step hs.below, hs.below⟩)
  · refine K.reg ?_
    refine KO.mv rfl rfl ?_
    refine KO.fo0 (off := 0) rfl Tryz.runUnderlying97 rfl rfl Tryz.sizeOf39 rfl ?_
    refine KO.ld rfl rfl Tryz.isAgg39 (by with_reducible (repeat (exact Pick.head))) (by exact rfl) rfl ?_
    refine KO.eqI rfl rfl rfl ?_
    refine KO.mv rfl rfl ?_
    (refine KO.no rfl rfl ?_ rfl ?_; (focus (simp only [decide_eq_true_eq, decide_eq_false_iff_not, Bool.not_eq_true, Bool.not_true, Bool.not_false, ne_eq]; omega)))
    (refine KO.no rfl rfl ?_ rfl ?_; (focus (simp only [decide_eq_true_eq, decide_eq_false_iff_not, Bool.not_eq_true, Bool.not_true, Bool.not_false, ne_eq]; omega)))
    (refine KO.no rfl rfl ?_ rfl ?_; (focus (simp only [decide_eq_true_eq, decide_eq_false_iff_not, Bool.not_eq_true, Bool.not_true, Bool.not_false, ne_eq]; omega)))
    (refine KO.no rfl rfl ?_ rfl ?_; (focus (simp only [decide_eq_true_eq, decide_eq_false_iff_not, Bool.not_eq_true, Bool.not_true, Bool.not_false, ne_eq]; omega)))
    (refine KO.pickF rfl ?_ rfl rfl ?_; (focus (simp only [decide_eq_true_eq, decide_eq_false_iff_not, Bool.not_eq_true, Bool.not_true, Bool.not_false, ne_eq]; omega)))
    refine KO.as rfl rfl ?_
    refine KO.nil ?_
    repeat (first | (with_reducible refine KQ.next ?_) | (with_reducible refine K.ret ?_))
    refine KQ.ret1 rfl rfl (fun w' hs => ⟨_, _, rfl, ⟨by simp [h], rfl⟩, hw.below_step hs.below, hs.below⟩)
end Go.Proofs.YtjhogocabcdjbaaGreatDoor
/- messages' text: plain -/
namespace WB
open Go
def itoaS (n : Int) : ByteArray := ⟨(Lib.itoa n).toArray⟩
def joinS (xs : List ByteArray) (sep : ByteArray) : ByteArray := ⟨(Lib.join (xs.map (·.data.toList)) sep.data.toList).toArray⟩
def intB (n : Int) : Prop := -9223372036854775808 ≤ n ∧ n ≤ 9223372036854775807
def sp : ByteArray := ⟨#[32]⟩
def msgS (m : Ms) : ByteArray := itoaS m.id ++ sp ++ itoaS m.pri ++ sp ++ m.body ++ sp ++ m.queue ++ sp ++ itoaS m.house
def plus : ByteArray := ⟨#[43]⟩
def writeS (xs : List Ms) : ByteArray := joinS (xs.map msgS) plus
theorem ba_size (s : ByteArray) : s.size = s.data.toList.length := rfl
theorem itoaS_size {n : Int} (h : intB n) : (itoaS n).size ≤ 21 := by
  have := Lib.itoa_length_le n h.1 h.2
  simpa [itoaS, ByteArray.size] using this
theorem join_cons2 (x y : List UInt8) (r : List (List UInt8)) (sep : List UInt8) : Lib.join (x :: y :: r) sep = x ++ sep ++ Lib.join (y :: r) sep := by
  simp [Lib.join_cons, Lib.joinTail]
theorem join_snoc (l : List (List UInt8)) (x sep : List UInt8) (h : l ≠ []) : Lib.join (l ++ [x]) sep = Lib.join l sep ++ sep ++ x := by
  cases l with
  | nil => exact absurd rfl h
  | cons a r => rw [List.cons_append, Lib.join_cons, Lib.join_cons]; simp [Lib.joinTail]
theorem joinS_snoc (l : List ByteArray) (x sep : ByteArray) (h : l ≠ []) : joinS (l ++ [x]) sep = joinS l sep ++ sep ++ x := by
  unfold joinS
  rw [List.map_append, List.map_cons, List.map_nil, join_snoc _ _ _ (by simpa using h)]
  apply ByteArray.ext
  apply Array.ext'
  simp
theorem joinS_one (x sep : ByteArray) : joinS [x] sep = x := by
  unfold joinS
  rw [List.map_cons, List.map_nil, Lib.join_one]
theorem joinS_nil (sep : ByteArray) : joinS [] sep = ⟨#[]⟩ := rfl
theorem joinS_two (x y sep : ByteArray) : joinS [x, y] sep = x ++ sep ++ y := by
  have := joinS_snoc [x] y sep (by simp)
  rw [joinS_one] at this; exact this
theorem joinS_cons2 (x y : ByteArray) (r : List ByteArray) (sep : ByteArray) : joinS (x :: y :: r) sep = x ++ sep ++ joinS (y :: r) sep := by
  unfold joinS
  rw [List.map_cons, List.map_cons, join_cons2]
  apply ByteArray.ext
  apply Array.ext'
  simp
theorem joinS_size (sep : ByteArray) (c : Nat) : ∀ (l : List ByteArray), (∀ x ∈ l, x.size ≤ c) → (joinS l sep).size ≤ l.length * (c + sep.size)
  | [], _ => by rw [joinS_nil]; exact Nat.zero_le _
  | [x], h => by
    have := h x (by simp)
    rw [joinS_one]; simp; omega
  | x :: y :: r, h => by
    have h1 := joinS_size sep c (y :: r) fun z hz => h z (List.mem_cons_of_mem _ hz)
    have h2 := h x (by simp)
    rw [joinS_cons2, ByteArray.size_append, ByteArray.size_append, List.length_cons, Nat.succ_mul]; omega
theorem join_len (l : List ByteArray) (sep : ByteArray) : (Lib.join (l.map (·.data.toList)) sep.data.toList).length = (joinS l sep).size := by simp [joinS, ByteArray.size]
theorem cat_assoc (a b c : ByteArray) : a ++ b ++ c = a ++ (b ++ c) := ByteArray.append_assoc
theorem cat_nil (a : ByteArray) : (⟨#[]⟩ : ByteArray) ++ a = a := ByteArray.empty_append
theorem writeS_snoc (l : List Ms) (m : Ms) : writeS (l ++ [m]) = (if l = [] then msgS m else writeS l ++ plus ++ msgS m) := by
  unfold writeS
  rw [List.map_append, List.map_cons, List.map_nil]
  by_cases h : l = []
  · subst h; rw [if_pos rfl, List.map_nil, List.nil_append, joinS_one]
  · rw [if_neg h, joinS_snoc _ _ _ (by simpa using h)]
theorem msgS_size {m : Ms} (h : msRight m = true) : (msgS m).size ≤ 100 := by
  obtain ⟨h1, h2, h3, h4, h5, h6, h7, h8⟩ := msRight_parts h
  have a1 := itoaS_size (n := m.id) ⟨by omega, by omega⟩
  have a2 := itoaS_size (n := m.pri) ⟨by omega, by omega⟩
  have a3 := itoaS_size (n := m.house) ⟨by omega, by omega⟩
  have a4 : m.body.size ≤ 12 := by unfold bodyB lettersB at h5; simp at h5; omega
  have a5 : m.queue.size ≤ 8 := by unfold wordB lettersB at h6; simp at h6; omega
  have a6 : sp.size = 1 := rfl
  unfold msgS
  simp only [ByteArray.size_append, a6]
  omega
theorem writeS_size {l : List Ms} (h : ∀ m ∈ l, msRight m = true) : (writeS l).size ≤ l.length * 101 := by
  unfold writeS
  have := joinS_size plus 100 (l.map msgS) (fun x hx => by obtain ⟨m, hm, rfl⟩ := List.mem_map.1 hx; exact msgS_size (h m hm))
  rw [List.length_map] at this
  exact this
/-- the first that may not be -/
def badI (xs : List Ms) : Option Nat := xs.findIdx? fun m => !msRight m
def writeE (xs : List Ms) : Int := match badI xs with | none => 0 | some _ => 1
def writeP (xs : List Ms) : Int := match badI xs with | none => -1 | some k => (k : Int)
def writeT (xs : List Ms) : ByteArray := match badI xs with | none => writeS xs | some _ => ⟨#[]⟩
theorem badI_none {xs : List Ms} (h : ∀ (j : Nat) m, xs[j]? = some m → msRight m = true) : badI xs = none := by
  unfold badI
  rw [List.findIdx?_eq_none_iff]
  intro m hm
  obtain ⟨j, hj, rfl⟩ := List.getElem_of_mem hm
  simp [h j _ (List.getElem?_eq_getElem hj)]
theorem badI_some {xs : List Ms} {k : Nat} {m : Ms} (hk : xs[k]? = some m) (hm : msRight m = false) (h : ∀ (j : Nat) m, j < k → xs[j]? = some m → msRight m = true) : badI xs = some k := by
  unfold badI
  rw [List.findIdx?_eq_some_iff_getElem]
  obtain ⟨hlt, he⟩ := List.getElem?_eq_some_iff.1 hk
  refine ⟨hlt, by rw [he, hm]; rfl, fun j hj => ?_⟩
  have := h j xs[j] hj (List.getElem?_eq_getElem _)
  simp [this]
theorem badI_all {xs : List Ms} (h : badI xs = none) : ∀ m ∈ xs, msRight m = true := by
  unfold badI at h
  intro m hm
  simpa using List.findIdx?_eq_none_iff.1 h m hm
end WB
/- what a law's row wants beside its walk: arguments opened, read again, a witness -/
namespace WB
open Go Go.RowKit Go.ChangeShapes Go.WideShapes Go.Deep
section
variable {H : Type} {enc : TypeId × Value → H}
theorem witness_row_sh {C : Checked} {os : Os} {f : FuncId} {fn : Func} {s : OpenSpec} {conds : List PathCond} {apart : Bool} {laid : List (String × DataW Unit)} (modest : Bool) (w0 : World) (args : Array Value) (hos : w0.os = os)
    (hsh : (w0.forCall (fun _ _ => 0) ⟨#[], args, []⟩).Shaped C.prog)
    (hok : Input.okWideB C.prog (w0.forCall (fun _ _ => 0) ⟨#[], args, []⟩) f ⟨#[], args, []⟩ = true)
    (hrow : s.preRow enc C.prog fn conds apart laid (w0.forCall (fun _ _ => 0) ⟨#[], args, []⟩).memory args) :
    ∃ (w : World) (tape : Tape) (i : Input), w.os = os ∧ (w.forCall tape i).Shaped C.prog ∧ i.vars = [] ∧ Input.okWide C.prog (w.forCall tape i) .any w.heap.size f i ∧
      s.preRow enc C.prog fn conds apart laid (w.forCall tape i).memory i.args ∧ ({ modest := modest } : Assume).holds C.prog (lone (Frame.enter C.prog f i.args .normal) [] (w.forCall tape i)) :=
  ⟨w0, fun _ _ => 0, ⟨#[], args, []⟩, hos, hsh, (Input.okWide_of_okWideB (base := 0) hok).1, (Input.okWide_of_okWideB hok).2, hrow, by
    simp only [Assume.holds]
    exact ⟨by simp, by simp, fun _ => Modest.zero, by simp, by simp⟩⟩
variable {P : Program}
/-- the arguments read again as they did -/
theorem law_args (hl : laidOutB P = true) {W W' : World} (hb : Below W.heap.size W W') : ∀ {ts : List TypeId} {vs : List Value} {ds : List (DataW H)} {ps : List MemPlace}, (ts.all fun t => P.readableRec t && decide (t < P.types.size)) = true →
    DataW.TrodAll enc P W 0 (fun _ => true) true ts vs ds ps → (∀ x ∈ ps, x.block < W.heap.size) → DataW.TrodAll enc P W' 0 (fun b => decide (b < W.heap.size)) true ts vs ds ps
  | [], [], [], _, _, h, _ => h
  | t :: ts, v :: vs, d :: ds, ps, hr, ⟨p, q, h1, h2, e⟩, hlt => by
    simp only [List.all_cons, Bool.and_eq_true, decide_eq_true_eq] at hr
    exact ⟨p, q, Below.trod hl hr.1.1 hr.1.2 h1 hb (fun x hx => hlt x (by rw [e]; exact List.mem_append_left _ hx)), law_args hl hb (by simpa using hr.2) h2 (fun x hx => hlt x (by rw [e]; exact List.mem_append_right _ hx)), e⟩
theorem list_of_each {α : Type} {p : Nat → α → Prop} : ∀ (n : Nat), (∀ i, i < n → ∃ x, p i x) → ∃ l : List α, l.length = n ∧ ∀ (i : Nat) (x : α), l[i]? = some x → p i x
  | 0, _ => ⟨[], rfl, fun i x h => by simp at h⟩
  | n + 1, h => by
    obtain ⟨l, hl, hp⟩ := list_of_each n fun i hi => h i (by omega)
    obtain ⟨x, hx⟩ := h n (by omega)
    refine ⟨l ++ [x], by simp [hl], fun i y hy => ?_⟩
    by_cases hi : i < l.length
    · rw [List.getElem?_append_left hi] at hy; exact hp i y hy
    · rw [List.getElem?_append_right (by omega)] at hy
      have : i - l.length = 0 := by
        rcases Nat.eq_zero_or_pos (i - l.length) with h0 | h0
        · exact h0
        · rw [List.getElem?_eq_none (by simp; omega)] at hy; simp at hy
      rw [this] at hy
      simp only [List.getElem?_cons_zero, Option.some.injEq] at hy
      rw [← hy, show i = n by omega]; exact hx
/-- a slice that came in -/
def RdA {α : Type} (W : World) (sz : Nat) (cf : α → List Value) (v : Value) (xs : List α) : Prop :=
  ∃ a cap, v = .slice a xs.length cap ∧ ∀ (i : Nat) (x : α), xs[i]? = some x → ∃ ad, a = some ad ∧ HasCells W (ad.add (i * sz)) (cf x)
theorem open_sl {α : Type} {φ : α → Prop} {cf : α → List Value} {W : World} {t e : TypeId} {v : Value} {d : DataW H} {p : List MemPlace} {r : Reach} {base sz : Nat} (ht : P.underlying t = some (.slice e)) (hv : Value.okWide P W r base t v)
    (h : DataW.Trod enc P W 0 (fun _ => true) true t v d p) (hsz : P.cellsOf e = sz) (rd : ∀ n cs y, DataW.trod enc P W 0 (fun _ => true) true n e cs = some y → ∃ x : α, φ x ∧ cs = cf x) :
    ∃ xs : List α, RdA W sz cf v xs ∧ ∀ x ∈ xs, φ x := by
  obtain ⟨a, len, cap, rfl⟩ := okWide_slice ht hv
  obtain ⟨fuel, hf⟩ := h
  rcases open_slice ht hf with ⟨hcs, _⟩ | ⟨a', len', cap', m, n, D, Pl, hcs, _, hl, _, hm, _, hi⟩
  · simp [Value.cells] at hcs
    obtain ⟨rfl, rfl, rfl⟩ := hcs
    exact ⟨[], ⟨none, 0, rfl, fun i x h => by simp at h⟩, fun x hx => by simp at hx⟩
  · simp [Value.cells] at hcs
    obtain ⟨rfl, rfl, rfl⟩ := hcs
    have key : ∀ i, i < len → ∃ x : α, φ x ∧ HasCells W (a'.add (i * sz)) (cf x) := fun i hlt => by
      obtain ⟨cs', hc, htr⟩ := hi i (by rw [hm]; simp; omega)
      obtain ⟨x, hx, rfl⟩ := rd n cs' _ htr
      obtain ⟨_, hlen, hcell⟩ := World.cells?_some hc
      refine ⟨x, hx, fun j c hj => ?_⟩
      have hlt2 := (List.getElem?_eq_some_iff.1 hj).1
      rw [← hsz]
      rw [hcell j (by omega)]; exact hj
    obtain ⟨l, hll, hp⟩ := list_of_each len key
    refine ⟨l, ⟨some a', cap, by rw [hll], fun i x hx => ⟨a', rfl, (hp i x hx).2⟩⟩, fun x hx => ?_⟩
    obtain ⟨i, hi, rfl⟩ := List.getElem_of_mem hx
    exact (hp i _ (List.getElem?_eq_getElem hi)).1
end
end WB
namespace WB
open Go Go.RowKit Go.ChangeShapes Go.WideShapes Go.Deep
section
variable {H : Type} {enc : TypeId × Value → H} {P : Program} {W : World} {base : Nat} {spare : Nat → Bool} {held : Bool}
theorem trod_len {t : TypeId} {fs : Array Field} {n : Nat} {cs : List Value} {y : DataW H × List MemPlace} (hu : P.underlying t = some (.struct fs)) (h : DataW.trod enc P W base spare held n t cs = some y) {k : Nat} (hk : P.cellsOf t = k) : cs.length = k := by
  obtain ⟨_, _, _, _, hl, _⟩ := DataW.trod_struct hu h
  rw [hl, hk]
theorem trod_field {t : TypeId} {fs : Array Field} {n : Nat} {cs : List Value} {y : DataW H × List MemPlace} (hu : P.underlying t = some (.struct fs)) (h : DataW.trod enc P W base spare held n t cs = some y) (i off : Nat) (ty : TypeId) (sz : Nat)
    (hf : (fs[i]?).map (fun f => (f.offset, f.type)) = some (off, ty)) (hc : P.cellsOf ty = sz) : ∃ m y', DataW.trod enc P W base spare held m ty ((cs.drop off).take sz) = some y' := by
  obtain ⟨xs, m, _, _, _, hx, hall⟩ := DataW.trod_struct hu h
  cases hfi : fs[i]? with
  | none => rw [hfi] at hf; simp at hf
  | some f =>
    rw [hfi] at hf
    simp only [Option.map_some, Option.some.injEq, Prod.mk.injEq] at hf
    obtain ⟨rfl, rfl⟩ := hf
    have h1 := hall i f hfi
    have hlt : i < xs.length := by rw [hx]; exact (Array.getElem?_eq_some_iff.1 hfi).1
    rw [List.getElem?_eq_getElem hlt, hc] at h1
    exact ⟨m, _, h1⟩
theorem trod_str {t : TypeId} {fs : Array Field} {n : Nat} {cs : List Value} {y : DataW H × List MemPlace} (hu : P.underlying t = some (.struct fs)) (h : DataW.trod enc P W base spare held n t cs = some y) (i off : Nat) (ty : TypeId)
    (hf : (fs[i]?).map (fun f => (f.offset, f.type)) = some (off, ty)) (hc : P.cellsOf ty = 1) (hty : P.underlying ty = some .string) : ∃ s : ByteArray, cs[off]? = some (.string s) ∧ s.size ≤ maxLen := by
  obtain ⟨m, y', h1⟩ := trod_field hu h i off ty 1 hf hc
  obtain ⟨s, e, _, hs⟩ := DataW.trod_string hty h1
  refine ⟨s, ?_, hs⟩
  have := congrArg (fun l => l[0]?) e
  simpa using this
theorem trod_i {t : TypeId} {fs : Array Field} {n : Nat} {cs : List Value} {y : DataW H × List MemPlace} (hu : P.underlying t = some (.struct fs)) (h : DataW.trod enc P W base spare held n t cs = some y) (i off : Nat) (ty : TypeId) {k : IntKind}
    (hf : (fs[i]?).map (fun f => (f.offset, f.type)) = some (off, ty)) (hc : P.cellsOf ty = 1) (hty : P.underlying ty = some (.int k)) : ∃ z : Int, cs[off]? = some (.int k z) ∧ (Lit.int k z).wf = true := by
  obtain ⟨m, y', h1⟩ := trod_field hu h i off ty 1 hf hc
  obtain ⟨z, e, _, hz⟩ := DataW.trod_int hty h1
  refine ⟨z, ?_, hz⟩
  have := congrArg (fun l => l[0]?) e
  simpa using this
theorem trod_b {t : TypeId} {fs : Array Field} {n : Nat} {cs : List Value} {y : DataW H × List MemPlace} (hu : P.underlying t = some (.struct fs)) (h : DataW.trod enc P W base spare held n t cs = some y) (i off : Nat) (ty : TypeId)
    (hf : (fs[i]?).map (fun f => (f.offset, f.type)) = some (off, ty)) (hc : P.cellsOf ty = 1) (hty : P.underlying ty = some .bool) : ∃ z : Bool, cs[off]? = some (.bool z) := by
  obtain ⟨m, y', h1⟩ := trod_field hu h i off ty 1 hf hc
  obtain ⟨z, e, _⟩ := DataW.trod_bool hty h1
  refine ⟨z, ?_⟩
  have := congrArg (fun l => l[0]?) e
  simpa using this
end
end WB
namespace WB
open Go Go.RowKit
theorem laidVars_mem {P : Program} {W : World} : ∀ {l : List (String × DataW Unit)} {ps : List MemPlace}, DataW.LaidVars P W l ps → ∀ x ∈ l, ∃ g t cs fuel p, P.globalNamed x.1 = some g ∧ (P.globals[g]?).map (·.type) = some t ∧ W.var? P x.1 = some cs ∧ DataW.trod (fun _ => ()) P W 0 (fun _ => true) false fuel t cs.toList = some (x.2, p)
  | [], _, _, x, hx => by cases hx
  | (n, d) :: r, ps, h, x, hx => by
    obtain ⟨g, t, cs, fuel, p, q, h1, h2, h3, h4, h5, _⟩ := h
    rcases List.mem_cons.1 hx with rfl | hx
    · exact ⟨g, t, cs, fuel, p, h1, h2, h3, h4⟩
    · exact laidVars_mem h5 x hx
theorem tab_of_laid {P : Program} {W : World} {name : String} {k : IntKind} {zs : List Int} {l : List (String × DataW Unit)} {g : Nat} {t e : TypeId} {n : Nat}
    (h : laidMet P l W) (hm : (name, Lib.tabData k zs) ∈ l) (hg : P.globalNamed name = some g) (hty : (P.globals[g]?).map (·.type) = some t) (ht : P.underlying t = some (.array n e)) (he : P.underlying e = some (.int k)) (hce : P.cellsOf e = 1) (hct : P.cellsOf t = n) : Lib.TabIs P W name k zs := by
  obtain ⟨ps, hv, _⟩ := h
  obtain ⟨g', t', cs, fuel, p, h1, h2, h3, h4⟩ := laidVars_mem hv _ hm
  obtain rfl := Option.some.inj (hg.symm.trans h1)
  obtain rfl := Option.some.inj (hty.symm.trans h2)
  unfold Lib.TabIs
  rw [h3, ← Lib.cells_of_tab ht he hce hct h4]
end WB
namespace WB
open Go Go.RowKit Go.ChangeShapes Go.WideShapes Go.Deep
theorem trodAll_five {H : Type} {enc : TypeId × Value → H} {P : Program} {w : World} {base : Nat} {spare : Nat → Bool} {held : Bool} {t0 t1 t2 t3 t4 : TypeId} {args : Array Value} {ds : List (DataW H)} {ps : List MemPlace} (h : DataW.TrodAll enc P w base spare held [t0, t1, t2, t3, t4] args.toList ds ps) :
    ∃ v0 v1 v2 v3 v4 d0 d1 d2 d3 d4 p0 p1 p2 p3 p4, args = #[v0, v1, v2, v3, v4] ∧ ds = [d0, d1, d2, d3, d4] ∧ ps = p0 ++ p1 ++ p2 ++ p3 ++ p4 ∧ DataW.Trod enc P w base spare held t0 v0 d0 p0 ∧ DataW.Trod enc P w base spare held t1 v1 d1 p1 ∧ DataW.Trod enc P w base spare held t2 v2 d2 p2 ∧ DataW.Trod enc P w base spare held t3 v3 d3 p3 ∧ DataW.Trod enc P w base spare held t4 v4 d4 p4 := by
  obtain ⟨v0, vs0, d0, ds0, p0, q0, hargs, rfl, rfl, h0, hr0⟩ := trodAll_cons h
  obtain ⟨v1, vs1, d1, ds1, p1, q1, rfl, rfl, rfl, h1, hr1⟩ := trodAll_cons hr0
  obtain ⟨v2, vs2, d2, ds2, p2, q2, rfl, rfl, rfl, h2, hr2⟩ := trodAll_cons hr1
  obtain ⟨v3, vs3, d3, ds3, p3, q3, rfl, rfl, rfl, h3, hr3⟩ := trodAll_cons hr2
  obtain ⟨v4, vs4, d4, ds4, p4, q4, rfl, rfl, rfl, h4, hr4⟩ := trodAll_cons hr3
  obtain ⟨rfl, rfl, rfl⟩ := trodAll_nil hr4
  exact ⟨v0, v1, v2, v3, v4, d0, d1, d2, d3, d4, p0, p1, p2, p3, p4, by cases args; simp_all, rfl, by simp, h0, h1, h2, h3, h4⟩
end WB
/- messages' text: Itoa, Join, the document's Words and Write, the program's Write. -/
namespace Go.Proofs.YtjhogocabcdjbaaGreatDoor
open Go Go.RowKit WB
def Tab (w : World) : Prop := Lib.TabIs Tryz.prog w "internal/strconv.uint64pow10" .u64 Lib.pow10Tab
theorem Tab.ext {w w' : World} (h : Tab w) (e : Ext w w') : Tab w' := by
  unfold Tab Lib.TabIs World.var? at *
  cases hg : Tryz.prog.globalNamed "internal/strconv.uint64pow10" with
  | none => rw [hg] at h; simp at h
  | some g =>
    rw [hg] at h
    simp only [Option.bind_some] at h ⊢
    cases hb : w.heap[g]? with
    | none => rw [hb] at h; simp at h
    | some o => rw [e.2 g (Array.getElem?_eq_some_iff.1 hb).1, hb]; rw [hb] at h; exact h
theorem itoa_e (w0 : World) (L : List HP) (n : Int) (hT : Tab w0) (hn : intB n) : KE Tryz.prog 114 #[.int .i64 n] w0 L (fun u M => u = .string (itoaS n) ∧ M = L) := KE.of_below fun w hw => by
  refine (Tryz.strconv_Itoa n hn.1 hn.2 w (hT.ext (Ext.of_below hw.below))).mono ?_
  rintro e w' ⟨rfl, k, os, rfl⟩
  exact ⟨rfl, Lib.below_grow _ _ (Nat.le_refl _) _ _⟩
theorem rdA_extM {W W' : World} {v : Value} {xs : List Ms} (h : RdA W 5 msC v xs) (e : Ext W W') : RdA W' 5 msC v xs := by
  obtain ⟨a, cap, rfl, hc⟩ := h
  exact ⟨a, cap, rfl, fun i x hx => by obtain ⟨ad, rfl, hh⟩ := hc i x hx; exact ⟨ad, rfl, hh.ext e⟩⟩
def strC (s : ByteArray) : List Value := [.string s]
abbrev strS (v : Value) (xs : List ByteArray) : HP := SL 9 1 strC v xs
theorem str_info : (Tryz.prog.info? 9).map (fun i => (i.zero, i.size, i.bytes)) = some (some (Value.string ⟨#[]⟩), 1, 16) := by kernel_rfl
theorem join_e (w0 : World) (L R : List HP) (v : Value) (xs : List ByteArray) (sep : ByteArray) (hp : Pick L (strS v xs) R) (hn : xs.length ≤ 1000000) (hs : (joinS xs sep).size ≤ 1000000000) : KE Tryz.prog 141 #[v, .string sep] w0 L (fun u M => u = .string (joinS xs sep) ∧ M = L) := KE.of_below fun w hw => by
  rcases (hw.pick hp).osl_cases with ⟨h1, h2, _⟩ | ⟨g, cap, cur, h1, h2, h3, h4, h5, h6, h7⟩
  · have hx : xs = [] := List.eq_nil_of_length_eq_zero h2
    subst hx; subst h1
    refine (Tryz.strings_Join_none none 0 sep w).mono ?_
    rintro e w' ⟨rfl, rfl⟩
    exact ⟨rfl, Below.refl _ _⟩
  · subst h1
    have hc : ∀ (j : Nat) x, xs[j]? = some x → w.cell? ⟨g, 0 + j, none⟩ = some (.string x) := fun j x hx => by
      have := SL_cells (cf := strC) (sz := 1) (fun _ => rfl) (hw.pick hp) hx 0 (by decide)
      rw [Nat.zero_add]
      simpa [strC] using this
    refine (Tryz.strings_Join g 0 cap xs sep w hc h7.lt (by omega) h2 (by rw [join_len]; omega)).mono ?_
    rintro e w' ⟨rfl, hb⟩
    exact ⟨rfl, hb⟩
def inC (n : Int) : List Value := [.int .i64 n]
theorem rdA_blk {w0 w : World} {L R : List HP} {b cap : Nat} {xs : List Int} {vs : List Value} {E : TypeId} {fz : Nat × Nat} (hp : Pick L (blk b (.cells vs.toArray E fz)) R) (hvs : vs = xs.map (Value.int .i64)) (hw : St w0 L w) : RdA w 1 inC (.slice (some ⟨b, 0, none⟩) xs.length cap) xs :=
  ⟨_, _, rfl, fun i x hx => ⟨_, rfl, fun j c hj => by
    cases j with
    | succ j => simp [inC] at hj
    | zero =>
      simp [inC] at hj; subst hj
      rw [Addr.add_lit, Addr.add_lit, World.cell?, (hw.lookP hp).2, hvs]
      simp [hx]⟩⟩
theorem words_e (w0 : World) (L : List HP) (v : Value) (xs : List Int) (hr : ∀ w, St w0 L w → RdA w 1 inC v xs) (hT : Tab w0) (hn : ∀ n ∈ xs, intB n) (hl : xs.length ≤ 1000) : KE Tryz.prog 80 #[v] w0 L (fun u M => u = .string (joinS (xs.map itoaS) sp) ∧ M = L) := by
  refine KE.mk (n := 20) Tryz.func80 rfl Tryz.ntmps80 (by simp) ?_
  intro w hw
  have hTw := hT.ext (Ext.of_below hw.below)
  obtain ⟨sa, cap, rfl, hc⟩ := hr w hw
  repeat ((with_reducible refine K.seq ?_))
  refine K.reg ?_
  refine KO.as rfl rfl ?_
  refine KO.nil ?_
  repeat (first | (with_reducible refine K.seq ?_) | (with_reducible refine KQ.next ?_))
  refine K.reg ?_
  refine KO.as rfl rfl ?_
  refine KO.nil ?_
  repeat (first | (with_reducible refine K.seq ?_) | (with_reducible refine KQ.next ?_))
  refine K.reg ?_
  refine KO.mv rfl rfl ?_
  refine KO.len rfl Tryz.underlying101 rfl ?_
  refine KO.mv rfl rfl ?_
  refine KO.nil ?_
  repeat (first | (with_reducible refine KQ.next ?_) | (with_reducible refine K.block ?_))
  refine K.loop (fun s : Nat × Value => [(3, s.2), (6, .slice sa xs.length cap), (7, .int .i64 (xs.length : Nat)), (8, .int .i64 (s.1 : Nat))]) (fun s => [strS s.2 ((xs.take s.1).map itoaS)]) (fun s => s.1 ≤ xs.length) (fun s => xs.length - s.1) (0, .slice none 0 0)
    (Nat.zero_le _) ⟨rfl, rfl, rfl, rfl, trivial⟩ (fun _ h => SL_nil h) ?_
  rintro ⟨k, vo⟩ hk
  dsimp only at hk ⊢
  repeat ((with_reducible refine K.seq ?_))
  refine K.reg ?_
  refine KO.lss rfl rfl rfl ?_
  refine KO.nil ?_
  repeat (first | (with_reducible refine K.seq ?_) | (with_reducible refine KQ.next ?_))
  refine K.condD rfl (fun h => ?_) (fun h => ?_)
  · obtain ⟨n, hnk⟩ : ∃ e, xs[k]? = some e := ⟨xs[k], List.getElem?_eq_getElem (by omega)⟩
    obtain ⟨ad, rfl, hh⟩ := hc k n hnk
    have hcell : w.cell? (ad.add (k * 1)) = some (.int .i64 n) := by have := hh 0 _ rfl; rwa [Addr.add_zero'] at this
    have hlen : ((xs.take k).map itoaS).length < 1000000 := by simp; omega
    have hin := hn n (List.mem_of_getElem? hnk)
    repeat (first | (with_reducible refine K.seq ?_) | (with_reducible refine KQ.next ?_) | (with_reducible refine K.skip ?_) | (with_reducible refine K.block ?_))
    refine K.reg ?_
    refine KO.idxH rfl rfl Tryz.runUnderlying101 Tryz.sizeOf3 (by exact rfl) (by omega) rfl ?_
    refine KO.ld0 rfl rfl Tryz.isAgg3 hcell rfl ?_
    refine KO.as rfl rfl ?_
    refine KO.nil ?_
    repeat ((with_reducible refine KQ.next ?_))
    refine K.reg ?_
    refine KO.mv rfl rfl ?_
    refine KO.mv rfl rfl ?_
    refine KO.ce (cp := []) rfl rfl rfl Tryz.call114 rfl (itoa_e w _ n hTw hin) ?_; rintro v' L' ⟨rfl, rfl⟩
    refine KO.bs1 (z := (Value.string ⟨#[]⟩)) (sz := 1) (by' := 16) rfl rfl Tryz.underlying57 (by kernel_rfl) (by exact rfl) (by exact rfl) (by decide) (by decide) rfl ?_; intro b15
    refine KO.app (z := Value.string ⟨#[]⟩) (sz := 1) (by' := 16) rfl rfl rfl (by with_reducible (repeat (first | exact Pick.head | apply Pick.tail))) (by with_reducible (repeat (exact Pick.head))) Tryz.underlying57 str_info rfl (itoaS n) (by exact rfl) (by exact rfl) (by exact rfl) (by omega) (by decide) rfl ?_; intro v'
    refine KO.as rfl rfl ?_
    refine KO.nil ?_
    repeat (first | (with_reducible refine KQ.next ?_) | (with_reducible refine KQ.blk_normal ?_))
    refine K.reg ?_
    refine KO.add rfl rfl rfl (by omega) rfl ?_
    refine KO.mv rfl rfl ?_
    refine KO.nil ?_
    refine KQ.round (k + 1, v') (by dsimp only; omega) (by dsimp only; omega) ⟨rfl, rfl, rfl, rfl, trivial⟩ (fun _ h => ?_)
    dsimp only
    rw [take_succ_some hnk, List.map_append]
    exact h
  · have hkl : k = xs.length := by omega
    rw [hkl, List.take_length]
    have hsz := joinS_size sp 21 (xs.map itoaS) (fun x hx => by obtain ⟨n, hn1, rfl⟩ := List.mem_map.1 hx; exact itoaS_size (hn n hn1))
    rw [List.length_map, show sp.size = 1 from rfl] at hsz
    repeat (first | (with_reducible refine K.seq ?_) | (with_reducible refine KQ.next ?_) | (with_reducible refine KQ.then_exit ?_) | (with_reducible refine KQ.blk_exit ?_) | (with_reducible refine K.exit ?_))
    refine K.reg ?_
    refine KO.mv rfl rfl ?_
    refine KO.ce (cp := []) rfl rfl rfl Tryz.call141 rfl (join_e w _ _ vo (xs.map itoaS) sp (by with_reducible (repeat (exact Pick.head))) (by simp; omega) (by omega)) ?_; rintro v' L' ⟨rfl, rfl⟩
    refine KO.as rfl rfl ?_
    refine KO.nil ?_
    repeat (first | (with_reducible refine KQ.next ?_) | (with_reducible refine K.ret ?_))
    refine KQ.ret1 rfl rfl (fun w' hs => ⟨_, _, rfl, ⟨rfl, rfl⟩, hw.below_step hs.below, hs.below⟩)
set_option maxRecDepth 100000 in
theorem rwrite_e (w0 : World) (L : List HP) (v : Value) (xs : List Ms) (hr : ∀ w, St w0 L w → RdA w 5 msC v xs) (hT : Tab w0) (hsz : ∀ m ∈ xs, m.body.size ≤ maxLen ∧ m.queue.size ≤ maxLen) (hl : xs.length ≤ 100000) :
    KE Tryz.prog 96 #[v] w0 L (fun u M => u = .tuple #[.string (writeT xs), .agg [Value.int .i64 (writeE xs), .int .i64 (writeP xs)].toArray] ∧ M = L) := by
  refine KE.mk (n := 48) Tryz.func96 rfl Tryz.ntmps96 (by simp) ?_
  intro w hw
  have hTw := hT.ext (Ext.of_below hw.below)
  obtain ⟨sa, cap, rfl, hc⟩ := hr w hw
  repeat ((with_reducible refine K.seq ?_))
  refine K.reg ?_
  refine KO.as rfl rfl ?_
  refine KO.alloc rfl Tryz.zeroValue97 (by exact rfl) rfl ?_; intro b3
  refine KO.nil ?_
  repeat (first | (with_reducible refine K.seq ?_) | (with_reducible refine KQ.next ?_))
  refine K.reg ?_
  refine KO.as rfl rfl ?_
  refine KO.nil ?_
  repeat (first | (with_reducible refine K.seq ?_) | (with_reducible refine KQ.next ?_))
  refine K.reg ?_
  refine KO.mv rfl rfl ?_
  refine KO.len rfl Tryz.underlying50 rfl ?_
  refine KO.mv rfl rfl ?_
  refine KO.nil ?_
  repeat (first | (with_reducible refine KQ.next ?_) | (with_reducible refine K.block ?_))
  refine K.loop (fun k : Nat => [(3, .pointer (some ⟨b3, 0, none⟩)), (4, .string (writeS (xs.take k))), (7, .slice sa xs.length cap), (8, .int .i64 (xs.length : Nat)), (9, .int .i64 (k : Nat))]) (fun _ => [blk b3 (.cells [Value.int .i64 0, .int .i64 0].toArray 97 (0, 0))]) (fun k => k ≤ xs.length ∧ ∀ (j : Nat) m, j < k → xs[j]? = some m → msRight m = true) (fun k => xs.length - k) 0
    ⟨Nat.zero_le _, fun j m h => by omega⟩ ⟨rfl, rfl, rfl, rfl, rfl, trivial⟩ (fun _ h => h.all (by with_reducible repeat (exact PAll.refl))) ?_
  rintro k ⟨hk, hall⟩
  repeat ((with_reducible refine K.seq ?_))
  refine K.reg ?_
  refine KO.lss rfl rfl rfl ?_
  refine KO.nil ?_
  repeat (first | (with_reducible refine K.seq ?_) | (with_reducible refine KQ.next ?_))
  refine K.condD rfl (fun h => ?_) (fun h => ?_)
  · obtain ⟨m, hm⟩ : ∃ e, xs[k]? = some e := ⟨xs[k], List.getElem?_eq_getElem (by omega)⟩
    obtain ⟨ad, rfl, hh⟩ := hc k m hm
    obtain ⟨hsb, hsq⟩ := hsz m (List.mem_of_getElem? hm)
    repeat (first | (with_reducible refine K.seq ?_) | (with_reducible refine KQ.next ?_) | (with_reducible refine K.skip ?_) | (with_reducible refine K.block ?_))
    refine K.reg ?_
    refine KO.mv rfl rfl ?_
    refine KO.idxH rfl rfl Tryz.runUnderlying50 Tryz.sizeOf31 (by exact rfl) (by omega) rfl ?_
    refine KO.ldN0 (cs := (msC m).toArray) rfl rfl Tryz.isAgg31 Tryz.sizeOf31 rfl hh rfl ?_
    refine KO.alloc rfl Tryz.zeroValue31 (by exact rfl) rfl ?_; intro b6
    refine KO.as rfl rfl ?_
    refine KO.sto0 rfl rfl rfl (by exact rfl) (by exact Tryz.sizeOf31) (by exact rfl) (by with_reducible (repeat (exact Pick.head))) (by exact rfl) ?_
    refine KO.nil ?_
    repeat (first | (with_reducible refine K.seq ?_) | (with_reducible refine KQ.next ?_))
    refine K.reg ?_
    refine KO.ldB0 rfl rfl Tryz.isAgg31 Tryz.sizeOf31 (by with_reducible (repeat (exact Pick.head))) (by exact rfl) rfl ?_
    refine KO.ce (cp := []) rfl rfl rfl Tryz.call19 rfl (rright_e w _ m hsb hsq) ?_; rintro v' L' ⟨rfl, rfl⟩
    refine KO.not rfl rfl ?_
    refine KO.nil ?_
    repeat ((with_reducible refine KQ.next ?_))
    refine K.cond rfl (fun h5 => ?_) (fun h5 => ?_)
    · have h6 : msRight m = false := by simpa using h5
      have hbad := badI_some hm h6 hall
      repeat ((with_reducible refine K.seq ?_))
      refine K.reg ?_
      refine KO.mv rfl rfl ?_
      refine KO.bldS (pl := [(0, 1), (1, 1)]) [.int .i64 1, .int .i64 (k : Nat)] rfl Tryz.zeroValue97 Tryz.runUnderlying97 (by intro w; simp [Tryz.sizeOf3, Tryz.sizeOf39]) rfl rfl ?_
      refine KO.as rfl rfl ?_
      refine KO.sto0 rfl rfl rfl (by exact rfl) (by exact Tryz.sizeOf97) (by exact rfl) (by with_reducible (repeat (first | exact Pick.head | apply Pick.tail))) (by exact rfl) ?_
      refine KO.nil ?_
      repeat (first | (with_reducible refine KQ.next ?_) | (with_reducible refine KQ.then_ret ?_) | (with_reducible refine KQ.blk_ret ?_) | (with_reducible refine K.ret ?_))
      refine KQ.retTC rfl rfl Tryz.isAgg97 (by with_reducible (repeat (exact Pick.head))) (by exact Tryz.sizeOf97) rfl (fun w' hs => ⟨_, _, rfl, ⟨?_, rfl⟩, hw.below_step hs.below, hs.below⟩)
      simp only [writeT, writeE, writeP, hbad]
    · have h6 : msRight m = true := by simpa using h5
      have hrp := msRight_parts h6
      have hms := msgS_size h6
      have htk : ∀ m ∈ xs.take k, msRight m = true := fun m hm => by
        obtain ⟨j, hj, rfl⟩ := List.getElem_of_mem hm
        rw [List.length_take] at hj
        exact hall j _ (by omega) (by rw [List.getElem?_eq_getElem (by omega), List.getElem_take])
      have hwz := writeS_size htk
      rw [List.length_take, Nat.min_eq_left hk] at hwz
      repeat (first | (with_reducible refine K.seq ?_) | (with_reducible refine KQ.next ?_) | (with_reducible refine K.skip ?_))
      refine K.reg ?_
      refine KO.mv rfl rfl ?_
      refine KO.gtr rfl rfl rfl ?_
      refine KO.nil ?_
      repeat ((with_reducible refine KQ.next ?_))
      refine K.cut (fun _ : Unit => [(4, .string (if k = 0 then ⟨#[]⟩ else writeS (xs.take k) ++ plus)), (5, .int .i64 (k : Nat)), (6, .pointer (some ⟨b6, 0, none⟩)), (3, .pointer (some ⟨b3, 0, none⟩)), (7, .slice (some ad) xs.length cap), (8, .int .i64 (xs.length : Nat)), (9, .int .i64 (k : Nat))]) (fun _ => [blk b6 (.cells (msC m).toArray 31 (0, 0)), blk b3 (.cells [Value.int .i64 0, .int .i64 0].toArray 97 (0, 0))]) (fun _ => True) ?_ ?_
      · refine K.condD rfl (fun h7 => ?_) (fun h7 => ?_)
        · (skip)
          refine K.reg ?_
          refine KO.mv rfl rfl ?_
          refine KO.cat rfl rfl (by rw [show (⟨#[43]⟩ : ByteArray).size = 1 from rfl]; omega) rfl ?_
          refine KO.as rfl rfl ?_
          refine KO.nil ?_
          exact KQ.mid () trivial ⟨by rw [if_neg (by omega)]; rfl, rfl, rfl, rfl, rfl, rfl, rfl, trivial⟩ (fun _ h => h.all (by with_reducible repeat (exact PAll.refl)))
        · repeat ((with_reducible refine K.skip ?_))
          have hk0 : k = 0 := by omega
          exact KQ.mid () trivial ⟨by rw [if_pos hk0, hk0]; rfl, rfl, rfl, rfl, rfl, rfl, rfl, trivial⟩ (fun _ h => h.all (by with_reducible repeat (exact PAll.refl)))
      rintro _ _
      generalize hS : (if k = 0 then (⟨#[]⟩ : ByteArray) else writeS (xs.take k) ++ plus) = S
      have hSz : S.size ≤ k * 101 + 1 := by
        rw [← hS]; split
        · exact Nat.zero_le _
        · rw [ByteArray.size_append, show plus.size = 1 from rfl]; omega
      have i1 : intB m.id := ⟨by omega, by omega⟩
      have i2 : intB m.pri := ⟨by omega, by omega⟩
      have i3 : intB m.house := ⟨by omega, by omega⟩
      have hW2 : joinS ([m.id, m.pri].map itoaS) sp = itoaS m.id ++ sp ++ itoaS m.pri := joinS_two _ _ _
      have hW1 : joinS ([m.house].map itoaS) sp = itoaS m.house := joinS_one _ _
      have z1 := itoaS_size i1
      have z2 := itoaS_size i2
      have z3 := itoaS_size i3
      have z4 : m.body.size ≤ 12 := by have := hrp.2.2.2.2.1; unfold bodyB lettersB at this; simp at this; omega
      have z5 : m.queue.size ≤ 8 := by have := hrp.2.2.2.2.2.1; unfold wordB lettersB at this; simp at this; omega
      have z6 : (⟨#[32]⟩ : ByteArray).size = 1 := rfl
      have z7 : sp.size = 1 := rfl
      have hfin : writeS (xs.take (k + 1)) = S ++ msgS m := by
        rw [take_succ_some hm, writeS_snoc, ← hS]
        by_cases h0 : k = 0
        · subst h0; rw [List.take_zero, if_pos rfl, if_pos rfl, cat_nil]
        · rw [if_neg h0, if_neg (fun e => h0 (by have := congrArg List.length e; rw [List.length_take, Nat.min_eq_left hk] at this; simpa using this))]
      refine K.drawX [.pure, .pure, .read, .pure, .read, .keep, .keep, .pure, .pure, .read, .pure, .pure, .pure, .read, .pure, .pure, .pure, .read, .keep, .keep, .pure, .pure, .pure] [(5, 18), (6, 18)] [[0, 1, 2, 3, 4, 8, 9, 12, 13, 16, 17, 5, 6, 7, 10, 11, 14, 15, 18, 19, 20, 21, 22], [0, 1, 2, 3, 4, 8, 9, 12, 13, 16, 17, 5, 18, 6, 7, 10, 11, 14, 15, 19, 20, 21, 22], [0, 1, 2, 3, 4, 8, 9, 12, 13, 16, 17, 18, 5, 6, 7, 10, 11, 14, 15, 19, 20, 21, 22]] (by kernel_rfl) (by kernel_rfl) (by kernel_rfl) ⟨?_, ?_, ?_, trivial⟩
      focus
        show KO _ _ _ _ _ _ _ _ _ _
        refine KO.mv rfl rfl ?_
        refine KO.fo0 (off := 0) rfl Tryz.runUnderlying31 rfl rfl Tryz.sizeOf3 rfl ?_
        refine KO.ld rfl rfl Tryz.isAgg3 (by with_reducible (repeat (exact Pick.head))) (by exact rfl) rfl ?_
        refine KO.fo0 (off := 1) rfl Tryz.runUnderlying31 rfl rfl Tryz.sizeOf3 rfl ?_
        refine KO.ld rfl rfl Tryz.isAgg3 (by with_reducible (repeat (exact Pick.head))) (by exact rfl) rfl ?_
        refine KO.fo0 (off := 2) rfl Tryz.runUnderlying31 rfl rfl Tryz.sizeOf9 rfl ?_
        refine KO.ld rfl rfl Tryz.isAgg9 (by with_reducible (repeat (exact Pick.head))) (by exact rfl) rfl ?_
        refine KO.fo0 (off := 3) rfl Tryz.runUnderlying31 rfl rfl Tryz.sizeOf9 rfl ?_
        refine KO.ld rfl rfl Tryz.isAgg9 (by with_reducible (repeat (exact Pick.head))) (by exact rfl) rfl ?_
        refine KO.fo0 (off := 4) rfl Tryz.runUnderlying31 rfl rfl Tryz.sizeOf3 rfl ?_
        refine KO.ld rfl rfl Tryz.isAgg3 (by with_reducible (repeat (exact Pick.head))) (by exact rfl) rfl ?_
        refine KO.bsF (z := (Value.int .i64 0)) (by' := 8) rfl [.tmp 25, .tmp 27] rfl rfl Tryz.underlying101 (by kernel_rfl) (by exact rfl) (by exact rfl) (by decide) (by decide) (by exact rfl) rfl ?_; intro b28
        refine KO.ce (cp := []) rfl rfl rfl Tryz.call80 rfl (words_e w _ _ [m.id, m.pri] (fun w' hw' => rdA_blk (vs := [.int .i64 m.id, .int .i64 m.pri]) (xs := [m.id, m.pri]) (by with_reducible (repeat (exact Pick.head))) rfl hw') hTw (by intro n hn; simp at hn; rcases hn with rfl | rfl <;> assumption) (by simp)) ?_; rintro v' L' ⟨rfl, rfl⟩; rw [hW2]
        refine KO.cat rfl rfl (by simp only [ByteArray.size_append, z6, z7]; omega) rfl ?_
        refine KO.cat rfl rfl (by simp only [ByteArray.size_append, z6, z7]; omega) rfl ?_
        refine KO.cat rfl rfl (by simp only [ByteArray.size_append, z6, z7]; omega) rfl ?_
        refine KO.cat rfl rfl (by simp only [ByteArray.size_append, z6, z7]; omega) rfl ?_
        refine KO.cat rfl rfl (by simp only [ByteArray.size_append, z6, z7]; omega) rfl ?_
        refine KO.bs1 (z := (Value.int .i64 0)) (sz := 1) (by' := 8) rfl rfl Tryz.underlying101 (by kernel_rfl) (by exact rfl) (by exact rfl) (by decide) (by decide) rfl ?_; intro b41
        refine KO.ce (cp := []) rfl rfl rfl Tryz.call80 rfl (words_e w _ _ [m.house] (fun w' hw' => rdA_blk (vs := [.int .i64 m.house]) (xs := [m.house]) (by with_reducible (repeat (exact Pick.head))) rfl hw') hTw (by intro n hn; simp at hn; subst hn; assumption) (by simp)) ?_; rintro v' L' ⟨rfl, rfl⟩; rw [hW1]
        refine KO.cat rfl rfl (by simp only [ByteArray.size_append, z6, z7]; omega) rfl ?_
        refine KO.cat rfl rfl (by simp only [ByteArray.size_append, z6, z7]; omega) rfl ?_
        refine KO.as rfl rfl ?_
        refine KO.nil ?_
        repeat (first | (with_reducible refine KQ.next ?_) | (with_reducible refine KQ.blk_normal ?_))
      rotate_left
      focus
        show KO _ _ _ _ _ _ _ _ _ _
        refine KO.mv rfl rfl ?_
        refine KO.fo0 (off := 0) rfl Tryz.runUnderlying31 rfl rfl Tryz.sizeOf3 rfl ?_
        refine KO.ld rfl rfl Tryz.isAgg3 (by with_reducible (repeat (exact Pick.head))) (by exact rfl) rfl ?_
        refine KO.fo0 (off := 1) rfl Tryz.runUnderlying31 rfl rfl Tryz.sizeOf3 rfl ?_
        refine KO.ld rfl rfl Tryz.isAgg3 (by with_reducible (repeat (exact Pick.head))) (by exact rfl) rfl ?_
        refine KO.fo0 (off := 2) rfl Tryz.runUnderlying31 rfl rfl Tryz.sizeOf9 rfl ?_
        refine KO.ld rfl rfl Tryz.isAgg9 (by with_reducible (repeat (exact Pick.head))) (by exact rfl) rfl ?_
        refine KO.fo0 (off := 3) rfl Tryz.runUnderlying31 rfl rfl Tryz.sizeOf9 rfl ?_
        refine KO.ld rfl rfl Tryz.isAgg9 (by with_reducible (repeat (exact Pick.head))) (by exact rfl) rfl ?_
        refine KO.fo0 (off := 4) rfl Tryz.runUnderlying31 rfl rfl Tryz.sizeOf3 rfl ?_
        refine KO.ld rfl rfl Tryz.isAgg3 (by with_reducible (repeat (exact Pick.head))) (by exact rfl) rfl ?_
        refine KO.bsF (z := (Value.int .i64 0)) (by' := 8) rfl [.tmp 25, .tmp 27] rfl rfl Tryz.underlying101 (by kernel_rfl) (by exact rfl) (by exact rfl) (by decide) (by decide) (by exact rfl) rfl ?_; intro b28
        refine KO.bs1 (z := (Value.int .i64 0)) (sz := 1) (by' := 8) rfl rfl Tryz.underlying101 (by kernel_rfl) (by exact rfl) (by exact rfl) (by decide) (by decide) rfl ?_; intro b41
        refine KO.ce (cp := []) rfl rfl rfl Tryz.call80 rfl (words_e w _ _ [m.id, m.pri] (fun w' hw' => rdA_blk (vs := [.int .i64 m.id, .int .i64 m.pri]) (xs := [m.id, m.pri]) (by with_reducible (repeat (first | exact Pick.head | apply Pick.tail))) rfl hw') hTw (by intro n hn; simp at hn; rcases hn with rfl | rfl <;> assumption) (by simp)) ?_; rintro v' L' ⟨rfl, rfl⟩; rw [hW2]
        refine KO.cat rfl rfl (by simp only [ByteArray.size_append, z6, z7]; omega) rfl ?_
        refine KO.cat rfl rfl (by simp only [ByteArray.size_append, z6, z7]; omega) rfl ?_
        refine KO.cat rfl rfl (by simp only [ByteArray.size_append, z6, z7]; omega) rfl ?_
        refine KO.cat rfl rfl (by simp only [ByteArray.size_append, z6, z7]; omega) rfl ?_
        refine KO.cat rfl rfl (by simp only [ByteArray.size_append, z6, z7]; omega) rfl ?_
        refine KO.ce (cp := []) rfl rfl rfl Tryz.call80 rfl (words_e w _ _ [m.house] (fun w' hw' => rdA_blk (vs := [.int .i64 m.house]) (xs := [m.house]) (by with_reducible (repeat (exact Pick.head))) rfl hw') hTw (by intro n hn; simp at hn; subst hn; assumption) (by simp)) ?_; rintro v' L' ⟨rfl, rfl⟩; rw [hW1]
        refine KO.cat rfl rfl (by simp only [ByteArray.size_append, z6, z7]; omega) rfl ?_
        refine KO.cat rfl rfl (by simp only [ByteArray.size_append, z6, z7]; omega) rfl ?_
        refine KO.as rfl rfl ?_
        refine KO.nil ?_
        repeat (first | (with_reducible refine KQ.next ?_) | (with_reducible refine KQ.blk_normal ?_))
      rotate_left
      focus
        show KO _ _ _ _ _ _ _ _ _ _
        refine KO.mv rfl rfl ?_
        refine KO.fo0 (off := 0) rfl Tryz.runUnderlying31 rfl rfl Tryz.sizeOf3 rfl ?_
        refine KO.ld rfl rfl Tryz.isAgg3 (by with_reducible (repeat (exact Pick.head))) (by exact rfl) rfl ?_
        refine KO.fo0 (off := 1) rfl Tryz.runUnderlying31 rfl rfl Tryz.sizeOf3 rfl ?_
        refine KO.ld rfl rfl Tryz.isAgg3 (by with_reducible (repeat (exact Pick.head))) (by exact rfl) rfl ?_
        refine KO.fo0 (off := 2) rfl Tryz.runUnderlying31 rfl rfl Tryz.sizeOf9 rfl ?_
        refine KO.ld rfl rfl Tryz.isAgg9 (by with_reducible (repeat (exact Pick.head))) (by exact rfl) rfl ?_
        refine KO.fo0 (off := 3) rfl Tryz.runUnderlying31 rfl rfl Tryz.sizeOf9 rfl ?_
        refine KO.ld rfl rfl Tryz.isAgg9 (by with_reducible (repeat (exact Pick.head))) (by exact rfl) rfl ?_
        refine KO.fo0 (off := 4) rfl Tryz.runUnderlying31 rfl rfl Tryz.sizeOf3 rfl ?_
        refine KO.ld rfl rfl Tryz.isAgg3 (by with_reducible (repeat (exact Pick.head))) (by exact rfl) rfl ?_
        refine KO.bs1 (z := (Value.int .i64 0)) (sz := 1) (by' := 8) rfl rfl Tryz.underlying101 (by kernel_rfl) (by exact rfl) (by exact rfl) (by decide) (by decide) rfl ?_; intro b41
        refine KO.bsF (z := (Value.int .i64 0)) (by' := 8) rfl [.tmp 25, .tmp 27] rfl rfl Tryz.underlying101 (by kernel_rfl) (by exact rfl) (by exact rfl) (by decide) (by decide) (by exact rfl) rfl ?_; intro b28
        refine KO.ce (cp := []) rfl rfl rfl Tryz.call80 rfl (words_e w _ _ [m.id, m.pri] (fun w' hw' => rdA_blk (vs := [.int .i64 m.id, .int .i64 m.pri]) (xs := [m.id, m.pri]) (by with_reducible (repeat (exact Pick.head))) rfl hw') hTw (by intro n hn; simp at hn; rcases hn with rfl | rfl <;> assumption) (by simp)) ?_; rintro v' L' ⟨rfl, rfl⟩; rw [hW2]
        refine KO.cat rfl rfl (by simp only [ByteArray.size_append, z6, z7]; omega) rfl ?_
        refine KO.cat rfl rfl (by simp only [ByteArray.size_append, z6, z7]; omega) rfl ?_
        refine KO.cat rfl rfl (by simp only [ByteArray.size_append, z6, z7]; omega) rfl ?_
        refine KO.cat rfl rfl (by simp only [ByteArray.size_append, z6, z7]; omega) rfl ?_
        refine KO.cat rfl rfl (by simp only [ByteArray.size_append, z6, z7]; omega) rfl ?_
        refine KO.ce (cp := []) rfl rfl rfl Tryz.call80 rfl (words_e w _ _ [m.house] (fun w' hw' => rdA_blk (vs := [.int .i64 m.house]) (xs := [m.house]) (by with_reducible (repeat (first | exact Pick.head | apply Pick.tail))) rfl hw') hTw (by intro n hn; simp at hn; subst hn; assumption) (by simp)) ?_; rintro v' L' ⟨rfl, rfl⟩; rw [hW1]
        refine KO.cat rfl rfl (by simp only [ByteArray.size_append, z6, z7]; omega) rfl ?_
        refine KO.cat rfl rfl (by simp only [ByteArray.size_append, z6, z7]; omega) rfl ?_
        refine KO.as rfl rfl ?_
        refine KO.nil ?_
        repeat (first | (with_reducible refine KQ.next ?_) | (with_reducible refine KQ.blk_normal ?_))
      rotate_left
      all_goals (
        refine K.reg ?_
        refine KO.add rfl rfl rfl (by omega) rfl ?_
        refine KO.mv rfl rfl ?_
        refine KO.nil ?_
        refine KQ.round (k + 1) ⟨by omega, fun j m' hj hm' => ?_⟩ (by omega) ⟨rfl, by rw [hfin]; rfl, rfl, rfl, rfl, trivial⟩ (fun _ h => h.all (by with_reducible repeat (first | exact PAll.nil | refine PAll.cons (by with_reducible repeat (first | exact Pick.head | apply Pick.tail)) ?_)))
        by_cases hjk : j = k
        · subst hjk; rw [hm] at hm'; cases hm'; exact h6
        · exact hall j m' (by omega) hm')
  · have hkl : k = xs.length := by omega
    have hbad : badI xs = none := badI_none fun j m hm => hall j m (by have := (List.getElem?_eq_some_iff.1 hm).1; omega) hm
    repeat (first | (with_reducible refine K.seq ?_) | (with_reducible refine KQ.next ?_) | (with_reducible refine KQ.then_exit ?_) | (with_reducible refine KQ.blk_exit ?_) | (with_reducible refine K.exit ?_))
    refine K.reg ?_
    refine KO.mv rfl rfl ?_
    refine KO.ce (cp := []) rfl rfl rfl Tryz.call51 rfl (bare_e w _ 0) ?_; rintro v' L' ⟨rfl, rfl⟩
    refine KO.as rfl rfl ?_
    refine KO.sto0 rfl rfl rfl (by exact rfl) (by exact Tryz.sizeOf97) (by exact rfl) (by with_reducible (repeat (exact Pick.head))) (by exact rfl) ?_
    refine KO.nil ?_
    repeat (first | (with_reducible refine KQ.next ?_) | (with_reducible refine K.ret ?_))
    refine KQ.retTC rfl rfl Tryz.isAgg97 (by with_reducible (repeat (exact Pick.head))) (by exact Tryz.sizeOf97) rfl (fun w' hs => ⟨_, _, rfl, ⟨?_, rfl⟩, hw.below_step hs.below, hs.below⟩)
    simp only [writeT, writeE, writeP, hbad]
    rw [hkl, List.take_length]
theorem mwrite1_e (w0 : World) (L : List HP) (m : Ms) (hb : m.body.size ≤ maxLen) (hq : m.queue.size ≤ maxLen) : KE Tryz.prog 176 #[.agg (msC m).toArray] w0 L (fun u M => u = .bool (!msRight m) ∧ M = L) := by
  refine KE.mk (n := 6) Tryz.func176 rfl Tryz.ntmps176 (by simp) ?_
  intro w hw
  repeat ((with_reducible refine K.seq ?_))
  refine K.reg ?_
  refine KO.box rfl rfl (by exact rfl) rfl ?_; intro b1
  refine KO.as rfl rfl ?_
  refine KO.nil ?_
  repeat (first | (with_reducible refine K.seq ?_) | (with_reducible refine KQ.next ?_))
  refine K.reg ?_
  refine KO.ldB0 rfl rfl Tryz.isAgg31 Tryz.sizeOf31 (by with_reducible (repeat (exact Pick.head))) (by exact rfl) rfl ?_
  refine KO.ce (cp := []) rfl rfl rfl Tryz.call52 rfl (right_e w _ m hb hq) ?_; rintro v' L' ⟨rfl, rfl⟩
  refine KO.not rfl rfl ?_
  refine KO.as rfl rfl ?_
  refine KO.nil ?_
  repeat (first | (with_reducible refine KQ.next ?_) | (with_reducible refine K.ret ?_))
  refine KQ.ret1 rfl rfl (fun w' hs => ⟨_, _, rfl, ⟨rfl, rfl⟩, hw.below_step hs.below, hs.below⟩)
theorem idxm_e (w0 : World) (L : List HP) (v : Value) (xs : List Ms) (f : FuncId) (cp : List Value) (pf : Ms → Bool) (hr : ∀ w, St w0 L w → RdA w 5 msC v xs) (hlen : xs.length < 1000000) (hcall : ∀ args w, (callFunc f args).run Tryz.prog w = .ok (.enter f args) w)
    (hcl : ∀ e, e ∈ xs → KE Tryz.prog f ([] ++ ([Value.agg (msC e).toArray] ++ cp)).toArray w0 L (fun v L' => v = .bool (pf e) ∧ L' = L)) :
    KE Tryz.prog 175 #[v, .func (.func f) [].toArray cp.toArray] w0 L (fun v L' => v = .int .i64 (fidx pf xs) ∧ L' = L) := by
  refine KE.mk (n := 19) Tryz.func175 rfl Tryz.ntmps175 (by simp) ?_
  intro w hw
  obtain ⟨a, cap, rfl, hc⟩ := hr w hw
  repeat ((with_reducible refine K.seq ?_))
  refine K.reg ?_
  refine KO.as rfl rfl ?_
  refine KO.nil ?_
  repeat (first | (with_reducible refine K.seq ?_) | (with_reducible refine KQ.next ?_))
  refine K.reg ?_
  refine KO.mv rfl rfl ?_
  refine KO.len rfl Tryz.underlying50 rfl ?_
  refine KO.mv rfl rfl ?_
  refine KO.nil ?_
  repeat (first | (with_reducible refine KQ.next ?_) | (with_reducible refine K.block ?_))
  refine K.loop (fun k : Nat => [(0, .slice a xs.length cap), (1, .func (.func f) [].toArray cp.toArray), (7, .int .i64 (xs.length : Nat)), (8, .int .i64 (k : Nat))]) (fun _ => []) (fun k => k ≤ xs.length ∧ ∀ (j : Nat) (u : Ms), j < k → xs[j]? = some u → pf u = false) (fun k => xs.length - k) 0 ⟨by omega, fun j u h => by omega⟩ ⟨rfl, rfl, rfl, rfl, trivial⟩ (fun _ h => h) ?_
  rintro k ⟨hk, hno⟩
  repeat ((with_reducible refine K.seq ?_))
  refine K.reg ?_
  refine KO.lss rfl rfl rfl ?_
  refine KO.nil ?_
  repeat (first | (with_reducible refine K.seq ?_) | (with_reducible refine KQ.next ?_))
  refine K.condD rfl (fun h => ?_) (fun h => ?_)
  · have hlt : k < xs.length := by omega
    obtain ⟨e, he⟩ : ∃ e, xs[k]? = some e := ⟨xs[k], List.getElem?_eq_getElem hlt⟩
    obtain ⟨ad, rfl, hh⟩ := hc k e he
    repeat (first | (with_reducible refine K.seq ?_) | (with_reducible refine KQ.next ?_) | (with_reducible refine K.skip ?_) | (with_reducible refine K.block ?_))
    refine K.reg ?_
    refine KO.mv rfl rfl ?_
    refine KO.as rfl rfl ?_
    refine KO.nil ?_
    repeat (first | (with_reducible refine K.seq ?_) | (with_reducible refine KQ.next ?_))
    refine K.reg ?_
    refine KO.mv rfl rfl ?_
    refine KO.mv rfl rfl ?_
    refine KO.mv rfl rfl ?_
    refine KO.idxH rfl rfl Tryz.runUnderlying50 Tryz.sizeOf31 (by exact rfl) (by omega) rfl ?_
    refine KO.ldN0 (cs := (msC e).toArray) rfl rfl Tryz.isAgg31 Tryz.sizeOf31 rfl hh rfl ?_
    refine KO.ce rfl rfl rfl hcall rfl ((hcl e (List.mem_of_getElem? he)).rebase hw) ?_; rintro v L' ⟨rfl, rfl⟩
    refine KO.nil ?_
    repeat ((with_reducible refine KQ.next ?_))
    refine K.cond rfl (fun h1 => ?_) (fun h1 => ?_)
    · repeat ((with_reducible refine K.seq ?_))
      refine K.reg ?_
      refine KO.mv rfl rfl ?_
      refine KO.as rfl rfl ?_
      refine KO.nil ?_
      repeat (first | (with_reducible refine KQ.next ?_) | (with_reducible refine KQ.then_ret ?_) | (with_reducible refine KQ.blk_ret ?_) | (with_reducible refine K.ret ?_))
      refine KQ.ret1 rfl rfl (fun w' hs => ⟨_, _, rfl, ⟨?_, rfl⟩, hw.below_step hs.below, hs.below⟩)
      rw [fidx_hit he h1 hno]
    · repeat (first | (with_reducible refine KQ.next ?_) | (with_reducible refine KQ.blk_normal ?_) | (with_reducible refine K.skip ?_))
      refine K.reg ?_
      refine KO.add rfl rfl rfl (by omega) rfl ?_
      refine KO.mv rfl rfl ?_
      refine KO.nil ?_
      refine KQ.round (k + 1) ⟨by omega, fun j u hj hu => ?_⟩ (by omega) ⟨rfl, rfl, rfl, rfl, trivial⟩ (fun _ h => h)
      by_cases hjk : j = k
      · subst hjk; rw [he] at hu; simp only [Option.some.injEq] at hu; rw [← hu]; exact h1
      · exact hno j u (by omega) hu
  · repeat (first | (with_reducible refine K.seq ?_) | (with_reducible refine KQ.next ?_) | (with_reducible refine KQ.then_exit ?_) | (with_reducible refine KQ.blk_exit ?_) | (with_reducible refine K.exit ?_))
    refine K.reg ?_
    refine KO.as rfl rfl ?_
    refine KO.nil ?_
    repeat (first | (with_reducible refine KQ.next ?_) | (with_reducible refine K.ret ?_))
    refine KQ.ret1 rfl rfl (fun w' hs => ⟨_, _, rfl, ⟨?_, rfl⟩, hw.below_step hs.below, hs.below⟩)
    rw [fidx_miss fun j u hu => hno j u (by have := (List.getElem?_eq_some_iff.1 hu).1; omega) hu]
/-- what msg.Write answers -/
def MwR (L : List HP) (xs : List Ms) (u : Value) (M : List HP) : Prop :=
  match badI xs with
  | none => u = .tuple #[.string (writeS xs), .nilIface] ∧ M = L
  | some k => ∃ b, u = .tuple #[.string ⟨#[]⟩, atV b] ∧ M = atB b 1 k :: L
set_option maxRecDepth 100000 in
theorem mwrite_e (w0 : World) (L : List HP) (v : Value) (xs : List Ms) (hr : ∀ w, St w0 L w → RdA w 5 msC v xs) (hT : Tab w0) (hsz : ∀ m ∈ xs, m.body.size ≤ maxLen ∧ m.queue.size ≤ maxLen) (hl : xs.length ≤ 100000) :
    KE Tryz.prog 98 #[v] w0 L (MwR L xs) := by
  refine KE.mk (n := 49) Tryz.func98 rfl Tryz.ntmps98 (by simp) ?_
  intro w hw
  have hTw := hT.ext (Ext.of_below hw.below)
  have hrw := hr w hw
  obtain ⟨sa, cap, rfl, hc⟩ := hrw
  repeat ((with_reducible refine K.seq ?_))
  refine K.reg ?_
  refine KO.as rfl rfl ?_
  refine KO.as rfl rfl ?_
  refine KO.nil ?_
  repeat (first | (with_reducible refine K.seq ?_) | (with_reducible refine KQ.next ?_))
  refine K.reg ?_
  refine KO.mv rfl rfl ?_
  refine KO.ce (cp := []) rfl rfl rfl Tryz.call175 rfl (idxm_e w _ _ xs 176 [] (fun m => !msRight m) (fun w' hw' => rdA_extM ⟨sa, cap, rfl, hc⟩ (Ext.of_below hw'.below)) (by omega) Tryz.call176 (fun e he => mwrite1_e w _ e (hsz e he).1 (hsz e he).2)) ?_; rintro v' L' ⟨rfl, rfl⟩
  refine KO.as rfl rfl ?_
  refine KO.nil ?_
  repeat (first | (with_reducible refine K.seq ?_) | (with_reducible refine KQ.next ?_))
  refine K.reg ?_
  refine KO.mv rfl rfl ?_
  refine KO.geq rfl rfl rfl ?_
  refine KO.nil ?_
  repeat ((with_reducible refine KQ.next ?_))
  refine K.condD rfl (fun h => ?_) (fun h => ?_)
  · obtain ⟨k, m, hk, hm, hb, hlt, hfi⟩ := fidx_nonneg h
    have hbad : badI xs = some k := hfi
    rw [hk]
    repeat ((with_reducible refine K.seq ?_))
    refine K.reg ?_
    refine KO.mv rfl rfl ?_
    refine KO.bldS (pl := [(0, 1), (1, 1)]) [.int .i64 1, .int .i64 (k : Nat)] rfl Tryz.zeroValue260 Tryz.runUnderlying260 (by intro w; simp [Tryz.sizeOf3, Tryz.sizeOf39]) rfl rfl ?_
    refine KO.box rfl rfl (by exact rfl) rfl ?_; intro b14
    refine KO.mki rfl (by kernel_rfl) rfl ?_
    refine KO.as rfl rfl ?_
    refine KO.as rfl rfl ?_
    refine KO.nil ?_
    repeat (first | (with_reducible refine KQ.next ?_) | (with_reducible refine KQ.then_ret ?_) | (with_reducible refine K.ret ?_))
    refine KQ.ret2 rfl rfl rfl (fun w' hs => ⟨_, _, rfl, ?_, hw.stack hs, hs.below⟩)
    unfold MwR; rw [hbad]
    exact ⟨_, rfl, rfl⟩
  · have hbad : badI xs = none := fidx_neg (by omega)
    have hall := badI_all hbad
    repeat (first | (with_reducible refine K.seq ?_) | (with_reducible refine KQ.next ?_) | (with_reducible refine K.skip ?_))
    refine K.reg ?_
    refine KO.as rfl rfl ?_
    refine KO.nil ?_
    repeat (first | (with_reducible refine K.seq ?_) | (with_reducible refine KQ.next ?_))
    refine K.reg ?_
    refine KO.mv rfl rfl ?_
    refine KO.len rfl Tryz.underlying50 rfl ?_
    refine KO.mv rfl rfl ?_
    refine KO.nil ?_
    repeat (first | (with_reducible refine KQ.next ?_) | (with_reducible refine K.block ?_))
    refine K.loop (fun s : Nat × Value => [(5, s.2), (16, .slice sa xs.length cap), (17, .int .i64 (xs.length : Nat)), (18, .int .i64 (s.1 : Nat))]) (fun s => [strS s.2 ((xs.take s.1).map msgS)]) (fun s => s.1 ≤ xs.length) (fun s => xs.length - s.1) (0, .slice none 0 0)
      (Nat.zero_le _) ⟨rfl, rfl, rfl, rfl, trivial⟩ (fun _ h => SL_nil h) ?_
    rintro ⟨k, vo⟩ hk
    dsimp only at hk ⊢
    repeat ((with_reducible refine K.seq ?_))
    refine K.reg ?_
    refine KO.lss rfl rfl rfl ?_
    refine KO.nil ?_
    repeat (first | (with_reducible refine K.seq ?_) | (with_reducible refine KQ.next ?_))
    refine K.condD rfl (fun h1 => ?_) (fun h1 => ?_)
    · obtain ⟨m, hm⟩ : ∃ e, xs[k]? = some e := ⟨xs[k], List.getElem?_eq_getElem (by omega)⟩
      obtain ⟨ad, rfl, hh⟩ := hc k m hm
      have h6 := hall m (List.mem_of_getElem? hm)
      have hrp := msRight_parts h6
      have i1 : intB m.id := ⟨by omega, by omega⟩
      have i2 : intB m.pri := ⟨by omega, by omega⟩
      have i3 : intB m.house := ⟨by omega, by omega⟩
      have z1 := itoaS_size i1
      have z2 := itoaS_size i2
      have z3 := itoaS_size i3
      have z4 : m.body.size ≤ 12 := by have := hrp.2.2.2.2.1; unfold bodyB lettersB at this; simp at this; omega
      have z5 : m.queue.size ≤ 8 := by have := hrp.2.2.2.2.2.1; unfold wordB lettersB at this; simp at this; omega
      have z6 : (⟨#[32]⟩ : ByteArray).size = 1 := rfl
      have z7 : sp.size = 1 := rfl
      have hlen : ((xs.take k).map msgS).length < 1000000 := by simp; omega
      repeat (first | (with_reducible refine K.seq ?_) | (with_reducible refine KQ.next ?_) | (with_reducible refine K.skip ?_) | (with_reducible refine K.block ?_))
      refine K.reg ?_
      refine KO.idxH rfl rfl Tryz.runUnderlying50 Tryz.sizeOf31 (by exact rfl) (by omega) rfl ?_
      refine KO.ldN0 (cs := (msC m).toArray) rfl rfl Tryz.isAgg31 Tryz.sizeOf31 rfl hh rfl ?_
      refine KO.alloc rfl Tryz.zeroValue31 (by exact rfl) rfl ?_; intro b7
      refine KO.sto0 rfl rfl rfl (by exact rfl) (by exact Tryz.sizeOf31) (by exact rfl) (by with_reducible (repeat (exact Pick.head))) (by exact rfl) ?_
      refine KO.nil ?_
      repeat ((with_reducible refine KQ.next ?_))
      refine K.draw [.pure, .pure, .read, .keep, .pure, .pure, .read, .keep, .pure, .pure, .pure, .read, .pure, .pure, .pure, .read, .pure, .pure, .pure, .read, .keep, .pure, .keep, .write, .pure] [0, 1, 2, 5, 6, 10, 11, 14, 15, 18, 19, 3, 4, 7, 8, 9, 12, 13, 16, 17, 20, 21, 22, 23, 24] (by kernel_rfl) (by kernel_rfl) ?_
      refine KO.mv rfl rfl ?_
      refine KO.fo0 (off := 0) rfl Tryz.runUnderlying31 rfl rfl Tryz.sizeOf3 rfl ?_
      refine KO.ld rfl rfl Tryz.isAgg3 (by with_reducible (repeat (exact Pick.head))) (by exact rfl) rfl ?_
      refine KO.fo0 (off := 1) rfl Tryz.runUnderlying31 rfl rfl Tryz.sizeOf3 rfl ?_
      refine KO.ld rfl rfl Tryz.isAgg3 (by with_reducible (repeat (exact Pick.head))) (by exact rfl) rfl ?_
      refine KO.fo0 (off := 2) rfl Tryz.runUnderlying31 rfl rfl Tryz.sizeOf9 rfl ?_
      refine KO.ld rfl rfl Tryz.isAgg9 (by with_reducible (repeat (exact Pick.head))) (by exact rfl) rfl ?_
      refine KO.fo0 (off := 3) rfl Tryz.runUnderlying31 rfl rfl Tryz.sizeOf9 rfl ?_
      refine KO.ld rfl rfl Tryz.isAgg9 (by with_reducible (repeat (exact Pick.head))) (by exact rfl) rfl ?_
      refine KO.fo0 (off := 4) rfl Tryz.runUnderlying31 rfl rfl Tryz.sizeOf3 rfl ?_
      refine KO.ld rfl rfl Tryz.isAgg3 (by with_reducible (repeat (exact Pick.head))) (by exact rfl) rfl ?_
      refine KO.ce (cp := []) rfl rfl rfl Tryz.call114 rfl (itoa_e w _ m.id hTw i1) ?_; rintro v' L' ⟨rfl, rfl⟩
      refine KO.cat rfl rfl (by simp only [ByteArray.size_append, z6, z7]; omega) rfl ?_
      refine KO.ce (cp := []) rfl rfl rfl Tryz.call114 rfl (itoa_e w _ m.pri hTw i2) ?_; rintro v' L' ⟨rfl, rfl⟩
      refine KO.cat rfl rfl (by simp only [ByteArray.size_append, z6, z7]; omega) rfl ?_
      refine KO.cat rfl rfl (by simp only [ByteArray.size_append, z6, z7]; omega) rfl ?_
      refine KO.cat rfl rfl (by simp only [ByteArray.size_append, z6, z7]; omega) rfl ?_
      refine KO.cat rfl rfl (by simp only [ByteArray.size_append, z6, z7]; omega) rfl ?_
      refine KO.cat rfl rfl (by simp only [ByteArray.size_append, z6, z7]; omega) rfl ?_
      refine KO.cat rfl rfl (by simp only [ByteArray.size_append, z6, z7]; omega) rfl ?_
      refine KO.ce (cp := []) rfl rfl rfl Tryz.call114 rfl (itoa_e w _ m.house hTw i3) ?_; rintro v' L' ⟨rfl, rfl⟩
      refine KO.cat rfl rfl (by simp only [ByteArray.size_append, z6, z7]; omega) rfl ?_
      refine KO.bs1 (z := (Value.string ⟨#[]⟩)) (sz := 1) (by' := 16) rfl rfl Tryz.underlying57 (by kernel_rfl) (by exact rfl) (by exact rfl) (by decide) (by decide) rfl ?_; intro b44
      refine KO.app (z := Value.string ⟨#[]⟩) (sz := 1) (by' := 16) rfl rfl rfl (by with_reducible (repeat (first | exact Pick.head | apply Pick.tail))) (by with_reducible (repeat (exact Pick.head))) Tryz.underlying57 str_info rfl (msgS m) (by exact rfl) (by exact rfl) (by exact rfl) (by omega) (by decide) rfl ?_; intro v'
      refine KO.as rfl rfl ?_
      refine KO.nil ?_
      repeat (first | (with_reducible refine KQ.next ?_) | (with_reducible refine KQ.blk_normal ?_))
      refine K.reg ?_
      refine KO.add rfl rfl rfl (by omega) rfl ?_
      refine KO.mv rfl rfl ?_
      refine KO.nil ?_
      refine KQ.round (k + 1, v') (by dsimp only; omega) (by dsimp only; omega) ⟨rfl, rfl, rfl, rfl, trivial⟩ (fun _ h => ?_)
      dsimp only
      rw [take_succ_some hm, List.map_append, List.map_cons, List.map_nil]
      exact (h.pick (by with_reducible (repeat (exact Pick.head)))).gc1 (LSub.nil _)
    · have hkl : k = xs.length := by omega
      rw [hkl, List.take_length]
      have hws := writeS_size hall
      repeat (first | (with_reducible refine K.seq ?_) | (with_reducible refine KQ.next ?_) | (with_reducible refine KQ.then_exit ?_) | (with_reducible refine KQ.blk_exit ?_) | (with_reducible refine K.exit ?_))
      refine K.reg ?_
      refine KO.mv rfl rfl ?_
      refine KO.ce (cp := []) rfl rfl rfl Tryz.call141 rfl (join_e w _ _ vo (xs.map msgS) plus (by with_reducible (repeat (exact Pick.head))) (by simp; omega) (by unfold writeS at hws; omega)) ?_; rintro v' L' ⟨rfl, rfl⟩
      refine KO.as rfl rfl ?_
      refine KO.as rfl rfl ?_
      refine KO.nil ?_
      repeat (first | (with_reducible refine KQ.next ?_) | (with_reducible refine K.ret ?_))
      refine KQ.ret2 rfl rfl rfl (fun w' hs => ⟨_, _, rfl, ?_, hw.below_step hs.below, hs.below⟩)
      unfold MwR; rw [hbad]
      exact ⟨rfl, rfl⟩
end Go.Proofs.YtjhogocabcdjbaaGreatDoor
/- A RANGE OVER A FUNCTION in the calculus: the code of a round, the statement, the call of yield -/
namespace WB
open Go Go.RowKit
def notDefer (o : Oper) : Bool := match o.op with | .defer _ => false | _ => true
abbrev FR (l : Nat) : Fence := Fence.wide.inRound l
section
variable {P : Program} {ops : Array Oper} {Q : Exit → Act → World → Prop} {l : Nat}
theorem notDefer_ne {o : Oper} (h : notDefer o = true) : ∀ c, o.op ≠ .defer c := fun c e => by unfold notDefer at h; rw [e] at h; cases h
theorem rowsIn_of {row : String} {args : Array Value} {w : World} {R : Value → World → Prop} (h : Rows P row args w R) : RowsIn (FR l) 0 P row args w R := fun c cs _ =>
  let ⟨v, w', r, s⟩ := h c cs; ⟨v, w', r, stepsIn_wide.2 s⟩
theorem uponIn_of {o : Oper} {a : Act} {N N' : Act → World → Prop} {r : Result Next} (hn : ∀ a w, N a w → N' a w) (h : o.upon P a N Q r) : o.uponIn (FR l) 0 P a N' Q r := by
  cases r with
  | ok x w' =>
    cases x with
    | value v => exact hn _ _ h
    | skip => exact hn _ _ h
    | defer d => exact hn _ _ h
    | enter f args =>
      refine ⟨fun _ => by simp [Fence.wide] at *, CallsIn.inRound l (callsIn_wide.2 (h.mono fun e w hh => ?_))⟩
      cases e with
      | returned v => exact hn _ _ hh
      | panicked c => exact hh
      | outgrown => exact hh
    | row row args => exact ⟨fun _ => by simp [Fence.wide] at *, (rowsIn_of h).mono fun v w hh => hn _ _ hh⟩
    | _ => exact h.elim
  | halt s w' =>
    cases s with
    | panic v => exact h
    | _ => exact h.elim
theorem wpIn_of_wp {o : Oper} {a : Act} {w : World} {N N' : Act → World → Prop} (hd : notDefer o = true) (hn : ∀ a w, N a w → N' a w) (h : o.wp P a w N Q) : o.wpIn (FR l) 0 P a w N' Q :=
  ⟨fun _ _ => trivial, by
    show o.uponIn (FR l) 0 P a N' Q ((o.semAt (some l) a.eval).run P w)
    rw [Oper.semAt_some l _ _ (notDefer_ne hd)]
    exact uponIn_of hn h⟩
theorem wpListIn_of (hQ : ∀ a w, ¬ Q .outgrown a w) : ∀ {os : List Oper} (_ : os.all notDefer = true) {a : Act} {w : World}, wpList P ops Q os a w → wpListIn (FR l) 0 P ops Q os a w
  | [], _, _, _, h => h
  | o :: os, hd, a, w, h => by
    simp only [List.all_cons, Bool.and_eq_true] at hd
    unfold wpList at h
    unfold wpListIn
    split
    · rename_i hw
      rw [if_pos hw] at h
      rcases h with h | ⟨_, a0, w0, h⟩
      · exact wpIn_of_wp hd.1 (fun a w hh => wpListIn_of hQ hd.2 hh) h
      · exact absurd h (hQ _ _)
    · rename_i hw
      rw [if_neg hw] at h
      exact ⟨fun _ _ => trivial, wpListIn_of hQ hd.2 h⟩
theorem wpOpsIn_of (hQ : ∀ a w, ¬ Q .outgrown a w) (hd : ops.toList.all notDefer = true) : ∀ {s : List Nat} {a : Act} {w : World}, wpOps P ops Q s a w → wpOpsIn (FR l) 0 P ops Q s a w
  | [], _, _, h => h
  | i :: s, a, w, h => by
    unfold wpOps at h
    unfold wpOpsIn
    cases ho : ops[i]? with
    | none => rw [ho] at h; exact wpOpsIn_of hQ hd h
    | some o =>
      rw [ho] at h
      simp only at h ⊢
      split
      · rename_i hw
        rw [if_pos hw] at h
        rcases h with h | ⟨_, a0, w0, h⟩
        · exact wpIn_of_wp (List.all_eq_true.1 hd o (Array.mem_toList_iff.2 (Array.mem_of_getElem? ho))) (fun a w hh => wpOpsIn_of hQ hd hh) h
        · exact absurd h (hQ _ _)
      · rename_i hw
        rw [if_neg hw] at h
        exact ⟨fun _ _ => trivial, wpOpsIn_of hQ hd h⟩
/-- a region that draws, in a round, in the one order 'ord' -/
theorem wpIn_region_ord {id : Nat} {a : Act} {w : World} (ks : List Kd) (ord : List Nat) (hmix : P.follows .mixedOrders = true) (hok : okR ops ks ord = true) (hQ : ∀ a w, ¬ Q .outgrown a w) (hd : ops.toList.all notDefer = true)
    (h : vcL P ops Q (ord.map (item ops ks)) a w.drew) : (Code.region id ops true).wpIn (FR l) 0 P Q a w := by
  simp only [okR, Bool.and_eq_true] at hok
  obtain ⟨hb, ha, hall, hlt, hp⟩ := hok
  refine wpIn_region_draw fun t => wpOpsIn_of hQ hd ?_
  have hv : Valid ops (Region.schedule (P.follows .mixedOrders) ops t) := schedule_valid _ hmix _ _ fun i o ho d hd => by
    have hi : i < ops.size := (Array.getElem?_eq_some_iff.1 ho).1
    have h1 := List.all_eq_true.1 (List.all_eq_true.1 hb i (List.mem_range.2 hi)) d (by
      have : ops.toList.getD i default = o := by
        simp [Array.getElem?_eq_getElem hi] at ho ⊢
        simp [ho]
      rw [this]; exact hd)
    simpa [Nat.blt_eq] using h1
  generalize Region.schedule (P.follows .mixedOrders) ops t = l at hv ⊢
  refine main_step hb ha hv l [] ord rfl (fun x => ?_) hp a _ h
  rw [hv.2.1 x]
  constructor
  · intro hx; simpa [Nat.blt_eq] using List.all_eq_true.1 hlt x hx
  · intro hx; exact List.contains_iff_mem.1 (List.all_eq_true.1 hall x (List.mem_range.2 hx))
end
/-! code in a round -/
def KR (l : Nat) (P : Program) (c : Code) (Q : Exit → Act → World → Prop) (n : Nat) (D : List Deferred) (w0 : World) (G : Env) (L : List HP) : Prop :=
  ∀ a w, Knows n D G a → St w0 L w → c.wpIn (FR l) 0 P Q a w
section
variable {P : Program} {ops : Array Oper} {Q : Exit → Act → World → Prop} {n l : Nat} {D : List Deferred} {w0 : World} {G G' : Env} {L L' R : List HP} {c x y : Code} {e : Exit}
theorem KR.reg {id : Nat} {os : List Oper} (hd : os.all notDefer = true) (hQ : ∀ a w, ¬ Q .outgrown a w) (h : KO P os.toArray false Q n D w0 G L (wr os)) : KR l P (.region id os.toArray false) Q n D w0 G L := fun a w ha hw => by
  have := h a w ha hw
  simp only [vcG, wr_map] at this
  exact wpIn_region_lit (wpListIn_of hQ hd this)
theorem KR.draw {id : Nat} (ks : List Kd) (ord : List Nat) (hmix : P.follows .mixedOrders = true) (hok : okR ops ks ord = true) (hd : ops.toList.all notDefer = true) (hQ : ∀ a w, ¬ Q .outgrown a w)
    (h : KO P ops true Q n D w0 G L (ord.map (item ops ks))) : KR l P (.region id ops true) Q n D w0 G L := fun a _ ha hw =>
  wpIn_region_ord ks ord hmix hok hQ hd (h a _ ha hw.drew)
theorem KR.seq (h : KR l P x (Exit.then (y.wpIn (FR l) 0 P Q) Q) n D w0 G L) : KR l P (.seq x y) Q n D w0 G L := fun a w ha hw => wpIn_seq (h a w ha hw)
theorem KR.block {id : Nat} (h : KR l P x (Exit.inBlock id Q) n D w0 G L) : KR l P (.block id x) Q n D w0 G L := fun a w ha hw => wpIn_block (h a w ha hw)
theorem KR.ret (h : KQ Q .ret n D w0 G L) : KR l P .ret Q n D w0 G L := fun a w ha hw => wpIn_ret (h a w ha hw)
theorem KR.skip (h : KQ Q .normal n D w0 G L) : KR l P .skip Q n D w0 G L := fun a w ha hw => wpIn_skip (h a w ha hw)
theorem KR.exit {id : Nat} (h : KQ Q (.exit id) n D w0 G L) : KR l P (.exit id) Q n D w0 G L := fun a w ha hw => wpIn_exit (h a w ha hw)
theorem KR.cond {cd : Operand} {b : Bool} (hc : ev G cd = some (.bool b)) (ht : b = true → KR l P x Q n D w0 G L) (hf : b = false → KR l P y Q n D w0 G L) : KR l P (.cond cd x y) Q n D w0 G L := fun a w ha hw =>
  wpIn_cond_split (ha.eval hc) (fun e => ht e a w ha hw) (fun e => hf e a w ha hw)
theorem KR.condD {cd : Operand} {p : Prop} [Decidable p] (hc : ev G cd = some (.bool (decide p))) (ht : p → KR l P x Q n D w0 G L) (hf : ¬ p → KR l P y Q n D w0 G L) : KR l P (.cond cd x y) Q n D w0 G L :=
  KR.cond hc (fun e => ht (of_decide_eq_true e)) (fun e => hf (of_decide_eq_false e))
theorem KR.condT {cd : Operand} {b : Bool} (hc : ev G cd = some (.bool b)) (hb : b = true) (h : KR l P x Q n D w0 G L) : KR l P (.cond cd x y) Q n D w0 G L :=
  KR.cond hc (fun _ => h) (fun e => by rw [hb] at e; cases e)
theorem KR.condF {cd : Operand} {b : Bool} (hc : ev G cd = some (.bool b)) (hb : b = false) (h : KR l P y Q n D w0 G L) : KR l P (.cond cd x y) Q n D w0 G L :=
  KR.cond hc (fun e => by rw [hb] at e; cases e) (fun _ => h)
theorem KQ.nextR (h : KR l P y Q n D w0 G L) : KQ (Exit.then (y.wpIn (FR l) 0 P Q) Q) .normal n D w0 G L := h
theorem KR.conv (hs : ∀ w, St w0 L w → St w0 L' w) (h : KR l P c Q n D w0 G L') : KR l P c Q n D w0 G L := fun a w ha hw => h a w ha (hs w hw)
theorem KR.weak (hs : SubL G G') (h : KR l P c Q n D w0 G' L) : KR l P c Q n D w0 G L := fun a w ha hw => h a w (ha.sub hs) hw
theorem KR.cut {α : Type} {c1 c2 : Code} {L : List HP} (E : α → Env) (H : α → List HP) (φ : α → Prop) (h1 : KR l P c1 (Exit.then (MidI n D w0 E H φ) Q) n D w0 G L) (h2 : ∀ y, φ y → KR l P c2 Q n D w0 (E y) (H y)) : KR l P c1 (Exit.then (c2.wpIn (FR l) 0 P Q) Q) n D w0 G L := fun a w ha hw =>
  Go.wpIn_mono (h1 a w ha hw) fun e a w hq => by
    cases e with
    | normal => obtain ⟨y, hy, ha, hw⟩ := hq; exact h2 y hy a w ha hw
    | _ => exact hq
theorem KR.loop {α : Type} (E : α → Env) (H : α → List HP) (φ : α → Prop) (m : α → Nat) (x0 : α) (h0 : φ x0) (hG : SubL G (E x0)) (hL : ∀ w, St w0 L w → St w0 (H x0) w)
    (round : ∀ x, φ x → KR l P c (Exit.then (LoopI n D w0 E H φ m x) Q) n D w0 (E x) (H x)) : KR l P (.loop c) Q n D w0 G L := fun a w ha hw => by
  intro b k cs hro hb hr
  have key : ∀ (N : Nat) (x : α) (a : Act) (w : World), m x < N → φ x → Knows n D (E x) a → St w0 (H x) w →
      ∃ e a' w', Q e a' w' ∧ ArrivesIn (Machine.fenced P (FR l)) P (lone (b.atR a (.code c :: .inLoop c :: k)) cs w) b k cs e a' w' := by
    intro N
    induction N with
    | zero => intro x a w h; omega
    | succ N ih =>
      intro x a w hlt hx ha hw
      obtain ⟨e, a₁, w₁, hq, harr⟩ := round x hx a w ha hw b (.inLoop c :: k) cs hro hb hr
      cases e with
      | normal =>
        obtain ⟨y, hy, hlt', ha', hw'⟩ := hq
        obtain ⟨e₂, a₂, w₂, hq₂, harr₂⟩ := ih y a₁ w₁ (by omega) hy ha' hw'
        exact ⟨e₂, a₂, w₂, hq₂, .of_steps (StepsIn.trans harr (.one (fenced_calm hb hr rfl) stepR_inLoop)) harr₂⟩
      | exit id => exact ⟨_, a₁, w₁, hq, .pass (x := .inLoop c) rfl (fun _ _ => .inl (by simp)) harr⟩
      | goto l => exact ⟨_, a₁, w₁, hq, .pass (x := .inLoop c) rfl (fun _ _ => .inl (by simp)) harr⟩
      | ret => exact ⟨_, a₁, w₁, hq, .pass (x := .inLoop c) rfl (fun _ _ => .inl (by simp)) harr⟩
      | panic ch => exact ⟨_, a₁, w₁, hq, .pass (x := .inLoop c) rfl (fun _ _ => .inl (by simp)) harr⟩
      | outgrown => exact ⟨_, a₁, w₁, hq, .pass (x := .inLoop c) rfl (fun _ _ => .inl (by simp)) harr⟩
  obtain ⟨e, a', w', hq, harr⟩ := key (m x0 + 1) x0 a w (Nat.lt_succ_self _) h0 (ha.sub hG) (hL w hw)
  exact ⟨e, a', w', hq, .of_steps (.one (fenced_calm hb hr rfl) stepR_loop) harr⟩
end
/-! a function that holds such a loop -/
def mkD (b : Nat) : Deferred := { target := .collected b, args := #[] }
theorem St.put {w0 w : World} {L : List HP} {b : Nat} {o : Obj} (h : St w0 (blk b o :: L) w) (o' : Obj) : St w0 (blk b o' :: L) (w.putObj b o') :=
  h.upd rfl rfl rfl (by simp) (World.putObj_heap_same h.lt) fun k hk => World.putObj_heap_other hk
section
variable {P : Program} {f : FuncId} {args : Array Value} {w0 : World} {L M M' KL : List HP} {R : Value → List HP → Prop} {fn : Func} {n : Nat} {G : Env} {RE : Ending → World → Prop} {v v1 v2 : Value} {t1 t2 : Nat} {T T' E E' : TypeId} {b1 b2 : Nat} {cs cs' : List Value} {fz fz' : Nat × Nat}
theorem KE.mkM {c : Code} (hf : P.funcs[f]? = some fn) (hb : fn.body = some c) (hn : fn.ntmps = n) (hsz : args.size ≤ n)
    (h : ∀ w, St w0 L w → K P c (bodyPostM Fence.wide 0 P fn fun e w' => ∃ v L', e = .returned v ∧ R v L' ∧ St w0 L' w' ∧ Below w.heap.size w w') n [] w (argEnv 0 args.toList) []) : KE P f args w0 L R := fun w hw => by
  subst hn
  exact callsIn_wide.1 (callsIn_of_wp_marks (n := 0) hf hb trivial (wpIn_wide.2 (h w hw _ w (Knows.enter hsz) (St.init w))))
theorem KQ.finM (hr : ∀ a w, Knows n [] G a → St w0 L w → (results fn a.tmps).run P w = .ok v w) (h : ∀ w, St w0 L w → RE (.returned v) w) : KQ (bodyPostM Fence.wide 0 P fn RE) .ret n [] w0 G L := fun a w ha hw => by
  show LeavesInM _ _ _ _ _ _ a.defers _ _
  rw [ha.defers]
  exact ⟨v, hr a w ha hw, h w hw⟩
theorem KQ.finM1 {b : Nat} (hp : Pick L (blk b (.deferred (some []))) M) (hr : ∀ a w, Knows n [mkD b] G a → St w0 M w → (results fn a.tmps).run P w = .ok v w) (h : ∀ w, St w0 M w → RE (.returned v) w) : KQ (bodyPostM Fence.wide 0 P fn RE) .ret n [mkD b] w0 G L := fun a w ha hw => by
  show LeavesInM _ _ _ _ _ _ a.defers _ _
  rw [ha.defers]
  have h1 := hw.pick hp
  have h2 := (h1.put (.deferred none)).drop
  exact ⟨by simp, .inl ⟨b, _, rfl, run_takeDeferred h1.look.2, v, hr a _ ha h2, h _ h2⟩⟩
/-- two results, each in a cell of its own block -/
theorem res2C {D : List Deferred} (hr : fn.results = #[.cell t1 T, .cell t2 T']) (h1 : envAt G t1 = some (.pointer (some ⟨b1, 0, none⟩))) (h2 : envAt G t2 = some (.pointer (some ⟨b2, 0, none⟩)))
    (hT : ∀ w, (isAgg T).run P w = .ok false w) (hT' : ∀ w, (isAgg T').run P w = .ok false w) (hp : Pick L (blk b1 (.cells [v1].toArray E fz)) M) (hp' : Pick L (blk b2 (.cells [v2].toArray E' fz')) M') (a : Act) (w : World) (ha : Knows n D G a) (hw : St w0 L w) :
    (results fn a.tmps).run P w = .ok (.tuple #[v1, v2]) w := by
  have l1 : (loadVar T ⟨b1, 0, none⟩).run P w = .ok v1 w := run_load_one (hT w) (by rw [World.cell?, (hw.lookP hp).2]; simp)
  have l2 : (loadVar T' ⟨b2, 0, none⟩).run P w = .ok v2 w := run_load_one (hT' w) (by rw [World.cell?, (hw.lookP hp').2]; simp)
  simp [results, hr, Array.getD_eq_getD_getElem?, ha.get _ _ h1, ha.get _ _ h2, asAddr, l1, l2]
theorem KQ.retM2C (hr : fn.results = #[.cell t1 T, .cell t2 T']) (h1 : envAt G t1 = some (.pointer (some ⟨b1, 0, none⟩))) (h2 : envAt G t2 = some (.pointer (some ⟨b2, 0, none⟩)))
    (hT : ∀ w, (isAgg T).run P w = .ok false w) (hT' : ∀ w, (isAgg T').run P w = .ok false w) (hp : Pick L (blk b1 (.cells [v1].toArray E fz)) M) (hp' : Pick L (blk b2 (.cells [v2].toArray E' fz')) M') (h : ∀ w, St w0 L w → RE (.returned (.tuple #[v1, v2])) w) :
    KQ (bodyPostM Fence.wide 0 P fn RE) .ret n [] w0 G L := KQ.finM (fun a w ha hw => res2C hr h1 h2 hT hT' hp hp' a w ha hw) h
theorem KQ.retM2C1 {b : Nat} (hd : Pick L (blk b (.deferred (some []))) KL) (hr : fn.results = #[.cell t1 T, .cell t2 T']) (h1 : envAt G t1 = some (.pointer (some ⟨b1, 0, none⟩))) (h2 : envAt G t2 = some (.pointer (some ⟨b2, 0, none⟩)))
    (hT : ∀ w, (isAgg T).run P w = .ok false w) (hT' : ∀ w, (isAgg T').run P w = .ok false w) (hp : Pick KL (blk b1 (.cells [v1].toArray E fz)) M) (hp' : Pick KL (blk b2 (.cells [v2].toArray E' fz')) M') (h : ∀ w, St w0 KL w → RE (.returned (.tuple #[v1, v2])) w) :
    KQ (bodyPostM Fence.wide 0 P fn RE) .ret n [mkD b] w0 G L := KQ.finM1 hd (fun a w ha hw => res2C hr h1 h2 hT hT' hp hp' a w ha hw) h
end
/-! the statement -/
section
variable {P : Program} {Q : Exit → Act → World → Prop} {n : Nat} {D : List Deferred} {w0 : World} {G : Env} {L M : List HP}
theorem K.rangeFunc {g : Operand} {ps : Array Tmp} {assign body : Code} {gf : Nat} {cap : Array Value} (hg : ev G g = some (.func (.func gf) #[] cap)) (eg : ∀ args w, (callFunc gf args).run P w = .ok (.enter gf args) w)
    (h : ∀ (fn : FuncId) (tm : Array Value) (b l : Nat), Knows n D G { tmps := tm, defers := D } → ∀ w, St w0 (blk l (.loop ⟨.ready, none, fn, tm, ps, assign, body, b⟩) :: blk b (.deferred (some [])) :: L) w →
      Calls P gf (#[.func (.yield l) #[] #[]] ++ cap) w fun e w' => ∃ v L' st pe, e = .returned v ∧ st ≠ LoopState.busy ∧ St w0 (blk l (.loop ⟨st, pe, fn, tm, ps, assign, body, b⟩) :: blk b (.deferred (some [])) :: L') w' ∧
        (match pe with | none => KQ Q .normal n (mkD b :: D) w0 G (blk b (.deferred (some [])) :: L') | some c => K P c Q n (mkD b :: D) w0 G (blk b (.deferred (some [])) :: L'))) :
    K P (.rangeFunc g ps assign body) Q n D w0 G L := fun a w ha hw => by
  refine wpIn_wide.1 (wpIn_rangeFunc (F := Fence.wide) (n := 0) fun fn _ => ?_)
  have h1 := (hw.alloc (.deferred (some []))).alloc (.loop { state := .ready, pending := none, fn, tmps := a.tmps, params := ps, assign, body, defers := w.heap.size })
  rw [World.size_alloc] at h1
  obtain ⟨W1, hW1⟩ : ∃ W1, (w.alloc (.deferred (some []))).alloc (.loop { state := .ready, pending := none, fn, tmps := a.tmps, params := ps, assign, body, defers := w.heap.size }) = W1 := ⟨_, rfl⟩
  rw [hW1] at h1
  refine ⟨w.heap.size + 1, [mkD w.heap.size], W1, { target := .fn (.func gf) cap, args := #[.func (.yield (w.heap.size + 1)) #[] #[]] }, W1, gf, #[.func (.yield (w.heap.size + 1)) #[] #[]] ++ cap, W1, by rw [← hW1]; exact run_enterLoop_outer _ _ _ _ _, ?_, ?_, ?_, fun hh => by simp [Fence.wide] at hh, ?_⟩
  · simp only [resolve, ha.eval hg]
    simp [go_sem]
  · intro _ _; trivial
  · simp [invoke, go_sem, eg]
  · refine callsIn_wide.2 ((h fn a.tmps w.heap.size (w.heap.size + 1) ⟨ha.size, rfl, ha.get⟩ _ h1).mono ?_)
    rintro e w' ⟨v, L', st, pe, rfl, hst, hs, hj⟩
    have h2 := hs.put (.loop ⟨.exhausted, pe, fn, a.tmps, ps, assign, body, w.heap.size⟩)
    refine ⟨pe, _, run_endLoop hs.look.2 hst, ?_⟩
    have ha2 : Knows n (mkD w.heap.size :: D) G { a with defers := [mkD w.heap.size] ++ a.defers } := ⟨ha.size, by rw [ha.defers]; rfl, ha.get⟩
    cases pe with
    | none => exact hj _ _ ha2 h2.drop
    | some c => exact wpIn_wide.2 (hj _ _ ha2 h2.drop)
end
/-! yield, from the iterator's side: what a round makes of the caller's parts -/
def KY (P : Program) (l : Nat) (x : Value) (w0 : World) (L : List HP) (Rt Rf : List HP → Prop) : Prop :=
  ∀ (N : List HP) (w : World), St w0 (L ++ N) w → YieldAt Fence.wide 0 P l #[x] w fun e w' => (e = .returned (.bool true) ∧ ∃ L', Rt L' ∧ St w0 (L' ++ N) w') ∨ (e = .returned (.bool false) ∧ ∃ L', Rf L' ∧ St w0 (L' ++ N) w')
def BeginQ (P : Program) (l : Nat) (body : Code) (R : Ending → World → Prop) : Exit → Act → World → Prop :=
  Exit.then (fun a₁ w₁ => ∃ w₂, (Instr.beginRound l).run P w₁ = .ok () w₂ ∧ body.wpIn (FR l) 0 P (roundPost P l R) a₁ w₂) (fun _ _ _ => False)
section
variable {P : Program} {Q : Exit → Act → World → Prop} {n l : Nat} {D : List Deferred} {w0 : World} {G : Env} {L M : List HP} {x : Value} {Rt Rf : List HP → Prop} {R : Ending → World → Prop}
theorem Knows.setP {tm : Array Value} {p : Nat} (h : Knows n D G { tmps := tm, defers := D }) (hp : Nat.blt p n = true) (v : Value) : Knows n [] ((p, v) :: G) { tmps := tm.setIfInBounds p v, defers := [] } := by
  have := h.put p v (by simpa [Nat.blt_eq] using hp)
  exact ⟨this.size, rfl, this.get⟩
theorem KY.mk {fn : FuncId} {tm : Array Value} {p b : Nat} {assign body : Code} (hk : Knows n D G { tmps := tm, defers := D }) (hp : Nat.blt p n = true)
    (h : ∀ N, KR l P assign (BeginQ P l body fun e w' => (e = .returned (.bool true) ∧ ∃ L', Rt L' ∧ St w0 (L' ++ N) w') ∨ (e = .returned (.bool false) ∧ ∃ L', Rf L' ∧ St w0 (L' ++ N) w')) n [] w0 ((p, x) :: G)
      (blk l (.loop ⟨.ready, none, fn, tm, #[p], assign, body, b⟩) :: (M ++ N))) :
    KY P l x w0 (blk l (.loop ⟨.ready, none, fn, tm, #[p], assign, body, b⟩) :: M) Rt Rf := fun N w hw => by
  refine ⟨fn, _, assign, body, run_yield (args := #[x]) hw.look.2 rfl, roundIn_of_wpIn (F := Fence.wide) (n := 0) trivial ?_⟩
  exact h N _ w (by simpa using hk.setP hp x) hw
theorem KQ.begin {rc : Loop} {body : Code} (hp : Pick L (blk l (.loop rc)) M) (hs : rc.state = .ready) (h : KR l P body (roundPost P l R) n D w0 G (blk l (.loop { rc with state := .busy }) :: M)) : KQ (BeginQ P l body R) .normal n D w0 G L := fun a w ha hw =>
  have h1 := hw.pick hp
  ⟨_, run_beginRound h1.look.2 hs, h a _ ha (h1.put _)⟩
theorem KQ.goes {rc : Loop} (hp : Pick L (blk l (.loop rc)) M) (h : ∀ w, St w0 (blk l (.loop { rc with state := .ready, pending := none }) :: M) w → R (.returned (.bool true)) w) : KQ (roundPost P l R) .normal n D w0 G L := fun a w ha hw =>
  have h1 := hw.pick hp
  ⟨_, _, run_endRound none h1.look.2, h _ (h1.put _)⟩
theorem KQ.leaves {rc : Loop} (hp : Pick L (blk l (.loop rc)) M) (h : ∀ w, St w0 (blk l (.loop { rc with state := .done, pending := some .ret }) :: M) w → R (.returned (.bool false)) w) : KQ (roundPost P l R) .ret n D w0 G L := fun a w ha hw =>
  have h1 := hw.pick hp
  ⟨_, _, run_endRound (some .ret) h1.look.2, h _ (h1.put _)⟩
end
/-! a region in which yield is called -/
def KOI (P : Program) (ops : Array Oper) (Q : Exit → Act → World → Prop) (n : Nat) (D : List Deferred) (w0 : World) (G : Env) (L : List HP) (os : List Oper) : Prop :=
  ∀ a w, Knows n D G a → St w0 L w → wpListIn Fence.wide 0 P ops Q os a w
section
variable {P : Program} {ops : Array Oper} {Q : Exit → Act → World → Prop} {n l t : Nat} {D : List Deferred} {w0 : World} {G : Env} {L M N : List HP} {os : List Oper} {op : Op} {ty T T' E : TypeId} {pos : String} {af : Array Edge} {x y : Operand} {v : Value} {bb : Bool} {b off : Nat}
  {Rt Rf : List HP → Prop}
theorem K.regI {id : Nat} {os : List Oper} (h : KOI P os.toArray Q n D w0 G L os) : K P (.region id os.toArray false) Q n D w0 G L := fun a w ha hw => wpIn_wide.1 (wpIn_region_lit (h a w ha hw))
theorem KOI.nil (h : KQ Q .normal n D w0 G L) : KOI P ops Q n D w0 G L [] := h
theorem KOI.val (hv : ∀ a w, Knows n D G a → St w0 L w → (execOp a.eval ⟨some t, op, ty, pos, af, none⟩).run P w = .ok (.value v) w) (ht : Nat.blt t n = true) (h : KOI P ops Q n D w0 ((t, v) :: G) L os) : KOI P ops Q n D w0 G L (⟨some t, op, ty, pos, af, none⟩ :: os) := fun a w ha hw => by
  refine wpListIn_plain rfl fun K hK => ⟨fun _ _ => trivial, ?_⟩
  show Oper.uponIn _ _ _ _ _ _ _ ((execOp a.eval _).run P w)
  rw [hv a w ha hw]
  exact hK _ _ (h _ w (put_dst ha v ht) hw)
theorem KOI.mv (hx : ev G x = some v) (ht : Nat.blt t n = true) (h : KOI P ops Q n D w0 ((t, v) :: G) L os) : KOI P ops Q n D w0 G L (⟨some t, .move x, ty, pos, af, none⟩ :: os) :=
  KOI.val (fun a w ha _ => by simp [execOp, ha.eval hx]) ht h
theorem KOI.not (hx : ev G x = some (.bool bb)) (ht : Nat.blt t n = true) (h : KOI P ops Q n D w0 ((t, .bool (!bb)) :: G) L os) : KOI P ops Q n D w0 G L (⟨some t, .unOp .not T x, ty, pos, af, none⟩ :: os) :=
  KOI.val (fun a w ha _ => by simp [execOp, ha.eval hx, Op.unary]) ht h
theorem KOI.ld {cs : List Value} {fz : Nat × Nat} (hx : ev G x = some (.pointer (some ⟨b, off, none⟩))) (hT : ∀ w, (isAgg T).run P w = .ok false w) (hp : Pick L (blk b (.cells cs.toArray E fz)) M) (hc : cs[off]? = some v) (ht : Nat.blt t n = true) (h : KOI P ops Q n D w0 ((t, v) :: G) L os) :
    KOI P ops Q n D w0 G L (⟨some t, .load T x, ty, pos, af, none⟩ :: os) :=
  KOI.val (fun a w ha hw => by
    have hcell : w.cell? ⟨b, off, none⟩ = some v := by rw [World.cell?, (hw.lookP hp).2]; simpa using hc
    simp [execOp, ha.eval hx, Instr.loadAt, Instr.sureAddr, run_load_one (hT w) hcell]) ht h
theorem KOI.yield {ts : Array TypeId} {dst : Option Nat} (hx : ev G x = some (.func (.yield l) #[] #[])) (hy : ev G y = some v) (hY : KY P l v w0 M Rt Rf) (hs : ∀ w, St w0 L w → St w0 (M ++ N) w)
    (ht : ∀ L', Rt L' → ∀ a w, Knows n D G a → St w0 (L' ++ N) w → wpListIn Fence.wide 0 P ops Q os (a.put dst (.bool true)) w)
    (hf : ∀ L', Rf L' → ∀ a w, Knows n D G a → St w0 (L' ++ N) w → wpListIn Fence.wide 0 P ops Q os (a.put dst (.bool false)) w) :
    KOI P ops Q n D w0 G L (⟨dst, .call ⟨.value x, #[y], ts⟩, ty, pos, af, none⟩ :: os) := fun a w ha hw => by
  refine wpListIn_plain rfl fun K hK => ⟨fun _ _ => trivial, ?_⟩
  obtain ⟨fn, tmps, assign, body, hy', hR⟩ := hY N w (hs w hw)
  have he : (execOp a.eval ⟨dst, .call ⟨.value x, #[y], ts⟩, ty, pos, af, none⟩).run P w = .ok (.round l fn tmps assign body) w := by
    simp [execOp, resolve, ha.eval hx, ha.eval hy, Deferred.ofValue, invoke, hy']
  rw [show Oper.semAt Fence.wide.round a.eval ⟨dst, .call ⟨.value x, #[y], ts⟩, ty, pos, af, none⟩ = execOp a.eval ⟨dst, .call ⟨.value x, #[y], ts⟩, ty, pos, af, none⟩ from rfl, he]
  refine ⟨fun hh => by simp [Fence.wide] at hh, hR.mono ?_⟩
  rintro e w' (⟨rfl, L', h1, h2⟩ | ⟨rfl, L', h1, h2⟩)
  · exact hK _ _ (ht L' h1 a w' ha h2)
  · exact hK _ _ (hf L' h1 a w' ha h2)
theorem KOI.yieldT {ts : Array TypeId} (hx : ev G x = some (.func (.yield l) #[] #[])) (hy : ev G y = some v) (hY : KY P l v w0 M Rt Rf) (hs : ∀ w, St w0 L w → St w0 (M ++ N) w) (hb : Nat.blt t n = true)
    (ht : ∀ L', Rt L' → KOI P ops Q n D w0 ((t, .bool true) :: G) (L' ++ N) os) (hf : ∀ L', Rf L' → KOI P ops Q n D w0 ((t, .bool false) :: G) (L' ++ N) os) :
    KOI P ops Q n D w0 G L (⟨some t, .call ⟨.value x, #[y], ts⟩, ty, pos, af, none⟩ :: os) :=
  KOI.yield hx hy hY hs (fun L' h a w ha hw => ht L' h _ w (put_dst ha _ hb) hw) (fun L' h a w ha hw => hf L' h _ w (put_dst ha _ hb) hw)
end
end WB
/- texts and their pieces: plain -/
namespace WB
open Go
/-! pieces -/
def pieces (c : UInt8) : List UInt8 → List (List UInt8)
  | [] => [[]]
  | b :: l => if b = c then [] :: pieces c l else match pieces c l with | [] => [[b]] | p :: ps => (b :: p) :: ps
theorem pieces_ne (c : UInt8) : ∀ l, pieces c l ≠ []
  | [] => by simp [pieces]
  | b :: l => by
    unfold pieces
    split
    · simp
    · split <;> simp
theorem pieces_eq (c : UInt8) (l : List UInt8) : pieces c (c :: l) = [] :: pieces c l := by rw [pieces, if_pos rfl]
theorem pieces_neq {b c : UInt8} (h : b ≠ c) {l p : List UInt8} {ps : List (List UInt8)} (e : pieces c l = p :: ps) : pieces c (b :: l) = (b :: p) :: ps := by rw [pieces, if_neg h, e]
theorem pieces_app {c : UInt8} (r : List UInt8) : ∀ {p : List UInt8}, (∀ b ∈ p, b ≠ c) → pieces c (p ++ c :: r) = p :: pieces c r
  | [], _ => pieces_eq c r
  | b :: p, h => pieces_neq (h b (by simp)) (pieces_app r (fun x hx => h x (by simp [hx])))
theorem pieces_free {c : UInt8} : ∀ {p : List UInt8}, (∀ b ∈ p, b ≠ c) → pieces c p = [p]
  | [], _ => rfl
  | b :: p, h => pieces_neq (h b (by simp)) (pieces_free (fun x hx => h x (by simp [hx])))
theorem pieces_miss {c : UInt8} {l : List UInt8} (h : Lib.indexByte l c = -1) : pieces c l = [l] := pieces_free fun b hb e => by
  subst e
  obtain ⟨i, hi, he⟩ := List.getElem_of_mem hb
  exact Lib.indexByte_none h i (by rw [List.getElem?_eq_getElem hi, he])
theorem pieces_hit {c : UInt8} {l : List UInt8} {i : Nat} (h : Lib.indexByte l c = i) : pieces c l = l.take i :: pieces c (l.drop (i + 1)) := by
  obtain ⟨h1, h2⟩ := Lib.indexByte_some h
  obtain ⟨hlt, he⟩ := List.getElem?_eq_some_iff.1 h1
  have e : l = l.take i ++ c :: l.drop (i + 1) := by
    rw [← he, List.getElem_cons_drop, List.take_append_drop]
  have := pieces_app (c := c) (l.drop (i + 1)) (p := l.take i) fun b hb e' => by
    subst e'
    obtain ⟨j, hj, hb⟩ := List.getElem_of_mem hb
    rw [List.length_take] at hj
    have hj' : j < i := by omega
    refine h2 j hj' ?_
    rw [List.getElem?_eq_getElem (by omega)]
    simpa using hb
  rw [← e] at this
  exact this
theorem pieces_mem (c : UInt8) : ∀ l, ∀ p ∈ pieces c l, ∀ b ∈ p, b ≠ c
  | [], p, hp, b, hb => by simp [pieces] at hp; subst hp; simp at hb
  | a :: l, p, hp, b, hb => by
    by_cases h : a = c
    · subst h; rw [pieces_eq] at hp
      rcases List.mem_cons.1 hp with rfl | hp
      · simp at hb
      · exact pieces_mem a l p hp b hb
    · obtain ⟨q, qs, e⟩ := List.exists_cons_of_ne_nil (pieces_ne c l)
      rw [pieces_neq h e] at hp
      rcases List.mem_cons.1 hp with rfl | hp
      · rcases List.mem_cons.1 hb with rfl | hb
        · exact h
        · exact pieces_mem c l q (by rw [e]; simp) b hb
      · exact pieces_mem c l p (by rw [e]; simp [hp]) b hb
theorem pieces_join {c : UInt8} : ∀ {ps : List (List UInt8)}, ps ≠ [] → (∀ p ∈ ps, ∀ b ∈ p, b ≠ c) → pieces c (Lib.join ps [c]) = ps
  | [], h, _ => absurd rfl h
  | [p], _, h => by rw [Lib.join_one]; exact pieces_free (h p (by simp))
  | p :: q :: r, _, h => by
    rw [join_cons2, List.append_assoc]
    show pieces c (p ++ c :: Lib.join (q :: r) [c]) = _
    rw [pieces_app _ (h p (by simp)), pieces_join (by simp) (fun x hx => h x (List.mem_cons_of_mem _ hx))]
theorem pieces_len (c : UInt8) : ∀ l, (pieces c l).length = l.count c + 1
  | [] => rfl
  | b :: l => by
    by_cases h : b = c
    · subst h; rw [pieces_eq, List.length_cons, pieces_len]; simp
    · obtain ⟨q, qs, e⟩ := List.exists_cons_of_ne_nil (pieces_ne c l)
      have := pieces_len c l
      rw [pieces_neq h e]; rw [e] at this
      rw [List.count_cons_of_ne h]; simpa using this
theorem splitK_pieces (c : UInt8) : ∀ (k : Nat) (l : List UInt8), l.count c = k → Lib.splitK [c] 0 k l = pieces c l
  | 0, l, h => by
    have : Lib.indexByte l c = -1 := by
      rcases Int.lt_or_le (Lib.indexByte l c) 0 with h1 | h1
      · have := Lib.indexByte_ge l c; omega
      · obtain ⟨i, hi⟩ := Int.eq_ofNat_of_zero_le h1
        have := (Lib.indexByte_some hi).1
        exact absurd (List.mem_of_getElem? this) (List.count_eq_zero.1 h)
    rw [pieces_miss this]; rfl
  | k + 1, l, h => by
    have hm : c ∈ l := by
      rcases Decidable.em (c ∈ l) with hm | hm
      · exact hm
      · rw [List.count_eq_zero.2 hm] at h; cases h
    obtain ⟨i, hi⟩ : ∃ i : Nat, Lib.indexByte l c = i := by
      rcases Int.lt_or_le (Lib.indexByte l c) 0 with h1 | h1
      · exfalso
        have h2 : Lib.indexByte l c = -1 := by have := Lib.indexByte_ge l c; omega
        obtain ⟨j, hj, he⟩ := List.getElem_of_mem hm
        exact Lib.indexByte_none h2 j (by rw [List.getElem?_eq_getElem hj, he])
      · obtain ⟨i, hi⟩ := Int.eq_ofNat_of_zero_le h1; exact ⟨i, hi⟩
    have hx : Lib.index l [c] = i := by rw [Lib.index_one]; exact hi
    have hne : ¬ (Lib.index l [c] == -1) = true := fun e => by have := beq_iff_eq.1 e; omega
    have hc : (l.drop (i + 1)).count c = k := by
      have h1 := pieces_len c l
      have h2 := pieces_hit hi
      rw [h2] at h1
      have h3 := pieces_len c (l.drop (i + 1))
      simp at h1; omega
    unfold Lib.splitK
    rw [if_neg hne, hx, pieces_hit hi]
    simp only [Int.toNat_natCast, Nat.add_zero, List.length_cons, List.length_nil, Nat.zero_add]
    rw [splitK_pieces c k _ hc]
def toB (l : List UInt8) : ByteArray := ⟨l.toArray⟩
theorem toB_data (s : ByteArray) : toB s.data.toList = s := rfl
theorem data_toB (l : List UInt8) : (toB l).data.toList = l := rfl
def pcs (c : UInt8) (s : ByteArray) : List ByteArray := (pieces c s.data.toList).map toB
theorem ba_ext {a b : ByteArray} (h : a.data.toList = b.data.toList) : a = b := by
  apply ByteArray.ext; exact Array.ext' h
theorem pcs_data (c : UInt8) (s : ByteArray) : (pcs c s).map (·.data.toList) = pieces c s.data.toList := by
  unfold pcs; rw [List.map_map]; conv => rhs; rw [← List.map_id (pieces c s.data.toList)]
  rfl
theorem maps_inj {xs ys : List ByteArray} (h : xs.map (·.data.toList) = ys.map (·.data.toList)) : xs = ys := by
  have h2 := congrArg (List.map toB) h
  rw [List.map_map, List.map_map] at h2
  have e : (toB ∘ fun x : ByteArray => x.data.toList) = id := rfl
  rw [e, List.map_id, List.map_id] at h2
  exact h2
theorem pcs_ne (c : UInt8) (s : ByteArray) : pcs c s ≠ [] := by unfold pcs; simpa using pieces_ne c _
theorem pcs_split (c : UInt8) (s : ByteArray) : Lib.splitB ⟨#[c]⟩ 0 (Lib.countB s ⟨#[c]⟩) s = pcs c s := by
  refine maps_inj ?_
  rw [Lib.splitB_data, pcs_data]
  have : Lib.countB s ⟨#[c]⟩ = s.data.toList.count c := Lib.count_one c s.data.toList
  rw [this]
  exact splitK_pieces c _ _ rfl
theorem pcs_len (c : UInt8) (s : ByteArray) : (pcs c s).length = Lib.countB s ⟨#[c]⟩ + 1 := by
  have : Lib.countB s ⟨#[c]⟩ = s.data.toList.count c := Lib.count_one c s.data.toList
  rw [this]; unfold pcs; rw [List.length_map, pieces_len]
theorem pcs_miss {c : UInt8} {s : ByteArray} (h : Lib.indexByte s.data.toList c = -1) : pcs c s = [s] := by
  unfold pcs; rw [pieces_miss h]; rfl
theorem pcs_hit {c : UInt8} {s : ByteArray} {i : Nat} (h : Lib.indexByte s.data.toList c = i) : pcs c s = s.extract 0 i :: pcs c (s.extract (i + 1) s.size) := by
  unfold pcs; rw [pieces_hit h, List.map_cons]
  congr 1
  · exact ba_ext (Lib.extract_from_zero s i).symm
  · rw [Lib.extract_to_end]
theorem pcs_join {c : UInt8} {xs : List ByteArray} (h0 : xs ≠ []) (h : ∀ x ∈ xs, ∀ b ∈ x.data.toList, b ≠ c) : pcs c (joinS xs ⟨#[c]⟩) = xs := by
  refine maps_inj ?_
  rw [pcs_data]
  show pieces c (Lib.join (xs.map (·.data.toList)) [c]) = _
  exact pieces_join (by simpa using h0) (fun p hp b hb => by obtain ⟨x, hx, rfl⟩ := List.mem_map.1 hp; exact h x hx b hb)
theorem indexByte_lt {c : UInt8} {s : ByteArray} {i : Nat} (h : Lib.indexByte s.data.toList c = i) : i < s.size := by
  have := (List.getElem?_eq_some_iff.1 (Lib.indexByte_some h).1).1
  rw [ba_size]; exact this
/-! numbers -/
theorem parse_app (c : UInt8) : ∀ (l : List UInt8) (acc a : Nat), Lib.parseUint10 acc l = .ok a → Lib.parseUint10 acc (l ++ [c]) = Lib.parseUint10 a [c]
  | [], acc, a, h => by simp only [Lib.parseUint10] at h; injection h with h; subst h; rfl
  | b :: l, acc, a, h => by
    simp only [Lib.parseUint10, List.cons_append] at h ⊢
    split at h
    · rename_i h1
      split at h
      · cases h
      · rename_i h2
        split at h
        · cases h
        · rename_i h3
          rw [if_pos h1, if_neg h2, if_neg h3, parse_app c l _ a h]; rfl
    · cases h
theorem digit_nat {d : Nat} (h : d < 10) : (UInt8.ofNat (48 + d)).toNat = 48 + d := by simp [UInt8.toNat_ofNat']; omega
theorem parse_dec : ∀ (u : Nat), u < 18446744073709551616 → Lib.parseUint10 0 (Lib.decDigits u) = .ok u := by
  intro u
  induction u using Nat.strongRecOn with
  | _ u ih =>
    intro hu
    rw [Lib.decDigits]
    split
    · rename_i h
      have e := digit_nat h
      simp only [Lib.parseUint10, e]
      rw [if_pos (by omega), if_neg (by omega), if_neg (by omega)]
      simp only [Lib.NumEnd.ok.injEq]; omega
    · rename_i h
      have e := digit_nat (d := u % 10) (by omega)
      rw [parse_app _ _ _ _ (ih (u / 10) (by omega) (by omega))]
      simp only [Lib.parseUint10, e]
      rw [if_pos (by omega), if_neg (by omega), if_neg (by omega)]
      simp only [Lib.NumEnd.ok.injEq]; omega
theorem dec_mem : ∀ (u : Nat), ∀ b ∈ Lib.decDigits u, 48 ≤ b.toNat ∧ b.toNat ≤ 57 := by
  intro u
  induction u using Nat.strongRecOn with
  | _ u ih =>
    intro b hb
    rw [Lib.decDigits] at hb
    split at hb
    · rename_i h
      rw [List.mem_singleton.1 hb]
      have := digit_nat h; omega
    · rename_i h
      rcases List.mem_append.1 hb with hb | hb
      · exact ih (u / 10) (by omega) b hb
      · rw [List.mem_singleton.1 hb]
        have := digit_nat (d := u % 10) (by omega); omega
theorem dec_ne (u : Nat) : Lib.decDigits u ≠ [] := by
  rw [Lib.decDigits]; split <;> simp
theorem atoi_itoa {n : Int} (h : intB n) : Lib.atoiAll (itoaS n).data.toList = .ok n := by
  obtain ⟨h1, h2⟩ := h
  show Lib.atoiAll (Lib.itoa n) = _
  rcases Int.lt_or_le n 0 with h0 | h0
  · obtain ⟨u, rfl⟩ : ∃ u : Nat, n = -(u : Int) := ⟨n.natAbs, by omega⟩
    rw [Lib.itoa_neg u (by omega)]
    have hp : Lib.parseMag (Lib.decDigits u) = .ok u := by unfold Lib.parseMag; rw [if_neg (dec_ne u)]; exact parse_dec u (by omega)
    simp only [Lib.atoiAll]
    rw [if_pos (by decide), hp]
    simp
    omega
  · obtain ⟨u, rfl⟩ : ∃ u : Nat, n = (u : Int) := ⟨n.toNat, by omega⟩
    rw [Lib.itoa_nonneg u]
    have hp : Lib.parseMag (Lib.decDigits u) = .ok u := by unfold Lib.parseMag; rw [if_neg (dec_ne u)]; exact parse_dec u (by omega)
    have hm := dec_mem u
    have hne := dec_ne u
    revert hp hm hne
    cases Lib.decDigits u with
    | nil => intro _ _ h; exact absurd rfl h
    | cons c r =>
      intro hp hm _
      have hc := hm c (by simp)
      simp only [Lib.atoiAll]
      rw [if_neg (by omega), hp]
      have : ¬ c.toNat = 45 := by omega
      simp [this]
      omega
theorem itoa_mem {n : Int} : ∀ b ∈ (itoaS n).data.toList, b.toNat = 45 ∨ (48 ≤ b.toNat ∧ b.toNat ≤ 57) := fun b hb => by
  have hb : b ∈ Lib.itoa n := hb
  unfold Lib.itoa at hb
  split at hb
  · rcases List.mem_cons.1 hb with rfl | hb
    · exact .inl rfl
    · exact .inr (dec_mem _ b hb)
  · exact .inr (dec_mem _ b hb)
theorem itoaS_ne (n : Int) : itoaS n ≠ ⟨#[]⟩ := fun h => by
  have h2 : Lib.itoa n = [] := congrArg (fun s : ByteArray => s.data.toList) h
  unfold Lib.itoa at h2
  split at h2
  · cases h2
  · exact dec_ne _ h2
end WB
/- the steps of the calculus: pieces of strings -/
namespace WB
open Go Go.RowKit
section
variable {P : Program} {ops : Array Oper} {d : Bool} {Q : Exit → Act → World → Prop} {n : Nat} {D : List Deferred} {w0 : World} {G : Env} {L R : List HP} {l : List (Kd × Oper)} {k : Kd}
  {t : Nat} {ty T : TypeId} {pos : String} {af : Array Edge} {x y z : Operand} {s : ByteArray} {i j : Nat} {a c : Int} {kk kk' : IntKind}
theorem KO.strTo (hx : ev G x = some (.string s)) (hy : ev G y = some (.int kk a)) (hT : P.underlying T = some .string) (ha : a = (i : Int)) (hi : i ≤ s.size) (ht : Nat.blt t n = true) (h : KO P ops d Q n D w0 ((t, .string (s.extract 0 i)) :: G) L l) :
    KO P ops d Q n D w0 G L ((k, ⟨some t, .slice T x none (some y) none, ty, pos, af, none⟩) :: l) :=
  KO.val (fun a' w ha' => by
    subst ha
    have := run_slice_string_to_if (P := P) w T s kk (i : Int) hT
    rw [if_pos (by omega)] at this
    simp [execOp, ha'.eval hx, ha'.eval hy, run_sliceAt_string w T _ _ _ _ hT, this]) ht h
theorem KO.strFrom (hx : ev G x = some (.string s)) (hy : ev G y = some (.int kk a)) (hT : P.underlying T = some .string) (ha : a = (i : Int)) (hi : i ≤ s.size) (ht : Nat.blt t n = true) (h : KO P ops d Q n D w0 ((t, .string (s.extract i s.size)) :: G) L l) :
    KO P ops d Q n D w0 G L ((k, ⟨some t, .slice T x (some y) none none, ty, pos, af, none⟩) :: l) :=
  KO.val (fun a' w ha' => by
    subst ha
    have := run_slice_string_from_if (P := P) w T s kk (i : Int) hT
    rw [if_pos (by omega)] at this
    simp [execOp, ha'.eval hx, ha'.eval hy, run_sliceAt_string w T _ _ _ _ hT, this]) ht h
theorem KO.strMid (hx : ev G x = some (.string s)) (hy : ev G y = some (.int kk a)) (hz : ev G z = some (.int kk' c)) (hT : P.underlying T = some .string) (ha : a = (i : Int)) (hc : c = (j : Int)) (hi : i ≤ j) (hj : j ≤ s.size) (ht : Nat.blt t n = true) (h : KO P ops d Q n D w0 ((t, .string (s.extract i j)) :: G) L l) :
    KO P ops d Q n D w0 G L ((k, ⟨some t, .slice T x (some y) (some z) none, ty, pos, af, none⟩) :: l) :=
  KO.val (fun a' w ha' => by
    subst ha; subst hc
    have := run_slice_string (P := P) w T s kk kk' (i : Int) (j : Int) hT (by omega) (by omega) (by omega)
    simp [execOp, ha'.eval hx, ha'.eval hy, ha'.eval hz, run_sliceAt_string w T _ _ _ _ hT, this]) ht h
/-- an element of an array's value -/
theorem KO.idxAg {cs : List Value} {len : Nat} {E : TypeId} {v : Value} (hx : ev G x = some (.agg cs.toArray)) (hy : ev G y = some (.int kk a)) (hT : P.underlying T = some (.array len E)) (hA : ∀ w, (isAgg E).run P w = .ok false w) (hs : ∀ w, (Go.sizeOf E).run P w = .ok 1 w) (ha : a = (i : Int)) (hi : i < len) (hv : cs[i]? = some v) (ht : Nat.blt t n = true)
    (h : KO P ops d Q n D w0 ((t, v) :: G) L l) : KO P ops d Q n D w0 G L ((k, ⟨some t, .index T x y, ty, pos, af, none⟩) :: l) :=
  KO.val (fun a' w ha' => by
    subst ha
    have h1 : (0 : Int) ≤ (i : Int) ∧ (i : Int) < (len : Int) := ⟨by omega, by omega⟩
    have h2 : cs.toArray[i]? = some v := by simpa using hv
    simp [execOp, ha'.eval hx, ha'.eval hy, Instr.index, asIntOf, run_underlying hT, h1, hs w, part, hA w, hi, hv]
    ) ht h
end
theorem RdA.ofSL {α : Type} {w0 w : World} {L R : List HP} {E : TypeId} {cf : α → List Value} {sz : Nat} {xs : List α} {v : Value} (hsz : ∀ e, (cf e).length = sz) (hp : Pick L (SL E sz cf v xs) R) (hw : St w0 L w) : RdA w sz cf v xs := by
  obtain ⟨a, cap, h1, h2, h3⟩ := RdS.of hsz hp w hw
  refine ⟨a, cap, h1, fun i x hx => ?_⟩
  have hl := (List.getElem?_eq_some_iff.1 hx).1
  obtain ⟨g, rfl⟩ := h2 (by omega)
  exact ⟨_, rfl, by rw [Addr.add_lit, Nat.zero_add]; exact h3 g rfl i x hx⟩
end WB
/- strings.SplitSeq at a sep of one byte: the iterator -/
namespace Go.Proofs.YtjhogocabcdjbaaGreatDoor
open Go Go.RowKit WB
theorem St.swapApp {w0 w : World} {A B : List HP} (h : St w0 (A ++ B) w) : St w0 (B ++ A) w := h.mapOwn fun _ x => seps_append.2 (sep_comm (seps_append.1 x))
def itV (b4 b3 b5 : Nat) : Value := .func (.func 180) #[] #[.pointer (some ⟨b4, 0, none⟩), .pointer (some ⟨b3, 0, none⟩), .pointer (some ⟨b5, 0, none⟩)]
def itP (b4 b3 b5 : Nat) (s sep : ByteArray) : List HP := [blk b3 (.cells [.string s].toArray 9 (0, 0)), blk b4 (.cells [.string sep].toArray 9 (0, 0)), blk b5 (.cells [.int .i64 0].toArray 3 (0, 0))]
theorem seq1_e (w0 : World) (L : List HP) (s sep : ByteArray) : KE Tryz.prog 110 #[.string s, .string sep, .int .i64 0] w0 L (fun u M => ∃ b4 b3 b5, u = itV b4 b3 b5 ∧ M = itP b4 b3 b5 s sep ++ L) := by
  refine KE.mk (n := 8) Tryz.func110 rfl Tryz.ntmps110 (by simp) ?_
  intro w hw
  repeat ((with_reducible refine K.seq ?_))
  refine K.reg ?_
  refine KO.box rfl rfl (by exact rfl) rfl ?_; intro b3
  refine KO.box rfl rfl (by exact rfl) rfl ?_; intro b4
  refine KO.box rfl rfl (by exact rfl) rfl ?_; intro b5
  refine KO.as rfl rfl ?_
  refine KO.nil ?_
  repeat (first | (with_reducible refine K.seq ?_) | (with_reducible refine KQ.next ?_))
  refine K.reg ?_
  refine KO.mkc rfl rfl rfl ?_
  refine KO.as rfl rfl ?_
  refine KO.nil ?_
  repeat (first | (with_reducible refine KQ.next ?_) | (with_reducible refine K.ret ?_))
  refine KQ.ret1 rfl rfl (fun w' hs => ⟨_, _, rfl, ⟨_, _, _, rfl, rfl⟩, hw.stack (M := itP b4 b3 b5 s sep) (by unfold itP; exact hs.all (by with_reducible repeat (first | exact PAll.refl | refine PAll.cons (by with_reducible repeat (first | exact Pick.head | apply Pick.tail)) ?_))), hs.below⟩)
theorem seq_e (w0 : World) (L : List HP) (s sep : ByteArray) : KE Tryz.prog 72 #[.string s, .string sep] w0 L (fun u M => ∃ b4 b3 b5, u = itV b4 b3 b5 ∧ M = itP b4 b3 b5 s sep ++ L) := by
  refine KE.mk (n := 8) Tryz.func72 rfl Tryz.ntmps72 (by simp) ?_
  intro w hw
  repeat ((with_reducible refine K.seq ?_))
  refine K.reg ?_
  refine KO.as rfl rfl ?_
  refine KO.nil ?_
  repeat (first | (with_reducible refine K.seq ?_) | (with_reducible refine KQ.next ?_))
  refine K.reg ?_
  refine KO.mv rfl rfl ?_
  refine KO.mv rfl rfl ?_
  refine KO.ce (cp := []) rfl rfl rfl Tryz.call110 rfl (seq1_e w _ s sep) ?_; rintro v' L' ⟨b4, b3, b5, rfl, rfl⟩
  refine KO.as rfl rfl ?_
  refine KO.nil ?_
  repeat (first | (with_reducible refine KQ.next ?_) | (with_reducible refine K.ret ?_))
  refine KQ.ret1 rfl rfl (fun w' hs => ⟨_, _, rfl, ⟨_, _, _, rfl, rfl⟩, hw.stack (M := itP b4 b3 b5 s sep) (by simpa using hs), hs.below⟩)
theorem index_e (w0 : World) (L : List HP) (s : ByteArray) (c : UInt8) : KE Tryz.prog 182 #[.string s, .string ⟨#[c]⟩] w0 L (fun u M => u = .int .i64 (Lib.indexByte s.data.toList c) ∧ M = L) :=
  KE.of_below fun w hw => (Tryz.strings_Index_one s c w).mono fun e w' h => ⟨h.1, by rw [h.2]; exact Below.refl _ _⟩
set_option maxRecDepth 100000 in
theorem iter_e (w0 : World) (l : Nat) (c : UInt8) (s : ByteArray) (hsz : s.size ≤ 4294967280) (b4 b3 b5 : Nat) (J : Nat → List HP → Prop) (X : List HP → Prop) (hY : ∀ k p L, (pcs c s)[k]? = some p → J k L → KY Tryz.prog l (.string p) w0 L (J (k + 1)) X) (L : List HP) (h0 : J 0 L) :
    KC Tryz.prog 180 #[.func (.yield l) #[] #[], .pointer (some ⟨b4, 0, none⟩), .pointer (some ⟨b3, 0, none⟩), .pointer (some ⟨b5, 0, none⟩)] w0 (itP b4 b3 b5 s ⟨#[c]⟩ ++ L) (fun v M => ∃ s' M', M = itP b4 b3 b5 s' ⟨#[c]⟩ ++ M' ∧ (J (pcs c s).length M' ∨ X M')) := by
  unfold itP
  refine KC.mk (n := 52) Tryz.func180 rfl Tryz.ntmps180 (by simp) ?_
  repeat ((with_reducible refine K.seq ?_))
  simp only [List.cons_append, List.nil_append]
  refine K.reg ?_
  refine KO.ld rfl rfl Tryz.isAgg9 (by with_reducible (repeat (first | exact Pick.head | apply Pick.tail))) (by exact rfl) rfl ?_
  refine KO.lenS rfl Tryz.underlying9 rfl ?_
  refine KO.eqI rfl rfl rfl ?_
  refine KO.nil ?_
  repeat ((with_reducible refine KQ.next ?_))
  refine K.condF rfl (by rfl) ?_
  refine K.skip ?_
  repeat with_reducible refine KQ.next ?_
  refine K.seq ?_
  have hfin : ∀ r k, (pcs c s).drop k = pcs c r → Lib.indexByte r.data.toList c = -1 → (pcs c s)[k]? = some r ∧ k + 1 = (pcs c s).length := fun r k h1 h2 => by
    rw [pcs_miss h2] at h1
    have h3 : (pcs c s)[k]? = some r := by
      have := congrArg (fun l => l[0]?) h1
      simpa using this
    have h4 := congrArg List.length h1
    have h5 := (List.getElem?_eq_some_iff.1 h3).1
    simp at h4
    exact ⟨h3, by omega⟩
  refine K.cut (fun y : Nat × ByteArray × List HP => [(0, .func (.yield l) #[] #[]), (2, .pointer (some ⟨b3, 0, none⟩))]) (fun y => itP b4 b3 b5 y.2.1 ⟨#[c]⟩ ++ y.2.2) (fun y => J y.1 y.2.2 ∧ (pcs c s)[y.1]? = some y.2.1 ∧ y.1 + 1 = (pcs c s).length) ?_ ?_
  · refine K.block ?_
    refine K.loop (fun y : Nat × ByteArray × List HP => [(0, .func (.yield l) #[] #[]), (1, .pointer (some ⟨b4, 0, none⟩)), (2, .pointer (some ⟨b3, 0, none⟩)), (3, .pointer (some ⟨b5, 0, none⟩))]) (fun y => itP b4 b3 b5 y.2.1 ⟨#[c]⟩ ++ y.2.2)
      (fun y => J y.1 y.2.2 ∧ (pcs c s).drop y.1 = pcs c y.2.1 ∧ y.2.1.size ≤ 4294967280) (fun y => y.2.1.size) (0, s, L) ⟨h0, rfl, hsz⟩ ⟨rfl, rfl, rfl, rfl, trivial⟩ (fun _ h => h) ?_
    rintro ⟨k, r, M⟩ ⟨hJ, hd, hrs⟩
    dsimp only at hJ hd hrs ⊢
    simp only [itP, List.cons_append, List.nil_append]
    repeat (first | (with_reducible refine K.seq ?_) | (with_reducible refine K.block ?_))
    refine K.reg ?_
    refine KO.ld rfl rfl Tryz.isAgg9 (by with_reducible (repeat (exact Pick.head))) (by exact rfl) rfl ?_
    refine KO.ld rfl rfl Tryz.isAgg9 (by with_reducible (repeat (first | exact Pick.head | apply Pick.tail))) (by exact rfl) rfl ?_
    refine KO.ce (cp := []) rfl rfl rfl Tryz.call182 rfl (index_e w0 _ r c) ?_; rintro v' L' ⟨rfl, rfl⟩
    refine KO.as rfl rfl ?_
    refine KO.nil ?_
    repeat (first | (with_reducible refine K.seq ?_) | (with_reducible refine KQ.next ?_))
    refine K.reg ?_
    refine KO.mv rfl rfl ?_
    refine KO.lss rfl rfl rfl ?_
    refine KO.nil ?_
    repeat ((with_reducible refine KQ.next ?_))
    refine K.condD rfl (fun h1 => ?_) (fun h1 => ?_)
    · have h2 : Lib.indexByte r.data.toList c = -1 := by have := Lib.indexByte_ge r.data.toList c; omega
      obtain ⟨h3, h4⟩ := hfin r k hd h2
      repeat (first | (with_reducible refine KQ.then_exit ?_) | (with_reducible refine KQ.blk_exit ?_) | (refine KQ.blk_pass rfl ?_) | (with_reducible refine K.exit ?_))
      exact KQ.mid (k, r, M) ⟨hJ, h3, h4⟩ ⟨rfl, rfl, trivial⟩ (fun _ h => by simpa [itP] using h)
    · obtain ⟨i, hi⟩ : ∃ i : Nat, Lib.indexByte r.data.toList c = i := ⟨(Lib.indexByte r.data.toList c).toNat, by omega⟩
      have hlt := indexByte_lt hi
      have hp := pcs_hit hi
      rw [hp] at hd
      have hk : (pcs c s)[k]? = some (r.extract 0 i) := by
        have := congrArg (fun l => l[0]?) hd
        simpa using this
      have hd2 : (pcs c s).drop (k + 1) = pcs c (r.extract (i + 1) r.size) := by
        rw [← List.drop_drop, hd]; rfl
      have hc1 : (⟨#[c]⟩ : ByteArray).size = 1 := rfl
      rw [hi]
      repeat (first | (with_reducible refine K.seq ?_) | (with_reducible refine KQ.next ?_) | (with_reducible refine K.skip ?_))
      refine K.reg ?_
      refine KO.ld rfl rfl Tryz.isAgg9 (by with_reducible (repeat (exact Pick.head))) (by exact rfl) rfl ?_
      refine KO.mv rfl rfl ?_
      refine KO.ld rfl rfl Tryz.isAgg3 (by with_reducible (repeat (first | exact Pick.head | apply Pick.tail))) (by exact rfl) rfl ?_
      refine KO.add rfl rfl rfl (by omega) rfl ?_
      refine KO.strTo (i := i) rfl rfl Tryz.underlying9 (by simp) (by omega) rfl ?_
      refine KO.as rfl rfl ?_
      refine KO.nil ?_
      repeat (first | (with_reducible refine K.seq ?_) | (with_reducible refine KQ.next ?_))
      refine K.regI ?_
      refine KOI.mv rfl rfl ?_
      refine KOI.mv rfl rfl ?_
      refine KOI.yieldT (N := itP b4 b3 b5 r ⟨#[c]⟩) rfl rfl (hY k _ M hk hJ) (fun w hw => St.swapApp hw) rfl (fun L' hL => ?_) (fun L' hL => ?_)
      · refine KOI.not rfl rfl ?_
        refine KOI.nil ?_
        refine KQ.next ?_
        refine K.condF rfl rfl ?_
        repeat (first | (with_reducible refine KQ.next ?_) | (with_reducible refine K.skip ?_))
        refine K.conv (fun w hw => (St.swapApp hw : St w0 (itP b4 b3 b5 r ⟨#[c]⟩ ++ L') w)) ?_
        simp only [itP, List.cons_append, List.nil_append]
        refine K.reg ?_
        refine KO.ld rfl rfl Tryz.isAgg9 (by with_reducible (repeat (exact Pick.head))) (by exact rfl) rfl ?_
        refine KO.mv rfl rfl ?_
        refine KO.ld rfl rfl Tryz.isAgg9 (by with_reducible (repeat (first | exact Pick.head | apply Pick.tail))) (by exact rfl) rfl ?_
        refine KO.lenS rfl Tryz.underlying9 rfl ?_
        refine KO.add rfl rfl (show (i : Int) + (⟨#[c]⟩ : ByteArray).size = (i + 1 : Nat) by rw [hc1]; rfl) (by omega) rfl ?_
        refine KO.strFrom (i := i + 1) rfl rfl Tryz.underlying9 rfl (by omega) rfl ?_
        refine KO.sto0 rfl rfl rfl (by exact rfl) (by exact Tryz.sizeOf9) (by exact rfl) (by with_reducible (repeat (exact Pick.head))) (by exact rfl) ?_
        refine KO.nil ?_
        repeat ((with_reducible refine KQ.blk_normal ?_))
        refine KQ.round (k + 1, r.extract (i + 1) r.size, L') ⟨hL, hd2, by simp; omega⟩ (by simp; omega) ⟨rfl, rfl, rfl, rfl, trivial⟩ (fun _ h => by simpa [itP] using h)
      · refine KOI.not rfl rfl ?_
        refine KOI.nil ?_
        refine KQ.next ?_
        refine K.condT rfl rfl ?_
        repeat (first | (with_reducible refine KQ.then_ret ?_) | (with_reducible refine KQ.blk_ret ?_) | (with_reducible refine K.ret ?_))
        exact KQ.ret0 rfl (fun w' hs => ⟨_, _, rfl, ⟨r, L', rfl, .inr hL⟩, St.swapApp hs⟩)
  · rintro ⟨k, r, M⟩ ⟨hJ, hk, hk2⟩
    dsimp only at hJ hk hk2 ⊢
    refine K.regI ?_
    refine KOI.mv rfl rfl ?_
    refine KOI.ld (b := b3) (off := 0) (cs := [.string r]) rfl Tryz.isAgg9 (by unfold itP; exact .head) rfl rfl ?_
    refine KOI.yieldT (N := itP b4 b3 b5 r ⟨#[c]⟩) rfl rfl (hY k _ M hk hJ) (fun w hw => St.swapApp hw) rfl (fun L' hL => ?_) (fun L' hL => ?_)
    · refine KOI.nil ?_
      rw [hk2] at hL
      exact KQ.end0 rfl (fun w' hs => ⟨_, _, rfl, ⟨r, L', rfl, .inl hL⟩, St.swapApp hs⟩)
    · refine KOI.nil ?_
      exact KQ.end0 rfl (fun w' hs => ⟨_, _, rfl, ⟨r, L', rfl, .inr hL⟩, St.swapApp hs⟩)
theorem St.swap3 {w0 w : World} {A B C : List HP} (h : St w0 (A ++ (B ++ C)) w) : St w0 (B ++ (A ++ C)) w := h.mapOwn fun _ x =>
  seps_append.2 (sep_mono (fun _ x => x) (fun _ x => seps_append.2 x) (sep_left (sep_mono (fun _ x => x) (fun _ x => seps_append.1 x) (seps_append.1 x))))
theorem St.dropApp {w0 w : World} {A B : List HP} (h : St w0 (A ++ B) w) : St w0 B w := (St.joins h).drop
/-- for x := range strings.SplitSeq(s, c) -/
theorem K.rangeSeq {Q : Exit → Act → World → Prop} {n : Nat} {D : List Deferred} {w0 : World} {G2 : ByteArray → Env} {G0 : Env} {g : Operand} {p : Nat} {assign body : Code} {b4 b3 b5 : Nat} {c : UInt8} {s : ByteArray} {L : List HP}
    (C : Nat → List HP → Prop) (X : List HP → Prop) (hg : ev G0 g = some (itV b4 b3 b5)) (hp : Nat.blt p n = true) (hsz : s.size ≤ 4294967280) (h0 : C 0 L)
    (ha : ∀ (l : Nat) (N : List HP) q, KR l Tryz.prog assign (Exit.then (MidI n [] w0 (fun _ : Unit => G2 q) (fun _ => N) (fun _ => True)) (fun _ _ _ => False)) n [] w0 ((p, .string q) :: G0) N)
    (hb : ∀ k q M (l : Nat) (N : List HP) (RQ : Exit → Act → World → Prop), (pcs c s)[k]? = some q → C k M → (∀ a w, ¬ RQ .outgrown a w) → (∀ M' G', C (k + 1) M' → KQ RQ .normal n [] w0 G' (M' ++ N)) → (∀ M' G', X M' → KQ RQ .ret n [] w0 G' (M' ++ N)) →
      KR l Tryz.prog body RQ n [] w0 (G2 q) (M ++ N))
    (hdone : ∀ b M, C (pcs c s).length M → KQ Q .normal n (mkD b :: D) w0 G0 (blk b (.deferred (some [])) :: M))
    (hstop : ∀ b M, X M → KQ Q .ret n (mkD b :: D) w0 G0 (blk b (.deferred (some [])) :: M)) :
    K Tryz.prog (.rangeFunc g #[p] assign body) Q n D w0 G0 (itP b4 b3 b5 s ⟨#[c]⟩ ++ L) := by
  refine K.rangeFunc hg Tryz.call180 fun fn tm b l hk w hw => ?_
  have hY : ∀ k q L', (pcs c s)[k]? = some q → (∃ M, C k M ∧ L' = blk l (.loop ⟨.ready, none, fn, tm, #[p], assign, body, b⟩) :: blk b (.deferred (some [])) :: M) →
      KY Tryz.prog l (.string q) w0 L' (fun L' => ∃ M, C (k + 1) M ∧ L' = blk l (.loop ⟨.ready, none, fn, tm, #[p], assign, body, b⟩) :: blk b (.deferred (some [])) :: M)
        (fun L' => ∃ M, X M ∧ L' = blk l (.loop ⟨.done, some .ret, fn, tm, #[p], assign, body, b⟩) :: blk b (.deferred (some [])) :: M) := by
    rintro k q _ hq ⟨M, hM, rfl⟩
    refine KY.mk hk hp fun N => ?_
    intro a w' ha' hw'
    refine Go.wpIn_mono (ha l _ q a w' ha' hw') ?_
    rintro e a2 w2 hh
    cases e with
    | normal =>
      obtain ⟨_, _, ha2, hw2⟩ := hh
      refine KQ.begin (G := G2 q) .head rfl ?_ a2 w2 ha2 hw2
      refine KR.conv (L' := M ++ (blk l (.loop ⟨.busy, none, fn, tm, #[p], assign, body, b⟩) :: blk b (.deferred (some [])) :: N)) (fun w hw => St.swap3 (A := [blk l (.loop ⟨.busy, none, fn, tm, #[p], assign, body, b⟩), blk b (.deferred (some []))]) hw) ?_
      refine hb k q M l _ _ hq hM (fun _ _ h => h) (fun M' G' hM' => ?_) (fun M' G' hM' => ?_)
      · refine KQ.conv (fun w hw => (St.swap3 (B := [blk l (.loop ⟨.busy, none, fn, tm, #[p], assign, body, b⟩), blk b (.deferred (some []))]) hw)) ?_
        refine KQ.goes .head fun w hw => .inl ⟨rfl, _, ⟨M', hM', rfl⟩, hw⟩
      · refine KQ.conv (fun w hw => (St.swap3 (B := [blk l (.loop ⟨.busy, none, fn, tm, #[p], assign, body, b⟩), blk b (.deferred (some []))]) hw)) ?_
        refine KQ.leaves .head fun w hw => .inr ⟨rfl, _, ⟨M', hM', rfl⟩, hw⟩
    | _ => exact hh.elim
  have hw2 := St.swap3 (A := [blk l (.loop ⟨.ready, none, fn, tm, #[p], assign, body, b⟩), blk b (.deferred (some []))]) (B := itP b4 b3 b5 s ⟨#[c]⟩) (C := L) hw
  refine ((iter_e w0 l c s hsz b4 b3 b5 (fun k L' => ∃ M, C k M ∧ L' = blk l (.loop ⟨.ready, none, fn, tm, #[p], assign, body, b⟩) :: blk b (.deferred (some [])) :: M)
    (fun L' => ∃ M, X M ∧ L' = blk l (.loop ⟨.done, some .ret, fn, tm, #[p], assign, body, b⟩) :: blk b (.deferred (some [])) :: M) hY _ ⟨L, h0, rfl⟩) w hw2).mono ?_
  rintro e w' ⟨v, L', rfl, ⟨s', M', rfl, (⟨M, hM, rfl⟩ | ⟨M, hM, rfl⟩)⟩, hs⟩
  · refine ⟨_, itP b4 b3 b5 s' ⟨#[c]⟩ ++ M, .ready, none, rfl, (by decide), St.swap3 (B := [blk l (.loop ⟨.ready, none, fn, tm, #[p], assign, body, b⟩), blk b (.deferred (some []))]) hs, ?_⟩
    exact KQ.conv (fun w hw => St.dropApp (St.swap3 (A := [blk b (.deferred (some []))]) (B := itP b4 b3 b5 s' ⟨#[c]⟩) hw)) (hdone b M hM)
  · refine ⟨_, itP b4 b3 b5 s' ⟨#[c]⟩ ++ M, .done, some .ret, rfl, (by decide), St.swap3 (B := [blk l (.loop ⟨.done, some .ret, fn, tm, #[p], assign, body, b⟩), blk b (.deferred (some []))]) hs, ?_⟩
    exact K.ret (KQ.conv (fun w hw => St.dropApp (St.swap3 (A := [blk b (.deferred (some []))]) (B := itP b4 b3 b5 s' ⟨#[c]⟩) hw)) (hstop b M hM))
end Go.Proofs.YtjhogocabcdjbaaGreatDoor
/- messages' text read: plain -/
namespace WB
open Go
def numO (s : ByteArray) : Option Int := match Lib.atoiAll s.data.toList with | .ok v => some v | _ => none
def parse1 (p : ByteArray) : Option Ms :=
  match pcs 32 p with
  | [a, b, c, d, e] => match numO a, numO b, numO e with | some x, some y, some z => some ⟨x, y, c, d, z⟩ | _, _, _ => none
  | _ => none
def parseL : List ByteArray → Option (List Ms)
  | [] => some []
  | p :: ps => match parse1 p, parseL ps with | some m, some ms => some (m :: ms) | _, _ => none
/-- what messages' text stands for -/
def mrd (s : ByteArray) : Option (List Ms) :=
  if s = ⟨#[]⟩ then some [] else match parseL (pcs 43 s) with | none => none | some xs => if badI xs = none ∧ writeS xs = s then some xs else none
theorem parseL_snoc {p : ByteArray} : ∀ {ps : List ByteArray} {xs : List Ms}, parseL ps = some xs → parseL (ps ++ [p]) = (parse1 p).map fun m => xs ++ [m]
  | [], xs, h => by
    simp only [parseL, Option.some.injEq] at h; subst h
    simp only [List.nil_append, parseL]
    cases parse1 p <;> rfl
  | q :: ps, xs, h => by
    simp only [parseL] at h
    cases h1 : parse1 q with
    | none => rw [h1] at h; simp at h
    | some m =>
      rw [h1] at h
      cases h2 : parseL ps with
      | none => rw [h2] at h; simp at h
      | some ms =>
        rw [h2] at h
        simp only [Option.some.injEq] at h; subst h
        have ih := parseL_snoc (p := p) h2
        simp only [List.cons_append, parseL, h1, ih]
        cases parse1 p <;> rfl
theorem parseL_none {p : ByteArray} (hp : parse1 p = none) : ∀ {ps : List ByteArray}, p ∈ ps → parseL ps = none
  | [], h => by cases h
  | q :: ps, h => by
    rcases List.mem_cons.1 h with rfl | h
    · simp only [parseL, hp]
    · simp only [parseL, parseL_none hp h]
      cases parse1 q <;> rfl
theorem parseL_all : ∀ {xs : List Ms} {f : Ms → ByteArray}, (∀ m ∈ xs, parse1 (f m) = some m) → parseL (xs.map f) = some xs
  | [], _, _ => rfl
  | m :: xs, f, h => by
    simp only [List.map_cons, parseL, h m (by simp), parseL_all (fun x hx => h x (List.mem_cons_of_mem _ hx))]
theorem parseL_len : ∀ {ps : List ByteArray} {xs : List Ms}, parseL ps = some xs → xs.length = ps.length
  | [], xs, h => by simp only [parseL, Option.some.injEq] at h; subst h; rfl
  | q :: ps, xs, h => by
    simp only [parseL] at h
    cases h1 : parse1 q with
    | none => rw [h1] at h; simp at h
    | some m =>
      rw [h1] at h
      cases h2 : parseL ps with
      | none => rw [h2] at h; simp at h
      | some ms =>
        rw [h2] at h
        simp only [Option.some.injEq] at h; subst h
        simp [parseL_len h2]
theorem let_free {s : ByteArray} (h : allLet s = true) : ∀ b ∈ s.data.toList, b ≠ 32 ∧ b ≠ 43 := fun b hb => by
  unfold allLet at h
  have := List.all_eq_true.1 h b hb
  constructor <;> (rintro rfl; revert this; decide)
theorem itoa_free {n : Int} : ∀ b ∈ (itoaS n).data.toList, b ≠ 32 ∧ b ≠ 43 := fun b hb => by
  have := itoa_mem b hb
  constructor <;> (rintro rfl; revert this; decide)
theorem body_let {s : ByteArray} (h : bodyB s = true) : allLet s = true := by unfold bodyB lettersB at h; simp at h; exact h.2.2
theorem word_let {s : ByteArray} (h : wordB s = true) : allLet s = true := by unfold wordB lettersB at h; simp at h; exact h.2.2
theorem msgS_join (m : Ms) : msgS m = joinS [itoaS m.id, itoaS m.pri, m.body, m.queue, itoaS m.house] sp := by
  rw [joinS_cons2, joinS_cons2, joinS_cons2, joinS_two]
  unfold msgS
  simp only [cat_assoc]
theorem numO_itoa {n : Int} (h : intB n) : numO (itoaS n) = some n := by unfold numO; rw [atoi_itoa h]
theorem parse_msg {m : Ms} (h : msRight m = true) : parse1 (msgS m) = some m := by
  obtain ⟨h1, h2, h3, h4, h5, h6, h7, h8⟩ := msRight_parts h
  have hb := let_free (body_let h5)
  have hq := let_free (word_let h6)
  have : pcs 32 (msgS m) = [itoaS m.id, itoaS m.pri, m.body, m.queue, itoaS m.house] := by
    rw [msgS_join]
    refine pcs_join (by simp) fun x hx b hb' => ?_
    simp only [List.mem_cons, List.not_mem_nil, or_false] at hx
    rcases hx with rfl | rfl | rfl | rfl | rfl
    · exact (itoa_free b hb').1
    · exact (itoa_free b hb').1
    · exact (hb b hb').1
    · exact (hq b hb').1
    · exact (itoa_free b hb').1
  unfold parse1
  rw [this]
  simp only [numO_itoa (n := m.id) ⟨by omega, by omega⟩, numO_itoa (n := m.pri) ⟨by omega, by omega⟩, numO_itoa (n := m.house) ⟨by omega, by omega⟩]
theorem mem_joinS {sep : ByteArray} : ∀ {l : List ByteArray} {b : UInt8}, b ∈ (joinS l sep).data.toList → b ∈ sep.data.toList ∨ ∃ x ∈ l, b ∈ x.data.toList
  | [], b, h => by rw [joinS_nil] at h; simp at h
  | [x], b, h => by rw [joinS_one] at h; exact .inr ⟨x, by simp, h⟩
  | x :: y :: r, b, h => by
    rw [joinS_cons2] at h
    simp only [ByteArray.data_append, Array.toList_append, List.mem_append] at h
    rcases h with (h | h) | h
    · exact .inr ⟨x, by simp, h⟩
    · exact .inl h
    · rcases mem_joinS h with h | ⟨z, hz, h⟩
      · exact .inl h
      · exact .inr ⟨z, List.mem_cons_of_mem _ hz, h⟩
theorem msg_plus {m : Ms} (h : msRight m = true) : ∀ b ∈ (msgS m).data.toList, b ≠ 43 := fun b hb => by
  obtain ⟨h1, h2, h3, h4, h5, h6, h7, h8⟩ := msRight_parts h
  rw [msgS_join] at hb
  rcases mem_joinS hb with hb | ⟨x, hx, hb⟩
  · have : b = 32 := by simpa [sp] using hb
    subst this; decide
  · simp only [List.mem_cons, List.not_mem_nil, or_false] at hx
    rcases hx with rfl | rfl | rfl | rfl | rfl
    · exact (itoa_free b hb).2
    · exact (itoa_free b hb).2
    · exact (let_free (body_let h5) b hb).2
    · exact (let_free (word_let h6) b hb).2
    · exact (itoa_free b hb).2
theorem parse_write {xs : List Ms} (h : badI xs = none) (h0 : xs ≠ []) : parseL (pcs 43 (writeS xs)) = some xs := by
  have hr := badI_all h
  have : pcs 43 (writeS xs) = xs.map msgS := by
    unfold writeS
    refine pcs_join (by simpa using h0) fun x hx => ?_
    obtain ⟨m, hm, rfl⟩ := List.mem_map.1 hx
    exact msg_plus (hr m hm)
  rw [this]
  exact parseL_all fun m hm => parse_msg (hr m hm)
theorem msgS_ne (m : Ms) : 1 ≤ (msgS m).size := by
  unfold msgS
  simp only [ByteArray.size_append]
  have : sp.size = 1 := rfl
  omega
theorem writeS_ne {xs : List Ms} (h0 : xs ≠ []) : writeS xs ≠ ⟨#[]⟩ := by
  cases xs with
  | nil => exact absurd rfl h0
  | cons m r =>
    intro h
    have h1 := congrArg ByteArray.size h
    have h2 := msgS_ne m
    unfold writeS at h1
    rw [List.map_cons] at h1
    cases r with
    | nil => rw [List.map_nil, joinS_one] at h1; have : (⟨#[]⟩ : ByteArray).size = 0 := rfl; omega
    | cons m' r => rw [List.map_cons, joinS_cons2] at h1; simp only [ByteArray.size_append] at h1; have : (⟨#[]⟩ : ByteArray).size = 0 := rfl; omega
/-- what is written is read -/
theorem mrd_write {xs : List Ms} (h : badI xs = none) : mrd (writeS xs) = some xs := by
  unfold mrd
  by_cases h0 : xs = []
  · subst h0; rfl
  · rw [if_neg (writeS_ne h0), parse_write h h0]
    simp [h]
/-- what is read is written so -/
theorem mrd_some {s : ByteArray} {xs : List Ms} (h : mrd s = some xs) : badI xs = none ∧ writeS xs = s := by
  unfold mrd at h
  split at h
  · rename_i h0
    simp only [Option.some.injEq] at h; subst h; exact ⟨rfl, h0.symm⟩
  · split at h
    · cases h
    · split at h
      · rename_i h1
        simp only [Option.some.injEq] at h; subst h; exact h1
      · cases h
theorem pieces_size (c : UInt8) : ∀ l, ∀ p ∈ pieces c l, p.length ≤ l.length
  | [], p, hp => by simp [pieces] at hp; subst hp; exact Nat.le_refl _
  | a :: l, p, hp => by
    by_cases h : a = c
    · subst h; rw [pieces_eq] at hp
      rcases List.mem_cons.1 hp with rfl | hp
      · simp
      · have := pieces_size a l p hp; simp; omega
    · obtain ⟨q, qs, e⟩ := List.exists_cons_of_ne_nil (pieces_ne c l)
      rw [pieces_neq h e] at hp
      rcases List.mem_cons.1 hp with rfl | hp
      · have := pieces_size c l q (by rw [e]; simp); simp; omega
      · have := pieces_size c l p (by rw [e]; simp [hp]); simp; omega
theorem pcs_size {c : UInt8} {s p : ByteArray} (h : p ∈ pcs c s) : p.size ≤ s.size := by
  unfold pcs at h
  obtain ⟨q, hq, rfl⟩ := List.mem_map.1 h
  have := pieces_size c _ q hq
  rw [ba_size, ba_size, data_toB]; exact this
theorem parse1_size {p : ByteArray} {m : Ms} (h : parse1 p = some m) : m.body.size ≤ p.size ∧ m.queue.size ≤ p.size := by
  unfold parse1 at h
  split at h
  · rename_i a b c d e hp
    split at h
    · simp only [Option.some.injEq] at h; subst h
      exact ⟨pcs_size (c := 32) (by rw [hp]; simp), pcs_size (c := 32) (by rw [hp]; simp)⟩
    · cases h
  · cases h
theorem parseL_size {B : Nat} : ∀ {ps : List ByteArray} {xs : List Ms}, parseL ps = some xs → (∀ p ∈ ps, p.size ≤ B) → ∀ m ∈ xs, m.body.size ≤ B ∧ m.queue.size ≤ B
  | [], xs, h, _, m, hm => by simp only [parseL, Option.some.injEq] at h; subst h; cases hm
  | q :: ps, xs, h, hB, m, hm => by
    simp only [parseL] at h
    cases h1 : parse1 q with
    | none => rw [h1] at h; simp at h
    | some m' =>
      rw [h1] at h
      cases h2 : parseL ps with
      | none => rw [h2] at h; simp at h
      | some ms =>
        rw [h2] at h
        simp only [Option.some.injEq] at h; subst h
        rcases List.mem_cons.1 hm with rfl | hm
        · have := parse1_size h1; have := hB q (by simp); omega
        · exact parseL_size h2 (fun p hp => hB p (List.mem_cons_of_mem _ hp)) m hm
theorem pcs_len_le (c : UInt8) (s : ByteArray) : (pcs c s).length ≤ s.size + 1 := by
  unfold pcs; rw [List.length_map, pieces_len]; have := List.count_le_length (a := c) (l := s.data.toList); rw [ba_size]; omega
theorem mrd_len {s : ByteArray} {xs : List Ms} (h : mrd s = some xs) : xs.length ≤ s.size + 1 := by
  unfold mrd at h
  split at h
  · simp only [Option.some.injEq] at h; subst h; simp
  · split at h
    · cases h
    · rename_i ys hy
      split at h
      · simp only [Option.some.injEq] at h; subst h
        have := parseL_len hy; have := pcs_len_le 43 s; omega
      · cases h
theorem right_size {m : Ms} (h : msRight m = true) : m.body.size ≤ maxLen ∧ m.queue.size ≤ maxLen := by
  obtain ⟨h1, h2, h3, h4, h5, h6, h7, h8⟩ := msRight_parts h
  have a4 : m.body.size ≤ 12 := by unfold bodyB lettersB at h5; simp at h5; omega
  have a5 : m.queue.size ≤ 8 := by unfold wordB lettersB at h6; simp at h6; omega
  unfold maxLen; omega
end WB
/- what msg.Read calls: strings.Split, strconv.Atoi; plain.Same of lists that lie anywhere -/
namespace Go.Proofs.YtjhogocabcdjbaaGreatDoor
open Go Go.RowKit WB
/-- the variables that the library reads -/
def Lim (w : World) : Prop := (∃ m, w.cell? ⟨1, 0, none⟩ = some (.int .i64 m)) ∧ (∃ t p, w.cell? ⟨2, 0, none⟩ = some (.iface t p)) ∧ (∃ t p, w.cell? ⟨3, 0, none⟩ = some (.iface t p))
theorem Lim.ext {w w' : World} (h : Lim w) (e : Ext w w') : Lim w' := by
  obtain ⟨⟨m, h1⟩, ⟨t, p, h2⟩, ⟨t', p', h3⟩⟩ := h
  exact ⟨⟨m, e.cell h1⟩, ⟨t, p, e.cell h2⟩, ⟨t', p', e.cell h3⟩⟩
theorem strS_blkM {w0 w : World} {L : List HP} {b k : Nat} {xs : List ByteArray} {vs : List Value} (h : St w0 (blk b (.cells vs.toArray 9 (0, 0)) :: L) w) (hvs : vs = xs.map Value.string) (hk : xs.length = k) (hle : k ≤ 1000000000) : St w0 (strS (.slice (some ⟨b, 0, none⟩) k k) xs :: L) w := by
  subst hk
  have hf : xs.flatMap strC = vs := by rw [hvs]; clear hvs h hle; induction xs with
    | nil => rfl
    | cons a l ih => rw [List.flatMap_cons, ih]; rfl
  refine h.osl_mk (Nat.le_refl _) (by unfold maxLen; omega) ?_ ?_
  · rw [hvs]; simp
  · rw [hf, hvs, Nat.mul_one]; exact List.take_of_length_le (by simp)
theorem split_e (w0 : World) (L : List HP) (s : ByteArray) (c : UInt8) (hs : s.size ≤ 100000000) (hM : Lim w0) : KE Tryz.prog 77 #[.string s, .string ⟨#[c]⟩] w0 L (fun u M => ∃ b, u = .slice (some ⟨b, 0, none⟩) (pcs c s).length (pcs c s).length ∧ M = strS (.slice (some ⟨b, 0, none⟩) (pcs c s).length (pcs c s).length) (pcs c s) :: L) := fun w hw => by
  obtain ⟨⟨m, hm⟩, _⟩ := hM.ext (Ext.of_below hw.below)
  refine (Tryz.strings_Split s ⟨#[c]⟩ m w (by omega) hm (Nat.le_refl _)).mono ?_
  rintro e w' ⟨rfl, rfl⟩
  rw [pcs_split, ← pcs_len]
  have hl : (pcs c s).length ≤ s.size + 1 := by unfold pcs; rw [List.length_map, pieces_len]; have := List.count_le_length (a := c) (l := s.data.toList); rw [ba_size]; omega
  exact ⟨_, _, rfl, ⟨w.heap.size, rfl, rfl⟩, strS_blkM (hw.alloc _) rfl rfl (by omega), Below.alloc (Below.refl _ w) (Nat.le_refl _) _⟩
theorem numO_some {s : ByteArray} {v : Int} (h : numO s = some v) : Lib.atoiAll s.data.toList = .ok v := by
  unfold numO at h
  split at h
  · rename_i x hx; simp only [Option.some.injEq] at h; subst h; exact hx
  · cases h
def atoiR (s : ByteArray) (u : Value) : Prop := match numO s with | some v => u = .tuple #[.int .i64 v, .nilIface] | none => ∃ x T y, u = .tuple #[.int .i64 x, .iface T y]
theorem atoi_e (w0 : World) (L : List HP) (s : ByteArray) (hs : s.size ≤ 100000000) (hM : Lim w0) : KE Tryz.prog 97 #[.string s] w0 L (fun u M => atoiR s u ∧ M = L) := fun w hw => by
  obtain ⟨_, ⟨t, p, h2⟩, ⟨t', p', h3⟩⟩ := hM.ext (Ext.of_below hw.below)
  unfold atoiR
  rcases h : Lib.atoiAll s.data.toList with v | _ | _
  · have hn : numO s = some v := by unfold numO; rw [h]
    refine (Tryz.strconv_Atoi_ok s (by omega) v h w).mono ?_
    rintro e w' ⟨rfl, hw'⟩
    have hb : Below w.heap.size w w' := by
      rcases hw' with rfl | ⟨t, rfl⟩
      · exact Below.refl _ _
      · exact Lib.bytesWorld_below _ _ _
    exact ⟨_, _, rfl, ⟨by rw [hn], rfl⟩, hw.below_step hb, hb⟩
  · have hn : numO s = none := by unfold numO; rw [h]
    refine (Tryz.strconv_Atoi_syntax s (by omega) h _ w h2 (.inr ⟨t, p, rfl⟩)).mono ?_
    rintro e w' ⟨N, rfl, _, _, hb⟩
    exact ⟨_, _, rfl, ⟨by rw [hn]; exact ⟨_, _, _, rfl⟩, rfl⟩, hw.below_step hb, hb⟩
  · have hn : numO s = none := by unfold numO; rw [h]
    refine (Tryz.strconv_Atoi_range s (by omega) h _ w h3 (.inr ⟨t', p', rfl⟩)).mono ?_
    rintro e w' ⟨N, rfl, _, _, hb⟩
    exact ⟨_, _, rfl, ⟨by rw [hn]; exact ⟨_, _, _, rfl⟩, rfl⟩, hw.below_step hb, hb⟩
theorem msA_eq (a b : Ms) (w : World) : (Op.equalIn 10000 31 (.agg (msC a).toArray) (.agg (msC b).toArray)).run Tryz.prog w = .ok (decide (a = b)) w := by
  rw [run_equalIn_agg w 9999 31 _ _ (by kernel_rfl) (by kernel_rfl), ← ms_bools]
  simp only [Program.fieldsOf, Tryz.underlying31]
  refine eqF_int (by decide) Tryz.underlying3 (Tryz.isAgg3 w) rfl rfl (eqF_int (by decide) Tryz.underlying3 (Tryz.isAgg3 w) rfl rfl (eqF_str (by decide) Tryz.underlying9 (Tryz.isAgg9 w) rfl rfl (eqF_str (by decide) Tryz.underlying9 (Tryz.isAgg9 w) rfl rfl (eqF_int (by decide) Tryz.underlying3 (Tryz.isAgg3 w) rfl rfl eqF_nil))))
theorem sameA_e (w0 : World) (L : List HP) (v1 v2 : Value) (xs ys : List Ms) (h1 : ∀ w, St w0 L w → RdA w 5 msC v1 xs) (h2 : ∀ w, St w0 L w → RdA w 5 msC v2 ys) (hx : xs.length < 1000000) (hy : ys.length < 1000000) :
    KE Tryz.prog 22 #[v1, v2] w0 L (fun u M => u = .bool (decide (xs = ys)) ∧ M = L) := by
  refine KE.mk (n := 26) Tryz.func22 rfl Tryz.ntmps22 (by simp) ?_
  intro w hw
  obtain ⟨a1, c1, rfl, hc1⟩ := h1 w hw
  obtain ⟨a2, c2, rfl, hc2⟩ := h2 w hw
  have fin : ∀ (b : Bool) (w' : World) (M : List HP), b = decide (xs = ys) → St w M w' → ∃ v L', Ending.returned (.bool b) = Ending.returned v ∧ (v = .bool (decide (xs = ys)) ∧ L' = L) ∧ St w0 L' w' ∧ Below w.heap.size w w' := fun b w' M e hs => ⟨_, _, rfl, ⟨by rw [e], rfl⟩, hw.below_step hs.below, hs.below⟩
  repeat ((with_reducible refine K.seq ?_))
  refine K.reg ?_
  refine KO.as rfl rfl ?_
  refine KO.nil ?_
  repeat (first | (with_reducible refine K.seq ?_) | (with_reducible refine KQ.next ?_))
  refine K.reg ?_
  refine KO.mv rfl rfl ?_
  refine KO.len rfl Tryz.underlying50 rfl ?_
  refine KO.mv rfl rfl ?_
  refine KO.len rfl Tryz.underlying50 rfl ?_
  refine KO.neI rfl rfl rfl ?_
  refine KO.nil ?_
  repeat ((with_reducible refine KQ.next ?_))
  refine K.condD rfl (fun h => ?_) (fun h => ?_)
  · repeat ((with_reducible refine K.seq ?_))
    refine K.reg ?_
    refine KO.as rfl rfl ?_
    refine KO.nil ?_
    repeat (first | (with_reducible refine KQ.next ?_) | (with_reducible refine KQ.then_ret ?_) | (with_reducible refine K.ret ?_))
    refine KQ.ret1 rfl rfl (fun w' hs => fin _ w' _ (by rw [eq_comm, decide_eq_false_iff_not]; rintro rfl; exact h rfl) hs)
  · have hlen : xs.length = ys.length := by omega
    repeat (first | (with_reducible refine K.seq ?_) | (with_reducible refine KQ.next ?_) | (with_reducible refine K.skip ?_))
    refine K.reg ?_
    refine KO.mv rfl rfl ?_
    refine KO.len rfl Tryz.underlying50 rfl ?_
    refine KO.mv rfl rfl ?_
    refine KO.nil ?_
    repeat (first | (with_reducible refine KQ.next ?_) | (with_reducible refine K.block ?_))
    refine K.loop (fun k : Nat => [(0, .slice a1 xs.length c1), (1, .slice a2 ys.length c2), (4, .bool false), (12, .int .i64 (xs.length : Nat)), (13, .int .i64 (k : Nat))]) (fun _ => []) (fun k => k ≤ xs.length ∧ xs.take k = ys.take k) (fun k => xs.length - k) 0
      ⟨Nat.zero_le _, rfl⟩ ⟨rfl, rfl, rfl, rfl, rfl, trivial⟩ (fun _ h => h) ?_
    rintro k ⟨hk, hkk⟩
    repeat ((with_reducible refine K.seq ?_))
    refine K.reg ?_
    refine KO.lss rfl rfl rfl ?_
    refine KO.nil ?_
    repeat (first | (with_reducible refine K.seq ?_) | (with_reducible refine KQ.next ?_))
    refine K.condD rfl (fun h3 => ?_) (fun h3 => ?_)
    · obtain ⟨e1, he1⟩ : ∃ e, xs[k]? = some e := ⟨xs[k], List.getElem?_eq_getElem (by omega)⟩
      obtain ⟨e2, he2⟩ : ∃ e, ys[k]? = some e := ⟨ys[k], List.getElem?_eq_getElem (by omega)⟩
      obtain ⟨d1, rfl, hd1⟩ := hc1 k e1 he1
      obtain ⟨d2, rfl, hd2⟩ := hc2 k e2 he2
      repeat (first | (with_reducible refine K.seq ?_) | (with_reducible refine KQ.next ?_) | (with_reducible refine K.skip ?_) | (with_reducible refine K.block ?_))
      refine K.reg ?_
      refine KO.mv rfl rfl ?_
      refine KO.as rfl rfl ?_
      refine KO.nil ?_
      repeat (first | (with_reducible refine K.seq ?_) | (with_reducible refine KQ.next ?_))
      refine K.draw [.pure, .pure, .pure, .read, .pure, .pure, .pure, .read, .pure] [0, 1, 2, 3, 4, 5, 6, 7, 8] (by kernel_rfl) (by kernel_rfl) ?_
      refine KO.mv rfl rfl ?_
      refine KO.mv rfl rfl ?_
      refine KO.idxH rfl rfl Tryz.runUnderlying50 Tryz.sizeOf31 (by exact rfl) (by omega) rfl ?_
      refine KO.ldN0 (cs := (msC e1).toArray) rfl rfl Tryz.isAgg31 Tryz.sizeOf31 rfl hd1 rfl ?_
      refine KO.mv rfl rfl ?_
      refine KO.mv rfl rfl ?_
      refine KO.idxH rfl rfl Tryz.runUnderlying50 Tryz.sizeOf31 (by exact rfl) (by omega) rfl ?_
      refine KO.ldN0 (cs := (msC e2).toArray) rfl rfl Tryz.isAgg31 Tryz.sizeOf31 rfl hd2 rfl ?_
      refine KO.neA rfl rfl (by kernel_rfl) (msA_eq e1 e2) rfl ?_
      refine KO.nil ?_
      repeat ((with_reducible refine KQ.next ?_))
      refine K.cond rfl (fun h4 => ?_) (fun h4 => ?_)
      · repeat ((with_reducible refine K.seq ?_))
        refine K.reg ?_
        refine KO.as rfl rfl ?_
        refine KO.nil ?_
        repeat (first | (with_reducible refine KQ.next ?_) | (with_reducible refine KQ.then_ret ?_) | (with_reducible refine KQ.blk_ret ?_) | (with_reducible refine K.ret ?_))
        refine KQ.ret1 rfl rfl (fun w' hs => fin _ w' _ ?_ hs)
        rw [eq_comm, decide_eq_false_iff_not]
        rintro rfl
        rw [he1] at he2
        simp only [Option.some.injEq] at he2
        simp [he2] at h4
      · have e12 : e1 = e2 := by simpa using h4
        repeat (first | (with_reducible refine KQ.next ?_) | (with_reducible refine KQ.blk_normal ?_) | (with_reducible refine K.skip ?_))
        refine K.reg ?_
        refine KO.add rfl rfl rfl (by omega) rfl ?_
        refine KO.mv rfl rfl ?_
        refine KO.nil ?_
        refine KQ.round (k + 1) ⟨by omega, by rw [take_succ_some he1, take_succ_some he2, hkk, e12]⟩ (by omega) ⟨rfl, rfl, rfl, rfl, rfl, trivial⟩ (fun _ hs => hs)
    · have hkl : k = xs.length := by omega
      repeat (first | (with_reducible refine K.seq ?_) | (with_reducible refine KQ.next ?_) | (with_reducible refine KQ.then_exit ?_) | (with_reducible refine KQ.blk_exit ?_) | (with_reducible refine K.exit ?_))
      refine K.reg ?_
      refine KO.as rfl rfl ?_
      refine KO.nil ?_
      repeat (first | (with_reducible refine KQ.next ?_) | (with_reducible refine K.ret ?_))
      refine KQ.ret1 rfl rfl (fun w' hs => fin _ w' _ ?_ hs)
      rw [eq_comm, decide_eq_true_eq]
      rw [hkl, List.take_length, hlen, List.take_length] at hkk
      exact hkk
end Go.Proofs.YtjhogocabcdjbaaGreatDoor
