import Derived.IntWalk
import Derived.Great.BuildSlice
import Derived.WideLaws
import Derived.Stop.Asserts
import Derived.ProofKit
import Derived.OpenShut
import Derived.Deep.DeepHandedRow
import Derived.Deep.Slices
import Derived.Lay
import Derived.LaidHandle
import Derived.Lib.LaidTab
import Derived.Lib.SliceRun
import Derived.Test.YtjhogocabcdjbaaGreatDoorShelf
import Derived.Test.YtjhogocabcdjbaaGreatDoorB0
set_option linter.unusedSimpArgs false
set_option linter.unusedVariables false
/- the steps of the calculus: numbers, texts, calls -/
namespace WB
open Go Go.RowKit
theorem wrapI {r : Int} (h1 : -9223372036854775808 ≤ r) (h2 : r ≤ 9223372036854775807) : IntKind.i64.wrap r = r := by
  unfold IntKind.wrap
  simp only [IntKind.bits, IntKind.signed, Bool.true_and]
  simp only [show (2 ^ 64 : Int) = 18446744073709551616 from rfl, show (2 ^ (64 - 1) : Int) = 9223372036854775808 from rfl]
  by_cases h : r % 18446744073709551616 ≥ 9223372036854775808
  · rw [if_pos (by simpa using h)]; omega
  · rw [if_neg (by simpa using h)]; omega
theorem wrapU {r : Int} (h1 : 0 ≤ r) (h2 : r ≤ 18446744073709551615) : IntKind.u64.wrap r = r := by
  unfold IntKind.wrap
  simp only [IntKind.bits, IntKind.signed, Bool.false_and]
  simp only [show (2 ^ 64 : Int) = 18446744073709551616 from rfl]
  rw [if_neg (by simp)]; omega
section
variable {P : Program} {ops : Array Oper} {d : Bool} {Q : Exit → Act → World → Prop} {n : Nat} {D : List Deferred} {w0 : World} {G : Env} {L R : List HP} {l : List (Kd × Oper)} {k : Kd}
  {t : Nat} {op : Op} {ty T T' E : TypeId} {pos : String} {af : Array Edge} {x y z : Operand} {v u : Value} {b b' p q : Bool} {i j off : Nat} {a c r : Int} {ad : Addr} {kk : IntKind}
theorem KO.add (hx : ev G x = some (.int .i64 a)) (hy : ev G y = some (.int .i64 c)) (hr : a + c = r) (h1 : -9223372036854775808 ≤ r ∧ r ≤ 9223372036854775807) (ht : Nat.blt t n = true)
    (h : KO P ops d Q n D w0 ((t, .int .i64 r) :: G) L l) : KO P ops d Q n D w0 G L ((k, ⟨some t, .binOp .add T x y T', ty, pos, af, none⟩) :: l) :=
  KO.val (fun a w ha => by simp [execOp, ha.eval hx, ha.eval hy, eqGuard_at_int, binOp_add, Op.intArith, hr, wrapI h1.1 h1.2]) ht h
theorem KO.sub (hx : ev G x = some (.int .i64 a)) (hy : ev G y = some (.int .i64 c)) (hr : a - c = r) (h1 : -9223372036854775808 ≤ r ∧ r ≤ 9223372036854775807) (ht : Nat.blt t n = true)
    (h : KO P ops d Q n D w0 ((t, .int .i64 r) :: G) L l) : KO P ops d Q n D w0 G L ((k, ⟨some t, .binOp .sub T x y T', ty, pos, af, none⟩) :: l) :=
  KO.val (fun a w ha => by simp [execOp, ha.eval hx, ha.eval hy, eqGuard_at_int, binOp_sub, Op.intArith, hr, wrapI h1.1 h1.2]) ht h
theorem KO.mul (hx : ev G x = some (.int .i64 a)) (hy : ev G y = some (.int .i64 c)) (hr : a * c = r) (h1 : -9223372036854775808 ≤ r ∧ r ≤ 9223372036854775807) (ht : Nat.blt t n = true)
    (h : KO P ops d Q n D w0 ((t, .int .i64 r) :: G) L l) : KO P ops d Q n D w0 G L ((k, ⟨some t, .binOp .mul T x y T', ty, pos, af, none⟩) :: l) :=
  KO.val (fun a w ha => by simp [execOp, ha.eval hx, ha.eval hy, eqGuard_at_int, binOp_mul, Op.intArith, hr, wrapI h1.1 h1.2]) ht h
theorem KO.lss (hx : ev G x = some (.int kk a)) (hy : ev G y = some (.int kk c)) (ht : Nat.blt t n = true) (h : KO P ops d Q n D w0 ((t, .bool (decide (a < c))) :: G) L l) :
    KO P ops d Q n D w0 G L ((k, ⟨some t, .binOp .lss T x y T', ty, pos, af, none⟩) :: l) :=
  KO.val (fun a w ha => by simp [execOp, ha.eval hx, ha.eval hy, eqGuard_at_int, binOp_lss]) ht h
theorem KO.leq (hx : ev G x = some (.int kk a)) (hy : ev G y = some (.int kk c)) (ht : Nat.blt t n = true) (h : KO P ops d Q n D w0 ((t, .bool (decide (a ≤ c))) :: G) L l) :
    KO P ops d Q n D w0 G L ((k, ⟨some t, .binOp .leq T x y T', ty, pos, af, none⟩) :: l) :=
  KO.val (fun a w ha => by simp [execOp, ha.eval hx, ha.eval hy, eqGuard_at_int, binOp_leq]) ht h
theorem KO.gtr (hx : ev G x = some (.int kk a)) (hy : ev G y = some (.int kk c)) (ht : Nat.blt t n = true) (h : KO P ops d Q n D w0 ((t, .bool (decide (c < a))) :: G) L l) :
    KO P ops d Q n D w0 G L ((k, ⟨some t, .binOp .gtr T x y T', ty, pos, af, none⟩) :: l) :=
  KO.val (fun a w ha => by simp [execOp, ha.eval hx, ha.eval hy, eqGuard_at_int, binOp_gtr]) ht h
theorem KO.geq (hx : ev G x = some (.int kk a)) (hy : ev G y = some (.int kk c)) (ht : Nat.blt t n = true) (h : KO P ops d Q n D w0 ((t, .bool (decide (c ≤ a))) :: G) L l) :
    KO P ops d Q n D w0 G L ((k, ⟨some t, .binOp .geq T x y T', ty, pos, af, none⟩) :: l) :=
  KO.val (fun a w ha => by simp [execOp, ha.eval hx, ha.eval hy, eqGuard_at_int, binOp_geq]) ht h
theorem KO.eqI (hx : ev G x = some (.int kk a)) (hy : ev G y = some (.int kk c)) (ht : Nat.blt t n = true) (h : KO P ops d Q n D w0 ((t, .bool (decide (a = c))) :: G) L l) :
    KO P ops d Q n D w0 G L ((k, ⟨some t, .binOp .eql T x y T', ty, pos, af, none⟩) :: l) :=
  KO.val (fun a' w ha => by simp [execOp, ha.eval hx, ha.eval hy, eqGuard_at_int, binOp_eql, show (a == c) = decide (a = c) from rfl]) ht h
theorem KO.neI (hx : ev G x = some (.int kk a)) (hy : ev G y = some (.int kk c)) (ht : Nat.blt t n = true) (h : KO P ops d Q n D w0 ((t, .bool (decide (a ≠ c))) :: G) L l) :
    KO P ops d Q n D w0 G L ((k, ⟨some t, .binOp .neq T x y T', ty, pos, af, none⟩) :: l) :=
  KO.val (fun a' w ha => by
    have e : (a != c) = decide (a ≠ c) := by by_cases h : a = c <;> simp [h]
    simp only [execOp, ha.eval hx, ha.eval hy, eqGuard_at_int, binOp_neq, e, Sem.run_bind, Sem.run_pure, Result.andThen_ok]) ht h
theorem KO.not (hx : ev G x = some (.bool b)) (ht : Nat.blt t n = true) (h : KO P ops d Q n D w0 ((t, .bool (!b)) :: G) L l) : KO P ops d Q n D w0 G L ((k, ⟨some t, .unOp .not T x, ty, pos, af, none⟩) :: l) :=
  KO.val (fun a' w ha => by simp [execOp, ha.eval hx, unary_not]) ht h
theorem KO.eqB (hx : ev G x = some (.bool p)) (hy : ev G y = some (.bool q)) (hT : P.underlying T = some .bool) (ht : Nat.blt t n = true) (h : KO P ops d Q n D w0 ((t, .bool (p == q)) :: G) L l) :
    KO P ops d Q n D w0 G L ((k, ⟨some t, .binOp .eql T x y T', ty, pos, af, none⟩) :: l) :=
  KO.val (fun a' w ha => by simp [execOp, ha.eval hx, ha.eval hy, eqGuard_at_bool, run_eql_bool w T p q hT]) ht h
theorem KO.neB (hx : ev G x = some (.bool p)) (hy : ev G y = some (.bool q)) (hT : P.underlying T = some .bool) (ht : Nat.blt t n = true) (h : KO P ops d Q n D w0 ((t, .bool (!(p == q))) :: G) L l) :
    KO P ops d Q n D w0 G L ((k, ⟨some t, .binOp .neq T x y T', ty, pos, af, none⟩) :: l) :=
  KO.val (fun a' w ha => by simp [execOp, ha.eval hx, ha.eval hy, eqGuard_at_bool, run_neq_bool w T p q hT]) ht h
/-! texts -/
variable {s s' : ByteArray}
theorem toList_eq_iff (s s' : ByteArray) : (s.toList == s'.toList) = decide (s = s') := by
  by_cases h : s = s'
  · simp [h]
  · have : s.toList ≠ s'.toList := fun e => h (by
      rw [ByteArray.toList_eq, ByteArray.toList_eq] at e
      exact ByteArray.ext (Array.ext' e))
    simp [h, this]
theorem KO.eqS (hx : ev G x = some (.string s)) (hy : ev G y = some (.string s')) (ht : Nat.blt t n = true) (h : KO P ops d Q n D w0 ((t, .bool (decide (s = s'))) :: G) L l) :
    KO P ops d Q n D w0 G L ((k, ⟨some t, .binOp .eql T x y T', ty, pos, af, none⟩) :: l) :=
  KO.val (fun a' w ha => by simp only [execOp, ha.eval hx, ha.eval hy, eqGuard_at_string, binOp_string_eql, toList_eq_iff, Sem.run_bind, Sem.run_pure, Result.andThen_ok]) ht h
theorem KO.neS (hx : ev G x = some (.string s)) (hy : ev G y = some (.string s')) (ht : Nat.blt t n = true) (h : KO P ops d Q n D w0 ((t, .bool (!decide (s = s'))) :: G) L l) :
    KO P ops d Q n D w0 G L ((k, ⟨some t, .binOp .neq T x y T', ty, pos, af, none⟩) :: l) :=
  KO.val (fun a' w ha => by simp only [execOp, ha.eval hx, ha.eval hy, eqGuard_at_string, binOp_string_neq, toList_eq_iff, Sem.run_bind, Sem.run_pure, Result.andThen_ok]) ht h
theorem KO.cat (hx : ev G x = some (.string s)) (hy : ev G y = some (.string s')) (hs : s.size + s'.size ≤ 9223372036854775807) (ht : Nat.blt t n = true) (h : KO P ops d Q n D w0 ((t, .string (s ++ s')) :: G) L l) :
    KO P ops d Q n D w0 G L ((k, ⟨some t, .binOp .add T x y T', ty, pos, af, none⟩) :: l) :=
  KO.val (fun a' w ha => by simp [execOp, ha.eval hx, ha.eval hy, eqGuard_at_string, binOp_string_add, run_string_add_sum w s s' hs]) ht h
theorem KO.lenS (hx : ev G x = some (.string s)) (hT : P.underlying T = some .string) (ht : Nat.blt t n = true) (h : KO P ops d Q n D w0 ((t, .int .i64 (s.size : Nat)) :: G) L l) :
    KO P ops d Q n D w0 G L ((k, ⟨some t, .call ⟨.builtin .len, #[x], #[T]⟩, ty, pos, af, none⟩) :: l) :=
  KO.val (fun a' w ha => by simp [execOp, resolve, invoke, builtin, ha.eval hx, run_len_string _ _ _ _ hT, goInt]) ht h
/-! slices -/
theorem KO.len {bs : Option Addr} {len cap : Nat} (hx : ev G x = some (.slice bs len cap)) (hT : P.underlying T = some (.slice E)) (ht : Nat.blt t n = true) (h : KO P ops d Q n D w0 ((t, .int .i64 (len : Nat)) :: G) L l) :
    KO P ops d Q n D w0 G L ((k, ⟨some t, .call ⟨.builtin .len, #[x], #[T]⟩, ty, pos, af, none⟩) :: l) :=
  KO.val (fun a' w ha => by simp [execOp, resolve, invoke, builtin, ha.eval hx, run_len_slice w T ty bs len cap (by rw [hT]; simp [Program.elem, hT]), goInt]) ht h
theorem KO.cap {bs : Option Addr} {len cap : Nat} (hx : ev G x = some (.slice bs len cap)) (hT : P.underlying T = some (.slice E)) (ht : Nat.blt t n = true) (h : KO P ops d Q n D w0 ((t, .int .i64 (cap : Nat)) :: G) L l) :
    KO P ops d Q n D w0 G L ((k, ⟨some t, .call ⟨.builtin .cap, #[x], #[T]⟩, ty, pos, af, none⟩) :: l) :=
  KO.val (fun a' w ha => by simp [execOp, resolve, invoke, builtin, ha.eval hx, Builtin.cap_, run_underlying hT, goInt]) ht h
theorem KO.idx0 {g : Nat} {len cap sz : Nat} (hx : ev G x = some (.slice (some ⟨g, 0, none⟩) len cap)) (hy : ev G y = some (.int kk a)) (hu : ∀ w, (underlying T).run P w = .ok (.slice E) w) (hs : ∀ w, (Go.sizeOf E).run P w = .ok sz w)
    (ha : a = (i : Int)) (hb : i < len) (ht : Nat.blt t n = true) (h : KO P ops d Q n D w0 ((t, .pointer (some ⟨g, i * sz, none⟩)) :: G) L l) : KO P ops d Q n D w0 G L ((k, ⟨some t, .indexAddr T x y, ty, pos, af, none⟩) :: l) :=
  KO.idx hx hy hu hs ha hb ht (by rw [Nat.zero_add]; exact h)
theorem KO.fo {fs : Array Field} {f b o sz off : Nat} {fd : Field} (hx : ev G x = some (.pointer (some ⟨b, o, none⟩))) (hu : ∀ w, (underlying T).run P w = .ok (.struct fs) w) (hf : fs[f]? = some fd) (ho : fd.offset = off) (hs : ∀ w, (Go.sizeOf fd.type).run P w = .ok (sz + 1) w) (ht : Nat.blt t n = true)
    (h : KO P ops d Q n D w0 ((t, .pointer (some ⟨b, o + off, none⟩)) :: G) L l) : KO P ops d Q n D w0 G L ((k, ⟨some t, .fieldAddr T x f, ty, pos, af, none⟩) :: l) :=
  KO.fld hx hu hf hs ht (by rw [Addr.add_lit, ho]; exact h)
theorem KO.fo0 {fs : Array Field} {f b sz off : Nat} {fd : Field} (hx : ev G x = some (.pointer (some ⟨b, 0, none⟩))) (hu : ∀ w, (underlying T).run P w = .ok (.struct fs) w) (hf : fs[f]? = some fd) (ho : fd.offset = off) (hs : ∀ w, (Go.sizeOf fd.type).run P w = .ok (sz + 1) w) (ht : Nat.blt t n = true)
    (h : KO P ops d Q n D w0 ((t, .pointer (some ⟨b, off, none⟩)) :: G) L l) : KO P ops d Q n D w0 G L ((k, ⟨some t, .fieldAddr T x f, ty, pos, af, none⟩) :: l) :=
  KO.fo hx hu hf ho hs ht (by rw [Nat.zero_add]; exact h)
/-! calls -/
theorem args_eval {a : Act} (ha : Knows n D G a) {xs : Array Operand} {vs : List Value} (h : xs.toList.map (ev G) = vs.map some) : xs.map a.eval = vs.toArray := by
  have key : ∀ (xs : List Operand) (us : List Value), xs.map (ev G) = us.map some → xs.map a.eval = us := by
    intro xs
    induction xs with
    | nil => intro us h; cases us with | nil => rfl | cons _ _ => simp at h
    | cons x xs ih => intro us h; cases us with
      | nil => simp at h
      | cons u us => simp only [List.map_cons, List.cons.injEq] at h ⊢; exact ⟨ha.eval h.1, ih us h.2⟩
  apply Array.ext'; simpa using key _ _ h
theorem run_callop {a : Act} (ha : Knows n D G a) {f : FuncId} {xs : Array Operand} {ts : Array TypeId} {vs : List Value} {fi cp : Array Value} {dst : Option Nat} (hf : ev G x = some (.func (.func f) fi cp)) (hxs : xs.toList.map (ev G) = vs.map some) {ar : Array Value} (har : fi ++ vs.toArray ++ cp = ar)
    (hcall : ∀ args w, (callFunc f args).run P w = .ok (.enter f args) w) (w : World) : (execOp a.eval ⟨dst, .call ⟨.value x, xs, ts⟩, ty, pos, af, none⟩).run P w = .ok (.enter f ar) w := by
  have e := args_eval ha hxs
  simp only [execOp, resolve, ha.eval hf, Deferred.ofValue, e, invoke, Sem.run_bind, Sem.run_pure, Result.andThen_ok, hcall, har]
theorem KO.call {f : FuncId} {xs : Array Operand} {ts : Array TypeId} {vs : List Value} {fi cp ar : Array Value} {Rr : Value → List HP → Prop} (hk : (!d || k == .write) = true) (hf : ev G x = some (.func (.func f) fi cp)) (hxs : xs.toList.map (ev G) = vs.map some) (har : fi ++ vs.toArray ++ cp = ar)
    (hcall : ∀ args w, (callFunc f args).run P w = .ok (.enter f args) w) (ht : Nat.blt t n = true) (hc : KC P f ar w0 L Rr) (h : ∀ v L', Rr v L' → KO P ops d Q n D w0 ((t, v) :: G) L' l) :
    KO P ops d Q n D w0 G L ((k, ⟨some t, .call ⟨.value x, xs, ts⟩, ty, pos, af, none⟩) :: l) := fun a w ha hw => by
  refine vcG_write hk rfl ?_
  unfold Oper.wp
  rw [run_callop ha hf hxs har hcall]
  refine (hc w hw).mono ?_
  rintro e w' ⟨v, L', rfl, hr, hs⟩
  exact h v L' hr _ w' (put_dst ha v ht) hs
/-- a call that keeps what was there -/
theorem KO.callE {f : FuncId} {xs : Array Operand} {ts : Array TypeId} {vs : List Value} {fi cp ar : Array Value} {Rr : Value → List HP → Prop} (hk : (!d || (k == .keep || k == .write)) = true) (hf : ev G x = some (.func (.func f) fi cp)) (hxs : xs.toList.map (ev G) = vs.map some) (har : fi ++ vs.toArray ++ cp = ar)
    (hcall : ∀ args w, (callFunc f args).run P w = .ok (.enter f args) w) (ht : Nat.blt t n = true) (hc : KE P f ar w0 L Rr) (h : ∀ v L', Rr v L' → KO P ops d Q n D w0 ((t, v) :: G) L' l) :
    KO P ops d Q n D w0 G L ((k, ⟨some t, .call ⟨.value x, xs, ts⟩, ty, pos, af, none⟩) :: l) := fun a w ha hw => by
  refine vcG_keep hk rfl ?_
  unfold Oper.wp
  rw [run_callop ha hf hxs har hcall]
  refine (hc w hw).mono ?_
  rintro e w' ⟨v, L', rfl, hr, hs, hb⟩
  exact ⟨Ext.of_below hb, h v L' hr _ w' (put_dst ha v ht) hs⟩
/-- any ending -/
theorem KO.callP {f : FuncId} {xs : Array Operand} {ts : Array TypeId} {vs : List Value} {fi cp ar : Array Value} {Rr : Ending → List HP → Prop} {dst : Option Nat} (hf : ev G x = some (.func (.func f) fi cp)) (hxs : xs.toList.map (ev G) = vs.map some) (har : fi ++ vs.toArray ++ cp = ar)
    (hcall : ∀ args w, (callFunc f args).run P w = .ok (.enter f args) w) (hc : KP P f ar w0 L Rr)
    (hr : ∀ v L', Rr (.returned v) L' → match dst with | some t => Nat.blt t n = true ∧ KO P ops false Q n D w0 ((t, v) :: G) L' l | none => KO P ops false Q n D w0 G L' l)
    (hp : ∀ ch L', Rr (.panicked ch) L' → KQ Q (.panic ch) n D w0 G L') (ho : ∀ L', ¬ Rr .outgrown L') :
    KO P ops false Q n D w0 G L ((k, ⟨dst, .call ⟨.value x, xs, ts⟩, ty, pos, af, none⟩) :: l) := fun a w ha hw => by
  refine vcG_write rfl rfl ?_
  unfold Oper.wp
  rw [run_callop ha hf hxs har hcall]
  refine (hc w hw).mono ?_
  rintro e w' ⟨L', hr', hs⟩
  cases e with
  | returned v =>
    have := hr v L' hr'
    cases dst with
    | none => exact this _ w' ha hs
    | some t => exact this.2 _ w' (put_dst ha v this.1) hs
  | panicked ch => exact hp ch L' hr' _ w' ha hs
  | outgrown => exact absurd hr' (ho L')
end
section
variable {P : Program} {f : FuncId} {args : Array Value} {w0 : World} {L : List HP}
/-- a contract of the elder make: it returns v, and what was there is kept -/
theorem KE.of_below {v : Value} (h : ∀ w, St w0 L w → Calls P f args w fun e w' => e = .returned v ∧ Below w.heap.size w w') : KE P f args w0 L (fun u L' => u = v ∧ L' = L) := fun w hw =>
  (h w hw).mono fun _ _ ⟨he, hb⟩ => ⟨v, L, he, ⟨rfl, rfl⟩, hw.below_step hb, hb⟩
theorem KE.below {v : Value} (h : KE P f args w0 L (fun u _ => u = v)) (w : World) (hw : St w0 L w) : Calls P f args w fun e w' => e = .returned v ∧ Below w.heap.size w w' :=
  (h w hw).mono fun _ _ ⟨_, _, he, hv, _, hb⟩ => ⟨by rw [he, hv], hb⟩
end
end WB
/- the steps of the calculus: what is built, slices of structs -/
namespace WB
open Go Go.RowKit
def evs (G : Env) : List Operand → Option (List Value)
  | [] => some []
  | x :: r => match ev G x, evs G r with | some v, some vs => some (v :: vs) | _, _ => none
theorem evs_map {G : Env} : ∀ {xs : List Operand} {vs : List Value}, evs G xs = some vs → xs.map (ev G) = vs.map some
  | [], vs, h => by simp only [evs, Option.some.injEq] at h; subst h; rfl
  | x :: xs, vs, h => by
    unfold evs at h
    cases h1 : ev G x with
    | none => rw [h1] at h; simp at h
    | some v =>
      cases h2 : evs G xs with
      | none => rw [h1, h2] at h; simp at h
      | some us =>
        rw [h1, h2] at h
        simp only [Option.some.injEq] at h
        subst h
        simp [h1, evs_map h2]
def putL : Nat → List Value → List Value → List Value
  | 0, us, cs => us ++ cs.drop us.length
  | i + 1, us, c :: cs => c :: putL i us cs
  | _ + 1, _, [] => []
theorem putL_eq : ∀ (i : Nat) (us cs : List Value), i + us.length ≤ cs.length → cs.take i ++ us ++ cs.drop (i + us.length) = putL i us cs
  | 0, us, cs, _ => by simp [putL]
  | i + 1, us, c :: cs, h => by
    have := putL_eq i us cs (by simp at h; omega)
    simp only [putL, List.take_succ_cons, List.cons_append, show i + 1 + us.length = (i + us.length) + 1 by omega, List.drop_succ_cons, ← this]
  | i + 1, us, [], h => by simp at h
def ecells : Value → List Value := fun v => v.cells.toList
section
variable {P : Program} {ops : Array Oper} {d : Bool} {Q : Exit → Act → World → Prop} {n : Nat} {D : List Deferred} {w0 : World} {G : Env} {L R : List HP} {l : List (Kd × Oper)} {k : Kd}
  {t : Nat} {op : Op} {ty T T' E : TypeId} {pos : String} {af : Array Edge} {x y z : Operand} {v u : Value} {b b' p q : Bool} {i j off : Nat} {a c r : Int} {ad : Addr} {kk : IntKind}
theorem KO.sto {b : Nat} {cs cs' us : List Value} (hk : (!d || k == .write) = true) (hx : ev G x = some (.pointer (some ⟨b, off, none⟩))) (hy : ev G y = some v) (hv : v.cells = us.toArray) (hn : ∀ w, (Go.sizeOf T).run P w = .ok us.length w) (h1 : us.all Value.oneCell' = true)
    (hp : Pick L (blk b (.cells cs.toArray E (0, 0))) R) (hfit : Nat.ble (off + us.length) cs.length = true) (hc : putL off us cs = cs') (h : KO P ops d Q n D w0 G (blk b (.cells cs'.toArray E (0, 0)) :: R) l) :
    KO P ops d Q n D w0 G L ((k, ⟨none, .store T x y, ty, pos, af, none⟩) :: l) :=
  have hf : off + us.length ≤ cs.length := by simpa [Nat.ble_eq] using hfit
  KO.st hk hx hy hv hn (fun u hu => List.all_eq_true.1 h1 u hu) hp hf ((putL_eq _ _ _ hf).trans hc) h
theorem KO.pickT (hx : ev G x = some (.bool b)) (hb : b = true) (hv : ev G y = some v) (ht : Nat.blt t n = true) (h : KO P ops d Q n D w0 ((t, v) :: G) L l) : KO P ops d Q n D w0 G L ((k, ⟨some t, .pick x y z, ty, pos, af, none⟩) :: l) :=
  KO.pick hx (by rw [hb]; exact hv) ht h
theorem KO.pickF (hx : ev G x = some (.bool b)) (hb : b = false) (hv : ev G z = some v) (ht : Nat.blt t n = true) (h : KO P ops d Q n D w0 ((t, v) :: G) L l) : KO P ops d Q n D w0 G L ((k, ⟨some t, .pick x y z, ty, pos, af, none⟩) :: l) :=
  KO.pick hx (by rw [hb]; exact hv) ht h
theorem KO.mkc {f : Fn} {xs ys : Array Operand} {us vs : List Value} (h1 : evs G xs.toList = some us) (h2 : evs G ys.toList = some vs) (ht : Nat.blt t n = true) (h : KO P ops d Q n D w0 ((t, .func f us.toArray vs.toArray) :: G) L l) :
    KO P ops d Q n D w0 G L ((k, ⟨some t, .makeFunc f xs ys, ty, pos, af, none⟩) :: l) := KO.mkf (us := us.toArray) (vs := vs.toArray) (by simpa using evs_map h1) (by simpa using evs_map h2) ht h
theorem KO.cl {f : FuncId} {xs : Array Operand} {ts : Array TypeId} {vs : List Value} {fi cp : List Value} {Rr : Value → List HP → Prop} (hk : (!d || k == .write) = true) (hf : ev G x = some (.func (.func f) fi.toArray cp.toArray)) (hxs : evs G xs.toList = some vs)
    (hcall : ∀ args w, (callFunc f args).run P w = .ok (.enter f args) w) (ht : Nat.blt t n = true) (hc : KC P f (fi ++ (vs ++ cp)).toArray w0 L Rr) (h : ∀ v L', Rr v L' → KO P ops d Q n D w0 ((t, v) :: G) L' l) :
    KO P ops d Q n D w0 G L ((k, ⟨some t, .call ⟨.value x, xs, ts⟩, ty, pos, af, none⟩) :: l) := KO.call hk hf (evs_map hxs) (by simp) hcall ht hc h
theorem KO.ce {f : FuncId} {xs : Array Operand} {ts : Array TypeId} {vs : List Value} {fi cp : List Value} {Rr : Value → List HP → Prop} (hk : (!d || (k == .keep || k == .write)) = true) (hf : ev G x = some (.func (.func f) fi.toArray cp.toArray)) (hxs : evs G xs.toList = some vs)
    (hcall : ∀ args w, (callFunc f args).run P w = .ok (.enter f args) w) (ht : Nat.blt t n = true) (hc : KE P f (fi ++ (vs ++ cp)).toArray w0 L Rr) (h : ∀ v L', Rr v L' → KO P ops d Q n D w0 ((t, v) :: G) L' l) :
    KO P ops d Q n D w0 G L ((k, ⟨some t, .call ⟨.value x, xs, ts⟩, ty, pos, af, none⟩) :: l) := KO.callE hk hf (evs_map hxs) (by simp) hcall ht hc h
/-! unsigned -/
theorem KO.i2u (hx : ev G x = some (.int .i64 a)) (hs : (P.underlying T).isSome = true) (hd : P.underlying T' = some (.int .u64)) (h0 : 0 ≤ a ∧ a ≤ 18446744073709551615) (ht : Nat.blt t n = true) (h : KO P ops d Q n D w0 ((t, .int .u64 a) :: G) L l) :
    KO P ops d Q n D w0 G L ((k, ⟨some t, .convert T T' x, ty, pos, af, none⟩) :: l) :=
  KO.val (fun a' w ha => by
    have := run_convert_int (P := P) w T T' .i64 a hs (by rw [hd]; simp [Program.intKind, hd])
    simp [Program.intKind, hd, wrapU h0.1 h0.2] at this
    simp [execOp, ha.eval hx, this]) ht h
theorem KO.u2i (hx : ev G x = some (.int .u64 a)) (hs : (P.underlying T).isSome = true) (hd : P.underlying T' = some (.int .i64)) (h0 : 0 ≤ a ∧ a ≤ 9223372036854775807) (ht : Nat.blt t n = true) (h : KO P ops d Q n D w0 ((t, .int .i64 a) :: G) L l) :
    KO P ops d Q n D w0 G L ((k, ⟨some t, .convert T T' x, ty, pos, af, none⟩) :: l) :=
  KO.val (fun a' w ha => by
    have := run_convert_int (P := P) w T T' .u64 a hs (by rw [hd]; simp [Program.intKind, hd])
    simp [Program.intKind, hd, wrapI (by omega : -9223372036854775808 ≤ a) h0.2] at this
    simp [execOp, ha.eval hx, this]) ht h
theorem KO.shr1 {yk : IntKind} (hx : ev G x = some (.int .u64 a)) (hy : ev G y = some (.int yk 1)) (hr : a / 2 = r) (ht : Nat.blt t n = true) (h : KO P ops d Q n D w0 ((t, .int .u64 r) :: G) L l) :
    KO P ops d Q n D w0 G L ((k, ⟨some t, .binOp .shr T x y T', ty, pos, af, none⟩) :: l) :=
  KO.val (fun a' w ha => by simp [execOp, ha.eval hx, ha.eval hy, eqGuard_at_int, binOp_shr, shift_shr_u64, ← hr]) ht h
/-- max of two -/
theorem KO.max2 {ts : Array TypeId} (hx : ev G x = some (.int .i64 a)) (hy : ev G y = some (.int .i64 c)) (hr : max a c = r) (ht : Nat.blt t n = true) (h : KO P ops d Q n D w0 ((t, .int .i64 r) :: G) L l) :
    KO P ops d Q n D w0 G L ((k, ⟨some t, .call ⟨.builtin .max, #[x, y], ts⟩, ty, pos, af, none⟩) :: l) :=
  KO.val (fun a' w ha => by
    subst hr
    simp [execOp, resolve, invoke, builtin, ha.eval hx, ha.eval hy, Builtin.max_, Builtin.max2]
    rw [Int.max_def]; split <;> split <;> first | rfl | omega) ht h
/-! slices of structs -/
def SL {α : Type} (E : TypeId) (sz : Nat) (cf : α → List Value) (v : Value) (xs : List α) : HP := osl E sz v xs.length (xs.flatMap cf)
variable {α : Type} {cf : α → List Value} {sz : Nat} {xs : List α} {e e' : α}
theorem SL_cells {w : World} {g len cap : Nat} (hsz : ∀ e, (cf e).length = sz) (hw : St w0 (SL E sz cf (.slice (some ⟨g, 0, none⟩) len cap) xs :: R) w) (he : xs[i]? = some e) : ∀ j, j < sz → w.cell? ⟨g, i * sz + j, none⟩ = (cf e)[j]? := fun j hj => by
  have hi := (List.getElem?_eq_some_iff.1 he).1
  have hlen : len = xs.length := by
    rcases hw.osl_cases with ⟨h, _⟩ | ⟨_, _, _, h, _⟩
    · simp at h
    · simp at h; exact h.2.1
  have hlt : i * sz + j < xs.length * sz := by
    have : (i + 1) * sz ≤ xs.length * sz := Nat.mul_le_mul_right _ hi
    rw [Nat.succ_mul] at this; omega
  subst hlen
  rw [hw.osl_owns.cellAt _ hlt, flat_get cf sz hsz e xs i j hi hj]
  simp [List.getD_eq_getElem?_getD, he]
/-- a field of an element -/
theorem KO.ldE {g len cap : Nat} (hk : (!d || k != .pure) = true) (hx : ev G x = some (.pointer (some ⟨g, i * sz + j, none⟩))) (hT : ∀ w, (isAgg T).run P w = .ok false w) (hp : Pick L (SL E sz cf (.slice (some ⟨g, 0, none⟩) len cap) xs) R) (hsz : ∀ e, (cf e).length = sz)
    (he : xs[i]? = some e) (hj : Nat.blt j sz = true) (hv : (cf e)[j]? = some v) (ht : Nat.blt t n = true)
    (h : KO P ops d Q n D w0 ((t, v) :: G) L l) : KO P ops d Q n D w0 G L ((k, ⟨some t, .load T x, ty, pos, af, none⟩) :: l) :=
  KO.ldS hk hx hT (fun w hw => by rw [SL_cells hsz (hw.pick hp) he j (by simpa [Nat.blt_eq] using hj), hv]) ht h
/-- a whole element -/
theorem KO.ldEN {g len cap : Nat} (hk : (!d || k != .pure) = true) (hx : ev G x = some (.pointer (some ⟨g, i * sz, none⟩))) (hT : ∀ w, (isAgg T).run P w = .ok true w) (hn : ∀ w, (Go.sizeOf T).run P w = .ok sz w) (hp : Pick L (SL E sz cf (.slice (some ⟨g, 0, none⟩) len cap) xs) R) (hsz : ∀ e, (cf e).length = sz)
    (he : xs[i]? = some e) (ht : Nat.blt t n = true)
    (h : KO P ops d Q n D w0 ((t, .agg (cf e).toArray) :: G) L l) : KO P ops d Q n D w0 G L ((k, ⟨some t, .load T x, ty, pos, af, none⟩) :: l) :=
  KO.ldN hk hx hT hn (by simpa using hsz e) (fun w hw j c hj => by
    have hjs : j < sz := by rw [← hsz e]; exact (List.getElem?_eq_some_iff.1 hj).1
    rw [Addr.add_lit, SL_cells hsz (hw.pick hp) he j hjs]; exact hj) ht h
/-- a part of an element -/
theorem KO.ldEP {g len cap m : Nat} {us : List Value} (hk : (!d || k != .pure) = true) (hx : ev G x = some (.pointer (some ⟨g, i * sz + j, none⟩))) (hT : ∀ w, (isAgg T).run P w = .ok true w) (hn : ∀ w, (Go.sizeOf T).run P w = .ok m w) (hp : Pick L (SL E sz cf (.slice (some ⟨g, 0, none⟩) len cap) xs) R) (hsz : ∀ e, (cf e).length = sz)
    (he : xs[i]? = some e) (hu : ((cf e).drop j).take m = us) (hm : us.length = m) (ht : Nat.blt t n = true)
    (h : KO P ops d Q n D w0 ((t, .agg us.toArray) :: G) L l) : KO P ops d Q n D w0 G L ((k, ⟨some t, .load T x, ty, pos, af, none⟩) :: l) :=
  KO.ldN hk hx hT hn (by simpa using hm) (fun w hw q c hj => by
    rw [show (us.toArray).toList = us from rfl, ← hu, List.getElem?_take] at hj
    split at hj
    · rw [List.getElem?_drop] at hj
      have hjs : j + q < sz := by rw [← hsz e]; exact (List.getElem?_eq_some_iff.1 hj).1
      rw [Addr.add_lit, Nat.add_assoc, SL_cells hsz (hw.pick hp) he (j + q) hjs]; exact hj
    · simp at hj) ht h
end
section
variable {w0 w : World} {L : List HP} {E : TypeId} {α : Type} {cf : α → List Value} {sz : Nat} {xs : List α} {v : Value}
theorem SL_shape (h : St w0 (SL E sz cf v xs :: L) w) : (v = .slice none 0 0 ∧ xs = []) ∨ ∃ g cap, v = .slice (some ⟨g, 0, none⟩) xs.length cap := by
  rcases h.osl_cases with ⟨h1, h2, _⟩ | ⟨g, cap, _, h1, _⟩
  · exact .inl ⟨h1, List.eq_nil_of_length_eq_zero h2⟩
  · exact .inr ⟨g, cap, h1⟩
/-- some element, so no nil -/
theorem SL_some (h : St w0 (SL E sz cf v xs :: L) w) {i : Nat} (hi : i < xs.length) : ∃ g cap, v = .slice (some ⟨g, 0, none⟩) xs.length cap := by
  rcases SL_shape h with ⟨_, h1⟩ | h1
  · rw [h1] at hi; simp at hi
  · exact h1
theorem SL_form (h : St w0 (SL E sz cf v xs :: L) w) : ∃ a cap, v = .slice a xs.length cap ∧ (0 < xs.length → ∃ g, a = some ⟨g, 0, none⟩) := by
  rcases SL_shape h with ⟨h0, h1⟩ | ⟨g, cap, h1⟩
  · exact ⟨none, 0, by rw [h0, h1]; rfl, fun h => by rw [h1] at h; simp at h⟩
  · exact ⟨_, cap, h1, fun _ => ⟨g, rfl⟩⟩
end
end WB
namespace WB
open Go Go.RowKit
section
variable {P : Program} {ops : Array Oper} {d : Bool} {Q : Exit → Act → World → Prop} {n : Nat} {D : List Deferred} {w0 : World} {G : Env} {L R : List HP} {l : List (Kd × Oper)} {k : Kd}
  {t : Nat} {ty T E : TypeId} {pos : String} {af : Array Edge} {x : Operand} {v : Value} {i j : Nat} {α : Type} {cf : α → List Value} {sz : Nat} {xs : List α} {e : α}
/-- a whole block -/
theorem KO.ldB0 {b : Nat} {cs : List Value} {fz : Nat × Nat} (hk : (!d || k != .pure) = true) (hx : ev G x = some (.pointer (some ⟨b, 0, none⟩))) (hT : ∀ w, (isAgg T).run P w = .ok true w) (hn : ∀ w, (Go.sizeOf T).run P w = .ok sz w) (hp : Pick L (blk b (.cells cs.toArray E fz)) R)
    (hsz : cs.length = sz) (ht : Nat.blt t n = true) (h : KO P ops d Q n D w0 ((t, .agg cs.toArray) :: G) L l) : KO P ops d Q n D w0 G L ((k, ⟨some t, .load T x, ty, pos, af, none⟩) :: l) :=
  KO.ldB hk hx hT hn hp (us := cs) (by rw [List.drop_zero, List.take_of_length_le (by omega)]) hsz ht h
/-- the first field of an element -/
theorem KO.ldE0 {g len cap : Nat} (hk : (!d || k != .pure) = true) (hx : ev G x = some (.pointer (some ⟨g, i * sz, none⟩))) (hT : ∀ w, (isAgg T).run P w = .ok false w) (hp : Pick L (SL E sz cf (.slice (some ⟨g, 0, none⟩) len cap) xs) R) (hsz : ∀ e, (cf e).length = sz)
    (he : xs[i]? = some e) (hj : Nat.blt 0 sz = true) (hv : (cf e)[0]? = some v) (ht : Nat.blt t n = true)
    (h : KO P ops d Q n D w0 ((t, v) :: G) L l) : KO P ops d Q n D w0 G L ((k, ⟨some t, .load T x, ty, pos, af, none⟩) :: l) :=
  KO.ldE (j := 0) hk (by rw [Nat.add_zero]; exact hx) hT hp hsz he hj hv ht h
end
end WB
/- the steps of the calculus: what lies in the parts of the base -/
namespace WB
open Go Go.RowKit
theorem St.clear {w0 w : World} : ∀ {L : List HP}, St w0 L w → St w0 [] w
  | [], h => h
  | _ :: _, h => St.clear h.drop
section
variable {P : Program} {ops : Array Oper} {d : Bool} {Q : Exit → Act → World → Prop} {n : Nat} {D : List Deferred} {w0 wX : World} {G : Env} {L LX R : List HP} {l : List (Kd × Oper)} {k : Kd}
  {t : Nat} {ty T E : TypeId} {pos : String} {af : Array Edge} {x : Operand} {v : Value} {i j off : Nat} {α : Type} {cf : α → List Value} {sz : Nat} {xs : List α} {e : α}
theorem KO.ldb (hw : St wX LX w0) {b : Nat} {cs : List Value} {fz : Nat × Nat} (hk : (!d || k != .pure) = true) (hx : ev G x = some (.pointer (some ⟨b, off, none⟩))) (hT : ∀ w, (isAgg T).run P w = .ok false w) (hp : Pick LX (blk b (.cells cs.toArray E fz)) R) (hc : cs[off]? = some v) (ht : Nat.blt t n = true)
    (h : KO P ops d Q n D w0 ((t, v) :: G) L l) : KO P ops d Q n D w0 G L ((k, ⟨some t, .load T x, ty, pos, af, none⟩) :: l) :=
  KO.ld0 hk hx hT (by rw [World.cell?, (hw.lookP hp).2]; simpa using hc) ht h
theorem KO.ldN0 {cs : Array Value} (hk : (!d || k != .pure) = true) {ad : Addr} (hx : ev G x = some (.pointer (some ad))) (hT : ∀ w, (isAgg T).run P w = .ok true w) (hn : ∀ w, (Go.sizeOf T).run P w = .ok sz w) (hsz : cs.size = sz) (hc : HasCells w0 ad cs.toList) (ht : Nat.blt t n = true)
    (h : KO P ops d Q n D w0 ((t, .agg cs) :: G) L l) : KO P ops d Q n D w0 G L ((k, ⟨some t, .load T x, ty, pos, af, none⟩) :: l) :=
  KO.ldN hk hx hT hn hsz (fun _ hs => hc.ext (Ext.of_below hs.below)) ht h
theorem KO.ldBb (hw : St wX LX w0) {b : Nat} {cs us : List Value} {fz : Nat × Nat} (hk : (!d || k != .pure) = true) (hx : ev G x = some (.pointer (some ⟨b, off, none⟩))) (hT : ∀ w, (isAgg T).run P w = .ok true w) (hn : ∀ w, (Go.sizeOf T).run P w = .ok sz w) (hp : Pick LX (blk b (.cells cs.toArray E fz)) R)
    (hu : (cs.drop off).take sz = us) (hsz : us.length = sz) (ht : Nat.blt t n = true)
    (h : KO P ops d Q n D w0 ((t, .agg us.toArray) :: G) L l) : KO P ops d Q n D w0 G L ((k, ⟨some t, .load T x, ty, pos, af, none⟩) :: l) :=
  KO.ldN0 hk hx hT hn (by simpa using hsz) (fun j c hj => by
    have hlk := (hw.lookP hp).2
    rw [show (us.toArray).toList = us from rfl, ← hu, List.getElem?_take] at hj
    split at hj
    · rw [List.getElem?_drop] at hj
      rw [Addr.add_lit, World.cell?, hlk]; simpa using hj
    · simp at hj) ht h
theorem KO.ldB0b (hw : St wX LX w0) {b : Nat} {cs : List Value} {fz : Nat × Nat} (hk : (!d || k != .pure) = true) (hx : ev G x = some (.pointer (some ⟨b, 0, none⟩))) (hT : ∀ w, (isAgg T).run P w = .ok true w) (hn : ∀ w, (Go.sizeOf T).run P w = .ok sz w) (hp : Pick LX (blk b (.cells cs.toArray E fz)) R)
    (hsz : cs.length = sz) (ht : Nat.blt t n = true) (h : KO P ops d Q n D w0 ((t, .agg cs.toArray) :: G) L l) : KO P ops d Q n D w0 G L ((k, ⟨some t, .load T x, ty, pos, af, none⟩) :: l) :=
  KO.ldBb hw hk hx hT hn hp (us := cs) (by rw [List.drop_zero, List.take_of_length_le (by omega)]) hsz ht h
theorem KO.ldEb (hw : St wX LX w0) {g len cap : Nat} (hk : (!d || k != .pure) = true) (hx : ev G x = some (.pointer (some ⟨g, i * sz + j, none⟩))) (hT : ∀ w, (isAgg T).run P w = .ok false w) (hp : Pick LX (SL E sz cf (.slice (some ⟨g, 0, none⟩) len cap) xs) R) (hsz : ∀ e, (cf e).length = sz)
    (he : xs[i]? = some e) (hj : Nat.blt j sz = true) (hv : (cf e)[j]? = some v) (ht : Nat.blt t n = true)
    (h : KO P ops d Q n D w0 ((t, v) :: G) L l) : KO P ops d Q n D w0 G L ((k, ⟨some t, .load T x, ty, pos, af, none⟩) :: l) :=
  KO.ld0 hk hx hT (by rw [SL_cells hsz (hw.pick hp) he j (by simpa [Nat.blt_eq] using hj), hv]) ht h
theorem KO.ldE0b (hw : St wX LX w0) {g len cap : Nat} (hk : (!d || k != .pure) = true) (hx : ev G x = some (.pointer (some ⟨g, i * sz, none⟩))) (hT : ∀ w, (isAgg T).run P w = .ok false w) (hp : Pick LX (SL E sz cf (.slice (some ⟨g, 0, none⟩) len cap) xs) R) (hsz : ∀ e, (cf e).length = sz)
    (he : xs[i]? = some e) (hj : Nat.blt 0 sz = true) (hv : (cf e)[0]? = some v) (ht : Nat.blt t n = true)
    (h : KO P ops d Q n D w0 ((t, v) :: G) L l) : KO P ops d Q n D w0 G L ((k, ⟨some t, .load T x, ty, pos, af, none⟩) :: l) :=
  KO.ldEb hw (j := 0) hk (by rw [Nat.add_zero]; exact hx) hT hp hsz he hj hv ht h
theorem KO.ldENb (hw : St wX LX w0) {g len cap : Nat} (hk : (!d || k != .pure) = true) (hx : ev G x = some (.pointer (some ⟨g, i * sz, none⟩))) (hT : ∀ w, (isAgg T).run P w = .ok true w) (hn : ∀ w, (Go.sizeOf T).run P w = .ok sz w) (hp : Pick LX (SL E sz cf (.slice (some ⟨g, 0, none⟩) len cap) xs) R) (hsz : ∀ e, (cf e).length = sz)
    (he : xs[i]? = some e) (ht : Nat.blt t n = true)
    (h : KO P ops d Q n D w0 ((t, .agg (cf e).toArray) :: G) L l) : KO P ops d Q n D w0 G L ((k, ⟨some t, .load T x, ty, pos, af, none⟩) :: l) :=
  KO.ldN0 hk hx hT hn (by simpa using hsz e) (fun j c hj => by
    have hjs : j < sz := by rw [← hsz e]; exact (List.getElem?_eq_some_iff.1 hj).1
    rw [Addr.add_lit, SL_cells hsz (hw.pick hp) he j hjs]; exact hj) ht h
theorem KO.ldEPb (hw : St wX LX w0) {g len cap m : Nat} {us : List Value} (hk : (!d || k != .pure) = true) (hx : ev G x = some (.pointer (some ⟨g, i * sz + j, none⟩))) (hT : ∀ w, (isAgg T).run P w = .ok true w) (hn : ∀ w, (Go.sizeOf T).run P w = .ok m w) (hp : Pick LX (SL E sz cf (.slice (some ⟨g, 0, none⟩) len cap) xs) R) (hsz : ∀ e, (cf e).length = sz)
    (he : xs[i]? = some e) (hu : ((cf e).drop j).take m = us) (hm : us.length = m) (ht : Nat.blt t n = true)
    (h : KO P ops d Q n D w0 ((t, .agg us.toArray) :: G) L l) : KO P ops d Q n D w0 G L ((k, ⟨some t, .load T x, ty, pos, af, none⟩) :: l) :=
  KO.ldN0 hk hx hT hn (by simpa using hm) (fun q c hj => by
    rw [show (us.toArray).toList = us from rfl, ← hu, List.getElem?_take] at hj
    split at hj
    · rw [List.getElem?_drop] at hj
      have hjs : j + q < sz := by rw [← hsz e]; exact (List.getElem?_eq_some_iff.1 hj).1
      rw [Addr.add_lit, Nat.add_assoc, SL_cells hsz (hw.pick hp) he (j + q) hjs]; exact hj
    · simp at hj) ht h
end
section
variable {P : Program} {f : FuncId} {args : Array Value} {w0 w : World} {L L' : List HP} {v : Value}
/-- a contract that keeps what was there, over the base where it is called -/
theorem KE.rebase (h : KE P f args w0 L (fun u M => u = v ∧ M = L)) (hw : St w0 L w) : KE P f args w L' (fun u M => u = v ∧ M = L') := fun w' hw' =>
  (h w' (hw.below_step hw'.below)).mono fun _ _ ⟨u, _, he, ⟨hu, _⟩, _, hb⟩ => ⟨u, L', he, ⟨hu, rfl⟩, hw'.below_step hb, hb⟩
/-- the same contract, whatever else lies there -/
theorem KE.only (h : KE P f args w0 L (fun u M => u = v ∧ M = L)) (hs : ∀ w, St w0 L' w → St w0 L w) : KE P f args w0 L' (fun u M => u = v ∧ M = L') := fun w' hw' =>
  (h w' (hs w' hw')).mono fun _ _ ⟨u, _, he, ⟨hu, _⟩, _, hb⟩ => ⟨u, L', he, ⟨hu, rfl⟩, hw'.below_step hb, hb⟩
end
/-- the first place where p holds; -1: none -/
def fidx {α : Type} (p : α → Bool) (l : List α) : Int := match l.findIdx? p with | some k => (k : Int) | none => -1
theorem fidx_hit {α : Type} {p : α → Bool} {l : List α} {k : Nat} {e : α} (hk : l[k]? = some e) (hp : p e = true) (hn : ∀ j u, j < k → l[j]? = some u → p u = false) : fidx p l = k := by
  have : l.findIdx? p = some k := by
    rw [List.findIdx?_eq_some_iff_getElem]
    obtain ⟨hlt, he⟩ := List.getElem?_eq_some_iff.1 hk
    exact ⟨hlt, by rw [he]; exact hp, fun j hj => by
      have := hn j l[j] hj (List.getElem?_eq_getElem _)
      simp [this]⟩
  rw [fidx, this]
theorem fidx_miss {α : Type} {p : α → Bool} {l : List α} (hn : ∀ (j : Nat) (u : α), l[j]? = some u → p u = false) : fidx p l = -1 := by
  have : l.findIdx? p = none := by
    rw [List.findIdx?_eq_none_iff]
    intro x hx
    obtain ⟨j, hj, rfl⟩ := List.getElem_of_mem hx
    exact hn j _ (List.getElem?_eq_getElem hj)
  rw [fidx, this]
theorem fidx_nonneg {α : Type} {p : α → Bool} {l : List α} (h : 0 ≤ fidx p l) : ∃ (k : Nat) (e : α), fidx p l = (k : Int) ∧ l[k]? = some e ∧ p e = true ∧ k < l.length ∧ l.findIdx? p = some k := by
  unfold fidx at h ⊢
  cases hf : l.findIdx? p with
  | none => rw [hf] at h; simp at h
  | some k =>
    obtain ⟨hlt, hp, _⟩ := List.findIdx?_eq_some_iff_getElem.1 hf
    exact ⟨k, l[k], rfl, List.getElem?_eq_getElem hlt, hp, hlt, rfl⟩
theorem fidx_neg {α : Type} {p : α → Bool} {l : List α} (h : fidx p l < 0) : l.findIdx? p = none := by
  unfold fidx at h
  cases hf : l.findIdx? p with
  | none => rfl
  | some k => rw [hf] at h; simp only at h; omega
end WB
namespace WB
theorem fidx_any {α : Type} (p : α → Bool) (l : List α) : decide (0 ≤ fidx p l) = l.any p := by
  cases hf : l.findIdx? p with
  | none =>
    have h1 : l.any p = false := by
      rw [List.any_eq_false]; intro x hx
      have := List.findIdx?_eq_none_iff.1 hf x hx
      simp [this]
    simp [fidx, hf, h1]
  | some k =>
    obtain ⟨hlt, hp, _⟩ := List.findIdx?_eq_some_iff_getElem.1 hf
    have h1 : l.any p = true := List.any_eq_true.2 ⟨l[k], List.getElem_mem hlt, hp⟩
    simp [fidx, hf, h1]
end WB
namespace WB
open Go
theorem KC.pre {P : Program} {f : FuncId} {args : Array Value} {w0 : World} {L : List HP} {R : Value → List HP → Prop} {p : Prop} (hs : ∀ w, St w0 L w → p) (h : p → KC P f args w0 L R) : KC P f args w0 L R := fun w hw => h (hs w hw) w hw
theorem KE.pre {P : Program} {f : FuncId} {args : Array Value} {w0 : World} {L : List HP} {R : Value → List HP → Prop} {p : Prop} (hs : ∀ w, St w0 L w → p) (h : p → KE P f args w0 L R) : KE P f args w0 L R := fun w hw => h (hs w hw) w hw
theorem KC.perm {P : Program} {f : FuncId} {args : Array Value} {w0 : World} {L L' : List HP} {R : Value → List HP → Prop} (hs : ∀ w, St w0 L w → St w0 L' w) (h : KC P f args w0 L' R) : KC P f args w0 L R := fun w hw => h w (hs w hw)
theorem KE.perm {P : Program} {f : FuncId} {args : Array Value} {w0 : World} {L L' : List HP} {R : Value → List HP → Prop} (hs : ∀ w, St w0 L w → St w0 L' w) (h : KE P f args w0 L' R) : KE P f args w0 L R := fun w hw => h w (hs w hw)
end WB
namespace WB
theorem take_filter_of_findIdx {α : Type} {p : α → Bool} : ∀ {l : List α} {k : Nat}, l.findIdx? p = some k → (l.take (k + 1)).filter (fun e => !p e) = l.take k
  | [], k, h => by simp at h
  | a :: l, k, h => by
    rw [List.findIdx?_cons] at h
    by_cases ha : p a = true
    · rw [if_pos ha] at h
      simp only [Option.some.injEq] at h; subst h
      simp [ha]
    · rw [if_neg ha] at h
      cases hf : l.findIdx? p with
      | none => rw [hf] at h; simp at h
      | some j =>
        rw [hf] at h
        simp only [Option.map_some, Option.some.injEq] at h
        subst h
        simp [ha, take_filter_of_findIdx hf]
theorem take_succ_some {α : Type} {l : List α} {k : Nat} {e : α} (h : l[k]? = some e) : l.take (k + 1) = l.take k ++ [e] := by
  rw [List.take_add_one, h]; rfl
end WB
namespace WB
open Go Go.RowKit
/-- a slice that can be read -/
def RdS {α : Type} (w : World) (sz : Nat) (cf : α → List Value) (v : Value) (xs : List α) : Prop :=
  ∃ a cap, v = .slice a xs.length cap ∧ (0 < xs.length → ∃ g, a = some ⟨g, 0, none⟩) ∧ ∀ g, a = some ⟨g, 0, none⟩ → ∀ (i : Nat) (e : α), xs[i]? = some e → HasCells w ⟨g, i * sz, none⟩ (cf e)
section
variable {w0 w w1 : World} {L R LX RX : List HP} {E : TypeId} {α : Type} {cf : α → List Value} {sz : Nat} {xs : List α} {v : Value}
theorem RdS.ext (h : RdS w sz cf v xs) (e : Ext w w1) : RdS w1 sz cf v xs := by
  obtain ⟨a, cap, h1, h2, h3⟩ := h
  exact ⟨a, cap, h1, h2, fun g hg i x hx => (h3 g hg i x hx).ext e⟩
theorem RdS.of (hsz : ∀ e, (cf e).length = sz) (hp : Pick L (SL E sz cf v xs) R) (w : World) (hw : St w0 L w) : RdS w sz cf v xs := by
  have h := hw.pick hp
  obtain ⟨a, cap, rfl, ha⟩ := SL_form h
  refine ⟨a, cap, rfl, ha, fun g hg i e he j c hj => ?_⟩
  subst hg
  have hjs : j < sz := by rw [← hsz e]; exact (List.getElem?_eq_some_iff.1 hj).1
  rw [Addr.add_lit, SL_cells hsz h he j hjs]; exact hj
theorem RdS.base (h : RdS w0 sz cf v xs) (w : World) (hw : St w0 L w) : RdS w sz cf v xs := h.ext (Ext.of_below hw.below)
end
end WB
/- the steps of the calculus: slices that grow and shrink -/
namespace WB
open Go Go.RowKit
section
variable {P : Program} {ops : Array Oper} {d : Bool} {Q : Exit → Act → World → Prop} {n : Nat} {D : List Deferred} {w0 : World} {G : Env} {L R N : List HP} {l : List (Kd × Oper)} {k : Kd}
  {t : Nat} {op : Op} {ty T T' E : TypeId} {pos : String} {af : Array Edge} {x y z : Operand} {v u : Value} {i j : Nat} {a c r : Int} {α : Type} {cf : α → List Value} {sz : Nat} {xs ys : List α} {e : α}
theorem KO.wv (hk : (!d || k == .write) = true) (hr : ∀ a w, Knows n D G a → St w0 L w → ∃ w', (execOp a.eval ⟨some t, op, ty, pos, af, none⟩).run P w = .ok (.value v) w' ∧ St w0 N w') (ht : Nat.blt t n = true)
    (h : KO P ops d Q n D w0 ((t, v) :: G) N l) : KO P ops d Q n D w0 G L ((k, ⟨some t, op, ty, pos, af, none⟩) :: l) := fun a w ha hw => by
  obtain ⟨w', hr, hs⟩ := hr a w ha hw
  refine vcG_write hk rfl ?_
  unfold Oper.wp
  rw [hr]
  exact h _ w' (put_dst ha _ ht) hs
theorem KO.wn (hk : (!d || k == .write) = true) (hr : ∀ a w, Knows n D G a → St w0 L w → ∃ w' u, (execOp a.eval ⟨none, op, ty, pos, af, none⟩).run P w = .ok (.value u) w' ∧ St w0 N w')
    (h : KO P ops d Q n D w0 G N l) : KO P ops d Q n D w0 G L ((k, ⟨none, op, ty, pos, af, none⟩) :: l) := fun a w ha hw => by
  obtain ⟨w', u, hr, hs⟩ := hr a w ha hw
  refine vcG_write hk rfl ?_
  unfold Oper.wp
  rw [hr]
  exact h _ w' ha hs
/-- the value is some value of which the parts tell -/
theorem KO.wvE (hk : (!d || k == .write) = true) {F : Value → List HP} (hr : ∀ a w, Knows n D G a → St w0 L w → ∃ v w', (execOp a.eval ⟨some t, op, ty, pos, af, none⟩).run P w = .ok (.value v) w' ∧ St w0 (F v) w') (ht : Nat.blt t n = true)
    (h : ∀ v, KO P ops d Q n D w0 ((t, v) :: G) (F v) l) : KO P ops d Q n D w0 G L ((k, ⟨some t, op, ty, pos, af, none⟩) :: l) := fun a w ha hw => by
  obtain ⟨v, w', hr, hs⟩ := hr a w ha hw
  refine vcG_write hk rfl ?_
  unfold Oper.wp
  rw [hr]
  exact h v _ w' (put_dst ha _ ht) hs
/-! cuts of slices -/
theorem run_cut {w : World} {bs : Option Addr} {len cap lo hi mx : Nat} {l h m : Option Value} (hT : P.underlying T = some (.slice E)) (hs : (Go.sizeOf E).run P w = .ok sz w)
    (hm : match m with | none => mx = cap | some v => v = .int .i64 (mx : Nat)) (hh : match h with | none => hi = len ∧ m = none | some v => v = .int .i64 (hi : Nat)) (hl : match l with | none => lo = 0 | some v => v = .int .i64 (lo : Nat))
    (h1 : lo ≤ hi) (h2 : hi ≤ mx) (h3 : mx ≤ cap) :
    (Instr.sliceAt T (.slice bs len cap) l h m).run P w = .ok (.slice (if mx = lo then bs else bs.map (·.add (lo * sz))) (hi - lo) (mx - lo)) w := by
  have e1 : ∀ (i y : Nat) (code : BoundsCode), i ≤ y → (Instr.sliceBound (.int .i64 (i : Nat)) y code).run P w = .ok i w := fun i y code h => by
    simp [Instr.sliceBound, asIntOf, h]
  cases m with
  | none =>
    cases h with
    | none =>
      obtain ⟨rfl, _⟩ := hh
      cases l with
      | none => simp only at hm hl; subst hm; subst hl; simp [Instr.sliceAt, run_underlying hT, Instr.slice, Instr.sliceBounds, hs]
      | some v => simp only at hm hl; subst hm; subst hl; simp [Instr.sliceAt, run_underlying hT, Instr.slice, Instr.sliceBounds, hs, e1 _ _ _ h1]
    | some v =>
      simp only at hh; subst hh
      cases l with
      | none => simp only at hm hl; subst hm; subst hl; simp [Instr.sliceAt, run_underlying hT, Instr.slice, Instr.sliceBounds, hs, e1 _ _ _ h2]
      | some v => simp only at hm hl; subst hm; subst hl; simp [Instr.sliceAt, run_underlying hT, Instr.slice, Instr.sliceBounds, hs, e1 _ _ _ h1, e1 _ _ _ h2]
  | some vm =>
    simp only at hm; subst hm
    cases h with
    | none => simp at hh
    | some v =>
      simp only at hh; subst hh
      cases l with
      | none => simp only at hl; subst hl; simp [Instr.sliceAt, run_underlying hT, Instr.slice, Instr.sliceBounds, hs, e1 _ _ _ h2, e1 _ _ _ h3]
      | some v => simp only at hl; subst hl; simp [Instr.sliceAt, run_underlying hT, Instr.slice, Instr.sliceBounds, hs, e1 _ _ _ h1, e1 _ _ _ h2, e1 _ _ _ h3]
def cutAt (g : Nat) (lo sz mx : Nat) : Addr := ⟨g, if mx = lo then 0 else lo * sz, none⟩
theorem cutAt_eq (g lo sz mx : Nat) : (if mx = lo then (some ⟨g, 0, none⟩ : Option Addr) else (some (⟨g, 0, none⟩ : Addr)).map (·.add (lo * sz))) = some (cutAt g lo sz mx) := by
  unfold cutAt
  by_cases h : mx = lo
  · simp [h]
  · simp [h, Addr.add_lit]
/-- s[:hi] -/
theorem KO.cutTo {bs : Option Addr} {len cap hi : Nat} (hx : ev G x = some (.slice bs len cap)) (hy : ev G y = some (.int .i64 c)) (hT : P.underlying T = some (.slice E)) (hs : ∀ w, (Go.sizeOf E).run P w = .ok sz w) (hc : c = (hi : Int)) (h2 : hi ≤ cap) (ht : Nat.blt t n = true)
    (h : KO P ops d Q n D w0 ((t, .slice bs hi cap) :: G) L l) : KO P ops d Q n D w0 G L ((k, ⟨some t, .slice T x none (some y) none, ty, pos, af, none⟩) :: l) :=
  KO.val (fun a w ha => by
    subst hc
    have := run_cut (P := P) (w := w) (bs := bs) (len := len) (cap := cap) (lo := 0) (hi := hi) (mx := cap) (l := none) (h := some (.int .i64 (hi : Nat))) (m := none) hT (hs w) rfl rfl rfl (Nat.zero_le _) h2 (Nat.le_refl _)
    have e : (if cap = 0 then bs else bs.map (·.add (0 * sz))) = bs := by
      split
      · rfl
      · cases bs <;> simp [Addr.add_zero']
    simp only [e, Nat.sub_zero] at this
    simp [execOp, ha.eval hx, ha.eval hy, this]) ht h
/-- s[lo:] -/
theorem KO.cutFrom {g len cap lo : Nat} (hx : ev G x = some (.slice (some ⟨g, 0, none⟩) len cap)) (hy : ev G y = some (.int .i64 c)) (hT : P.underlying T = some (.slice E)) (hs : ∀ w, (Go.sizeOf E).run P w = .ok sz w) (hc : c = (lo : Int)) (h1 : lo ≤ len) (h2 : len ≤ cap) (ht : Nat.blt t n = true)
    (h : KO P ops d Q n D w0 ((t, .slice (some (cutAt g lo sz cap)) (len - lo) (cap - lo)) :: G) L l) : KO P ops d Q n D w0 G L ((k, ⟨some t, .slice T x (some y) none none, ty, pos, af, none⟩) :: l) :=
  KO.val (fun a w ha => by
    subst hc
    have := run_cut (P := P) (w := w) (bs := some ⟨g, 0, none⟩) (len := len) (cap := cap) (lo := lo) (hi := len) (mx := cap) (l := some (.int .i64 (lo : Nat))) (h := none) (m := none) hT (hs w) rfl ⟨rfl, rfl⟩ rfl h1 h2 (Nat.le_refl _)
    rw [cutAt_eq] at this
    simp [execOp, ha.eval hx, ha.eval hy, this]) ht h
/-- s[lo:hi] -/
theorem KO.cutMid {g len cap lo hi : Nat} {b : Int} (hx : ev G x = some (.slice (some ⟨g, 0, none⟩) len cap)) (hy : ev G y = some (.int .i64 c)) (hz : ev G z = some (.int .i64 b)) (hT : P.underlying T = some (.slice E)) (hs : ∀ w, (Go.sizeOf E).run P w = .ok sz w) (hc : c = (lo : Int)) (hb : b = (hi : Int)) (h1 : lo ≤ hi) (h2 : hi ≤ cap) (ht : Nat.blt t n = true)
    (h : KO P ops d Q n D w0 ((t, .slice (some (cutAt g lo sz cap)) (hi - lo) (cap - lo)) :: G) L l) : KO P ops d Q n D w0 G L ((k, ⟨some t, .slice T x (some y) (some z) none, ty, pos, af, none⟩) :: l) :=
  KO.val (fun a w ha => by
    subst hc; subst hb
    have := run_cut (P := P) (w := w) (bs := some ⟨g, 0, none⟩) (len := len) (cap := cap) (lo := lo) (hi := hi) (mx := cap) (l := some (.int .i64 (lo : Nat))) (h := some (.int .i64 (hi : Nat))) (m := none) hT (hs w) rfl rfl rfl h1 h2 (Nat.le_refl _)
    rw [cutAt_eq] at this
    simp [execOp, ha.eval hx, ha.eval hy, ha.eval hz, this]) ht h
/-- s[lo:hi:mx], of which nothing is told but that it is -/
theorem KO.cutAny {u : Operand} {bs : Option Addr} {len cap lo hi mx : Nat} {b m : Int} (hx : ev G x = some (.slice bs len cap)) (hy : ev G y = some (.int .i64 c)) (hz : ev G z = some (.int .i64 b)) (hu : ev G u = some (.int .i64 m)) (hT : P.underlying T = some (.slice E)) (hs : ∀ w, (Go.sizeOf E).run P w = .ok sz w) (hc : c = (lo : Int)) (hb : b = (hi : Int)) (hm : m = (mx : Int))
    (h1 : lo ≤ hi) (h2 : hi ≤ mx) (h3 : mx ≤ cap) (ht : Nat.blt t n = true)
    (h : ∀ q, KO P ops d Q n D w0 ((t, .slice q (hi - lo) (mx - lo)) :: G) L l) : KO P ops d Q n D w0 G L ((k, ⟨some t, .slice T x (some y) (some z) (some u), ty, pos, af, none⟩) :: l) :=
  KO.val (v := .slice (if mx = lo then bs else bs.map (·.add (lo * sz))) (hi - lo) (mx - lo)) (fun a w ha => by
    subst hc; subst hb; subst hm
    have := run_cut (P := P) (w := w) (bs := bs) (len := len) (cap := cap) (lo := lo) (hi := hi) (mx := mx) (l := some (.int .i64 (lo : Nat))) (h := some (.int .i64 (hi : Nat))) (m := some (.int .i64 (mx : Nat))) hT (hs w) rfl rfl rfl h1 h2 h3
    simp [execOp, ha.eval hx, ha.eval hy, ha.eval hz, ha.eval hu, this]) ht (h _)
end
/-! what is moved and cleared within a slice -/
theorem flat_one {α : Type} {cf : α → List Value} (h1 : ∀ e, ∀ u ∈ cf e, u.oneCell' = true) (xs : List α) : ∀ u ∈ xs.flatMap cf, u.oneCell' = true := fun u hu => by
  obtain ⟨e, _, hu⟩ := List.mem_flatMap.1 hu
  exact h1 e u hu
section
variable {P : Program} {w0 w : World} {L : List HP} {E T ty : TypeId} {α : Type} {cf : α → List Value} {sz g cap n : Nat} {xs : List α}
theorem SL_open (h : St w0 (SL E sz cf (.slice (some ⟨g, 0, none⟩) n cap) xs :: L) w) : n = xs.length ∧ n ≤ cap ∧ cap ≤ maxLen ∧ ∃ cur : Array Value, cur.size = cap * sz ∧ cur.toList.take (xs.length * sz) = xs.flatMap cf ∧ St w0 (blk g (.cells cur E (0, 0)) :: L) w := by
  rcases h.osl_cases with ⟨h1, _⟩ | ⟨g', cap', cur, hv, h1, h2, h3, h4, _, h5⟩
  · simp at h1
  · simp only [Value.slice.injEq, Option.some.injEq, Addr.mk.injEq, and_true, true_and] at hv
    obtain ⟨rfl, rfl, rfl⟩ := hv
    exact ⟨rfl, h1, h2, cur, h3, h4, h5⟩
theorem SL_mk {cur : Array Value} (h : St w0 (blk g (.cells cur E (0, 0)) :: L) w) (hn : xs.length ≤ cap) (hc : cap ≤ maxLen) (hs : cur.size = cap * sz) (ht : cur.toList.take (xs.length * sz) = xs.flatMap cf) :
    St w0 (SL E sz cf (.slice (some ⟨g, 0, none⟩) xs.length cap) xs :: L) w := h.osl_mk hn hc hs ht
/-- append(s[:k], s[j:]...) in place -/
theorem SL_move (hsz : ∀ e, (cf e).length = sz) (h1 : ∀ e, ∀ u ∈ cf e, u.oneCell' = true) {i : TypeInfo} (hT : P.underlying T = some (.slice E)) (hi : P.info? E = some i) (hisz : i.size = sz)
    {n j k c o : Nat} (h : St w0 (SL E sz cf (.slice (some ⟨g, 0, none⟩) n cap) xs :: L) w) (hk : k ≤ j) (hj : j ≤ xs.length) (ho : xs.length - j = 0 ∨ o = j * sz) :
    ∃ w', (Builtin.append_ #[T, T] ty #[.slice (some ⟨g, 0, none⟩) k cap, .slice (some ⟨g, o, none⟩) (xs.length - j) c]).run P w = .ok (.slice (some ⟨g, 0, none⟩) (k + (xs.length - j)) cap) w' ∧
      St w0 (SL E sz cf (.slice (some ⟨g, 0, none⟩) xs.length cap) (xs.take k ++ xs.drop j ++ xs.drop (k + (xs.length - j))) :: L) w' := by
  obtain ⟨rfl, hnc, hcm, cur, hcs, htake, hb⟩ := SL_open h
  subst hisz
  have hfl : ∀ l : List α, (l.flatMap cf).length = l.length * i.size := flat_len cf i.size hsz
  have hcl : cur.toList.length = cap * i.size := by simpa using hcs
  have hcell : ∀ (q : Nat) (u : Value), (xs.flatMap cf)[q]? = some u → cur[q]? = some u := fun q u hq => by
    rw [← htake, List.getElem?_take] at hq
    split at hq
    · simpa using hq
    · simp at hq
  have hnews : ∀ (q : Nat) (u : Value), ((xs.drop j).flatMap cf)[q]? = some u → w.cell? ((⟨g, o, none⟩ : Addr).add q) = some u := fun q u hq => by
    have hlt := (List.getElem?_eq_some_iff.1 hq).1
    rw [hfl, List.length_drop] at hlt
    rcases ho with ho | ho
    · rw [ho, Nat.zero_mul] at hlt; omega
    · rw [← flat_drop cf i.size hsz xs j hj, List.getElem?_drop] at hq
      rw [Addr.add_lit, World.cell?, hb.look.2, ho]
      exact hcell _ u hq
  have hle : (k + (xs.length - j)) * i.size ≤ cap * i.size := Nat.mul_le_mul_right _ (by omega)
  have hr := run_append_room (P := P) w T ty E i hT hi g k cap cur hb.look.2 ⟨g, o, none⟩ (xs.length - j) c ((xs.drop j).flatMap cf) (by rw [hfl, List.length_drop]) hnews (flat_one h1 _) (by omega)
    (by rw [hfl, List.length_drop, ← Nat.add_mul, hcs]; exact hle)
  refine ⟨_, hr, ?_⟩
  have e1 : (xs.take k ++ xs.drop j ++ xs.drop (k + (xs.length - j))).length = xs.length := by simp; omega
  have hset := hb.setRow (c' := (cur.toList.take (k * i.size) ++ (xs.drop j).flatMap cf ++ cur.toList.drop (k * i.size + ((xs.drop j).flatMap cf).length)).toArray)
  have := SL_mk (xs := xs.take k ++ xs.drop j ++ xs.drop (k + (xs.length - j))) (cf := cf) (sz := i.size) (cap := cap) hset (by omega) hcm ?_ ?_
  · rw [e1] at this; exact this
  · simp only [List.size_toArray, List.length_append, List.length_take, List.length_drop, hfl, hcl, Nat.min_def]
    have := Nat.mul_le_mul_right i.size (show k ≤ cap by omega)
    rw [if_pos this, ← Nat.add_mul]; omega
  · rw [e1]
    simp only [List.flatMap_append, hfl, List.length_drop]
    have hk1 : cur.toList.take (k * i.size) = (xs.take k).flatMap cf := by
      rw [← flat_take cf i.size hsz xs k (by omega), ← htake, List.take_take, Nat.min_eq_left (Nat.mul_le_mul_right _ (by omega))]
    rw [hk1, ← flat_drop cf i.size hsz xs (k + (xs.length - j)) (by omega), ← htake]
    have hlA : ((xs.take k).flatMap cf ++ (xs.drop j).flatMap cf).length = (k + (xs.length - j)) * i.size := by
      rw [List.length_append, hfl, hfl, List.length_take, List.length_drop, Nat.min_eq_left (by omega), Nat.add_mul]
    rw [List.take_append, hlA, List.take_of_length_le (by rw [hlA]; exact Nat.mul_le_mul_right _ (by omega))]
    congr 1
    rw [← Nat.add_mul, List.take_drop, show (k + (xs.length - j)) * i.size + (xs.length * i.size - (k + (xs.length - j)) * i.size) = xs.length * i.size by
      have := Nat.mul_le_mul_right i.size (show k + (xs.length - j) ≤ xs.length by omega); omega]
/-- clear(s[i:..]), of what the slice bears no more -/
theorem SL_clear (hsz : ∀ e, (cf e).length = sz) {i : TypeInfo} {z : Value} (hT : P.underlying T = some (.slice E)) (hi : P.info? E = some i) (hz : i.zero = some z) (hz1 : ∀ u ∈ z.cells.toList, u.oneCell' = true) (hzs : z.cells.size = sz)
    {n m c o q : Nat} (h : St w0 (SL E sz cf (.slice (some ⟨g, 0, none⟩) n cap) xs :: L) w) (hq : q + m ≤ xs.length) (ho : m = 0 ∨ o = q * sz) :
    ∃ w' u, (Builtin.clear_ #[T] ty #[.slice (some ⟨g, o, none⟩) m c]).run P w = .ok u w' ∧ St w0 (SL E sz cf (.slice (some ⟨g, 0, none⟩) q cap) (xs.take q) :: L) w' := by
  obtain ⟨rfl, hnc, hcm, cur, hcs, htake, hb⟩ := SL_open h
  have hql : (xs.take q).length = q := by simp; omega
  have hqt : cur.toList.take (q * sz) = (xs.take q).flatMap cf := by
    rw [← flat_take cf sz hsz xs q (by omega), ← htake, List.take_take, Nat.min_eq_left (Nat.mul_le_mul_right _ (by omega))]
  by_cases hm : m = 0
  · subst hm
    refine ⟨w, .tuple #[], by simp [Builtin.clear_, run_underlying hT], ?_⟩
    have := SL_mk (xs := xs.take q) (cf := cf) (sz := sz) (cap := cap) hb (by omega) hcm hcs (by rw [hql]; exact hqt)
    rw [hql] at this; exact this
  · have ho := ho.resolve_left hm
    subst ho
    have hzl : (Builtin.zeroCells z.cells m).toList.length = m * sz := by simp [size_zeroCells, hzs]
    have hone : ∀ u ∈ (Builtin.zeroCells z.cells m).toList, u.oneCell' = true := fun u hu => by
      simp only [Builtin.zeroCells, Array.toList_map, List.mem_map] at hu
      obtain ⟨j, hj, rfl⟩ := hu
      have hp : 0 < z.cells.size := by
        rcases Nat.eq_zero_or_pos z.cells.size with h0 | h0
        · simp [h0] at hj
        · exact h0
      have : j % z.cells.size < z.cells.size := Nat.mod_lt _ hp
      rw [getElem!_pos z.cells _ this]
      exact hz1 _ (Array.mem_toList_iff.2 (Array.getElem_mem this))
    have hfit : q * sz + 0 + (Builtin.zeroCells z.cells m).toList.length ≤ cur.size := by
      rw [hzl, hcs, Nat.add_zero, ← Nat.add_mul]; exact Nat.mul_le_mul_right _ (by omega)
    have hst := run_storeCells_at P g (q * sz) E (Builtin.zeroCells z.cells m).toList 0 cur w hb.look.2 hfit hone
    simp only [Nat.add_zero] at hst
    have hmm : ∃ m', m = m' + 1 := ⟨m - 1, by omega⟩
    obtain ⟨m', rfl⟩ := hmm
    refine ⟨w.setRow g (cur.toList.take (q * sz) ++ (Builtin.zeroCells z.cells (m' + 1)).toList ++ cur.toList.drop (q * sz + (Builtin.zeroCells z.cells (m' + 1)).toList.length)).toArray, .tuple #[], by simp [Builtin.clear_, run_underlying hT, zeroValue, typeInfo, hi, hz, hst], ?_⟩
    have := SL_mk (xs := xs.take q) (cf := cf) (sz := sz) (cap := cap) (hb.setRow (c' := (cur.toList.take (q * sz) ++ (Builtin.zeroCells z.cells (m' + 1)).toList ++ cur.toList.drop (q * sz + (Builtin.zeroCells z.cells (m' + 1)).toList.length)).toArray)) (by omega) hcm ?_ ?_
    · rw [hql] at this; exact this
    · have hcl : cur.toList.length = cap * sz := by simpa using hcs
      simp only [List.size_toArray, List.length_append, List.length_take, List.length_drop, hcl, hzl, Nat.min_def]
      have := Nat.mul_le_mul_right sz (show q ≤ cap by omega)
      have h3 := Nat.mul_le_mul_right sz (show q + (m' + 1) ≤ cap by omega)
      rw [Nat.add_mul] at h3
      rw [if_pos this]; omega
    · rw [hql, List.append_assoc, List.take_append_of_le_length]
      · rw [List.take_take, Nat.min_self]; exact hqt
      · have hcl : cur.toList.length = cap * sz := by simpa using hcs
        rw [List.length_take, hcl, Nat.min_eq_left (Nat.mul_le_mul_right _ (by omega))]; exact Nat.le_refl _
end
end WB
namespace WB
open Go Go.RowKit
theorem St.swapQ {w0 w : World} {A B : HP} {R R' : List HP} (h : St w0 (A :: R) w) (hq : Pick R B R') : St w0 (A :: B :: R') w := by
  have := h.pick (.tail hq)
  exact this.pick (.tail .head)
theorem St.drop2 {w0 w : World} {A B : HP} {R : List HP} (h : St w0 (A :: B :: R) w) : St w0 (A :: R) w := (h.pick (.tail .head)).drop
end WB
/- the steps of the calculus: what grows, what is moved, elements written -/
namespace WB
open Go Go.RowKit
section
variable {P : Program} {ops : Array Oper} {d : Bool} {Q : Exit → Act → World → Prop} {n : Nat} {D : List Deferred} {w0 : World} {G : Env} {L R R' N : List HP} {l : List (Kd × Oper)} {k : Kd}
  {t : Nat} {op : Op} {ty T T' E E' : TypeId} {pos : String} {af : Array Edge} {x y : Operand} {v u z : Value} {i j : Nat} {a c r : Int} {α : Type} {cf : α → List Value} {sz by' : Nat} {xs ys : List α} {e e' : α}
theorem KO.bs (hk : (!d || (k == .keep || k == .write)) = true) {len : Nat} {parts : Array (Nat × Operand)} (os : List Operand) {vs cs : List Value} (hp : parts.toList = (os.zipIdx 0).map fun x => (x.2, x.1)) (hv : evs G os = some vs) (hT : P.underlying T = some (.slice E))
    (hi : (P.info? E).map (fun i => (i.zero, i.size, i.bytes)) = some (some z, sz, by')) (hsz : vs.all (fun v => v.cells.size == sz) = true) (hlen : vs.length = len) (hs : ¬ len * sz > 2 ^ 24) (hpos : ¬ len * sz = 0) (hcs : (vs.flatMap fun v => v.cells.toList) = cs) (ht : Nat.blt t n = true)
    (h : ∀ bb, KO P ops d Q n D w0 ((t, .slice (some ⟨bb, 0, none⟩) len len) :: G) (blk bb (.cells cs.toArray E (0, 0)) :: L) l) : KO P ops d Q n D w0 G L ((k, ⟨some t, .buildSlice T len parts, ty, pos, af, none⟩) :: l) := by
  obtain ⟨i0, hi1, hz0, hz1, _⟩ := info_parts hi
  refine KO.keepRun hk (F := fun bb => .slice (some ⟨bb, 0, none⟩) len len) (N := fun bb => blk bb (.cells cs.toArray E (0, 0)) :: L) (fun a w ha hw => ⟨w.heap.size, w.alloc (.cells cs.toArray E), ?_, Ext.alloc w _, hw.alloc _⟩) ht h
  have hparts : (parts.map fun (i, x) => (i, a.eval x)).toList = (vs.zipIdx 0).map fun x => (x.2, x.1) := by
    have key : ∀ (os : List Operand) (vs : List Value) (q : Nat), os.map (ev G) = vs.map some → ((os.zipIdx q).map fun x => (x.2, x.1)).map (fun (p : Nat × Operand) => (p.1, a.eval p.2)) = (vs.zipIdx q).map fun x => (x.2, x.1) := by
      intro os
      induction os with
      | nil => intro vs q h; cases vs with | nil => rfl | cons _ _ => simp at h
      | cons o os ih => intro vs q h; cases vs with
        | nil => simp at h
        | cons v vs =>
          simp only [List.map_cons, List.cons.injEq] at h
          simp only [List.zipIdx_cons, List.map_cons, ha.eval h.1]
          rw [ih vs (q + 1) h.2]
    rw [Array.toList_map, hp]
    exact key os vs 0 (evs_map hv)
  have hsp : 0 < sz := Nat.pos_of_ne_zero fun e => hpos (by rw [e, Nat.mul_zero])
  have hf := Great.fill_whole hsp vs ((Array.range (len * sz)).map (z.cells[· % z.cells.size]!)) (fun v hv => by simpa using List.all_eq_true.1 hsz v hv) (by simp [hlen])
  rw [← hz1] at hf hs hpos
  have hr := run_buildSlice (P := P) w T E len (parts.map fun (i, x) => (i, a.eval x)) _ i0 z hT hi1 hz0 hs hpos (by rw [hparts]; exact hf)
  simp only [hcs] at hr
  simp only [execOp, hr, Sem.run_bind, Sem.run_pure, Result.andThen_ok]
/-- append of one element -/
theorem KO.app (hk : (!d || k == .write) = true) {bv cp : Nat} {us : List Value} (hx : ev G x = some v) (hy : ev G y = some (.slice (some ⟨bv, 0, none⟩) 1 cp)) (hp : Pick L (SL E sz cf v xs) R) (hq : Pick R (blk bv (.cells us.toArray E' (0, 0))) R')
    (hT : P.underlying T = some (.slice E)) (hi : (P.info? E).map (fun i => (i.zero, i.size, i.bytes)) = some (some z, sz, by')) (hzs : z.cells.size = sz) (e : α) (he : cf e = us) (hus : us.length = sz) (h1 : us.all Value.oneCell' = true) (hb : xs.length < 1000000000) (hby : by' ≤ 10000) (ht : Nat.blt t n = true)
    (h : ∀ v', KO P ops d Q n D w0 ((t, v') :: G) (SL E sz cf v' (xs ++ [e]) :: R') l) : KO P ops d Q n D w0 G L ((k, ⟨some t, .call ⟨.builtin .append, #[x, y], #[T, T]⟩, ty, pos, af, none⟩) :: l) := by
  obtain ⟨i0, hi1, hz0, hz1, hz2⟩ := info_parts hi
  refine KO.wvE hk (F := fun v' => SL E sz cf v' (xs ++ [e]) :: R') (fun a w ha hw => ?_) ht h
  have hs := hw.pick hp

  have hcells : HasCells w ⟨bv, 0, none⟩ us := by
    have := hs.drop.pick hq
    exact this.hasCells fun j c hj => by simpa using hj
  have hbb : (xs.length + 1) * by' ≤ 140737488355328 := by
    have := Nat.mul_le_mul (show xs.length + 1 ≤ 1000000000 by omega) hby; omega
  obtain ⟨v', w', hr, hst⟩ := append_st (P := P) T ty E i0 z sz by' hT hi1 hz0 hz1 hz2 hzs hs ⟨bv, 0, none⟩ 1 cp us (by rw [hus, Nat.one_mul]) hcells (fun u hu => List.all_eq_true.1 h1 u hu) (by unfold maxLen; omega) hbb
  refine ⟨v', w', exec_append2 x y T T rfl v _ (ha.eval hx) (ha.eval hy) hr, ?_⟩
  have hfin := (hst.swapQ hq).drop2
  show St w0 (osl E sz v' (xs ++ [e]).length ((xs ++ [e]).flatMap cf) :: R') w'
  rw [show (xs ++ [e]).length = xs.length + 1 by simp, show (xs ++ [e]).flatMap cf = xs.flatMap cf ++ us by simp [he]]
  exact hfin
/-- append(s[:k], s[j:]...) -/
theorem KO.move (hk : (!d || k == .write) = true) {g n' cap kk c : Nat} (hx : ev G x = some (.slice (some ⟨g, 0, none⟩) kk cap)) (hy : ev G y = some (.slice (some (cutAt g j sz cap)) (n' - j) c)) (hp : Pick L (SL E sz cf (.slice (some ⟨g, 0, none⟩) n' cap) xs) R) (hn : n' = xs.length) (hnc : n' ≤ cap)
    (hT : P.underlying T = some (.slice E)) (hi : (P.info? E).map (fun i => (i.zero, i.size, i.bytes)) = some (some z, sz, by')) (hsz : ∀ e, (cf e).length = sz) (h1 : ∀ e, (cf e).all Value.oneCell' = true) (hkj : kk ≤ j) (hj : j ≤ xs.length) (ht : Nat.blt t n = true)
    (h : KO P ops d Q n D w0 ((t, .slice (some ⟨g, 0, none⟩) (kk + (n' - j)) cap) :: G) (SL E sz cf (.slice (some ⟨g, 0, none⟩) n' cap) (xs.take kk ++ xs.drop j ++ xs.drop (kk + (n' - j))) :: R) l) :
    KO P ops d Q n D w0 G L ((k, ⟨some t, .call ⟨.builtin .append, #[x, y], #[T, T]⟩, ty, pos, af, none⟩) :: l) := by
  obtain ⟨i0, hi1, hz0, hz1, _⟩ := info_parts hi
  subst hn
  refine KO.wv hk (fun a w ha hw => ?_) ht h
  obtain ⟨w', hr, hs⟩ := SL_move (P := P) (ty := ty) hsz (fun e u hu => List.all_eq_true.1 (h1 e) u hu) hT hi1 hz1 (c := c) (o := (cutAt g j sz cap).off) (hw.pick hp) hkj hj (by
    by_cases hc : cap = j
    · left; omega
    · right; simp [cutAt, hc])
  exact ⟨w', exec_append2 x y T T rfl _ _ (ha.eval hx) (ha.eval hy) hr, hs⟩
/-- clear(s[q:]) -/
theorem KO.clear (hk : (!d || k == .write) = true) {g n' cap q m c : Nat} (hx : ev G x = some (.slice (some (cutAt g q sz cap)) m c)) (hp : Pick L (SL E sz cf (.slice (some ⟨g, 0, none⟩) n' cap) xs) R) (hnc : n' ≤ cap) (hn : n' = xs.length) (hq : q + m ≤ xs.length)
    (hT : P.underlying T = some (.slice E)) (hi : (P.info? E).map (fun i => (i.zero, i.size, i.bytes)) = some (some z, sz, by')) (hsz : ∀ e, (cf e).length = sz) (hz1 : z.cells.toList.all Value.oneCell' = true) (hzs : z.cells.size = sz)
    (h : KO P ops d Q n D w0 G (SL E sz cf (.slice (some ⟨g, 0, none⟩) q cap) (xs.take q) :: R) l) :
    KO P ops d Q n D w0 G L ((k, ⟨none, .call ⟨.builtin .clear, #[x], #[T]⟩, ty, pos, af, none⟩) :: l) := by
  obtain ⟨i0, hi1, hz0, _, _⟩ := info_parts hi
  refine KO.wn hk (fun a w ha hw => ?_) h
  obtain ⟨w', u, hr, hs⟩ := SL_clear (P := P) (ty := ty) hsz hT hi1 hz0 (fun u hu => List.all_eq_true.1 hz1 u hu) hzs (m := m) (c := c) (o := (cutAt g q sz cap).off) (hw.pick hp) hq (by
    by_cases hc : cap = q
    · left; omega
    · right; simp [cutAt, hc])
  refine ⟨w', u, ?_, hs⟩
  have e : a.eval x = .slice (some ⟨g, (cutAt g q sz cap).off, none⟩) m c := ha.eval hx
  simp [execOp, resolve, invoke, builtin, e, hr]
theorem SL_set {w : World} {g cap n' : Nat} {us : List Value} {o : Nat} (hsz : ∀ e, (cf e).length = sz) (hw : St w0 (SL E sz cf (.slice (some ⟨g, 0, none⟩) n' cap) xs :: R) w) (he : xs[i]? = some e) (hfit : j + us.length ≤ sz) (hu : putL j us (cf e) = cf e') (ho : o = i * sz + j)
    (hn : (Go.sizeOf T).run P w = .ok us.length w) (h1 : ∀ u ∈ us, u.oneCell' = true) (hv : v.cells = us.toArray) :
    ∃ w', (storeVar T ⟨g, o, none⟩ v).run P w = .ok () w' ∧ St w0 (SL E sz cf (.slice (some ⟨g, 0, none⟩) n' cap) (xs.set i e') :: R) w' := by
  obtain ⟨rfl, hnc, hcm, cur, hcs, htake, hb⟩ := SL_open hw
  have hi := (List.getElem?_eq_some_iff.1 he).1
  have hei := (List.getElem?_eq_some_iff.1 he).2
  have hile : (i + 1) * sz ≤ xs.length * sz := Nat.mul_le_mul_right _ hi
  have hile2 : xs.length * sz ≤ cap * sz := Nat.mul_le_mul_right _ hnc
  rw [Nat.succ_mul] at hile
  have hcl : cur.toList.length = cap * sz := by simpa using hcs
  have hst := run_store_row (P := P) (T := T) (off := o) (v := v) hb (by simpa [hv] using hn) (by simp [hv, hcs]; omega) (by simpa [hv] using h1)
  simp only [hv] at hst
  refine ⟨_, hst, ?_⟩
  have hlen : (xs.set i e').length = xs.length := by simp
  have := SL_mk (xs := xs.set i e') (cf := cf) (sz := sz) (cap := cap) (hb.setRow (c' := (cur.toList.take o ++ us ++ cur.toList.drop (o + us.length)).toArray)) (by omega) hcm ?_ ?_
  · rw [hlen] at this; exact this
  · simp only [List.size_toArray, List.length_append, List.length_take, List.length_drop, hcl, Nat.min_def]
    rw [if_pos (by omega)]; omega
  · rw [hlen]
    have hset : (xs.set i e').flatMap cf = (xs.take i).flatMap cf ++ cf e' ++ (xs.drop (i + 1)).flatMap cf := by
      rw [List.set_eq_take_append_cons_drop, if_pos hi]; simp
    have hold : xs.flatMap cf = (xs.take i).flatMap cf ++ cf e ++ (xs.drop (i + 1)).flatMap cf := by
      have hsplit : xs = xs.take i ++ e :: xs.drop (i + 1) := by
        rw [← hei, List.getElem_cons_drop, List.take_append_drop]
      conv => lhs; rw [hsplit]
      simp
    have hti : ((xs.take i).flatMap cf).length = i * sz := by rw [flat_len cf sz hsz, List.length_take, Nat.min_eq_left (by omega)]
    rw [hset, ← hu, ← putL_eq j us (cf e) (by rw [hsz]; exact hfit)]
    -- cur's head is the old flat list
    obtain ⟨tl, htl⟩ : ∃ tl, cur.toList = xs.flatMap cf ++ tl := ⟨cur.toList.drop (xs.length * sz), by rw [← htake, List.take_append_drop]⟩
    rw [htl, hold, ho]
    have hcfe := hsz e
    generalize (xs.take i).flatMap cf = A at hti
    generalize hC : (xs.drop (i + 1)).flatMap cf = C
    have hCl : C.length = (xs.length - (i + 1)) * sz := by rw [← hC, flat_len cf sz hsz, List.length_drop]
    have hsum : i * sz + sz + (xs.length - (i + 1)) * sz = xs.length * sz := by
      have : (i + 1) * sz + (xs.length - (i + 1)) * sz = xs.length * sz := by rw [← Nat.add_mul]; congr 1; omega
      rw [Nat.succ_mul] at this; omega
    generalize cf e = B at hcfe
    clear hst hset hold htl hu hsz htake
    have h1 : (A ++ B ++ C ++ tl).take (i * sz + j) = A ++ B.take j := by
      rw [List.append_assoc, List.append_assoc, ← hti, List.take_length_add_append, List.take_append_of_le_length (by omega)]
    have h2 : (A ++ B ++ C ++ tl).drop (i * sz + j + us.length) = B.drop (j + us.length) ++ C ++ tl := by
      rw [List.append_assoc, List.append_assoc, ← hti, Nat.add_assoc, List.drop_length_add_append, List.drop_append_of_le_length (by omega), List.append_assoc]
    rw [h1, h2]
    have e1 : A ++ List.take j B ++ us ++ (List.drop (j + us.length) B ++ C ++ tl) = (A ++ (List.take j B ++ us ++ List.drop (j + us.length) B) ++ C) ++ tl := by simp
    rw [e1, List.take_append_of_le_length (by simp; omega), List.take_of_length_le (by simp; omega)]
/-- a field of an element is written -/
theorem KO.stE (hk : (!d || k == .write) = true) {g n' cap : Nat} {us : List Value} (hx : ev G x = some (.pointer (some ⟨g, i * sz + j, none⟩))) (hy : ev G y = some v) (hv : v.cells = us.toArray) (hn : ∀ w, (Go.sizeOf T).run P w = .ok us.length w) (h1 : us.all Value.oneCell' = true)
    (hp : Pick L (SL E sz cf (.slice (some ⟨g, 0, none⟩) n' cap) xs) R) (hsz : ∀ e, (cf e).length = sz) (he : xs[i]? = some e) (hfit : Nat.ble (j + us.length) sz = true) (e' : α) (hu : putL j us (cf e) = cf e')
    (h : KO P ops d Q n D w0 G (SL E sz cf (.slice (some ⟨g, 0, none⟩) n' cap) (xs.set i e') :: R) l) : KO P ops d Q n D w0 G L ((k, ⟨none, .store T x y, ty, pos, af, none⟩) :: l) :=
  KO.wrRun hk (fun a w ha hw => by
    obtain ⟨w', hr, hs⟩ := SL_set (P := P) (T := T) (v := v) hsz (hw.pick hp) he (by simpa [Nat.ble_eq] using hfit) hu rfl (hn w) (fun u hu => List.all_eq_true.1 h1 u hu) hv
    exact ⟨w', by simp [execOp, ha.eval hx, ha.eval hy, Instr.storeAt, Instr.sureAddr, hr], hs⟩) h
/-- a whole element is written -/
theorem KO.stEN (hk : (!d || k == .write) = true) {g n' cap : Nat} (hx : ev G x = some (.pointer (some ⟨g, i * sz, none⟩))) (e' : α) (hy : ev G y = some (.agg (cf e').toArray)) (hn : ∀ w, (Go.sizeOf T).run P w = .ok sz w) (h1 : ∀ e, (cf e).all Value.oneCell' = true)
    (hp : Pick L (SL E sz cf (.slice (some ⟨g, 0, none⟩) n' cap) xs) R) (hsz : ∀ e, (cf e).length = sz) (he : xs[i]? = some e)
    (h : KO P ops d Q n D w0 G (SL E sz cf (.slice (some ⟨g, 0, none⟩) n' cap) (xs.set i e') :: R) l) : KO P ops d Q n D w0 G L ((k, ⟨none, .store T x y, ty, pos, af, none⟩) :: l) :=
  KO.wrRun hk (fun a w ha hw => by
    obtain ⟨w', hr, hs⟩ := SL_set (P := P) (T := T) (v := .agg (cf e').toArray) (us := cf e') (o := i * sz) (j := 0) (e' := e') hsz (hw.pick hp) he (by rw [hsz]; omega) (by simp [putL, hsz, List.drop_of_length_le]) rfl (by rw [hsz]; exact hn w) (fun u hu => List.all_eq_true.1 (h1 e') u hu) rfl
    exact ⟨w', by simp [execOp, ha.eval hx, ha.eval hy, Instr.storeAt, Instr.sureAddr, hr], hs⟩) h
end
end WB
namespace WB
open Go Go.RowKit
section
variable {P : Program} {f : FuncId} {args : Array Value} {w0 : World} {L R1 R2 R3 : List HP} {A B C : HP} {R : Value → List HP → Prop}
theorem KC.pk1 (p1 : Pick L A R1) (h : KC P f args w0 (A :: R1) R) : KC P f args w0 L R := fun w hw => h w (hw.pick p1)
theorem St.pick2 {w : World} (hw : St w0 L w) (p1 : Pick L A R1) (p2 : Pick R1 B R2) : St w0 (A :: B :: R2) w := (hw.pick p1).swapQ p2
theorem St.pick3 {w : World} (hw : St w0 L w) (p1 : Pick L A R1) (p2 : Pick R1 B R2) (p3 : Pick R2 C R3) : St w0 (A :: B :: C :: R3) w := by
  have h1 := hw.pick2 p1 p2
  have h2 := h1.pick (.tail (.tail p3))
  exact (h2.pick (.tail .head)).pick (.tail (.tail .head)) |>.pick (.tail .head)
theorem KC.pk2 (p1 : Pick L A R1) (p2 : Pick R1 B R2) (h : KC P f args w0 (A :: B :: R2) R) : KC P f args w0 L R := fun w hw => h w (hw.pick2 p1 p2)
theorem KE.pk1 (p1 : Pick L A R1) (h : KE P f args w0 (A :: R1) R) : KE P f args w0 L R := fun w hw => h w (hw.pick p1)
theorem KE.pk2 (p1 : Pick L A R1) (p2 : Pick R1 B R2) (h : KE P f args w0 (A :: B :: R2) R) : KE P f args w0 L R := fun w hw => h w (hw.pick2 p1 p2)
/-- a contract that keeps what was there: the parts stand as they stood -/
theorem KE.keep {v : Value} (h : KE P f args w0 L (fun u _ => u = v)) : KE P f args w0 L (fun u M => u = v ∧ M = L) := fun w hw =>
  (h w hw).mono fun _ _ ⟨u, _, he, hu, _, hb⟩ => ⟨u, L, he, ⟨hu, rfl⟩, hw.below_step hb, hb⟩
end
section
variable {P : Program} {ops : Array Oper} {d : Bool} {Q : Exit → Act → World → Prop} {n : Nat} {D : List Deferred} {w0 : World} {G : Env} {L R : List HP} {A : HP} {l : List (Kd × Oper)} {k : Kd}
  {t : Nat} {ty T : TypeId} {pos : String} {af : Array Edge} {v : Value} {c : Code} {e : Exit}
theorem K.pk (hp : Pick L A R) (h : K P c Q n D w0 G (A :: R)) : K P c Q n D w0 G L := K.conv (fun _ hw => hw.pick hp) h
theorem KO.pk (hp : Pick L A R) (h : KO P ops d Q n D w0 G (A :: R) l) : KO P ops d Q n D w0 G L l := KO.conv (fun _ hw => hw.pick hp) h
theorem KQ.pk (hp : Pick L A R) (h : KQ Q e n D w0 G (A :: R)) : KQ Q e n D w0 G L := KQ.conv (fun _ hw => hw.pick hp) h
theorem K.dropP (hp : Pick L A R) (h : K P c Q n D w0 G R) : K P c Q n D w0 G L := K.conv (fun _ hw => (hw.pick hp).drop) h
theorem KO.bld {parts : Array (Nat × Operand)} {vs : List Value} (hv : evs G (parts.toList.map (·.2)) = some vs) (hr : ∀ w, (Instr.build T ((parts.toList.map (·.1)).zip vs).toArray).run P w = .ok v w) (ht : Nat.blt t n = true)
    (h : KO P ops d Q n D w0 ((t, v) :: G) L l) : KO P ops d Q n D w0 G L ((k, ⟨some t, .build T parts, ty, pos, af, none⟩) :: l) :=
  KO.val (fun a w ha => by
    have key : ∀ (ps : List (Nat × Operand)) (vs : List Value), (ps.map (·.2)).map (ev G) = vs.map some → ps.map (fun (p : Nat × Operand) => (p.1, a.eval p.2)) = (ps.map (·.1)).zip vs := by
      intro ps
      induction ps with
      | nil => intro vs h; cases vs with | nil => rfl | cons _ _ => simp at h
      | cons p ps ih => intro vs h; cases vs with
        | nil => simp at h
        | cons v vs =>
          simp only [List.map_cons, List.cons.injEq] at h
          simp only [List.map_cons, List.zip_cons_cons, ha.eval h.1, ih vs h.2]
    have e : parts.map (fun (i, x) => (i, a.eval x)) = ((parts.toList.map (·.1)).zip vs).toArray := by
      apply Array.ext'
      rw [Array.toList_map]
      exact key _ _ (evs_map hv)
    simp only [execOp, e, hr w, Sem.run_bind, Sem.run_pure, Result.andThen_ok]) ht h
end
end WB
namespace WB
open Go Go.RowKit
def bldL (pl : List (Nat × Nat)) : List Value → List (Nat × Value) → Option (List Value)
  | cs, [] => some cs
  | cs, (i, v) :: rest => match pl[i]? with
    | some (off, size) => match (Nat.beq v.cells.toList.length size && Nat.ble (off + v.cells.toList.length) cs.length) with | true => bldL pl (putL off v.cells.toList cs) rest | false => none
    | none => none
theorem putL_len : ∀ (i : Nat) (us cs : List Value), i + us.length ≤ cs.length → (putL i us cs).length = cs.length := fun i us cs h => by
  rw [← putL_eq i us cs h]; simp; omega
theorem fill_bldL (pl : List (Nat × Nat)) (place : Nat → Option (Nat × Nat)) (hpl : ∀ i, place i = pl[i]?) : ∀ (parts : List (Nat × Value)) (cs cs' : List Value), bldL pl cs parts = some cs' → Instr.fill place cs.toArray parts = some cs'.toArray
  | [], cs, cs', h => by simp only [bldL, Option.some.injEq] at h; subst h; rfl
  | (i, v) :: rest, cs, cs', h => by
    unfold bldL at h
    cases hp : pl[i]? with
    | none => rw [hp] at h; simp at h
    | some os =>
      obtain ⟨off, size⟩ := os
      rw [hp] at h
      simp only at h
      cases hb : (Nat.beq v.cells.toList.length size && Nat.ble (off + v.cells.toList.length) cs.length) with
      | false => rw [hb] at h; simp at h
      | true =>
        rw [hb] at h
        simp only at h
        simp only [Bool.and_eq_true] at hb
        have h1 : v.cells.toList.length = size := Nat.eq_of_beq_eq_true hb.1
        have h2 : off + v.cells.toList.length ≤ cs.length := Nat.le_of_ble_eq_true hb.2
        unfold Instr.fill
        rw [hpl i, hp]
        simp only
        rw [if_neg (by simp only [Array.length_toList] at h1 h2; simp; omega)]
        have hset : (v.cells.zipIdx.foldl (fun cs (x : Value × Nat) => cs.setIfInBounds (off + x.2) x.1) cs.toArray) = (putL off v.cells.toList cs).toArray := by
          have e0 : v.cells.zipIdx.foldl (fun cs (x : Value × Nat) => cs.setIfInBounds (off + x.2) x.1) cs.toArray = (v.cells.toList.zipIdx 0).foldl (fun cs (x : Value × Nat) => cs.setIfInBounds (off + x.2) x.1) cs.toArray := by
            rw [← Array.foldl_toList]; simp
          obtain ⟨g1, g2⟩ := Great.foldl_set off v.cells.toList 0 cs.toArray
          rw [e0]
          apply Array.ext_getElem?
          intro q
          rw [g2 q]
          simp only [List.getElem?_toArray, List.size_toArray, Nat.add_zero]
          rw [← putL_eq off _ cs h2]
          by_cases hq : off ≤ q ∧ q < off + v.cells.toList.length ∧ q < cs.length
          · rw [if_pos hq, List.append_assoc, List.getElem?_append_right (by rw [List.length_take]; omega), List.length_take, Nat.min_eq_left (by omega), List.getElem?_append_left (by omega)]
          · rw [if_neg hq, List.append_assoc]
            by_cases hq1 : q < off
            · rw [List.getElem?_append_left (by rw [List.length_take]; omega), List.getElem?_take, if_pos hq1]
            · rw [List.getElem?_append_right (by rw [List.length_take]; omega), List.length_take, Nat.min_eq_left (by omega)]
              by_cases hq2 : q < cs.length
              · have h3 : off + v.cells.toList.length ≤ q := Nat.not_lt.1 fun h4 => hq ⟨by omega, h4, hq2⟩
                rw [List.getElem?_append_right (by omega), List.getElem?_drop]
                congr 1; omega
              · rw [List.getElem?_eq_none (by omega), List.getElem?_append_right (by omega), List.getElem?_eq_none (by rw [List.length_drop]; omega)]
        show Instr.fill place (v.cells.zipIdx.foldl (fun cs (x : Value × Nat) => cs.setIfInBounds (off + x.2) x.1) cs.toArray) rest = _
        rw [hset]
        exact fill_bldL pl place hpl rest _ _ h
section
variable {P : Program} {ops : Array Oper} {d : Bool} {Q : Exit → Act → World → Prop} {n : Nat} {D : List Deferred} {w0 : World} {G : Env} {L R : List HP} {l : List (Kd × Oper)} {k : Kd} {t : Nat} {ty T : TypeId} {pos : String} {af : Array Edge} {v z : Value}
theorem KO.bldS {parts : Array (Nat × Operand)} {vs : List Value} {fs : Array Field} {pl : List (Nat × Nat)} (cs : List Value) (hv : evs G (parts.toList.map (·.2)) = some vs) (hz : ∀ w, (zeroValue T).run P w = .ok z w) (hu : ∀ w, (underlying T).run P w = .ok (.struct fs) w)
    (hpl : ∀ w, (fs.mapM fun (f : Field) => (do pure (f.offset, ← Go.sizeOf f.type) : Sem (Nat × Nat))).run P w = .ok pl.toArray w) (hb : bldL pl z.cells.toList ((parts.toList.map (·.1)).zip vs) = some cs) (ht : Nat.blt t n = true)
    (h : KO P ops d Q n D w0 ((t, .agg cs.toArray) :: G) L l) : KO P ops d Q n D w0 G L ((k, ⟨some t, .build T parts, ty, pos, af, none⟩) :: l) :=
  KO.bld hv (fun w => by
    have := fill_bldL pl (fun x => pl[x]?) (fun i => rfl) _ _ _ hb
    simp only [Array.toArray_toList] at this
    simp only [Instr.build, hz w, hu w, Sem.run_bind, Result.andThen_ok]
    rw [hpl w]
    simp [this]) ht h
end
end WB
namespace WB
open Go Go.RowKit
section
variable {P : Program} {ops : Array Oper} {d : Bool} {Q : Exit → Act → World → Prop} {n : Nat} {D : List Deferred} {w0 : World} {G : Env} {L R : List HP} {l : List (Kd × Oper)} {k : Kd} {t : Nat} {ty T : TypeId} {pos : String} {af : Array Edge} {v z : Value}
/-- as KO.bldS, the cells found by reckoning -/
theorem KO.bldN {parts : Array (Nat × Operand)} {vs : List Value} {fs : Array Field} {pl : List (Nat × Nat)} {cs : List Value} (hv : evs G (parts.toList.map (·.2)) = some vs) (hz : ∀ w, (zeroValue T).run P w = .ok z w) (hu : ∀ w, (underlying T).run P w = .ok (.struct fs) w)
    (hpl : ∀ w, (fs.mapM fun (f : Field) => (do pure (f.offset, ← Go.sizeOf f.type) : Sem (Nat × Nat))).run P w = .ok pl.toArray w) (hb : bldL pl z.cells.toList ((parts.toList.map (·.1)).zip vs) = some cs) (ht : Nat.blt t n = true)
    (h : KO P ops d Q n D w0 ((t, .agg cs.toArray) :: G) L l) : KO P ops d Q n D w0 G L ((k, ⟨some t, .build T parts, ty, pos, af, none⟩) :: l) := KO.bldS cs hv hz hu hpl hb ht h
end
end WB
namespace WB
open Go Go.RowKit
section
variable {P : Program} {ops : Array Oper} {d : Bool} {Q : Exit → Act → World → Prop} {n : Nat} {D : List Deferred} {w0 : World} {G : Env} {L R : List HP} {l : List (Kd × Oper)} {k : Kd} {t : Nat} {ty T E : TypeId} {pos : String} {af : Array Edge} {v : Value} {x y : Operand}
/-- a whole block is written -/
theorem KO.sto0 {b : Nat} {cs us : List Value} (hk : (!d || k == .write) = true) (hx : ev G x = some (.pointer (some ⟨b, 0, none⟩))) (hy : ev G y = some v) (hv : v.cells = us.toArray) (hn : ∀ w, (Go.sizeOf T).run P w = .ok us.length w) (h1 : us.all Value.oneCell' = true)
    (hp : Pick L (blk b (.cells cs.toArray E (0, 0))) R) (hfit : Nat.beq us.length cs.length = true) (h : KO P ops d Q n D w0 G (blk b (.cells us.toArray E (0, 0)) :: R) l) :
    KO P ops d Q n D w0 G L ((k, ⟨none, .store T x y, ty, pos, af, none⟩) :: l) :=
  have e : us.length = cs.length := Nat.eq_of_beq_eq_true hfit
  KO.sto hk hx hy hv hn h1 hp (Nat.ble_eq_true_of_le (by omega)) (by rw [putL, e, List.drop_length, List.append_nil]) h
end
end WB
namespace WB
open Go Go.RowKit
section
variable {P : Program} {ops : Array Oper} {d : Bool} {Q : Exit → Act → World → Prop} {n : Nat} {D : List Deferred} {w0 : World} {G : Env} {L R : List HP} {l : List (Kd × Oper)} {k : Kd} {t : Nat} {ty T E : TypeId} {pos : String} {af : Array Edge} {v z : Value} {x y : Operand} {sz by' : Nat}
theorem KO.bs1 (hk : (!d || (k == .keep || k == .write)) = true) {cs : List Value} (hv : ev G x = some v) (hT : P.underlying T = some (.slice E))
    (hi : (P.info? E).map (fun i => (i.zero, i.size, i.bytes)) = some (some z, sz, by')) (hc : v.cells = cs.toArray) (hsz : cs.length = sz) (hs : ¬ 1 * sz > 2 ^ 24) (hpos : ¬ 1 * sz = 0) (ht : Nat.blt t n = true)
    (h : ∀ bb, KO P ops d Q n D w0 ((t, .slice (some ⟨bb, 0, none⟩) 1 1) :: G) (blk bb (.cells cs.toArray E (0, 0)) :: L) l) : KO P ops d Q n D w0 G L ((k, ⟨some t, .buildSlice T 1 #[(0, x)], ty, pos, af, none⟩) :: l) :=
  KO.bs hk [x] rfl (vs := [v]) (by simp [evs, hv]) hT hi (by simp [hc, hsz]) rfl hs hpos (by simp [hc]) ht h
/-- of one-cell elements -/
theorem KO.bsF (hk : (!d || (k == .keep || k == .write)) = true) {len : Nat} {parts : Array (Nat × Operand)} (os : List Operand) {vs : List Value} (hp : parts.toList = (os.zipIdx 0).map fun x => (x.2, x.1)) (hv : evs G os = some vs) (hT : P.underlying T = some (.slice E))
    (hi : (P.info? E).map (fun i => (i.zero, i.size, i.bytes)) = some (some z, 1, by')) (hsz : vs.all (fun v => v.cells.size == 1) = true) (hlen : vs.length = len) (hs : ¬ len * 1 > 2 ^ 24) (hpos : ¬ len * 1 = 0) (hcs : (vs.flatMap fun v => v.cells.toList) = vs) (ht : Nat.blt t n = true)
    (h : ∀ bb, KO P ops d Q n D w0 ((t, .slice (some ⟨bb, 0, none⟩) len len) :: G) (blk bb (.cells vs.toArray E (0, 0)) :: L) l) : KO P ops d Q n D w0 G L ((k, ⟨some t, .buildSlice T len parts, ty, pos, af, none⟩) :: l) :=
  KO.bs hk os hp hv hT hi hsz hlen hs hpos hcs ht h
end
end WB
namespace WB
open Go
/-- what is left when parts are forgotten -/
inductive LSub : List HP → List HP → Prop
  | refl {L : List HP} : LSub L L
  | drop {A : HP} {L M : List HP} : LSub L M → LSub L (A :: M)
theorem St.gc {w0 w : World} {L M : List HP} (h : St w0 M w) (hs : LSub L M) : St w0 L w := by
  induction hs with
  | refl => exact h
  | drop _ ih => exact ih h.drop
theorem St.under {w0 w : World} {A : HP} {L M : List HP} (f : ∀ w, St w0 M w → St w0 L w) (h : St w0 (A :: M) w) : St w0 (A :: M) w := h
theorem St.mapTail {w0 w : World} {A : HP} {L M : List HP} (f : ∀ h, seps M h → ∃ h1 h2, Disj h1 h2 ∧ h = uni h1 h2 ∧ seps L h2) (h : St w0 (A :: M) w) : St w0 (A :: L) w := by
  obtain ⟨x, hx, h1, h2, d, rfl, a, b⟩ := h.own
  obtain ⟨g1, g2, d2, rfl, c⟩ := f h2 b
  rw [disj_uni'] at d
  refine { h with own := ⟨uni h1 g2, fun k o hk => hx k o ?_, h1, g2, d.2, rfl, a, c⟩ }
  simp only [uni] at hk ⊢
  cases e1 : h1 k with
  | some v => rw [e1] at hk; simpa using hk
  | none =>
    rw [e1] at hk
    simp only [Option.none_or] at hk ⊢
    rcases d2 k with e | e
    · rw [e]; simpa using hk
    · rw [e] at hk; simp at hk
theorem LSub.seps {L M : List HP} (hs : LSub L M) : ∀ h, WB.seps M h → ∃ h1 h2, Disj h1 h2 ∧ h = uni h1 h2 ∧ WB.seps L h2 := by
  induction hs with
  | refl => exact fun h hh => ⟨fun _ => none, h, fun _ => .inl rfl, (uni_emp fun _ => rfl).symm, hh⟩
  | drop _ ih =>
    rintro h ⟨h1, h2, d, rfl, _, b⟩
    obtain ⟨g1, g2, d2, rfl, c⟩ := ih h2 b
    rw [disj_uni'] at d
    refine ⟨uni h1 g1, g2, disj_uni.2 ⟨d.2, d2⟩, (uni_assoc _ _ _).symm, c⟩
theorem St.gc1 {w0 w : World} {A : HP} {L M : List HP} (h : St w0 (A :: M) w) (hs : LSub L M) : St w0 (A :: L) w := h.mapTail hs.seps
theorem St.gc2 {w0 w : World} {A B : HP} {L M : List HP} (h : St w0 (A :: B :: M) w) (hs : LSub L M) : St w0 (A :: B :: L) w := ((h.join).gc1 hs).split
theorem St.gc3 {w0 w : World} {A B C : HP} {L M : List HP} (h : St w0 (A :: B :: C :: M) w) (hs : LSub L M) : St w0 (A :: B :: C :: L) w := ((h.join).gc2 hs).split
end WB
/- the steps of the calculus: results that lie in memory -/
namespace WB
open Go Go.RowKit
section
variable {P : Program} {fn : Func} {R : Ending → World → Prop} {n : Nat} {w0 : World} {G : Env} {L M : List HP} {v v1 v2 v3 : Value} {t t1 t2 t3 : Nat} {T E : TypeId} {b : Nat} {cs : List Value} {fz : Nat × Nat}
theorem resC (h1 : envAt G t1 = some (.pointer (some ⟨b, 0, none⟩))) (hT : ∀ w, (isAgg T).run P w = .ok true w) (hn : ∀ w, (Go.sizeOf T).run P w = .ok cs.length w) (hp : Pick L (blk b (.cells cs.toArray E fz)) M) (a : Act) (w : World) (ha : Knows n [] G a) (hw : St w0 L w) :
    (loadVar T ⟨b, 0, none⟩).run P w = .ok (.agg cs.toArray) w := by
  refine run_load_agg (hT w) (hn w) fun j c hj => ?_
  rw [Addr.add_lit, World.cell?, (hw.lookP hp).2]
  simpa using hj
theorem KQ.retCT (hr : fn.results = #[.cell t1 T, .tmp t2]) (h1 : envAt G t1 = some (.pointer (some ⟨b, 0, none⟩))) (hT : ∀ w, (isAgg T).run P w = .ok true w) (hp : Pick L (blk b (.cells cs.toArray E fz)) M) (hn : ∀ w, (Go.sizeOf T).run P w = .ok cs.length w)
    (h2 : envAt G t2 = some v2) (h : ∀ w, St w0 L w → R (.returned (.tuple #[.agg cs.toArray, v2])) w) : KQ (bodyPost P fn R) .ret n [] w0 G L :=
  KQ.fin (fun a w ha hw => by
    have hl := resC (P := P) h1 hT hn hp a w ha hw
    simp [results, hr, Array.getD_eq_getD_getElem?, ha.get _ _ h1, ha.get _ _ h2, asAddr, hl]) h
theorem KQ.retC (hr : fn.results = #[.cell t1 T]) (h1 : envAt G t1 = some (.pointer (some ⟨b, 0, none⟩))) (hT : ∀ w, (isAgg T).run P w = .ok true w) (hp : Pick L (blk b (.cells cs.toArray E fz)) M) (hn : ∀ w, (Go.sizeOf T).run P w = .ok cs.length w)
    (h : ∀ w, St w0 L w → R (.returned (.agg cs.toArray)) w) : KQ (bodyPost P fn R) .ret n [] w0 G L :=
  KQ.fin (fun a w ha hw => by
    have hl := resC (P := P) h1 hT hn hp a w ha hw
    simp [results, hr, Array.getD_eq_getD_getElem?, ha.get _ _ h1, asAddr, hl]) h
end
theorem KC.of_KE {P : Program} {f : FuncId} {args : Array Value} {w0 : World} {L : List HP} {R : Value → List HP → Prop} (h : KE P f args w0 L R) : KC P f args w0 L R := h.kc
end WB
namespace WB
open Go Go.RowKit
/-- parts over parts -/
theorem St.stack {w0 w w' : World} {L M : List HP} (hw : St w0 L w) (hs : St w M w') : St w0 (M ++ L) w' := by
  refine ⟨hs.os.trans hw.os, hs.tape.trans hw.tape, hs.output.trans hw.output, Nat.le_trans hw.size hs.size, fun k hk => ?_, ?_⟩
  · rw [hs.block k (Nat.lt_of_lt_of_le hk hw.size)]; exact hw.block k hk
  · obtain ⟨h1, hh1, s1⟩ := hw.own
    obtain ⟨h2, hh2, s2⟩ := hs.own
    have hlt : ∀ k o, h1 k = some o → k < w.heap.size := fun k o hk => (Array.getElem?_eq_some_iff.1 (hh1 k o hk).2).1
    refine ⟨uni h2 h1, fun k o hk => ?_, seps_append.2 ⟨h2, h1, fun k => ?_, rfl, s2, s1⟩⟩
    · simp only [uni] at hk
      cases e2 : h2 k with
      | some v =>
        rw [e2] at hk; simp only [Option.some_or, Option.some.injEq] at hk; subst hk
        exact ⟨Nat.le_trans hw.size (hh2 k v e2).1, (hh2 k v e2).2⟩
      | none =>
        rw [e2] at hk; simp only [Option.none_or] at hk
        exact ⟨(hh1 k o hk).1, by rw [hs.block k (hlt k o hk)]; exact (hh1 k o hk).2⟩
    · cases e1 : h1 k with
      | none => exact .inr rfl
      | some o =>
        left
        cases e2 : h2 k with
        | none => rfl
        | some v => have h3 := (hh2 k v e2).1; have h4 := hlt k o e1; omega
theorem SL_nil {w0 w : World} {L : List HP} {α : Type} {E : TypeId} {sz : Nat} {cf : α → List Value} (h : St w0 L w) : St w0 (SL E sz cf (.slice none 0 0) ([] : List α) :: L) w := h.osl_nil
end WB
/- messages, and messages in line: plain data -/
namespace WB
open Go Go.RowKit
structure Ms where
  id : Int
  pri : Int
  body : ByteArray
  queue : ByteArray
  house : Int
instance : Inhabited Ms := ⟨⟨0, 0, ⟨#[]⟩, ⟨#[]⟩, 0⟩⟩
def msC (m : Ms) : List Value := [.int .i64 m.id, .int .i64 m.pri, .string m.body, .string m.queue, .int .i64 m.house]
structure It where
  m : Ms
  line : Int
  put : Int
  got : Int
instance : Inhabited It := ⟨⟨default, 0, 0, 0⟩⟩
def itC (x : It) : List Value := [.int .i64 x.m.id, .int .i64 x.m.pri, .string x.m.body, .string x.m.queue, .int .i64 x.m.house, .int .i64 x.line, .int .i64 x.put, .int .i64 x.got]
def compI (p q x y : Int) : Int := if p ≠ q then q - p else x - y
/-- numbers that no reckoning with them outgrows -/
def small (a : Int) : Prop := -1152921504606846976 ≤ a ∧ a ≤ 1152921504606846976
end WB
namespace WB
open Go Go.RowKit
def cmpIt (a b : It) : Int := compI a.m.pri b.m.pri a.line b.line
structure Qu where
  l : List It
  next : Int
instance : Inhabited Qu := ⟨⟨[], 0⟩⟩
def smallIt (e : It) : Prop := small e.m.pri ∧ small e.line
/-- what a search wants -/
def MonoIt (l : List It) (x : It) : Prop := ∀ (p q : Nat) (a b : It), p ≤ q → l[p]? = some a → l[q]? = some b → cmpIt b x < 0 → cmpIt a x < 0
structure SrchIt (l : List It) (x : It) (k : Nat) : Prop where
  le : k ≤ l.length
  lo : ∀ (p : Nat) (a : It), p < k → l[p]? = some a → cmpIt a x < 0
  hi : ∀ (p : Nat) (a : It), k ≤ p → l[p]? = some a → 0 ≤ cmpIt a x
def hitIt (l : List It) (x : It) (k : Nat) : Bool := match l[k]? with | some a => decide (cmpIt a x = 0) | none => false
def srchIt (l : List It) (x : It) : Nat := (l.takeWhile fun e => decide (cmpIt e x < 0)).length
theorem srchIt_eq : ∀ {l : List It} {x : It} {k : Nat}, SrchIt l x k → k = srchIt l x
  | [], x, k, h => by have := h.le; simp at this; subst this; rfl
  | a :: l, x, k, h => by
    unfold srchIt
    by_cases hx : cmpIt a x < 0
    · simp only [List.takeWhile_cons, hx, decide_true, if_true, List.length_cons]
      cases k with
      | zero => exact absurd hx (Int.not_lt.2 (h.hi 0 a (Nat.le_refl _) (by simp)))
      | succ k =>
        have : SrchIt l x k := ⟨by have := h.le; simp at this; omega, fun p b hp hb => h.lo (p + 1) b (by omega) (by simpa using hb), fun p b hp hb => h.hi (p + 1) b (by omega) (by simpa using hb)⟩
        rw [srchIt_eq this]; rfl
    · simp only [List.takeWhile_cons, hx, decide_false]
      cases k with
      | zero => rfl
      | succ k => exact absurd (h.lo 0 a (by omega) (by simp)) hx
theorem srchIt_le (l : List It) (x : It) : srchIt l x ≤ l.length := (List.takeWhile_prefix _).length_le
end WB
namespace WB
open Go Go.RowKit
def qitem (q : Qu) (m : Ms) (u : Int) : It := ⟨m, q.next, max u (-1), -1⟩
def qpush (q : Qu) (m : Ms) (u : Int) : Qu := ⟨q.l.take (srchIt q.l (qitem q m u)) ++ qitem q m u :: q.l.drop (srchIt q.l (qitem q m u)), q.next + 1⟩
/-- what the searches in a queue want -/
structure QuOk (q : Qu) : Prop where
  len : q.l.length < 900000
  small : ∀ e ∈ q.l, smallIt e
  next : 0 ≤ q.next ∧ q.next < 1000000
  mono : ∀ m u, MonoIt q.l (qitem q m u)
def availB (e : It) : Bool := decide (e.put < 0) && decide (e.got < 0)
def qthere (q : Qu) : List Ms := (q.l.filter availB).map (·.m)
def qkept (q : Qu) : List Ms := (q.l.filter fun e => decide (e.put < 0)).map (·.m)
def idB (id : Int) (e : It) : Bool := decide (e.m.id = id)
def qhas (q : Qu) (id : Int) : Bool := q.l.any (idB id)
end WB
namespace WB
open Go Go.RowKit
def msRight (m : Ms) : Bool := decide (0 ≤ m.id) && (decide (m.id ≤ 1099511627776) && (decide (0 ≤ m.pri) && (decide (m.pri ≤ 9) && (bodyB m.body && (wordB m.queue && (decide (0 ≤ m.house) && decide (m.house < 4)))))))
theorem msRight_parts {m : Ms} (h : msRight m = true) : 0 ≤ m.id ∧ m.id ≤ 1099511627776 ∧ 0 ≤ m.pri ∧ m.pri ≤ 9 ∧ bodyB m.body = true ∧ wordB m.queue = true ∧ 0 ≤ m.house ∧ m.house < 4 := by
  unfold msRight at h
  simp only [Bool.and_eq_true, decide_eq_true_eq] at h
  exact h
/-- what Put answers: the error's number, and the queue then -/
def qputE (q : Qu) (m : Ms) : Int := if msRight m = false then 1 else if qhas q m.id = true then 9 else if 20 ≤ q.l.length then 12 else 0
def qput (q : Qu) (m : Ms) (u : Int) : Qu := if qputE q m = 0 then qpush q m u else q
def qgetI (q : Qu) : Option Nat := q.l.findIdx? availB
def qtakeI (q : Qu) (id : Int) : Option Nat := q.l.findIdx? (idB id)
def itAt (l : List It) (k : Nat) : It := l.getD k default
def zeroMs : Ms := ⟨0, 0, ⟨#[]⟩, ⟨#[]⟩, 0⟩
def qget (q : Qu) (u : Int) : Qu := match qgetI q with | none => q | some k => if u < 0 then ⟨q.l.eraseIdx k, q.next⟩ else ⟨q.l.set k { itAt q.l k with got := u }, q.next⟩
def qgetM (q : Qu) : Ms := match qgetI q with | none => zeroMs | some k => (itAt q.l k).m
def qgetE (q : Qu) : Int := match qgetI q with | none => 8 | some _ => 0
def qtake (q : Qu) (id : Int) : Qu := match qtakeI q id with | none => q | some k => ⟨q.l.eraseIdx k, q.next⟩
def qtakeM (q : Qu) (id : Int) : Ms := match qtakeI q id with | none => zeroMs | some k => (itAt q.l k).m
def qtakeE (q : Qu) (id : Int) : Int := match qtakeI q id with | none => 7 | some _ => 0
def endB (u : Int) (back : Bool) (x : It) : Bool := (decide (x.put = u) && back) || (decide (x.got = u) && !back)
def freeIt (u : Int) (x : It) : It := { x with put := if x.put = u then -1 else x.put, got := if x.got = u then -1 else x.got }
def qends (q : Qu) (u : Int) (back : Bool) : Qu := if u < 0 then q else ⟨(q.l.filter fun e => !endB u back e).map (freeIt u), q.next⟩
theorem itAt_of {l : List It} {k : Nat} {e : It} (h : l[k]? = some e) : itAt l k = e := by simp [itAt, List.getD_eq_getElem?_getD, h]
end WB
/- the steps of the calculus: structs compared, errors asked for, slices that came in -/
namespace WB
open Go Go.RowKit
deriving instance DecidableEq for Ms
section
variable {P : Program} {w : World} {d : Nat} {xs ys : Array Value} {f : Field} {fs : List Field} {r : Bool}
theorem part_one {T : TypeId} {off : Nat} {v : Value} (ha : (isAgg T).run P w = .ok false w) (hx : xs[off]? = some v) : (part T xs off).run P w = .ok v w := by
  simp [part, ha, hx]
theorem eqF_int {k : IntKind} {a c : Int} (hn : f.name ≠ "_") (hu : P.underlying f.type = some (.int k)) (hT : (isAgg f.type).run P w = .ok false w) (hx : xs[f.offset]? = some (.int k a)) (hy : ys[f.offset]? = some (.int k c)) (h : (Op.eqFields (d + 1) xs ys fs).run P w = .ok r w) :
    (Op.eqFields (d + 1) xs ys (f :: fs)).run P w = .ok (decide (a = c) && r) w := by
  simp only [Op.eqFields, if_pos hn, Sem.run_bind, part_one hT hx, part_one hT hy, Result.andThen_ok, run_equalIn_int w d _ _ k a c hu]
  by_cases e : a = c
  · subst e; simp [h]
  · simp [e]
theorem eqF_str {a c : ByteArray} (hn : f.name ≠ "_") (hu : P.underlying f.type = some .string) (hT : (isAgg f.type).run P w = .ok false w) (hx : xs[f.offset]? = some (.string a)) (hy : ys[f.offset]? = some (.string c)) (h : (Op.eqFields (d + 1) xs ys fs).run P w = .ok r w) :
    (Op.eqFields (d + 1) xs ys (f :: fs)).run P w = .ok (decide (a = c) && r) w := by
  simp only [Op.eqFields, if_pos hn, Sem.run_bind, part_one hT hx, part_one hT hy, Result.andThen_ok, run_equalIn_string w d _ _ _ hu, toList_eq_iff]
  by_cases e : a = c
  · subst e; simp [h]
  · simp [e]
theorem eqF_nil : (Op.eqFields d xs ys []).run P w = .ok true w := by simp [Op.eqFields]
theorem ms_bools (a b : Ms) : (decide (a.id = b.id) && (decide (a.pri = b.pri) && (decide (a.body = b.body) && (decide (a.queue = b.queue) && (decide (a.house = b.house) && true))))) = decide (a = b) := by
  obtain ⟨a1, a2, a3, a4, a5⟩ := a
  obtain ⟨b1, b2, b3, b4, b5⟩ := b
  rw [Bool.eq_iff_iff]; simp
end
/-- these parts, in this order, and no others -/
inductive PAll : List HP → List HP → Prop
  | nil {L : List HP} : PAll L []
  | cons {L R M : List HP} {A : HP} (p : Pick L A R) (h : PAll R M) : PAll L (A :: M)
theorem PAll.drop {A : HP} {L M : List HP} (h : PAll L M) : PAll (A :: L) M := by
  induction h with
  | nil => exact .nil
  | cons p _ ih => exact .cons (.tail p) ih
theorem PAll.refl : ∀ {L : List HP}, PAll L L
  | [] => .nil
  | _ :: _ => .cons .head PAll.refl
theorem PAll.seps {L M : List HP} (h : PAll L M) : ∀ x, WB.seps L x → ∃ h1 h2, Disj h1 h2 ∧ x = uni h1 h2 ∧ WB.seps M h2 := by
  induction h with
  | nil => exact fun x _ => ⟨x, fun _ => none, fun _ => .inr rfl, by rw [uni_comm (fun _ => .inr rfl), uni_emp fun _ => rfl], fun _ => rfl⟩
  | cons p _ ih =>
    intro x hx
    obtain ⟨h1, h2, d, rfl, a, b⟩ := p.seps hx
    obtain ⟨g1, g2, d2, rfl, c⟩ := ih h2 b
    rw [disj_uni'] at d
    refine ⟨g1, uni h1 g2, disj_uni'.2 ⟨d.1.symm, d2⟩, ?_, h1, g2, d.2, rfl, a, c⟩
    rw [← uni_assoc, ← uni_assoc, uni_comm d.1]
theorem St.all {w0 w : World} {L M : List HP} (hw : St w0 L w) (h : PAll L M) : St w0 M w := by
  obtain ⟨x, hx, hs⟩ := hw.own
  obtain ⟨h1, h2, d, rfl, hm⟩ := h.seps x hs
  refine { hw with own := ⟨h2, fun k o hk => hx k o ?_, hm⟩ }
  rw [uni_comm d]
  unfold uni; rw [hk]; rfl
/-- what is left of a number by a small one -/
def pk (a n : Int) : Int := (a % 18446744073709551616) % n
theorem pk_lt (a : Int) {n : Int} (h1 : 1 ≤ n) : 0 ≤ pk a n ∧ pk a n < n := ⟨Int.emod_nonneg _ (by omega), Int.emod_lt_of_pos _ (by omega)⟩
section
variable {P : Program} {ops : Array Oper} {d : Bool} {Q : Exit → Act → World → Prop} {n : Nat} {D : List Deferred} {w0 : World} {G : Env} {L R : List HP} {l : List (Kd × Oper)} {k : Kd}
  {t : Nat} {op : Op} {ty T T' E EN : TypeId} {pos : String} {af : Array Edge} {x y z : Operand} {v u : Value} {b : Bool} {i off : Nat} {a c r : Int} {ad : Addr} {kk : IntKind}
theorem KO.eqA {xs ys : Array Value} (hx : ev G x = some (.agg xs)) (hy : ev G y = some (.agg ys)) (hg : P.eqGuardType P.depth T = false) (hr : ∀ w, (Op.equalIn 10000 T (.agg xs) (.agg ys)).run P w = .ok b w) (ht : Nat.blt t n = true) (h : KO P ops d Q n D w0 ((t, .bool b) :: G) L l) :
    KO P ops d Q n D w0 G L ((k, ⟨some t, .binOp .eql T x y T', ty, pos, af, none⟩) :: l) :=
  KO.val (fun a w ha => by simp [execOp, ha.eval hx, ha.eval hy, run_eqGuard_agg w _ _ _ _ _ _ hg, run_eql_struct, hr w]) ht h
theorem KO.neA {xs ys : Array Value} (hx : ev G x = some (.agg xs)) (hy : ev G y = some (.agg ys)) (hg : P.eqGuardType P.depth T = false) (hr : ∀ w, (Op.equalIn 10000 T (.agg xs) (.agg ys)).run P w = .ok b w) (ht : Nat.blt t n = true) (h : KO P ops d Q n D w0 ((t, .bool (!b)) :: G) L l) :
    KO P ops d Q n D w0 G L ((k, ⟨some t, .binOp .neq T x y T', ty, pos, af, none⟩) :: l) :=
  KO.val (fun a w ha => by simp [execOp, ha.eval hx, ha.eval hy, run_eqGuard_agg w _ _ _ _ _ _ hg, run_neq_struct, hr w]) ht h
theorem KO.eqN (hx : ev G x = some (errV EN c)) (hT : P.underlying T = some (.interface (P.methodsAt T))) (ht : Nat.blt t n = true) (h : KO P ops d Q n D w0 ((t, .bool (decide (c = 0))) :: G) L l) :
    KO P ops d Q n D w0 G L ((k, ⟨some t, .binOp .eql T x (.const .nilIface) T', ty, pos, af, none⟩) :: l) :=
  KO.val (fun a w ha => by
    simp only [execOp, ha.eval hx, show a.eval (.const .nilIface) = .nilIface from rfl]
    unfold errV
    by_cases h0 : c = 0
    · simp [h0, run_eql_nil_nil w T hT, eqGuard_nil_constR]
    · simp [h0, run_eql_held_nil w T _ _ hT, eqGuard_at_iface]) ht h
theorem KO.neN (hx : ev G x = some (errV EN c)) (hT : P.underlying T = some (.interface (P.methodsAt T))) (ht : Nat.blt t n = true) (h : KO P ops d Q n D w0 ((t, .bool (decide (c ≠ 0))) :: G) L l) :
    KO P ops d Q n D w0 G L ((k, ⟨some t, .binOp .neq T x (.const .nilIface) T', ty, pos, af, none⟩) :: l) :=
  KO.val (fun a w ha => by
    simp only [execOp, ha.eval hx, show a.eval (.const .nilIface) = .nilIface from rfl]
    unfold errV
    by_cases h0 : c = 0
    · simp [h0, run_neq_nil_nil w T hT, eqGuard_nil_constR]
    · simp [h0, run_neq_held_nil w T _ _ hT, eqGuard_at_iface]) ht h
/-- what holds between two pieces of code -/
def MidI {α : Type} (n : Nat) (D : List Deferred) (w0 : World) (E : α → Env) (H : α → List HP) (φ : α → Prop) (a : Act) (w : World) : Prop := ∃ y, φ y ∧ Knows n D (E y) a ∧ St w0 (H y) w
theorem K.mid {α : Type} {c1 c2 : Code} {L : List HP} (E : α → Env) (H : α → List HP) (φ : α → Prop) (h1 : K P c1 (Exit.then (MidI n D w0 E H φ) Q) n D w0 G L) (h2 : ∀ y, φ y → K P c2 Q n D w0 (E y) (H y)) : K P (.seq c1 c2) Q n D w0 G L := fun a w ha hw =>
  wp_seq (Go.wp_mono (h1 a w ha hw) fun e a w hq => by
    cases e with
    | normal => obtain ⟨y, hy, ha, hw⟩ := hq; exact h2 y hy a w ha hw
    | _ => exact hq)
theorem K.cut {α : Type} {c1 c2 : Code} {L : List HP} (E : α → Env) (H : α → List HP) (φ : α → Prop) (h1 : K P c1 (Exit.then (MidI n D w0 E H φ) Q) n D w0 G L) (h2 : ∀ y, φ y → K P c2 Q n D w0 (E y) (H y)) : K P c1 (Exit.then (c2.wp P Q) Q) n D w0 G L := fun a w ha hw =>
  Go.wp_mono (h1 a w ha hw) fun e a w hq => by
    cases e with
    | normal => obtain ⟨y, hy, ha, hw⟩ := hq; exact h2 y hy a w ha hw
    | _ => exact hq
theorem KQ.mid {α : Type} {E : α → Env} {H : α → List HP} {φ : α → Prop} (y : α) (hy : φ y) (hG : SubL G (E y)) (hL : ∀ w, St w0 L w → St w0 (H y) w) : KQ (Exit.then (MidI n D w0 E H φ) Q) .normal n D w0 G L := fun _ w ha hw => ⟨y, hy, ha.sub hG, hL w hw⟩
/-- a cell of a block, by its number -/
theorem KO.ldAt {b : Nat} {cs : List Value} {fz : Nat × Nat} (hk : (!d || k != .pure) = true) (hx : ev G x = some (.pointer (some ad))) (hT : ∀ w, (isAgg T).run P w = .ok false w) (hp : Pick L (blk b (.cells cs.toArray E fz)) R) (ha : ad = ⟨b, i, none⟩) (hc : cs[i]? = some v) (ht : Nat.blt t n = true)
    (h : KO P ops d Q n D w0 ((t, v) :: G) L l) : KO P ops d Q n D w0 G L ((k, ⟨some t, .load T x, ty, pos, af, none⟩) :: l) := KO.ld hk (ha ▸ hx) hT hp hc ht h
theorem putL_one (v : Value) : ∀ (i : Nat) (cs : List Value), i < cs.length → putL i [v] cs = cs.set i v
  | 0, c :: cs, _ => by simp [putL]
  | i + 1, c :: cs, h => by simp [putL, putL_one v i cs (by simpa using h)]
theorem KO.stAt {b : Nat} {cs : List Value} (hk : (!d || k == .write) = true) (hx : ev G x = some (.pointer (some ad))) (hy : ev G y = some v) (hv : v.cells = [v].toArray) (hn : ∀ w, (Go.sizeOf T).run P w = .ok 1 w) (h1 : v.oneCell' = true)
    (hp : Pick L (blk b (.cells cs.toArray E (0, 0))) R) (ha : ad = ⟨b, i, none⟩) (hi : i < cs.length) (h : KO P ops d Q n D w0 G (blk b (.cells (cs.set i v).toArray E (0, 0)) :: R) l) :
    KO P ops d Q n D w0 G L ((k, ⟨none, .store T x y, ty, pos, af, none⟩) :: l) :=
  KO.sto hk (ha ▸ hx) hy hv hn (by simp [h1]) hp (by simp [Nat.ble_eq]; omega) (putL_one v i cs hi) h
/-- the place of an element of a slice that lies anywhere -/
theorem KO.idxH {len cap sz : Nat} (hx : ev G x = some (.slice (some ad) len cap)) (hy : ev G y = some (.int kk a)) (hu : ∀ w, (underlying T).run P w = .ok (.slice E) w) (hs : ∀ w, (Go.sizeOf E).run P w = .ok sz w)
    (ha : a = (i : Int)) (hb : i < len) (ht : Nat.blt t n = true) (h : KO P ops d Q n D w0 ((t, .pointer (some (ad.add (i * sz)))) :: G) L l) : KO P ops d Q n D w0 G L ((k, ⟨some t, .indexAddr T x y, ty, pos, af, none⟩) :: l) :=
  KO.val (fun a' w ha' => by
    subst ha
    have : (0 : Int) ≤ (i : Int) ∧ (i : Int) < (len : Int) := ⟨by omega, by omega⟩
    simp [execOp, ha'.eval hx, ha'.eval hy, Instr.indexAt, hu w, asIntOf, hs w, this, hb]) ht h
theorem KO.fldH {fs : Array Field} {f sz off : Nat} {fd : Field} (hx : ev G x = some (.pointer (some ad))) (hu : ∀ w, (underlying T).run P w = .ok (.struct fs) w) (hf : fs[f]? = some fd) (ho : fd.offset = off) (hs : ∀ w, (Go.sizeOf fd.type).run P w = .ok (sz + 1) w) (ht : Nat.blt t n = true)
    (h : KO P ops d Q n D w0 ((t, .pointer (some (ad.add off))) :: G) L l) : KO P ops d Q n D w0 G L ((k, ⟨some t, .fieldAddr T x f, ty, pos, af, none⟩) :: l) :=
  KO.fld hx hu hf hs ht (by rw [ho]; exact h)
end
end WB
/- a region that draws its order, where some pairs of operations may come either way: each way is walked -/
namespace WB
open Go Go.RowKit
variable {P : Program} {ops : Array Oper} {Q : Exit → Act → World → Prop}
def via (anc : List (List Nat)) (x i : Nat) (q : Nat × Nat) : Bool := (q.1 == x || (anc.getD q.1 []).contains x) && (q.2 == i || (anc.getD i []).contains q.2)
theorem via_sound {anc : List (List Nat)} (hb : onlyBack ops = true) (ha : ancOk ops anc = true) {l : List Nat} (hv : Valid ops l) {q : Nat × Nat} (hE : ∀ p s, l = p ++ q.2 :: s → q.1 ∈ p) {x i : Nat} (h : via anc x i q = true) : ∀ p s, l = p ++ i :: s → x ∈ p := by
  intro p s hl
  unfold via at h
  simp only [Bool.and_eq_true, Bool.or_eq_true, beq_iff_eq] at h
  have lt : ∀ y, y ∈ l → y < ops.size := fun y hy => (hv.2.1 y).1 hy
  have h1 : q.1 ∈ p := by
    rcases h.2 with e | e
    · exact hE p s (by rw [e]; exact hl)
    · have := anc_sound hb ha hv i i (Nat.le_refl _) (lt i (by rw [hl]; simp)) p s hl q.2 (List.contains_iff_mem.1 e)
      obtain ⟨p1, p2, rfl⟩ := List.append_of_mem this
      have := hE p1 (p2 ++ i :: s) (by rw [hl]; simp)
      simp [this]
  rcases h.1 with e | e
  · rw [← e]; exact h1
  · obtain ⟨p1, p2, rfl⟩ := List.append_of_mem h1
    have := anc_sound hb ha hv q.1 q.1 (Nat.le_refl _) (lt q.1 (by rw [hl]; simp)) p1 (p2 ++ i :: s) (by rw [hl]; simp) x (List.contains_iff_mem.1 e)
    simp [this]
theorem main_stepE {E : List (Nat × Nat)} {ks : List Kd} {anc : List (List Nat)} (hb : onlyBack ops = true) (ha : ancOk ops anc = true) {l : List Nat} (hv : Valid ops l) (hE : ∀ q ∈ E, ∀ p s, l = p ++ q.2 :: s → q.1 ∈ p) :
    ∀ (s p rem : List Nat), l = p ++ s → (∀ x, x ∈ rem ↔ x ∈ s) →
      pairsOk (fun x i => !(x == i) && ((anc.getD i []).contains x || (lightFree ops ks x i || E.any (via anc x i)))) rem = true →
      ∀ a w, vcL P ops Q (rem.map (item ops ks)) a w → wpOps P ops Q s a w
  | [], p, rem, hl, hm, hp, a, w, h => by
    have : rem = [] := List.eq_nil_iff_forall_not_mem.2 fun x hx => by simpa using (hm x).1 hx
    subst this; exact h
  | i :: s, p, rem, hl, hm, hp, a, w, h => by
    have hi : i < ops.size := (hv.2.1 i).1 (by rw [hl]; simp)
    have hnd := hv.1
    rw [hl] at hnd
    have hnp : ∀ x ∈ i :: s, x ∉ p := fun x hx hxp => (List.nodup_append.1 hnd).2.2 x hxp x hx rfl
    have hns : i ∉ s := (List.nodup_cons.1 (List.nodup_append.1 hnd).2.1).1
    obtain ⟨pre, post, rfl⟩ := List.append_of_mem ((hm i).2 List.mem_cons_self)
    obtain ⟨h1, h2, h3⟩ := pairsOk_split pre hp
    have hpre : ∀ x ∈ pre, lightFree ops ks x i = true := fun x hx => by
      have hf := h1 x hx
      simp only [Bool.and_eq_true, Bool.or_eq_true] at hf
      rcases hf.2 with hc | hc | hc
      · have hxp := anc_sound hb ha hv i i (Nat.le_refl _) hi p s hl x (List.contains_iff_mem.1 hc)
        exact absurd hxp (hnp x ((hm x).1 (by simp [hx])))
      · exact hc
      · obtain ⟨q, hq, hqv⟩ := List.any_eq_true.1 hc
        have hxp := via_sound hb ha hv (hE q hq) hqv p s hl
        exact absurd hxp (hnp x ((hm x).1 (by simp [hx])))
    have hbub := bubble pre hpre a w h
    have hm' : ∀ x, x ∈ pre ++ post ↔ x ∈ s := fun x => by
      have hx := hm x
      constructor
      · intro hxx
        have hx2 : x ∈ pre ++ i :: post := by
          rcases List.mem_append.1 hxx with e | e <;> simp [e]
        rcases List.mem_cons.1 (hx.1 hx2) with rfl | e
        · exfalso
          rcases List.mem_append.1 hxx with e | e
          · have := h1 x e; simp at this
          · have := h3 x e; simp at this
        · exact e
      · intro hxs
        have := hx.2 (List.mem_cons_of_mem _ hxs)
        rcases List.mem_append.1 this with e | e
        · simp [e]
        · rcases List.mem_cons.1 e with rfl | e
          · exact absurd hxs hns
          · simp [e]
    have IH := main_stepE hb ha hv hE s (p ++ [i]) (pre ++ post) (by rw [hl]; simp) hm' h2
    have hget : ops[i]? = some (item ops ks i).2 := by simp [item, hi]
    simp only [List.map_cons] at hbub
    simp only [wpOps, hget]
    cases hw : Region.wanted (item ops ks i).2 (yielded ops a.tmps) with
    | false =>
      simp only [Bool.false_eq_true, if_false]
      rw [show item ops ks i = ((item ops ks i).1, (item ops ks i).2) from rfl, vcL_no hw] at hbub
      exact IH _ _ hbub
    | true =>
      simp only [if_true]
      left
      rw [show item ops ks i = ((item ops ks i).1, (item ops ks i).2) from rfl] at hbub
      by_cases hlt : (item ops ks i).1.light = true
      · rw [vcL_light hlt hw] at hbub
        obtain ⟨v, hv', hr⟩ := hbub
        have hst : stays (item ops ks i).1 w w := by
          cases (item ops ks i).1 <;> first | trivial | exact Ext.refl w | rfl
        unfold Oper.wp
        rcases hv' w hst with hg | ⟨f, args, hg, hcall⟩
        · rw [hg]; exact IH _ _ hr
        · rw [hg]
          refine hcall.mono ?_
          rintro e w' ⟨rfl, rfl⟩
          exact IH _ _ hr
      · generalize hk : (item ops ks i).1 = k at hbub hlt
        cases k with
        | keep => rw [vcL_keep hw] at hbub; exact wp_mono_F (fun a w hh => IH _ _ hh.2) hbub
        | write => rw [vcL_write hw] at hbub; exact wp_mono_F (fun a w hh => IH _ _ hh) hbub
        | _ => exact absurd rfl hlt

/-- for each of these pairs, which comes first -/
def ways : List (Nat × Nat) → List (List (Nat × Nat))
  | [] => [[]]
  | q :: r => (ways r).map (q :: ·) ++ (ways r).map ((q.2, q.1) :: ·)
theorem ways_some {l : List Nat} (hn : l.Nodup) : ∀ (X : List (Nat × Nat)), (∀ q ∈ X, q.1 ∈ l ∧ q.2 ∈ l ∧ q.1 ≠ q.2) → ∃ E ∈ ways X, (∀ q ∈ E, ∀ p s, l = p ++ q.2 :: s → q.1 ∈ p) ∧ ∀ q ∈ E, q.2 ∈ l
  | [], _ => ⟨[], by simp [ways], (fun _ h => by cases h), fun _ h => by cases h⟩
  | q :: X, h => by
    obtain ⟨E, hE, hall, hmem⟩ := ways_some hn X fun q hq => h q (List.mem_cons_of_mem _ hq)
    obtain ⟨h1, h2, h3⟩ := h q List.mem_cons_self
    obtain ⟨p1, s1, hl⟩ := List.append_of_mem h2
    have uniq : ∀ {y : Nat} {p s p' s' : List Nat}, l = p ++ y :: s → l = p' ++ y :: s' → p = p' := by
      intro y p s p' s' e1 e2
      have : ∀ (p p' s s' : List Nat), (p ++ y :: s).Nodup → p ++ y :: s = p' ++ y :: s' → p = p' := by
        intro p
        induction p with
        | nil =>
          intro p' s s' hn e
          cases p' with
          | nil => rfl
          | cons x p' =>
            simp only [List.nil_append, List.cons_append, List.cons.injEq] at e
            obtain ⟨rfl, e⟩ := e
            simp only [List.nil_append, List.nodup_cons] at hn
            exact absurd (by rw [e]; simp) hn.1
        | cons x p ih =>
          intro p' s s' hn e
          cases p' with
          | nil =>
            simp only [List.nil_append, List.cons_append, List.cons.injEq] at e
            obtain ⟨rfl, e⟩ := e
            simp only [List.cons_append, List.nodup_cons] at hn
            exact absurd (by simp) hn.1
          | cons x' p' =>
            simp only [List.cons_append, List.cons.injEq] at e
            simp only [List.cons_append, List.nodup_cons] at hn
            rw [e.1, ih p' s s' hn.2 e.2]
      exact this p p' s s' (e1 ▸ hn) (e1.symm.trans e2)
    by_cases hin : q.1 ∈ p1
    · refine ⟨q :: E, by simp only [ways, List.mem_append, List.mem_map]; exact .inl ⟨E, hE, rfl⟩, fun q' hq' p s e => ?_, fun q' hq' => (List.mem_cons.1 hq').elim (fun e => e ▸ h2) (hmem q')⟩
      rcases List.mem_cons.1 hq' with rfl | hq'
      · rw [← uniq hl e]; exact hin
      · exact hall q' hq' p s e
    · refine ⟨(q.2, q.1) :: E, by simp only [ways, List.mem_append, List.mem_map]; exact .inr ⟨E, hE, rfl⟩, fun q' hq' p s e => ?_, fun q' hq' => (List.mem_cons.1 hq').elim (fun e => e ▸ h1) (hmem q')⟩
      rcases List.mem_cons.1 hq' with rfl | hq'
      · dsimp only at e ⊢
        have h4 : q.1 ∈ s1 := by
          have := h1; rw [hl] at this
          simp only [List.mem_append, List.mem_cons] at this
          rcases this with a | a | a
          · exact absurd a hin
          · exact absurd a h3
          · exact a
        obtain ⟨p2, s2, rfl⟩ := List.append_of_mem h4
        have e2 : l = (p1 ++ q.2 :: p2) ++ q.1 :: s2 := by rw [hl]; simp
        rw [← uniq e2 e]; simp
      · exact hall q' hq' p s e
def okRE (ops : Array Oper) (ks : List Kd) (E : List (Nat × Nat)) (ord : List Nat) : Bool :=
  let anc := mkAnc ops.toList []
  onlyBack ops && (ancOk ops anc && ((List.range ops.size).all (fun i => ord.contains i) && (ord.all (fun i => Nat.blt i ops.size) &&
    pairsOk (fun x i => !(x == i) && ((anc.getD i []).contains x || (lightFree ops ks x i || E.any (via anc x i)))) ord)))
/-- no schedule goes so -/
def badE (ops : Array Oper) (E : List (Nat × Nat)) : Bool :=
  let anc := mkAnc ops.toList []
  ancOk ops anc && E.any fun q => E.any (via anc q.2 q.1)
theorem badE_sound {E : List (Nat × Nat)} (hb : onlyBack ops = true) {l : List Nat} (hv : Valid ops l) (hE : ∀ q ∈ E, ∀ p s, l = p ++ q.2 :: s → q.1 ∈ p) (hm : ∀ q ∈ E, q.2 ∈ l) (h : badE ops E = true) : False := by
  simp only [badE, Bool.and_eq_true] at h
  obtain ⟨ha, h⟩ := h
  obtain ⟨q, hq, h⟩ := List.any_eq_true.1 h
  obtain ⟨q', hq', h⟩ := List.any_eq_true.1 h
  obtain ⟨p1, s1, hl⟩ := List.append_of_mem (hm q hq)
  obtain ⟨a, b, rfl⟩ := List.append_of_mem (hE q hq p1 s1 hl)
  have := via_sound hb ha hv (hE q' hq') h a (b ++ q.2 :: s1) (by rw [hl]; simp)
  have hn := hv.1
  rw [hl] at hn
  simp only [List.append_assoc, List.cons_append] at hn
  exact (List.nodup_append.1 hn).2.2 q.2 this q.2 (by simp) rfl
def okX (ops : Array Oper) (ks : List Kd) : List (List (Nat × Nat)) → List (List Nat) → Bool
  | [], [] => true
  | E :: r, O => if badE ops E then okX ops ks r O else match O with | o :: s => okRE ops ks E o && okX ops ks r s | [] => false
  | _, _ => false
@[reducible] def allD (f : List Nat → Prop) : List (List Nat) → Prop
  | [] => True
  | o :: r => f o ∧ allD f r
theorem okX_some {ks : List Kd} {f : List Nat → Prop} {E : List (Nat × Nat)} : ∀ {W : List (List (Nat × Nat))} {O : List (List Nat)}, okX ops ks W O = true → allD f O → E ∈ W → badE ops E = true ∨ ∃ o, okRE ops ks E o = true ∧ f o
  | [], _, _, _, h => by cases h
  | F :: r, O, h, hf, hE => by
    cases hB : badE ops F with
    | true =>
      have h2 : okX ops ks r O = true := by unfold okX at h; rw [hB] at h; simpa using h
      rcases List.mem_cons.1 hE with rfl | hE
      · exact .inl hB
      · exact okX_some h2 hf hE
    | false =>
      unfold okX at h
      rw [hB] at h
      cases O with
      | nil => simp at h
      | cons o s =>
        simp only [Bool.false_eq_true, if_false, Bool.and_eq_true] at h
        rcases List.mem_cons.1 hE with rfl | hE
        · exact .inr ⟨o, h.1, hf.1⟩
        · exact okX_some h.2 hf.2 hE
theorem wp_region_ways {id : Nat} {a : Act} {w : World} (ks : List Kd) (X : List (Nat × Nat)) (O : List (List Nat)) (hmix : P.follows .mixedOrders = true) (hX : (onlyBack ops && X.all fun q => Nat.blt q.1 ops.size && (Nat.blt q.2 ops.size && !(q.1 == q.2))) = true) (hok : okX ops ks (ways X) O = true)
    (h : allD (fun ord => vcL P ops Q (ord.map (item ops ks)) a w.drew) O) : (Code.region id ops true).wp P Q a w := by
  rw [Bool.and_eq_true] at hX
  obtain ⟨hb, hX⟩ := hX
  refine wp_region_draw fun t => ?_
  have hv : Valid ops (Region.schedule (P.follows .mixedOrders) ops t) := schedule_valid _ hmix _ _ fun i o ho d hd => by
    have hi : i < ops.size := (Array.getElem?_eq_some_iff.1 ho).1
    have h1 := List.all_eq_true.1 (List.all_eq_true.1 hb i (List.mem_range.2 hi)) d (by
      have : ops.toList.getD i default = o := by
        simp [Array.getElem?_eq_getElem hi] at ho ⊢
        simp [ho]
      rw [this]; exact hd)
    simpa [Nat.blt_eq] using h1
  generalize Region.schedule (P.follows .mixedOrders) ops t = l at hv ⊢
  obtain ⟨E, hE, hEl, hEm⟩ := ways_some hv.1 X fun q hq => by
    have := List.all_eq_true.1 hX q hq
    simp only [Bool.and_eq_true, Nat.blt_eq, Bool.not_eq_true', beq_eq_false_iff_ne] at this
    exact ⟨(hv.2.1 _).2 this.1, (hv.2.1 _).2 this.2.1, this.2.2⟩
  rcases okX_some hok h hE with hbad | ⟨ord, hok, h⟩
  · exact (badE_sound hb hv hEl hEm hbad).elim
  simp only [okRE, Bool.and_eq_true] at hok
  obtain ⟨hb, ha, hall, hlt, hp⟩ := hok
  refine main_stepE hb ha hv hEl l [] ord rfl (fun x => ?_) hp a _ h
  rw [hv.2.1 x]
  constructor
  · intro hx; simpa [Nat.blt_eq] using List.all_eq_true.1 hlt x hx
  · intro hx; exact List.contains_iff_mem.1 (List.all_eq_true.1 hall x (List.mem_range.2 hx))
theorem allD_mono {f g : List Nat → Prop} (h : ∀ o, f o → g o) : ∀ {O : List (List Nat)}, allD f O → allD g O
  | [], _ => trivial
  | _ :: _, hf => ⟨h _ hf.1, allD_mono h hf.2⟩
theorem K.drawX {n : Nat} {D : List Deferred} {w0 : World} {G : Env} {L : List HP} {id : Nat} (ks : List Kd) (X : List (Nat × Nat)) (O : List (List Nat)) (hmix : P.follows .mixedOrders = true) (hX : (onlyBack ops && X.all fun q => Nat.blt q.1 ops.size && (Nat.blt q.2 ops.size && !(q.1 == q.2))) = true) (hok : okX ops ks (ways X) O = true)
    (h : allD (fun ord => KO P ops true Q n D w0 G L (ord.map (item ops ks))) O) : K P (.region id ops true) Q n D w0 G L := fun a _ ha hw =>
  wp_region_ways ks X O hmix hX hok (allD_mono (fun _ hh => hh a _ ha hw.drew) h)
end WB
/- the steps of the calculus: empty slices, slices appended to slices -/
namespace WB
open Go Go.RowKit
/-- a slice, wherever it lies, that reads so -/
def Src {α : Type} (w : World) (cf : α → List Value) (v : Value) (xs : List α) : Prop :=
  ∃ a cap, v = .slice a xs.length cap ∧ (a = none → xs = []) ∧ ∀ ad, a = some ad → HasCells w ad (xs.flatMap cf)
section
variable {w0 w : World} {L R : List HP} {E : TypeId} {α : Type} {cf : α → List Value} {sz : Nat} {xs ys : List α} {v : Value}
theorem flatC_len (hsz : ∀ e, (cf e).length = sz) : ∀ xs : List α, (xs.flatMap cf).length = xs.length * sz
  | [] => by simp
  | a :: l => by simp [flatC_len hsz l, hsz, Nat.succ_mul]; omega
theorem HasCells.take {ad : Addr} {cs ds : List Value} (h : HasCells w ad (cs ++ ds)) : HasCells w ad cs := fun j c hj => h j c (by rw [List.getElem?_append_left (List.getElem?_eq_some_iff.1 hj).1]; exact hj)
theorem Src.of (hp : Pick L (SL E sz cf v xs) R) (w : World) (hw : St w0 L w) : Src w cf v xs := by
  rcases (hw.pick hp).osl_cases with ⟨h1, h2, h3, _⟩ | ⟨g, cap, cur, h1, h2, h3, h4, h5, h6, h7⟩
  · have : xs = [] := List.eq_nil_of_length_eq_zero h2
    exact ⟨none, 0, by rw [h1, this]; rfl, fun _ => this, fun ad h => (by cases h)⟩
  · refine ⟨some ⟨g, 0, none⟩, cap, h1, (fun h => by cases h), fun ad h => ?_⟩
    cases h
    have hl := h7.look.2
    intro j c hj
    rw [Addr.add_lit, World.cell?, hl]
    rw [← h5, List.getElem?_take] at hj
    split at hj
    · simpa using hj
    · simp at hj
theorem Src.take {a : Option Addr} {len cap : Nat} (h : Src w cf (.slice a len cap) xs) (k : Nat) (hk : k ≤ xs.length) : Src w cf (.slice a k cap) (xs.take k) := by
  obtain ⟨b, c, e, h1, h2⟩ := h
  simp only [Value.slice.injEq] at e
  obtain ⟨rfl, rfl, rfl⟩ := e
  refine ⟨a, cap, by rw [List.length_take, Nat.min_eq_left hk], fun e => by rw [h1 e]; simp, fun ad e => ?_⟩
  have := h2 ad e
  rw [← List.take_append_drop k xs, List.flatMap_append] at this
  exact this.take
theorem Src.cut (hsz : ∀ e, (cf e).length = sz) {g len cap : Nat} (h : Src w cf (.slice (some ⟨g, 0, none⟩) len cap) xs) (k : Nat) (hk : k ≤ xs.length) (hc : xs.length ≤ cap) : Src w cf (.slice (some (cutAt g k sz cap)) (xs.length - k) (cap - k)) (xs.drop k) := by
  obtain ⟨b, c, e, h1, h2⟩ := h
  simp only [Value.slice.injEq] at e
  obtain ⟨rfl, rfl, rfl⟩ := e
  refine ⟨_, _, by rw [List.length_drop], (fun e => by cases e), fun ad e => ?_⟩
  cases e
  unfold cutAt
  by_cases hck : cap = k
  · have : xs.drop k = [] := List.drop_eq_nil_of_le (by omega)
    rw [this]; exact fun j c hj => by simp at hj
  · rw [if_neg hck]
    have := h2 _ rfl
    rw [← List.take_append_drop k xs, List.flatMap_append] at this
    intro j c hj
    have h3 := this (k * sz + j) c (by
      rw [List.getElem?_append_right (by rw [flatC_len hsz, List.length_take]; have := Nat.mul_le_mul_right sz (Nat.min_le_left k xs.length); omega)]
      rw [flatC_len hsz, List.length_take, Nat.min_eq_left hk]
      simpa using hj)
    rw [Addr.add_lit] at h3 ⊢
    simpa using h3
theorem Src.ext {w' : World} (h : Src w cf v xs) (e : Ext w w') : Src w' cf v xs := by
  obtain ⟨a, cap, h1, h2, h3⟩ := h
  exact ⟨a, cap, h1, h2, fun ad ha => (h3 ad ha).ext e⟩
theorem SL_cap {g n cap : Nat} (hw : St w0 (SL E sz cf (.slice (some ⟨g, 0, none⟩) n cap) xs :: R) w) : n = xs.length ∧ n ≤ cap := by
  obtain ⟨h1, h2, _⟩ := SL_open hw
  exact ⟨h1, h2⟩
end
section
variable {P : Program} {ops : Array Oper} {d : Bool} {Q : Exit → Act → World → Prop} {n : Nat} {D : List Deferred} {w0 : World} {G : Env} {L R R' N : List HP} {l : List (Kd × Oper)} {k : Kd}
  {t : Nat} {op : Op} {ty T T' E E' : TypeId} {pos : String} {af : Array Edge} {x y : Operand} {v u z : Value} {i j : Nat} {a c r : Int} {ad : Addr} {α : Type} {cf : α → List Value} {sz by' : Nat} {xs ys : List α} {e e' : α}
theorem run_buildSlice0 (w : World) (t e : TypeId) (sz : Nat) (hu : P.underlying t = some (.slice e)) (hs : (Go.sizeOf e).run P w = .ok sz w) :
    (Instr.buildSlice t 0 #[]).run P w = .ok (.slice (some ⟨w.heap.size, 0, none⟩) 0 0) (w.alloc (.cells #[] e)) := by
  simp [Instr.buildSlice, run_underlying hu, hs, Instr.fill, newRow]
  rw [show Array.range 0 = #[] from rfl, Array.map_empty]
/-- []T{} -/
theorem KO.bs0 (cf : α → List Value) (hk : (!d || (k == .keep || k == .write)) = true) (hT : P.underlying T = some (.slice E)) (hs : ∀ w, (Go.sizeOf E).run P w = .ok sz w) (ht : Nat.blt t n = true)
    (h : ∀ bb, KO P ops d Q n D w0 ((t, .slice (some ⟨bb, 0, none⟩) 0 0) :: G) (SL E sz cf (.slice (some ⟨bb, 0, none⟩) 0 0) [] :: L) l) : KO P ops d Q n D w0 G L ((k, ⟨some t, .buildSlice T 0 #[], ty, pos, af, none⟩) :: l) := by
  refine KO.keepRun hk (F := fun bb => .slice (some ⟨bb, 0, none⟩) 0 0) (N := fun bb => SL E sz cf (.slice (some ⟨bb, 0, none⟩) 0 0) [] :: L) (fun a w ha hw => ⟨w.heap.size, w.alloc (.cells #[] E), ?_, Ext.alloc w _, ?_⟩) ht h
  · have hr := run_buildSlice0 (P := P) w T E sz hT (hs w)
    simp [execOp, hr]
  · exact (hw.alloc (.cells #[] E)).osl_mk (n := 0) (cap := 0) (Nat.le_refl _) (by unfold maxLen; omega) (by simp) (by simp)
theorem run_append_none (w : World) (t ty e : TypeId) (b : Option Addr) (m cap c s : Nat) (hu : P.underlying t = some (.slice e)) (hs : (Go.sizeOf e).run P w = .ok s w) (h : m ≤ cap) :
    (Builtin.append_ #[t, t] ty #[.slice b m cap, .slice none 0 c]).run P w = .ok (.slice b m cap) w := by
  cases b <;> simp [Builtin.append_, run_underlying hu, hs, Builtin.lenOf, Builtin.firstCells, h, storeCells]
/-- append(x, y...) -/
theorem KO.appS (hk : (!d || k == .write) = true) (hx : ev G x = some v) (hy : ev G y = some u) (hp : Pick L (SL E sz cf v xs) R) (hs : ∀ w, St w0 L w → Src w cf u ys)
    (hT : P.underlying T = some (.slice E)) (hi : (P.info? E).map (fun i => (i.zero, i.size, i.bytes)) = some (some z, sz, by')) (hzs : z.cells.size = sz) (hsz : ∀ e, (cf e).length = sz) (h1 : ∀ e, (cf e).all Value.oneCell' = true) (hb : xs.length + ys.length < 1000000000) (hby : by' ≤ 10000) (ht : Nat.blt t n = true)
    (h : ∀ v', KO P ops d Q n D w0 ((t, v') :: G) (SL E sz cf v' (xs ++ ys) :: R) l) : KO P ops d Q n D w0 G L ((k, ⟨some t, .call ⟨.builtin .append, #[x, y], #[T, T]⟩, ty, pos, af, none⟩) :: l) := by
  obtain ⟨i0, hi1, hz0, hz1, hz2⟩ := info_parts hi
  refine KO.wvE hk (F := fun v' => SL E sz cf v' (xs ++ ys) :: R) (fun a w ha hw => ?_) ht h
  have hw2 := hw.pick hp
  obtain ⟨sa, cap, rfl, hn, hc⟩ := hs w hw
  cases sa with
  | none =>
    obtain rfl := hn rfl
    obtain ⟨b, c2, rfl, hb2⟩ : ∃ b c2, v = .slice b xs.length c2 ∧ xs.length ≤ c2 := by
      rcases hw2.osl_cases with ⟨h1, h2, _⟩ | ⟨g, cap, cur, h1, h2, _⟩
      · exact ⟨none, 0, by rw [h1, h2], by omega⟩
      · exact ⟨_, cap, h1, h2⟩
    refine ⟨.slice b xs.length c2, w, exec_append2 x y T T rfl _ _ (ha.eval hx) (ha.eval hy) (run_append_none (P := P) w T ty E b _ c2 cap sz hT (by simp [Go.sizeOf, typeInfo, hi1, hz1]) hb2), ?_⟩
    rw [List.append_nil]; exact hw2
  | some ad =>
    have hcells := hc ad rfl
    have hbb : (xs.length + ys.length) * by' ≤ 140737488355328 := by
      have := Nat.mul_le_mul (show xs.length + ys.length ≤ 1000000000 by omega) hby; omega
    obtain ⟨v', w', hr, hst⟩ := append_st (P := P) T ty E i0 z sz by' hT hi1 hz0 hz1 hz2 hzs hw2 ad ys.length cap (ys.flatMap cf) (flatC_len hsz ys) hcells (flat_one (fun e u hu => List.all_eq_true.1 (h1 e) u hu) ys) (by unfold maxLen; omega) hbb
    refine ⟨v', w', exec_append2 x y T T rfl v _ (ha.eval hx) (ha.eval hy) hr, ?_⟩
    show St w0 (osl E sz v' (xs ++ ys).length ((xs ++ ys).flatMap cf) :: R) w'
    rw [List.length_append, List.flatMap_append]
    exact hst
theorem LSub.nil : ∀ (M : List HP), LSub [] M
  | [] => .refl
  | _ :: M => .drop (LSub.nil M)
/-- a byte of a string -/
theorem KO.idxStr {s : ByteArray} {b : UInt8} (hx : ev G x = some (.string s)) (hy : ev G y = some (.int .i64 a)) (hT : P.underlying T = some .string) (ha : a = (i : Int)) (hc : s[i]? = some b) (ht : Nat.blt t n = true)
    (h : KO P ops d Q n D w0 ((t, .int .u8 (b.toNat : Nat)) :: G) L l) : KO P ops d Q n D w0 G L ((k, ⟨some t, .index T x y, ty, pos, af, none⟩) :: l) :=
  KO.val (fun a' w ha' => by
    subst ha
    simp [execOp, ha'.eval hx, ha'.eval hy, Instr.index, asIntOf, run_underlying hT, hc]) ht h
/-- x.(I), ok: it has not all of I's methods -/
theorem KO.taN {T0 : TypeId} {want : Array (String × TypeId)} (hx : ev G x = some (.iface T0 v)) (hu : P.underlying T' = some (.interface want)) (hl : (P.info? T0).map (fun i => (lacking want i.methods).isEmpty) = some false) (hz : (P.info? T').map (·.zero) = some (some z)) (ht : Nat.blt t n = true)
    (h : KO P ops d Q n D w0 ((t, .tuple #[z, .bool false]) :: G) L l) : KO P ops d Q n D w0 G L ((k, ⟨some t, .typeAssert x T T' true, ty, pos, af, none⟩) :: l) :=
  KO.val (fun a' w ha' => by
    simp [execOp, ha'.eval hx, run_typeAssert_lacksB hu hl hz v T w]) ht h
def noIface (u : Option TypeDesc) : Bool := match u with | some (.interface _) => false | none => false | some _ => true
theorem KO.taC {T0 : TypeId} (hx : ev G x = some (.iface T0 v)) (hu : noIface (P.underlying T') = true) (hne : Nat.beq T0 T' = false) (hz : ∀ w, (zeroValue T').run P w = .ok z w) (ht : Nat.blt t n = true)
    (h : KO P ops d Q n D w0 ((t, .tuple #[z, .bool false]) :: G) L l) : KO P ops d Q n D w0 G L ((k, ⟨some t, .typeAssert x T T' true, ty, pos, af, none⟩) :: l) :=
  KO.val (fun a' w ha' => by
    have hn : ¬ T0 = T' := fun e => by rw [e, Nat.beq_refl] at hne; cases hne
    cases hd : P.underlying T' with
    | none => rw [hd] at hu; cases hu
    | some dd =>
      rw [hd] at hu
      simp only [execOp, ha'.eval hx, Instr.typeAssert, run_underlying hd, Sem.run_bind, Result.andThen_ok]
      cases dd <;> first | (cases hu; done) | simp [hn, hz w]) ht h
theorem KO.taY (hx : ev G x = some (.iface T' v)) (hu : noIface (P.underlying T') = true) (ht : Nat.blt t n = true)
    (h : KO P ops d Q n D w0 ((t, .tuple #[v, .bool true]) :: G) L l) : KO P ops d Q n D w0 G L ((k, ⟨some t, .typeAssert x T T' true, ty, pos, af, none⟩) :: l) :=
  KO.val (fun a' w ha' => by
    cases hd : P.underlying T' with
    | none => rw [hd] at hu; cases hu
    | some dd =>
      rw [hd] at hu
      simp only [execOp, ha'.eval hx, Instr.typeAssert, run_underlying hd, Sem.run_bind, Result.andThen_ok]
      cases dd <;> first | (cases hu; done) | simp) ht h
theorem KO.neIf {T0 : TypeId} (hx : ev G x = some (.iface T0 v)) (hT : P.underlying T = some (.interface (P.methodsAt T))) (ht : Nat.blt t n = true) (h : KO P ops d Q n D w0 ((t, .bool true) :: G) L l) :
    KO P ops d Q n D w0 G L ((k, ⟨some t, .binOp .neq T x (.const .nilIface) T', ty, pos, af, none⟩) :: l) :=
  KO.val (fun a w ha => by
    simp only [execOp, ha.eval hx, show a.eval (.const .nilIface) = .nilIface from rfl]
    simp [run_neq_held_nil w T _ _ hT, eqGuard_at_iface]) ht h
theorem KO.eqIf {T0 : TypeId} (hx : ev G x = some (.iface T0 v)) (hT : P.underlying T = some (.interface (P.methodsAt T))) (ht : Nat.blt t n = true) (h : KO P ops d Q n D w0 ((t, .bool false) :: G) L l) :
    KO P ops d Q n D w0 G L ((k, ⟨some t, .binOp .eql T x (.const .nilIface) T', ty, pos, af, none⟩) :: l) :=
  KO.val (fun a w ha => by
    simp only [execOp, ha.eval hx, show a.eval (.const .nilIface) = .nilIface from rfl]
    simp [run_eql_held_nil w T _ _ hT, eqGuard_at_iface]) ht h
theorem KO.neI0 (hx : ev G x = some .nilIface) (hT : P.underlying T = some (.interface (P.methodsAt T))) (ht : Nat.blt t n = true) (h : KO P ops d Q n D w0 ((t, .bool false) :: G) L l) :
    KO P ops d Q n D w0 G L ((k, ⟨some t, .binOp .neq T x (.const .nilIface) T', ty, pos, af, none⟩) :: l) :=
  KO.val (fun a w ha => by
    simp only [execOp, ha.eval hx, show a.eval (.const .nilIface) = .nilIface from rfl]
    simp [run_neq_nil_nil w T hT, eqGuard_nil_constR]) ht h
theorem KO.eqI0 (hx : ev G x = some .nilIface) (hT : P.underlying T = some (.interface (P.methodsAt T))) (ht : Nat.blt t n = true) (h : KO P ops d Q n D w0 ((t, .bool true) :: G) L l) :
    KO P ops d Q n D w0 G L ((k, ⟨some t, .binOp .eql T x (.const .nilIface) T', ty, pos, af, none⟩) :: l) :=
  KO.val (fun a w ha => by
    simp only [execOp, ha.eval hx, show a.eval (.const .nilIface) = .nilIface from rfl]
    simp [run_eql_nil_nil w T hT, eqGuard_nil_constR]) ht h
theorem KO.nePn {E : TypeId} (hx : ev G x = some (.pointer (some ad))) (hT : P.underlying T = some (.pointer E)) (ht : Nat.blt t n = true) (h : KO P ops d Q n D w0 ((t, .bool true) :: G) L l) :
    KO P ops d Q n D w0 G L ((k, ⟨some t, .binOp .neq T x (.const (.pointer none)) T', ty, pos, af, none⟩) :: l) :=
  KO.val (fun a w ha => by
    simp only [execOp, ha.eval hx, show a.eval (.const (.pointer none)) = .pointer none from rfl]
    simp [go_sem, hT]) ht h
end
end WB
namespace WB
open Go Go.RowKit
section
variable {P : Program} {fn : Func} {R : Ending → World → Prop} {n : Nat} {w0 : World} {G : Env} {L M : List HP} {v v1 v2 v3 : Value} {t t1 t2 t3 : Nat} {T E : TypeId} {b : Nat} {cs : List Value} {fz : Nat × Nat}
theorem KQ.retTC (hr : fn.results = #[.tmp t2, .cell t1 T]) (h1 : envAt G t1 = some (.pointer (some ⟨b, 0, none⟩))) (hT : ∀ w, (isAgg T).run P w = .ok true w) (hp : Pick L (blk b (.cells cs.toArray E fz)) M) (hn : ∀ w, (Go.sizeOf T).run P w = .ok cs.length w)
    (h2 : envAt G t2 = some v2) (h : ∀ w, St w0 L w → R (.returned (.tuple #[v2, .agg cs.toArray])) w) : KQ (bodyPost P fn R) .ret n [] w0 G L :=
  KQ.fin (fun a w ha hw => by
    have hl := resC (P := P) h1 hT hn hp a w ha hw
    simp [results, hr, Array.getD_eq_getD_getElem?, ha.get _ _ h1, ha.get _ _ h2, asAddr, hl]) h
end
end WB
namespace WB
open Go Go.RowKit
theorem KE.turn {P : Program} {f : FuncId} {args : Array Value} {w0 : World} {L : List HP} {R R' : Value → List HP → Prop} (h : KE P f args w0 L R) (hr : ∀ v M, R v M → ∃ M', R' v M' ∧ ∀ w, St w0 M w → St w0 M' w) : KE P f args w0 L R' := fun w hw =>
  (h w hw).mono fun _ _ ⟨v, M, e, r, s, b⟩ => let ⟨M', r', c⟩ := hr v M r; ⟨v, M', e, r', c _ s, b⟩
end WB
/- what a law's row wants beside its walk: arguments opened, read again, a witness -/
namespace WB
open Go Go.RowKit Go.ChangeShapes Go.WideShapes Go.Deep
section
variable {H : Type} {enc : TypeId × Value → H}
theorem witness_row_sh {C : Checked} {os : Os} {f : FuncId} {fn : Func} {s : OpenSpec} {conds : List PathCond} {apart : Bool} {laid : List (String × DataW Unit)} (modest : Bool) (w0 : World) (args : Array Value) (hos : w0.os = os)
    (hsh : (w0.forCall (fun _ _ => 0) ⟨#[], args, []⟩).Shaped C.prog)
    (hok : Input.okWideB C.prog (w0.forCall (fun _ _ => 0) ⟨#[], args, []⟩) f ⟨#[], args, []⟩ = true)
    (hrow : s.preRow enc C.prog fn conds apart laid (w0.forCall (fun _ _ => 0) ⟨#[], args, []⟩).memory args) :
    ∃ (w : World) (tape : Tape) (i : Input), w.os = os ∧ (w.forCall tape i).Shaped C.prog ∧ i.vars = [] ∧ Input.okWide C.prog (w.forCall tape i) .any w.heap.size f i ∧
      s.preRow enc C.prog fn conds apart laid (w.forCall tape i).memory i.args ∧ ({ modest := modest } : Assume).holds C.prog (lone (Frame.enter C.prog f i.args .normal) [] (w.forCall tape i)) :=
  ⟨w0, fun _ _ => 0, ⟨#[], args, []⟩, hos, hsh, (Input.okWide_of_okWideB (base := 0) hok).1, (Input.okWide_of_okWideB hok).2, hrow, by
    simp only [Assume.holds]
    exact ⟨by simp, by simp, fun _ => Modest.zero, by simp, by simp⟩⟩
variable {P : Program}
/-- the arguments read again as they did -/
theorem law_args (hl : laidOutB P = true) {W W' : World} (hb : Below W.heap.size W W') : ∀ {ts : List TypeId} {vs : List Value} {ds : List (DataW H)} {ps : List MemPlace}, (ts.all fun t => P.readableRec t && decide (t < P.types.size)) = true →
    DataW.TrodAll enc P W 0 (fun _ => true) true ts vs ds ps → (∀ x ∈ ps, x.block < W.heap.size) → DataW.TrodAll enc P W' 0 (fun b => decide (b < W.heap.size)) true ts vs ds ps
  | [], [], [], _, _, h, _ => h
  | t :: ts, v :: vs, d :: ds, ps, hr, ⟨p, q, h1, h2, e⟩, hlt => by
    simp only [List.all_cons, Bool.and_eq_true, decide_eq_true_eq] at hr
    exact ⟨p, q, Below.trod hl hr.1.1 hr.1.2 h1 hb (fun x hx => hlt x (by rw [e]; exact List.mem_append_left _ hx)), law_args hl hb (by simpa using hr.2) h2 (fun x hx => hlt x (by rw [e]; exact List.mem_append_right _ hx)), e⟩
theorem list_of_each {α : Type} {p : Nat → α → Prop} : ∀ (n : Nat), (∀ i, i < n → ∃ x, p i x) → ∃ l : List α, l.length = n ∧ ∀ (i : Nat) (x : α), l[i]? = some x → p i x
  | 0, _ => ⟨[], rfl, fun i x h => by simp at h⟩
  | n + 1, h => by
    obtain ⟨l, hl, hp⟩ := list_of_each n fun i hi => h i (by omega)
    obtain ⟨x, hx⟩ := h n (by omega)
    refine ⟨l ++ [x], by simp [hl], fun i y hy => ?_⟩
    by_cases hi : i < l.length
    · rw [List.getElem?_append_left hi] at hy; exact hp i y hy
    · rw [List.getElem?_append_right (by omega)] at hy
      have : i - l.length = 0 := by
        rcases Nat.eq_zero_or_pos (i - l.length) with h0 | h0
        · exact h0
        · rw [List.getElem?_eq_none (by simp; omega)] at hy; simp at hy
      rw [this] at hy
      simp only [List.getElem?_cons_zero, Option.some.injEq] at hy
      rw [← hy, show i = n by omega]; exact hx
/-- a slice that came in -/
def RdA {α : Type} (W : World) (sz : Nat) (cf : α → List Value) (v : Value) (xs : List α) : Prop :=
  ∃ a cap, v = .slice a xs.length cap ∧ ∀ (i : Nat) (x : α), xs[i]? = some x → ∃ ad, a = some ad ∧ HasCells W (ad.add (i * sz)) (cf x)
theorem open_sl {α : Type} {φ : α → Prop} {cf : α → List Value} {W : World} {t e : TypeId} {v : Value} {d : DataW H} {p : List MemPlace} {r : Reach} {base sz : Nat} (ht : P.underlying t = some (.slice e)) (hv : Value.okWide P W r base t v)
    (h : DataW.Trod enc P W 0 (fun _ => true) true t v d p) (hsz : P.cellsOf e = sz) (rd : ∀ n cs y, DataW.trod enc P W 0 (fun _ => true) true n e cs = some y → ∃ x : α, φ x ∧ cs = cf x) :
    ∃ xs : List α, RdA W sz cf v xs ∧ ∀ x ∈ xs, φ x := by
  obtain ⟨a, len, cap, rfl⟩ := okWide_slice ht hv
  obtain ⟨fuel, hf⟩ := h
  rcases open_slice ht hf with ⟨hcs, _⟩ | ⟨a', len', cap', m, n, D, Pl, hcs, _, hl, _, hm, _, hi⟩
  · simp [Value.cells] at hcs
    obtain ⟨rfl, rfl, rfl⟩ := hcs
    exact ⟨[], ⟨none, 0, rfl, fun i x h => by simp at h⟩, fun x hx => by simp at hx⟩
  · simp [Value.cells] at hcs
    obtain ⟨rfl, rfl, rfl⟩ := hcs
    have key : ∀ i, i < len → ∃ x : α, φ x ∧ HasCells W (a'.add (i * sz)) (cf x) := fun i hlt => by
      obtain ⟨cs', hc, htr⟩ := hi i (by rw [hm]; simp; omega)
      obtain ⟨x, hx, rfl⟩ := rd n cs' _ htr
      obtain ⟨_, hlen, hcell⟩ := World.cells?_some hc
      refine ⟨x, hx, fun j c hj => ?_⟩
      have hlt2 := (List.getElem?_eq_some_iff.1 hj).1
      rw [← hsz]
      rw [hcell j (by omega)]; exact hj
    obtain ⟨l, hll, hp⟩ := list_of_each len key
    refine ⟨l, ⟨some a', cap, by rw [hll], fun i x hx => ⟨a', rfl, (hp i x hx).2⟩⟩, fun x hx => ?_⟩
    obtain ⟨i, hi, rfl⟩ := List.getElem_of_mem hx
    exact (hp i _ (List.getElem?_eq_getElem hi)).1
end
end WB
namespace WB
open Go Go.RowKit Go.ChangeShapes Go.WideShapes Go.Deep
section
variable {H : Type} {enc : TypeId × Value → H} {P : Program} {W : World} {base : Nat} {spare : Nat → Bool} {held : Bool}
theorem trod_len {t : TypeId} {fs : Array Field} {n : Nat} {cs : List Value} {y : DataW H × List MemPlace} (hu : P.underlying t = some (.struct fs)) (h : DataW.trod enc P W base spare held n t cs = some y) {k : Nat} (hk : P.cellsOf t = k) : cs.length = k := by
  obtain ⟨_, _, _, _, hl, _⟩ := DataW.trod_struct hu h
  rw [hl, hk]
theorem trod_field {t : TypeId} {fs : Array Field} {n : Nat} {cs : List Value} {y : DataW H × List MemPlace} (hu : P.underlying t = some (.struct fs)) (h : DataW.trod enc P W base spare held n t cs = some y) (i off : Nat) (ty : TypeId) (sz : Nat)
    (hf : (fs[i]?).map (fun f => (f.offset, f.type)) = some (off, ty)) (hc : P.cellsOf ty = sz) : ∃ m y', DataW.trod enc P W base spare held m ty ((cs.drop off).take sz) = some y' := by
  obtain ⟨xs, m, _, _, _, hx, hall⟩ := DataW.trod_struct hu h
  cases hfi : fs[i]? with
  | none => rw [hfi] at hf; simp at hf
  | some f =>
    rw [hfi] at hf
    simp only [Option.map_some, Option.some.injEq, Prod.mk.injEq] at hf
    obtain ⟨rfl, rfl⟩ := hf
    have h1 := hall i f hfi
    have hlt : i < xs.length := by rw [hx]; exact (Array.getElem?_eq_some_iff.1 hfi).1
    rw [List.getElem?_eq_getElem hlt, hc] at h1
    exact ⟨m, _, h1⟩
theorem trod_str {t : TypeId} {fs : Array Field} {n : Nat} {cs : List Value} {y : DataW H × List MemPlace} (hu : P.underlying t = some (.struct fs)) (h : DataW.trod enc P W base spare held n t cs = some y) (i off : Nat) (ty : TypeId)
    (hf : (fs[i]?).map (fun f => (f.offset, f.type)) = some (off, ty)) (hc : P.cellsOf ty = 1) (hty : P.underlying ty = some .string) : ∃ s : ByteArray, cs[off]? = some (.string s) ∧ s.size ≤ maxLen := by
  obtain ⟨m, y', h1⟩ := trod_field hu h i off ty 1 hf hc
  obtain ⟨s, e, _, hs⟩ := DataW.trod_string hty h1
  refine ⟨s, ?_, hs⟩
  have := congrArg (fun l => l[0]?) e
  simpa using this
theorem trod_i {t : TypeId} {fs : Array Field} {n : Nat} {cs : List Value} {y : DataW H × List MemPlace} (hu : P.underlying t = some (.struct fs)) (h : DataW.trod enc P W base spare held n t cs = some y) (i off : Nat) (ty : TypeId) {k : IntKind}
    (hf : (fs[i]?).map (fun f => (f.offset, f.type)) = some (off, ty)) (hc : P.cellsOf ty = 1) (hty : P.underlying ty = some (.int k)) : ∃ z : Int, cs[off]? = some (.int k z) ∧ (Lit.int k z).wf = true := by
  obtain ⟨m, y', h1⟩ := trod_field hu h i off ty 1 hf hc
  obtain ⟨z, e, _, hz⟩ := DataW.trod_int hty h1
  refine ⟨z, ?_, hz⟩
  have := congrArg (fun l => l[0]?) e
  simpa using this
theorem trod_b {t : TypeId} {fs : Array Field} {n : Nat} {cs : List Value} {y : DataW H × List MemPlace} (hu : P.underlying t = some (.struct fs)) (h : DataW.trod enc P W base spare held n t cs = some y) (i off : Nat) (ty : TypeId)
    (hf : (fs[i]?).map (fun f => (f.offset, f.type)) = some (off, ty)) (hc : P.cellsOf ty = 1) (hty : P.underlying ty = some .bool) : ∃ z : Bool, cs[off]? = some (.bool z) := by
  obtain ⟨m, y', h1⟩ := trod_field hu h i off ty 1 hf hc
  obtain ⟨z, e, _⟩ := DataW.trod_bool hty h1
  refine ⟨z, ?_⟩
  have := congrArg (fun l => l[0]?) e
  simpa using this
end
end WB
namespace WB
open Go Go.RowKit
theorem laidVars_mem {P : Program} {W : World} : ∀ {l : List (String × DataW Unit)} {ps : List MemPlace}, DataW.LaidVars P W l ps → ∀ x ∈ l, ∃ g t cs fuel p, P.globalNamed x.1 = some g ∧ (P.globals[g]?).map (·.type) = some t ∧ W.var? P x.1 = some cs ∧ DataW.trod (fun _ => ()) P W 0 (fun _ => true) false fuel t cs.toList = some (x.2, p)
  | [], _, _, x, hx => by cases hx
  | (n, d) :: r, ps, h, x, hx => by
    obtain ⟨g, t, cs, fuel, p, q, h1, h2, h3, h4, h5, _⟩ := h
    rcases List.mem_cons.1 hx with rfl | hx
    · exact ⟨g, t, cs, fuel, p, h1, h2, h3, h4⟩
    · exact laidVars_mem h5 x hx
theorem tab_of_laid {P : Program} {W : World} {name : String} {k : IntKind} {zs : List Int} {l : List (String × DataW Unit)} {g : Nat} {t e : TypeId} {n : Nat}
    (h : laidMet P l W) (hm : (name, Lib.tabData k zs) ∈ l) (hg : P.globalNamed name = some g) (hty : (P.globals[g]?).map (·.type) = some t) (ht : P.underlying t = some (.array n e)) (he : P.underlying e = some (.int k)) (hce : P.cellsOf e = 1) (hct : P.cellsOf t = n) : Lib.TabIs P W name k zs := by
  obtain ⟨ps, hv, _⟩ := h
  obtain ⟨g', t', cs, fuel, p, h1, h2, h3, h4⟩ := laidVars_mem hv _ hm
  obtain rfl := Option.some.inj (hg.symm.trans h1)
  obtain rfl := Option.some.inj (hty.symm.trans h2)
  unfold Lib.TabIs
  rw [h3, ← Lib.cells_of_tab ht he hce hct h4]
end WB
namespace WB
open Go Go.RowKit Go.ChangeShapes Go.WideShapes Go.Deep
theorem trodAll_five {H : Type} {enc : TypeId × Value → H} {P : Program} {w : World} {base : Nat} {spare : Nat → Bool} {held : Bool} {t0 t1 t2 t3 t4 : TypeId} {args : Array Value} {ds : List (DataW H)} {ps : List MemPlace} (h : DataW.TrodAll enc P w base spare held [t0, t1, t2, t3, t4] args.toList ds ps) :
    ∃ v0 v1 v2 v3 v4 d0 d1 d2 d3 d4 p0 p1 p2 p3 p4, args = #[v0, v1, v2, v3, v4] ∧ ds = [d0, d1, d2, d3, d4] ∧ ps = p0 ++ p1 ++ p2 ++ p3 ++ p4 ∧ DataW.Trod enc P w base spare held t0 v0 d0 p0 ∧ DataW.Trod enc P w base spare held t1 v1 d1 p1 ∧ DataW.Trod enc P w base spare held t2 v2 d2 p2 ∧ DataW.Trod enc P w base spare held t3 v3 d3 p3 ∧ DataW.Trod enc P w base spare held t4 v4 d4 p4 := by
  obtain ⟨v0, vs0, d0, ds0, p0, q0, hargs, rfl, rfl, h0, hr0⟩ := trodAll_cons h
  obtain ⟨v1, vs1, d1, ds1, p1, q1, rfl, rfl, rfl, h1, hr1⟩ := trodAll_cons hr0
  obtain ⟨v2, vs2, d2, ds2, p2, q2, rfl, rfl, rfl, h2, hr2⟩ := trodAll_cons hr1
  obtain ⟨v3, vs3, d3, ds3, p3, q3, rfl, rfl, rfl, h3, hr3⟩ := trodAll_cons hr2
  obtain ⟨v4, vs4, d4, ds4, p4, q4, rfl, rfl, rfl, h4, hr4⟩ := trodAll_cons hr3
  obtain ⟨rfl, rfl, rfl⟩ := trodAll_nil hr4
  exact ⟨v0, v1, v2, v3, v4, d0, d1, d2, d3, d4, p0, p1, p2, p3, p4, by cases args; simp_all, rfl, by simp, h0, h1, h2, h3, h4⟩
end WB
/- names: what Drop answers; two lists of the same names -/
namespace WB
open Go Go.RowKit
theorem KO.eqSn {P : Program} {ops : Array Oper} {d : Bool} {Q : Exit → Act → World → Prop} {n : Nat} {D : List Deferred} {w0 : World} {G : Env} {L : List HP} {l : List (Kd × Oper)} {k : Kd}
  {t : Nat} {ty T T' E : TypeId} {pos : String} {af : Array Edge} {x : Operand} {a : Option Addr} {len cap : Nat}
    (hx : ev G x = some (.slice a len cap)) (hT : P.underlying T = some (.slice E)) (ht : Nat.blt t n = true) (h : KO P ops d Q n D w0 ((t, .bool a.isNone) :: G) L l) :
    KO P ops d Q n D w0 G L ((k, ⟨some t, .binOp .eql T x (.const (.slice none 0 0)) T', ty, pos, af, none⟩) :: l) :=
  KO.val (fun a' w ha => by
    simp only [execOp, ha.eval hx, show a'.eval (.const (.slice none 0 0)) = .slice none 0 0 from rfl]
    simp [go_sem, Lib.run_eql_slice_nil w T E a len cap 0 0 hT]) ht h
end WB
namespace WB
open Go
theorem List.set_getElem_of {α : Type} {l : List α} {i : Nat} {x : α} (h : l[i]? = some x) : l.set i x = l := by
  obtain ⟨hi, rfl⟩ := List.getElem?_eq_some_iff.1 h
  exact List.set_getElem_self hi
def dropErr (l : List Nm) (s : ByteArray) : Int := if hitB l s (srchN l s) = true then 0 else 7
def dropNm (l : List Nm) (s : ByteArray) : List Nm := if hitB l s (srchN l s) = true then l.eraseIdx (srchN l s) else l
theorem dropNm_len (l : List Nm) (s : ByteArray) : (dropNm l s).length ≤ l.length := by
  unfold dropNm
  split
  · rw [List.length_eraseIdx]; split <;> omega
  · exact Nat.le_refl _
end WB
namespace WB
open Go
def ofNm (l : List Nm) (s : ByteArray) : Nm := (lk l s).getD ⟨⟨#[]⟩, ⟨#[]⟩, 0⟩
def mayErr (l : List Nm) (x : Nm) : Int := if rightNm x = false then 1 else if lk l x.name = none ∧ 20 ≤ l.length then 12 else 0
def lkLocal (l : List Nm) (s : ByteArray) : Bool := match lk l s with | some x => decide (x.tgt = ⟨#[]⟩) | none => false
def lkI (l : List Nm) (s : ByteArray) : Option Nat := l.findIdx? fun x => decide (x.name = s)
def lkDropE (l : List Nm) (s : ByteArray) : Int := match lkI l s with | some _ => 0 | none => 7
def lkDrop (l : List Nm) (s : ByteArray) : List Nm := match lkI l s with | some k => l.eraseIdx k | none => l
def lkSet (l : List Nm) (x : Nm) : List Nm := if mayErr l x = 0 then lkDrop l x.name ++ [x] else l
theorem emptyB_eq (s : ByteArray) : emptyB s = decide (s = ⟨#[]⟩) := by
  unfold emptyB
  rw [Bool.eq_iff_iff, decide_eq_true_eq, List.isEmpty_iff, ByteArray.toList_eq]
  constructor
  · intro h
    apply ByteArray.ext; apply Array.ext'; simpa using h
  · rintro rfl; rfl
theorem lk_first {l : List Nm} {s : ByteArray} {k : Nat} {y : Nm} (hy : l[k]? = some y) (h : y.name = s) (hall : ∀ (j : Nat) z, j < k → l[j]? = some z → z.name ≠ s) : lk l s = some y := by
  unfold lk
  obtain ⟨hk, rfl⟩ := List.getElem?_eq_some_iff.1 hy
  rw [List.find?_eq_some_iff_getElem]
  refine ⟨by simpa using h, k, hk, rfl, fun j hj => ?_⟩
  have := hall j l[j] hj (List.getElem?_eq_getElem _)
  simp [this]
theorem lk_no {l : List Nm} {s : ByteArray} (hall : ∀ (j : Nat) z, l[j]? = some z → z.name ≠ s) : lk l s = none := by
  unfold lk
  rw [List.find?_eq_none]
  intro x hx
  obtain ⟨j, hj, rfl⟩ := List.getElem_of_mem hx
  simpa using hall j _ (List.getElem?_eq_getElem hj)
theorem lk_idx {l : List Nm} {s : ByteArray} {k : Nat} {y : Nm} (hy : l[k]? = some y) (h : y.name = s) (hall : ∀ (j : Nat) z, j < k → l[j]? = some z → z.name ≠ s) : lkI l s = some k := by
  unfold lkI
  obtain ⟨hk, rfl⟩ := List.getElem?_eq_some_iff.1 hy
  rw [List.findIdx?_eq_some_iff_getElem]
  refine ⟨hk, by simpa using h, fun j hj => ?_⟩
  have := hall j l[j] hj (List.getElem?_eq_getElem _)
  simp [this]
theorem lk_idx_no {l : List Nm} {s : ByteArray} (hall : ∀ (j : Nat) z, l[j]? = some z → z.name ≠ s) : lkI l s = none := by
  unfold lkI
  rw [List.findIdx?_eq_none_iff]
  intro x hx
  obtain ⟨j, hj, rfl⟩ := List.getElem_of_mem hx
  simpa using hall j _ (List.getElem?_eq_getElem hj)
theorem lkDrop_len (l : List Nm) (s : ByteArray) : (lkDrop l s).length ≤ l.length := by
  unfold lkDrop
  split
  · rw [List.length_eraseIdx]; split <;> omega
  · exact Nat.le_refl _
end WB
namespace WB
open Go
instance decMemB (s : ByteArray) (l : List ByteArray) : Decidable (s ∈ l) := decidable_of_iff ((l.any fun u => decide (u = s)) = true) (by simp)
/-- what a name stands for, as the document goes on: by what was seen -/
def resR (l : List Nm) : Nat → List ByteArray → ByteArray → ByteArray × Int × Int
  | 0, _, _ => (⟨#[]⟩, 0, 11)
  | n + 1, seen, s => if s ∈ seen then (⟨#[]⟩, 0, 11) else match lk l s with
    | none => (⟨#[]⟩, 0, 7)
    | some x => if x.tgt = ⟨#[]⟩ then (s, -1, 0) else if 0 ≤ x.house then (x.tgt, x.house, 0) else resR l n (s :: seen) x.tgt
/-! two lists of the same names -/
structure NRel (l rl : List Nm) : Prop where
  sorted : Sorted l
  perm : rl.Perm l
theorem NRel.nil : NRel [] [] := ⟨sorted_nil, .refl _⟩
theorem find_nodup {l : List Nm} (h : (l.map Nm.name).Nodup) {x : Nm} (hx : x ∈ l) : lk l x.name = some x := by
  induction l with
  | nil => cases hx
  | cons a l ih =>
    rw [List.map_cons, List.nodup_cons] at h
    rw [lk_cons]
    rcases List.mem_cons.1 hx with rfl | hx
    · rw [if_pos rfl]
    · rw [if_neg (fun e : a.name = x.name => h.1 (e ▸ List.mem_map_of_mem (f := Nm.name) hx))]
      exact ih h.2 hx
theorem lk_perm {l m : List Nm} (hp : m.Perm l) (hn : (l.map Nm.name).Nodup) (s : ByteArray) : lk m s = lk l s := by
  have hn2 : (m.map Nm.name).Nodup := (hp.map Nm.name).nodup_iff.2 hn
  cases h : lk l s with
  | some x =>
    obtain ⟨h1, rfl⟩ := lk_some h
    exact find_nodup hn2 (hp.mem_iff.2 h1)
  | none =>
    cases h2 : lk m s with
    | none => rfl
    | some x =>
      obtain ⟨h1, rfl⟩ := lk_some h2
      rw [find_nodup hn (hp.mem_iff.1 h1)] at h; cases h
theorem NRel.nodup {l rl : List Nm} (h : NRel l rl) : (l.map Nm.name).Nodup := sorted_nodup h.sorted
theorem NRel.rnodup {l rl : List Nm} (h : NRel l rl) : (rl.map Nm.name).Nodup := (h.perm.map Nm.name).nodup_iff.2 h.nodup
theorem NRel.lk {l rl : List Nm} (h : NRel l rl) (s : ByteArray) : lk rl s = look l s := by rw [lk_perm h.perm h.nodup, look_sorted h.sorted]
theorem NRel.len {l rl : List Nm} (h : NRel l rl) : rl.length = l.length := h.perm.length_eq
theorem look_hit (l : List Nm) (s : ByteArray) : look l s = none ↔ hitB l s (srchN l s) = false := by
  unfold look
  cases hitB l s (srchN l s) <;> simp
theorem NRel.may {l rl : List Nm} (h : NRel l rl) (x : Nm) : mayErr rl x = setErr l x := by
  unfold mayErr setErr
  rw [h.lk, h.len]
  cases h1 : rightNm x with
  | false => simp
  | true =>
    simp only [Bool.true_eq_false, if_false]
    cases h2 : hitB l x.name (srchN l x.name) with
    | false => simp [(look_hit l x.name).2 h2]
    | true => rw [if_neg (fun e => by rw [(look_hit l x.name).1 e.1] at h2; cases h2)]; simp
theorem NRel.local {l rl : List Nm} (h : NRel l rl) (s : ByteArray) : lkLocal rl s = localB l s := by
  unfold lkLocal localB
  rw [h.lk]
  cases look l s with
  | none => rfl
  | some x => simp only; rw [emptyB_eq]
theorem lkI_none {l : List Nm} {s : ByteArray} : lkI l s = none ↔ lk l s = none := by
  unfold lkI WB.lk
  rw [List.findIdx?_eq_none_iff, List.find?_eq_none]
  simp
theorem lkDrop_filter {l : List Nm} (hn : (l.map Nm.name).Nodup) (s : ByteArray) : lkDrop l s = l.filter fun x => !decide (x.name = s) := by
  induction l with
  | nil => rfl
  | cons a l ih =>
    rw [List.map_cons, List.nodup_cons] at hn
    unfold lkDrop lkI
    rw [List.findIdx?_cons]
    by_cases e : a.name = s
    · subst e
      simp only [decide_true, if_true, List.eraseIdx_cons_zero, List.filter_cons, Bool.not_true, Bool.false_eq_true, if_false]
      symm
      rw [List.filter_eq_self]
      intro x hx
      have : x.name ≠ a.name := fun e => hn.1 (e ▸ List.mem_map_of_mem (f := Nm.name) hx)
      simp [this]
    · have := ih hn.2
      unfold lkDrop lkI at this
      simp only [e, decide_false, Bool.false_eq_true, if_false, List.filter_cons, Bool.not_false, if_true]
      rw [← this]
      cases h : List.findIdx? (fun x : Nm => decide (x.name = s)) l <;> simp
theorem dropNm_filter {l : List Nm} (h : Sorted l) (s : ByteArray) : dropNm l s = l.filter fun x => !decide (x.name = s) := by
  unfold dropNm
  cases hh : hitB l s (srchN l s) with
  | false =>
    simp only [Bool.false_eq_true, if_false]
    symm
    rw [List.filter_eq_self]
    intro x hx
    have h1 := (look_hit l s).2 hh
    rw [look_sorted h] at h1
    unfold WB.lk at h1
    have := List.find?_eq_none.1 h1 x hx
    simpa using this
  | true =>
    simp only [if_true]
    have hlt := hit_lt hh
    have he : cmpN (nmAt l (srchN l s)).name s = 0 := by unfold hitB at hh; rw [Bool.and_eq_true] at hh; simpa using hh.2
    have hn := cmpN_eq he
    rw [← lkDrop_filter (sorted_nodup h) s]
    unfold lkDrop
    have hi : lkI l s = some (srchN l s) := by
      refine lk_idx (y := nmAt l (srchN l s)) (by simp [nmAt, List.getD_eq_getElem?_getD, hlt]) hn fun j z hj hz hzn => ?_
      obtain ⟨hjl, rfl⟩ := List.getElem?_eq_some_iff.1 hz
      have := List.pairwise_iff_getElem.1 h j (srchN l s) hjl hlt hj
      rw [hzn] at this
      have e2 : l[srchN l s] = nmAt l (srchN l s) := by simp [nmAt, List.getD_eq_getElem?_getD, hlt]
      rw [e2, hn, cmpN_self] at this
      omega
    rw [hi]
theorem NRel.dropE {l rl : List Nm} (h : NRel l rl) (s : ByteArray) : lkDropE rl s = dropErr l s := by
  unfold lkDropE dropErr
  cases h2 : hitB l s (srchN l s) with
  | false =>
    have : lkI rl s = none := lkI_none.2 (by rw [h.lk]; exact (look_hit l s).2 h2)
    rw [this]; simp
  | true =>
    cases h3 : lkI rl s with
    | none =>
      have := lkI_none.1 h3
      rw [h.lk] at this
      rw [(look_hit l s).1 this] at h2; cases h2
    | some _ => simp
theorem NRel.drop {l rl : List Nm} (h : NRel l rl) (s : ByteArray) : NRel (dropNm l s) (lkDrop rl s) := by
  rw [dropNm_filter h.sorted, lkDrop_filter h.rnodup]
  exact ⟨List.Pairwise.sublist List.filter_sublist h.sorted, h.perm.filter _⟩
theorem insN_perm (x : Nm) : ∀ {l : List Nm}, Sorted l → (l.filter (fun y => !decide (y.name = x.name)) ++ [x]).Perm (insN x l) := by
  intro l h
  have h1 : (insN x l).filter (fun y => !decide (y.name = x.name)) = l.filter (fun y => !decide (y.name = x.name)) := by
    refine sorted_ext (List.Pairwise.sublist List.filter_sublist (insN_sorted h)) (List.Pairwise.sublist List.filter_sublist h) fun s => ?_
    have key : ∀ m : List Nm, WB.lk (m.filter fun y => !decide (y.name = x.name)) s = if s = x.name then none else WB.lk m s := fun m => by
      induction m with
      | nil => by_cases e : s = x.name <;> simp [WB.lk]
      | cons a m ih =>
        rw [List.filter_cons]
        by_cases e : a.name = x.name
        · simp only [e, decide_true, Bool.not_true, Bool.false_eq_true, if_false]
          rw [ih, lk_cons]
          by_cases e2 : s = x.name
          · simp [e2]
          · rw [if_neg e2, if_neg e2, if_neg (fun e3 => e2 (e3.symm.trans e))]
        · simp only [e, decide_false, Bool.not_false, if_true]
          rw [lk_cons, lk_cons, ih]
          by_cases e2 : s = x.name
          · subst e2; simp [e]
          · simp [e2]
    rw [key, key, lk_insN]
    by_cases e : s = x.name
    · simp [e]
    · rw [if_neg e, if_neg e, if_neg (fun e2 => e e2.symm)]
  have hx : x ∈ insN x l := (lk_some (show WB.lk (insN x l) x.name = some x by rw [lk_insN, if_pos rfl])).1
  have hnd := sorted_nodup (insN_sorted (x := x) h)
  rw [← h1]
  generalize insN x l = m at *
  clear h1
  induction m with
  | nil => cases hx
  | cons a m ih =>
    rw [List.map_cons, List.nodup_cons] at hnd
    rw [List.filter_cons]
    by_cases e : a.name = x.name
    · have hax : a = x := by
        rcases List.mem_cons.1 hx with rfl | hx
        · rfl
        · exact absurd (e ▸ List.mem_map_of_mem (f := Nm.name) hx) hnd.1
      subst hax
      simp only [decide_true, Bool.not_true, Bool.false_eq_true, if_false]
      rw [List.filter_eq_self.2]
      · exact List.perm_append_comm
      · intro y hy
        have : y.name ≠ a.name := fun e => hnd.1 (e ▸ List.mem_map_of_mem (f := Nm.name) hy)
        simp [this]
    · simp only [e, decide_false, Bool.not_false, if_true, List.cons_append]
      rcases List.mem_cons.1 hx with rfl | hx
      · exact absurd rfl e
      · exact (ih hx hnd.2).cons a
theorem NRel.set {l rl : List Nm} (h : NRel l rl) (x : Nm) : NRel (setNm l x) (lkSet rl x) := by
  unfold lkSet
  rw [h.may]
  by_cases h0 : setErr l x = 0
  · rw [if_pos h0]
    have hr : rightNm x = true := by
      cases hr : rightNm x with
      | true => rfl
      | false => unfold setErr at h0; rw [if_pos hr] at h0; cases h0
    have e1 : setNm l x = insN x l := by
      rw [← put_insN]
      unfold setErr at h0
      unfold setNm
      rw [if_neg (by simp [hr])] at h0 ⊢
      by_cases h2 : hitB l x.name (srchN l x.name) = true
      · rw [if_pos h2, if_pos h2]
      · rw [if_neg h2] at h0 ⊢
        rw [if_neg h2]
        by_cases h3 : 20 ≤ l.length
        · rw [if_pos h3] at h0; cases h0
        · rw [if_neg h3]
    rw [e1]
    refine ⟨insN_sorted h.sorted, ?_⟩
    rw [lkDrop_filter h.rnodup]
    exact ((h.perm.filter _).append_right _).trans (insN_perm x h.sorted)
  · rw [if_neg h0]
    have e1 : setNm l x = l := by
      unfold setErr at h0
      unfold setNm
      by_cases hr : rightNm x = false
      · rw [if_pos hr]
      · rw [if_neg hr] at h0 ⊢
        by_cases h2 : hitB l x.name (srchN l x.name) = true
        · rw [if_pos h2] at h0; exact absurd rfl h0
        · rw [if_neg h2] at h0 ⊢
          by_cases h3 : 20 ≤ l.length
          · rw [if_pos h3]
          · rw [if_neg h3] at h0; exact absurd rfl h0
    rw [e1]; exact h
theorem way_some {l : List Nm} {s : ByteArray} {p : Nat} (hp : 1 ≤ p) (h : way l s p = some s) : ∀ n, (way l s n).isSome = true := by
  have hm : ∀ m, way l s (p * m) = some s := fun m => by
    induction m with
    | zero => rfl
    | succ m ih =>
      have := way_add (k := p) (i := p * m) (j := 0) ih rfl
      rw [Nat.zero_add, h] at this
      rw [Nat.mul_succ]; exact this
  intro n
  cases hw : way l s n with
  | some _ => rfl
  | none =>
    have := way_none hw (p * n) (Nat.le_mul_of_pos_left n hp)
    rw [hm n] at this; cases this
theorem resN_some {l : List Nm} : ∀ (n : Nat) {s : ByteArray}, (way l s n).isSome = true → resN l n s = (⟨#[]⟩, 0, 11)
  | 0, _, _ => rfl
  | n + 1, s, h => by
    rw [way_succ] at h
    cases hn : nxt l s with
    | none => rw [hn] at h; cases h
    | some t => rw [hn] at h; rw [resN_nxt hn]; exact resN_some n h
theorem resR_resN {l rl : List Nm} (hr : NRel l rl) : ∀ (n N : Nat) (seen : List ByteArray) (s : ByteArray), n ≤ N → rl.length + 1 ≤ n + seen.length → seen.Nodup → (∀ u ∈ seen, u ∈ rl.map Nm.name) → (∀ u ∈ seen, ∃ i, 1 ≤ i ∧ way l u i = some s) →
    resR rl n seen s = resN l N s
  | 0, N, seen, s, _, h2, h3, h4, _ => by
    have := nodup_len h3 h4
    simp at this; omega
  | n + 1, N, seen, s, h1, h2, h3, h4, h5 => by
    obtain ⟨N, rfl⟩ : ∃ M, N = M + 1 := ⟨N - 1, by omega⟩
    rw [resR]
    by_cases hs : s ∈ seen
    · rw [if_pos hs]
      obtain ⟨i, hi, hw⟩ := h5 s hs
      exact (resN_some _ (way_some hi hw _)).symm
    · rw [if_neg hs, hr.lk, resN]
      cases hk : look l s with
      | none => rfl
      | some x =>
        simp only
        rw [emptyB_eq]
        by_cases h6 : x.tgt = ⟨#[]⟩
        · simp [h6]
        · simp only [h6, decide_false, Bool.false_eq_true, if_false]
          by_cases h7 : 0 ≤ x.house
          · simp [h7]
          · simp only [h7, if_false]
            have hn : nxt l s = some x.tgt := by unfold nxt; rw [hk]; simp only; rw [emptyB_eq]; simp [h6, h7]
            refine resR_resN hr n N (s :: seen) x.tgt (by omega) (by rw [List.length_cons]; omega) (List.nodup_cons.2 ⟨hs, h3⟩) (fun u hu => ?_) (fun u hu => ?_)
            · rcases List.mem_cons.1 hu with rfl | hu
              · have := nxt_mem hn
                exact (hr.perm.map Nm.name).mem_iff.2 this
              · exact h4 u hu
            · rcases List.mem_cons.1 hu with rfl | hu
              · exact ⟨1, Nat.le_refl _, by rw [way, way]; exact hn⟩
              · obtain ⟨i, hi, hw⟩ := h5 u hu
                exact ⟨i + 1, by omega, by rw [way, hw]; exact hn⟩
theorem NRel.res {l rl : List Nm} (h : NRel l rl) (s : ByteArray) : resR rl (rl.length + 1) [] s = resN l (l.length + 1) s :=
  resR_resN h _ _ [] s (by rw [h.len]; exact Nat.le_refl _) (by simp) .nil (fun u hu => by cases hu) (fun u hu => by cases hu)
theorem NRel.all {l rl ys : List Nm} (h : NRel l rl) (hp : ys.Perm rl) (hs : ys.Pairwise fun a b => decide (cmpN b.name a.name < 0) = false) : ys = l := by
  have hn : (ys.map Nm.name).Nodup := (hp.map Nm.name).nodup_iff.2 h.rnodup
  have hs2 : Sorted ys := by
    unfold Sorted
    have hn2 : ys.Pairwise fun a b => a.name ≠ b.name := by
      have := List.nodup_iff_pairwise_ne.1 hn
      rwa [List.pairwise_map] at this
    refine (hs.and hn2).imp fun {a b} hab => ?_
    obtain ⟨h1, h2⟩ := hab
    have h3 : ¬ cmpN b.name a.name < 0 := by simpa using h1
    have h4 : cmpN a.name b.name ≠ 0 := fun e => h2 (cmpN_eq e)
    have := cmpN_anti a.name b.name
    omega
  exact sorted_ext hs2 h.sorted fun s => by rw [lk_perm (hp.trans h.perm) h.nodup]
end WB
namespace WB
deriving instance DecidableEq for Nm
theorem nm_bools (a b : Nm) : (decide (a.name = b.name) && (decide (a.tgt = b.tgt) && (decide (a.house = b.house) && true))) = decide (a = b) := by
  obtain ⟨a1, a2, a3⟩ := a
  obtain ⟨b1, b2, b3⟩ := b
  rw [Bool.eq_iff_iff]; simp
end WB
/- names: the contracts in the calculus; Drop, All. -/
namespace Go.Proofs.YtjhogocabcdjbaaGreatDoor
open Go Go.RowKit WB
abbrev nmS (v : Value) (l : List Nm) : HP := SL 69 3 Nm.cells v l
theorem nm_info : (Tryz.prog.info? 69).map (fun i => (i.zero, i.size, i.bytes)) = some (some (Value.agg #[.string ⟨#[]⟩, .string ⟨#[]⟩, .int .i64 0]), 3, 40) := by kernel_rfl
theorem nm_one (x : Nm) : x.cells.all Value.oneCell' = true := rfl
section
variable (w0 : World) (L R R2 : List HP) (b off : Nat) (cs : List Value) (T : TypeId) (v : Value) (l : List Nm) (s : ByteArray) (x : Nm)
theorem nright_e (h1 : x.name.size ≤ maxLen) (h2 : x.tgt.size ≤ maxLen) : KE Tryz.prog 41 #[.agg x.cells.toArray] w0 L (fun u M => u = .bool (rightNm x) ∧ M = L) := KE.of_below fun w _ => right_is x _ w h1 h2 rfl
theorem find_e (hp : Pick L (blk b (.cells cs.toArray T (0, 0))) R) (hq : Pick R (nmS v l) R2) (hc : cs[off]? = some v) (hl : l.length < 1000000) (hs : Sorted l) :
    KE Tryz.prog 85 #[.pointer (some ⟨b, off, none⟩), .string s] w0 L (fun u M => u = .tuple #[.int .i64 (srchN l s : Nat), .bool (hitB l s (srchN l s))] ∧ M = L) := fun w hw =>
  (find_any b off cs.toArray T (0, 0) v l s w w0 R2 (hw.pick2 hp hq) (by simpa using hc) hl (hs.mono s)).mono fun e w' ⟨k, hk, he, hb⟩ => by
    obtain rfl := srch_eq hk
    exact ⟨_, _, he, ⟨rfl, rfl⟩, hw.below_step hb, hb⟩
theorem local_e (hp : Pick L (blk b (.cells cs.toArray T (0, 0))) R) (hq : Pick R (nmS v l) R2) (hc : cs[off]? = some v) (hl : l.length < 1000000) (hs : Sorted l) :
    KE Tryz.prog 39 #[.pointer (some ⟨b, off, none⟩), .string s] w0 L (fun u M => u = .bool (localB l s) ∧ M = L) := fun w hw =>
  (local_any b off cs.toArray T v l s w w0 R2 (hw.pick2 hp hq) (by simpa using hc) (hs.mono s) hl).mono fun e w' ⟨he, hb⟩ => ⟨_, _, he, ⟨rfl, rfl⟩, hw.below_step hb, hb⟩
theorem resolve_e (hp : Pick L (blk b (.cells cs.toArray T (0, 0))) R) (hq : Pick R (nmS v l) R2) (hc : cs[off]? = some v) (hl : l.length < 1000000) (hs : Sorted l) :
    KE Tryz.prog 38 #[.pointer (some ⟨b, off, none⟩), .string s] w0 L (fun u M => u = .tuple #[.string (resN l (l.length + 1) s).1, .int .i64 (resN l (l.length + 1) s).2.1, errV 39 (resN l (l.length + 1) s).2.2] ∧ M = L) := fun w hw =>
  (resolve_any b off cs.toArray T v l s w w0 R2 (hw.pick2 hp hq) (by simpa using hc) hs.mono hl).mono fun e w' ⟨he, hb⟩ => ⟨_, _, he, ⟨rfl, rfl⟩, hw.below_step hb, hb⟩
theorem nset_c (hp : Pick L (blk b (.cells cs.toArray T (0, 0))) R) (hq : Pick R (nmS v l) R2) (hc : cs[off]? = some v) (h1 : x.name.size ≤ maxLen) (h2 : x.tgt.size ≤ maxLen) (hl : l.length ≤ 20) (hs : Sorted l) :
    KC Tryz.prog 33 #[.pointer (some ⟨b, off, none⟩), .agg x.cells.toArray] w0 L (fun u M => u = errV 39 (setErr l x) ∧ ∃ v', M = blk b (.cells (cs.set off v').toArray T (0, 0)) :: nmS v' (setNm l x) :: R2) := fun w hw =>
  (set_any b off cs.toArray T v l x w w0 R2 (hw.pick2 hp hq) (by simpa using hc) h1 h2 (hs.mono _) hl).mono fun e w' ⟨he, v', hs'⟩ => ⟨_, _, he, ⟨rfl, v', rfl⟩, by
    rw [List.setIfInBounds_toArray] at hs'; exact hs'⟩
end
theorem nmdel_c (w0 : World) (L : List HP) (v : Value) (xs : List Nm) (k : Nat) (hk : k < xs.length) (hn : xs.length < 1000000) :
    KC Tryz.prog 88 #[v, .int .i64 (k : Nat), .int .i64 ((k : Int) + 1)] w0 (nmS v xs :: L) (fun v' L' => L' = nmS v' (xs.eraseIdx k) :: L) := by
  refine KC.pre (fun w hw => SL_some hw hk) ?_
  rintro ⟨g, cap, rfl⟩
  refine KC.pre (fun w hw => (SL_open hw).2.1) fun hnc => ?_
  refine KC.mk (n := 33) Tryz.func88 rfl Tryz.ntmps88 (by simp) ?_
  repeat ((with_reducible refine K.seq ?_))
  refine K.reg ?_
  refine KO.as rfl rfl ?_
  refine KO.nil ?_
  repeat (first | (with_reducible refine K.seq ?_) | (with_reducible refine KQ.next ?_))
  refine K.reg ?_
  refine KO.mv rfl rfl ?_
  refine KO.mv rfl rfl ?_
  refine KO.mv rfl rfl ?_
  refine KO.mv rfl rfl ?_
  refine KO.len rfl Tryz.underlying62 rfl ?_
  refine KO.cutAny (lo := k) (hi := k + 1) (mx := xs.length) rfl rfl rfl rfl Tryz.underlying62 Tryz.sizeOf69 rfl (by omega) rfl (by omega) (by omega) (by omega) rfl (fun q13 => ?_)
  refine KO.nil ?_
  repeat (first | (with_reducible refine K.seq ?_) | (with_reducible refine KQ.next ?_))
  refine K.reg ?_
  refine KO.mv rfl rfl ?_
  refine KO.mv rfl rfl ?_
  refine KO.eqI rfl rfl rfl ?_
  refine KO.nil ?_
  repeat ((with_reducible refine KQ.next ?_))
  refine K.condF rfl (by simp; omega) ?_
  repeat (first | (with_reducible refine K.seq ?_) | (with_reducible refine KQ.next ?_) | (with_reducible refine K.skip ?_))
  refine K.reg ?_
  refine KO.mv rfl rfl ?_
  refine KO.len rfl Tryz.underlying62 rfl ?_
  refine KO.as rfl rfl ?_
  refine KO.nil ?_
  repeat (first | (with_reducible refine K.seq ?_) | (with_reducible refine KQ.next ?_))
  refine K.draw [.pure, .pure, .pure, .pure, .pure, .pure, .write, .pure] [0, 1, 2, 3, 4, 5, 6, 7] (by kernel_rfl) (by kernel_rfl) ?_
  refine KO.mv rfl rfl ?_
  refine KO.mv rfl rfl ?_
  refine KO.cutTo rfl rfl Tryz.underlying62 Tryz.sizeOf69 (by exact rfl) (by omega) rfl ?_
  refine KO.mv rfl rfl ?_
  refine KO.mv rfl rfl ?_
  refine KO.cutFrom (lo := k + 1) rfl rfl Tryz.underlying62 Tryz.sizeOf69 (by omega) (by omega) (by omega) rfl ?_
  refine KO.move (j := k + 1) rfl rfl rfl Pick.head rfl hnc Tryz.underlying62 nm_info (fun _ => rfl) nm_one (by omega) (by omega) rfl ?_
  refine KO.as rfl rfl ?_
  refine KO.nil ?_
  repeat (first | (with_reducible refine K.seq ?_) | (with_reducible refine KQ.next ?_))
  refine K.reg ?_
  refine KO.mv rfl rfl ?_
  refine KO.mv rfl rfl ?_
  refine KO.len rfl Tryz.underlying62 rfl ?_
  refine KO.mv rfl rfl ?_
  refine KO.cutMid (lo := k + (xs.length - (k + 1))) (hi := xs.length) rfl rfl rfl Tryz.underlying62 Tryz.sizeOf69 rfl rfl (by omega) (by omega) rfl ?_
  refine KO.clear rfl rfl Pick.head hnc (by simp; omega) (by simp; omega) Tryz.underlying62 nm_info (fun _ => rfl) rfl rfl ?_
  refine KO.nil ?_
  repeat (first | (with_reducible refine K.seq ?_) | (with_reducible refine KQ.next ?_))
  refine K.reg ?_
  refine KO.mv rfl rfl ?_
  refine KO.as rfl rfl ?_
  refine KO.nil ?_
  repeat (first | (with_reducible refine KQ.next ?_) | (with_reducible refine K.ret ?_))
  refine KQ.ret1 rfl rfl (fun w' hs => ⟨_, _, rfl, rfl, ?_⟩)
  have e : (List.take (k + (xs.length - (k + 1))) (List.take k xs ++ List.drop (k + 1) xs ++ List.drop (k + (xs.length - (k + 1))) xs)) = xs.eraseIdx k := by
    rw [List.take_append_of_le_length (by simp; omega), List.take_of_length_le (by simp; omega), List.eraseIdx_eq_take_drop_succ]
  rw [e] at hs
  exact hs
theorem ndrop_c (w0 : World) (L R R2 : List HP) (b off : Nat) (cs : List Value) (T : TypeId) (v : Value) (l : List Nm) (s : ByteArray)
    (hp : Pick L (blk b (.cells cs.toArray T (0, 0))) R) (hq : Pick R (nmS v l) R2) (hc : cs[off]? = some v) (hl : l.length < 1000000) (hs : Sorted l) :
    KC Tryz.prog 35 #[.pointer (some ⟨b, off, none⟩), .string s] w0 L (fun u M => u = errV 39 (dropErr l s) ∧ ∃ v', M = blk b (.cells (cs.set off v').toArray T (0, 0)) :: nmS v' (dropNm l s) :: R2) := by
  refine KC.perm (L' := blk b (.cells cs.toArray T (0, 0)) :: nmS v l :: R2) (fun w hw => hw.pick2 hp hq) ?_
  have hoff := (List.getElem?_eq_some_iff.1 hc).1
  refine KC.mk (n := 27) Tryz.func35 rfl Tryz.ntmps35 (by simp) ?_
  repeat ((with_reducible refine K.seq ?_))
  refine K.reg ?_
  refine KO.as rfl rfl ?_
  refine KO.nil ?_
  repeat (first | (with_reducible refine K.seq ?_) | (with_reducible refine KQ.next ?_))
  refine K.reg ?_
  refine KO.mv rfl rfl ?_
  refine KO.mv rfl rfl ?_
  refine KO.ce (cp := []) rfl rfl rfl Tryz.call85 rfl (find_e w0 _ _ _ b off cs T v l s .head .head hc hl hs) ?_; rintro v' L' ⟨rfl, rfl⟩
  refine KO.mv rfl rfl ?_
  refine KO.extrL rfl (by exact rfl) rfl ?_
  refine KO.extrL rfl (by exact rfl) rfl ?_
  refine KO.as rfl rfl ?_
  refine KO.as rfl rfl ?_
  refine KO.nil ?_
  repeat (first | (with_reducible refine K.seq ?_) | (with_reducible refine KQ.next ?_))
  refine K.reg ?_
  refine KO.mv rfl rfl ?_
  refine KO.not rfl rfl ?_
  refine KO.nil ?_
  repeat ((with_reducible refine KQ.next ?_))
  cases hh : hitB l s (srchN l s) with
  | false =>
    have e1 : dropErr l s = 7 := by unfold dropErr; rw [hh]; rfl
    have e2 : dropNm l s = l := by unfold dropNm; rw [hh]; rfl
    refine K.condT rfl rfl ?_
    repeat ((with_reducible refine K.seq ?_))
    refine K.reg ?_
    refine KO.mki rfl (by kernel_rfl) rfl ?_
    refine KO.as rfl rfl ?_
    refine KO.nil ?_
    repeat (first | (with_reducible refine KQ.next ?_) | (with_reducible refine KQ.then_ret ?_) | (with_reducible refine K.ret ?_))
    refine KQ.ret1 rfl rfl (fun w' hs => ⟨_, _, rfl, ⟨?_, v, rfl⟩, ?_⟩)
    · rw [e1]; rfl
    · rw [e2, List.set_getElem_of hc]; exact hs
  | true =>
    have e1 : dropErr l s = 0 := by unfold dropErr; rw [hh]; rfl
    have e2 : dropNm l s = l.eraseIdx (srchN l s) := by unfold dropNm; rw [hh]; rfl
    have hk := hit_lt hh
    refine K.condF rfl rfl ?_
    repeat (first | (with_reducible refine K.seq ?_) | (with_reducible refine KQ.next ?_) | (with_reducible refine K.skip ?_))
    refine K.reg ?_
    refine KO.mv rfl rfl ?_
    refine KO.mv rfl rfl ?_
    refine KO.nc rfl rfl ?_
    refine KO.fo (off := 0) rfl Tryz.runUnderlying64 rfl rfl Tryz.sizeOf62 rfl ?_
    refine KO.ldAt (i := off) rfl rfl Tryz.isAgg62 .head rfl hc rfl ?_
    refine KO.mv rfl rfl ?_
    refine KO.mv rfl rfl ?_
    refine KO.add rfl rfl rfl (by omega) rfl ?_
    refine KO.cl (cp := []) rfl rfl rfl Tryz.call88 rfl (KC.pk1 (.tail .head) (nmdel_c w0 _ v l (srchN l s) hk hl)) ?_; rintro v' L' rfl; refine KO.fact (fun _ hs => SL_form hs) ?_; rintro ⟨a', c', rfl, -⟩
    refine KO.nc rfl rfl ?_
    refine KO.fo (off := 0) rfl Tryz.runUnderlying64 rfl rfl Tryz.sizeOf62 rfl ?_
    refine KO.stAt (i := off) rfl rfl rfl (by exact rfl) (by exact Tryz.sizeOf62) rfl (.tail .head) rfl hoff ?_
    refine KO.nil ?_
    repeat (first | (with_reducible refine K.seq ?_) | (with_reducible refine KQ.next ?_))
    refine K.reg ?_
    refine KO.as rfl rfl ?_
    refine KO.nil ?_
    repeat (first | (with_reducible refine KQ.next ?_) | (with_reducible refine K.ret ?_))
    refine KQ.ret1 rfl rfl (fun w' hs => ⟨_, _, rfl, ⟨?_, .slice a' (l.eraseIdx (srchN l s)).length c', rfl⟩, ?_⟩)
    · rw [e1]; rfl
    · rw [e2]; exact hs
theorem nmclone_e (w0 : World) (L : List HP) (v : Value) (xs : List Nm) (hs : ∀ w, St w0 L w → Src w Nm.cells v xs) (hn : xs.length < 1000000) :
    KE Tryz.prog 91 #[v] w0 L (fun u M => M = nmS u xs :: L) := by
  refine KE.mk (n := 8) Tryz.func91 rfl Tryz.ntmps91 (by simp) ?_
  intro w hw
  obtain ⟨a, cap, rfl, hn0, hc⟩ := hs w hw
  repeat ((with_reducible refine K.seq ?_))
  refine K.reg ?_
  refine KO.as rfl rfl ?_
  refine KO.nil ?_
  repeat (first | (with_reducible refine K.seq ?_) | (with_reducible refine KQ.next ?_))
  cases a with
  | none =>
    obtain rfl := hn0 rfl
    refine K.reg ?_
    refine KO.mv rfl rfl ?_
    refine KO.eqSn rfl Tryz.underlying62 rfl ?_
    refine KO.nil ?_
    repeat ((with_reducible refine KQ.next ?_))
    refine K.condT rfl rfl ?_
    repeat ((with_reducible refine K.seq ?_))
    refine K.reg ?_
    refine KO.as rfl rfl ?_
    refine KO.nil ?_
    repeat (first | (with_reducible refine KQ.next ?_) | (with_reducible refine KQ.then_ret ?_) | (with_reducible refine K.ret ?_))
    refine KQ.ret1 rfl rfl (fun w' hs => ⟨_, _, rfl, rfl, SL_nil (hw.below_step hs.below), hs.below⟩)
  | some ad =>
    refine K.reg ?_
    refine KO.mv rfl rfl ?_
    refine KO.eqSn rfl Tryz.underlying62 rfl ?_
    refine KO.nil ?_
    repeat ((with_reducible refine KQ.next ?_))
    refine K.condF rfl rfl ?_
    repeat (first | (with_reducible refine K.seq ?_) | (with_reducible refine KQ.next ?_) | (with_reducible refine K.skip ?_))
    refine K.reg ?_
    refine KO.bs0 Nm.cells rfl Tryz.underlying62 Tryz.sizeOf69 rfl ?_; intro b5
    refine KO.mv rfl rfl ?_
    refine KO.appS (z := Value.agg #[.string ⟨#[]⟩, .string ⟨#[]⟩, .int .i64 0]) (sz := 3) (by' := 40) (ys := xs) rfl rfl rfl .head (fun w' hs => Src.ext ⟨some ad, cap, rfl, hn0, hc⟩ (Ext.of_below hs.below)) Tryz.underlying62 nm_info rfl (fun _ => rfl) nm_one (by simp; omega) (by decide) rfl ?_; intro v'
    refine KO.as rfl rfl ?_
    refine KO.nil ?_
    repeat (first | (with_reducible refine KQ.next ?_) | (with_reducible refine K.ret ?_))
    refine KQ.ret1 rfl rfl (fun w' hs => ⟨_, _, rfl, rfl, ?_, hs.below⟩)
    rw [List.nil_append] at hs
    exact hw.stack (M := [nmS v' xs]) hs
theorem nall_e (w0 : World) (L R R2 : List HP) (b off : Nat) (cs : List Value) (T : TypeId) (v : Value) (l : List Nm)
    (hp : Pick L (blk b (.cells cs.toArray T (0, 0))) R) (hq : Pick R (nmS v l) R2) (hc : cs[off]? = some v) (hl : l.length < 1000000) :
    KE Tryz.prog 44 #[.pointer (some ⟨b, off, none⟩)] w0 L (fun u M => M = nmS u l :: L) := by
  refine KE.mk (n := 8) Tryz.func44 rfl Tryz.ntmps44 (by simp) ?_
  intro w hw
  have hcell : w.cell? ⟨b, off, none⟩ = some v := by rw [World.cell?, (hw.lookP hp).2]; simpa using hc
  have hsrc := Src.of hq w (hw.pick hp).drop
  repeat ((with_reducible refine K.seq ?_))
  refine K.reg ?_
  refine KO.as rfl rfl ?_
  refine KO.nil ?_
  repeat (first | (with_reducible refine K.seq ?_) | (with_reducible refine KQ.next ?_))
  refine K.reg ?_
  refine KO.mv rfl rfl ?_
  refine KO.nc rfl rfl ?_
  refine KO.fo (off := 0) rfl Tryz.runUnderlying64 rfl rfl Tryz.sizeOf62 rfl ?_
  refine KO.ld0 rfl rfl Tryz.isAgg62 hcell rfl ?_
  refine KO.ce (cp := []) rfl rfl rfl Tryz.call91 rfl (nmclone_e w _ v l (fun w' hs => hsrc.ext (Ext.of_below hs.below)) hl) ?_; rintro v' L' rfl
  refine KO.as rfl rfl ?_
  refine KO.nil ?_
  repeat (first | (with_reducible refine KQ.next ?_) | (with_reducible refine K.ret ?_))
  refine KQ.ret1 rfl rfl (fun w' hs => ⟨_, _, rfl, rfl, hw.stack (M := [nmS _ l]) hs, hs.below⟩)
end Go.Proofs.YtjhogocabcdjbaaGreatDoor
/- queue: the order of messages, and what is looked for. -/
namespace Go.Proofs.YtjhogocabcdjbaaGreatDoor
open Go Go.RowKit WB
theorem cmp_e (w0 : World) (L : List HP) (a b : Ms) (x y : Int) (h1 : small a.pri) (h2 : small b.pri) (h3 : small x) (h4 : small y) :
    KE Tryz.prog 67 #[.agg (msC a).toArray, .agg (msC b).toArray, .int .i64 x, .int .i64 y] w0 L (fun v L' => v = .int .i64 (compI a.pri b.pri x y) ∧ L' = L) := by
  unfold small at h1 h2 h3 h4
  refine KE.mk (n := 22) Tryz.func67 rfl Tryz.ntmps67 (by simp) ?_
  intro w hw
  repeat ((with_reducible refine K.seq ?_))
  refine K.reg ?_
  refine KO.box rfl rfl (by exact rfl) rfl ?_; intro b4
  refine KO.box rfl rfl (by exact rfl) rfl ?_; intro b5
  refine KO.as rfl rfl ?_
  refine KO.nil ?_
  repeat (first | (with_reducible refine K.seq ?_) | (with_reducible refine KQ.next ?_))
  refine K.reg ?_
  refine KO.fo0 (off := 1) rfl Tryz.runUnderlying31 rfl rfl Tryz.sizeOf3 rfl ?_
  refine KO.ld rfl rfl Tryz.isAgg3 (by with_reducible (repeat (first | exact Pick.head | apply Pick.tail))) (by exact rfl) rfl ?_
  refine KO.fo0 (off := 1) rfl Tryz.runUnderlying31 rfl rfl Tryz.sizeOf3 rfl ?_
  refine KO.ld rfl rfl Tryz.isAgg3 (by with_reducible (repeat (exact Pick.head))) (by exact rfl) rfl ?_
  refine KO.neI rfl rfl rfl ?_
  refine KO.nil ?_
  repeat ((with_reducible refine KQ.next ?_))
  refine K.condD rfl (fun h => ?_) (fun h => ?_)
  · repeat ((with_reducible refine K.seq ?_))
    refine K.reg ?_
    refine KO.fo0 (off := 1) rfl Tryz.runUnderlying31 rfl rfl Tryz.sizeOf3 rfl ?_
    refine KO.ld rfl rfl Tryz.isAgg3 (by with_reducible (repeat (exact Pick.head))) (by exact rfl) rfl ?_
    refine KO.fo0 (off := 1) rfl Tryz.runUnderlying31 rfl rfl Tryz.sizeOf3 rfl ?_
    refine KO.ld rfl rfl Tryz.isAgg3 (by with_reducible (repeat (first | exact Pick.head | apply Pick.tail))) (by exact rfl) rfl ?_
    refine KO.sub rfl rfl rfl (by omega) rfl ?_
    refine KO.as rfl rfl ?_
    refine KO.nil ?_
    repeat (first | (with_reducible refine KQ.next ?_) | (with_reducible refine KQ.then_ret ?_) | (with_reducible refine K.ret ?_))
    refine KQ.ret1 rfl rfl (fun w' hs => ⟨_, _, rfl, ⟨?_, rfl⟩, hw.below_step hs.below, hs.below⟩)
    simp [compI, h]
  · repeat (first | (with_reducible refine K.seq ?_) | (with_reducible refine KQ.next ?_) | (with_reducible refine K.skip ?_))
    refine K.reg ?_
    refine KO.mv rfl rfl ?_
    refine KO.mv rfl rfl ?_
    refine KO.sub rfl rfl rfl (by omega) rfl ?_
    refine KO.as rfl rfl ?_
    refine KO.nil ?_
    repeat (first | (with_reducible refine KQ.next ?_) | (with_reducible refine K.ret ?_))
    refine KQ.ret1 rfl rfl (fun w' hs => ⟨_, _, rfl, ⟨?_, rfl⟩, hw.below_step hs.below, hs.below⟩)
    simp [compI, h]
end Go.Proofs.YtjhogocabcdjbaaGreatDoor
/- queue: what is looked for. -/
namespace Go.Proofs.YtjhogocabcdjbaaGreatDoor
open Go Go.RowKit WB
abbrev itS (v : Value) (xs : List It) : HP := SL 107 8 itC v xs
theorem get1_e (w0 : World) (L : List HP) (e : It) :
    KE Tryz.prog 57 #[.agg (itC e).toArray] w0 L (fun v L' => v = .bool (decide (e.put < 0) && decide (e.got < 0)) ∧ L' = L) := by
  refine KE.mk (n := 11) Tryz.func57 rfl Tryz.ntmps57 (by simp) ?_
  intro w hw
  repeat ((with_reducible refine K.seq ?_))
  refine K.reg ?_
  refine KO.box rfl rfl (by exact rfl) rfl ?_; intro b1
  refine KO.as rfl rfl ?_
  refine KO.nil ?_
  repeat (first | (with_reducible refine K.seq ?_) | (with_reducible refine KQ.next ?_))
  by_cases h1 : e.put < 0
  · refine K.reg ?_
    refine KO.fo0 (off := 6) rfl Tryz.runUnderlying107 rfl rfl Tryz.sizeOf3 rfl ?_
    refine KO.ld rfl rfl Tryz.isAgg3 (by with_reducible (repeat (exact Pick.head))) (by exact rfl) rfl ?_
    refine KO.lss rfl rfl rfl ?_
    refine KO.mv rfl rfl ?_
    (refine KO.on rfl rfl ?_ ?_; (focus (simp only [decide_eq_true_eq, decide_eq_false_iff_not, Bool.not_eq_true, Bool.not_true, Bool.not_false, ne_eq]; omega)); (refine KO.fo0 (off := 7) rfl Tryz.runUnderlying107 rfl rfl Tryz.sizeOf3 rfl ?_))
    (refine KO.on rfl rfl ?_ ?_; (focus (simp only [decide_eq_true_eq, decide_eq_false_iff_not, Bool.not_eq_true, Bool.not_true, Bool.not_false, ne_eq]; omega)); (refine KO.ld rfl rfl Tryz.isAgg3 (by with_reducible (repeat (exact Pick.head))) (by exact rfl) rfl ?_))
    (refine KO.on rfl rfl ?_ ?_; (focus (simp only [decide_eq_true_eq, decide_eq_false_iff_not, Bool.not_eq_true, Bool.not_true, Bool.not_false, ne_eq]; omega)); (refine KO.lss rfl rfl rfl ?_))
    (refine KO.pickT rfl ?_ rfl rfl ?_; (focus (simp only [decide_eq_true_eq, decide_eq_false_iff_not, Bool.not_eq_true, Bool.not_true, Bool.not_false, ne_eq]; omega)))
    refine KO.as rfl rfl ?_
    refine KO.nil ?_
    repeat (first | (with_reducible refine KQ.next ?_) | (with_reducible refine K.ret ?_))
    refine KQ.ret1 rfl rfl (fun w' hs => ⟨_, _, rfl, ⟨?_, rfl⟩, hw.below_step hs.below, hs.below⟩)
    simp [h1]
  · refine K.reg ?_
    refine KO.fo0 (off := 6) rfl Tryz.runUnderlying107 rfl rfl Tryz.sizeOf3 rfl ?_
    refine KO.ld rfl rfl Tryz.isAgg3 (by with_reducible (repeat (exact Pick.head))) (by exact rfl) rfl ?_
    refine KO.lss rfl rfl rfl ?_
    refine KO.mv rfl rfl ?_
    (refine KO.no rfl rfl ?_ rfl ?_; (focus (simp only [decide_eq_true_eq, decide_eq_false_iff_not, Bool.not_eq_true, Bool.not_true, Bool.not_false, ne_eq]; omega)))
    (refine KO.no rfl rfl ?_ rfl ?_; (focus (simp only [decide_eq_true_eq, decide_eq_false_iff_not, Bool.not_eq_true, Bool.not_true, Bool.not_false, ne_eq]; omega)))
    (refine KO.no rfl rfl ?_ rfl ?_; (focus (simp only [decide_eq_true_eq, decide_eq_false_iff_not, Bool.not_eq_true, Bool.not_true, Bool.not_false, ne_eq]; omega)))
    (refine KO.pickF rfl ?_ rfl rfl ?_; (focus (simp only [decide_eq_true_eq, decide_eq_false_iff_not, Bool.not_eq_true, Bool.not_true, Bool.not_false, ne_eq]; omega)))
    refine KO.as rfl rfl ?_
    refine KO.nil ?_
    repeat (first | (with_reducible refine KQ.next ?_) | (with_reducible refine K.ret ?_))
    refine KQ.ret1 rfl rfl (fun w' hs => ⟨_, _, rfl, ⟨?_, rfl⟩, hw.below_step hs.below, hs.below⟩)
    simp [h1]
theorem take1_e (w0 : World) (L R : List HP) (e : It) (b : Nat) (id : Int) (E : TypeId) (hp : Pick L (blk b (.cells [Value.int .i64 id].toArray E (0, 0))) R) :
    KE Tryz.prog 59 #[.agg (itC e).toArray, .pointer (some ⟨b, 0, none⟩)] w0 L (fun v L' => v = .bool (decide (e.m.id = id)) ∧ L' = L) := by
  refine KE.mk (n := 9) Tryz.func59 rfl Tryz.ntmps59 (by simp) ?_
  intro w hw
  have hw := hw.pick hp
  repeat ((with_reducible refine K.seq ?_))
  refine K.reg ?_
  refine KO.box rfl rfl (by exact rfl) rfl ?_; intro b2
  refine KO.as rfl rfl ?_
  refine KO.nil ?_
  repeat (first | (with_reducible refine K.seq ?_) | (with_reducible refine KQ.next ?_))
  refine K.reg ?_
  refine KO.fo0 (off := 0) rfl Tryz.runUnderlying107 rfl rfl Tryz.sizeOf31 rfl ?_
  refine KO.fo0 (off := 0) rfl Tryz.runUnderlying31 rfl rfl Tryz.sizeOf3 rfl ?_
  refine KO.ld rfl rfl Tryz.isAgg3 (by with_reducible (repeat (exact Pick.head))) (by exact rfl) rfl ?_
  refine KO.ldb hw rfl rfl Tryz.isAgg3 (by with_reducible (repeat (exact Pick.head))) (by exact rfl) rfl ?_
  refine KO.eqI rfl rfl rfl ?_
  refine KO.as rfl rfl ?_
  refine KO.nil ?_
  repeat (first | (with_reducible refine KQ.next ?_) | (with_reducible refine K.ret ?_))
  refine KQ.ret1 rfl rfl (fun w' hs => ⟨_, _, rfl, ⟨rfl, rfl⟩, (hw.unpick hp).below_step hs.below, hs.below⟩)
theorem idxf_e (w0 : World) (L : List HP) (v : Value) (xs : List It) (f : FuncId) (cp : List Value) (pf : It → Bool) (hr : ∀ w, St w0 L w → RdS w 8 itC v xs) (hlen : xs.length < 1000000) (hcall : ∀ args w, (callFunc f args).run Tryz.prog w = .ok (.enter f args) w)
    (hcl : ∀ e, e ∈ xs → KE Tryz.prog f ([] ++ ([Value.agg (itC e).toArray] ++ cp)).toArray w0 L (fun v L' => v = .bool (pf e) ∧ L' = L)) :
    KE Tryz.prog 56 #[v, .func (.func f) [].toArray cp.toArray] w0 L (fun v L' => v = .int .i64 (fidx pf xs) ∧ L' = L) := by
  refine KE.mk (n := 19) Tryz.func56 rfl Tryz.ntmps56 (by simp) ?_
  intro w hw
  obtain ⟨a, cap, rfl, ha, hc⟩ := hr w hw
  repeat ((with_reducible refine K.seq ?_))
  refine K.reg ?_
  refine KO.as rfl rfl ?_
  refine KO.nil ?_
  repeat (first | (with_reducible refine K.seq ?_) | (with_reducible refine KQ.next ?_))
  refine K.reg ?_
  refine KO.mv rfl rfl ?_
  refine KO.len rfl Tryz.underlying23 rfl ?_
  refine KO.mv rfl rfl ?_
  refine KO.nil ?_
  repeat (first | (with_reducible refine KQ.next ?_) | (with_reducible refine K.block ?_))
  refine K.loop (fun k : Nat => [(0, .slice a xs.length cap), (1, .func (.func f) [].toArray cp.toArray), (7, .int .i64 (xs.length : Nat)), (8, .int .i64 (k : Nat))]) (fun _ => []) (fun k => k ≤ xs.length ∧ ∀ (j : Nat) (u : It), j < k → xs[j]? = some u → pf u = false) (fun k => xs.length - k) 0 ⟨by omega, fun j u h => by omega⟩ ⟨rfl, rfl, rfl, rfl, trivial⟩ (fun _ h => h) ?_
  rintro k ⟨hk, hno⟩
  repeat ((with_reducible refine K.seq ?_))
  refine K.reg ?_
  refine KO.lss rfl rfl rfl ?_
  refine KO.nil ?_
  repeat (first | (with_reducible refine K.seq ?_) | (with_reducible refine KQ.next ?_))
  refine K.condD rfl (fun h => ?_) (fun h => ?_)
  · have hlt : k < xs.length := by omega
    obtain ⟨g, rfl⟩ := ha (by omega)
    obtain ⟨e, he⟩ : ∃ e, xs[k]? = some e := ⟨xs[k], List.getElem?_eq_getElem hlt⟩
    repeat (first | (with_reducible refine K.seq ?_) | (with_reducible refine KQ.next ?_) | (with_reducible refine K.skip ?_) | (with_reducible refine K.block ?_))
    refine K.reg ?_
    refine KO.mv rfl rfl ?_
    refine KO.as rfl rfl ?_
    refine KO.nil ?_
    repeat (first | (with_reducible refine K.seq ?_) | (with_reducible refine KQ.next ?_))
    refine K.reg ?_
    refine KO.mv rfl rfl ?_
    refine KO.mv rfl rfl ?_
    refine KO.mv rfl rfl ?_
    refine KO.idx0 rfl rfl Tryz.runUnderlying23 Tryz.sizeOf107 (by exact rfl) (by omega) rfl ?_
    refine KO.ldN0 (cs := (itC e).toArray) rfl rfl Tryz.isAgg107 Tryz.sizeOf107 rfl (hc g rfl k e he) rfl ?_
    refine KO.ce rfl rfl rfl hcall rfl ((hcl e (List.mem_of_getElem? he)).rebase hw) ?_; rintro v L' ⟨rfl, rfl⟩
    refine KO.nil ?_
    repeat ((with_reducible refine KQ.next ?_))
    refine K.cond rfl (fun h1 => ?_) (fun h1 => ?_)
    · repeat ((with_reducible refine K.seq ?_))
      refine K.reg ?_
      refine KO.mv rfl rfl ?_
      refine KO.as rfl rfl ?_
      refine KO.nil ?_
      repeat (first | (with_reducible refine KQ.next ?_) | (with_reducible refine KQ.then_ret ?_) | (with_reducible refine KQ.blk_ret ?_) | (with_reducible refine K.ret ?_))
      refine KQ.ret1 rfl rfl (fun w' hs => ⟨_, _, rfl, ⟨?_, rfl⟩, hw.below_step hs.below, hs.below⟩)
      rw [fidx_hit he h1 hno]
    · repeat (first | (with_reducible refine KQ.next ?_) | (with_reducible refine KQ.blk_normal ?_) | (with_reducible refine K.skip ?_))
      refine K.reg ?_
      refine KO.add rfl rfl rfl (by omega) rfl ?_
      refine KO.mv rfl rfl ?_
      refine KO.nil ?_
      refine KQ.round (k + 1) ⟨by omega, fun j u hj hu => ?_⟩ (by omega) ⟨rfl, rfl, rfl, rfl, trivial⟩ (fun _ h => h)
      by_cases hjk : j = k
      · subst hjk; rw [he] at hu; simp only [Option.some.injEq] at hu; rw [← hu]; exact h1
      · exact hno j u (by omega) hu
  · repeat (first | (with_reducible refine K.seq ?_) | (with_reducible refine KQ.next ?_) | (with_reducible refine KQ.then_exit ?_) | (with_reducible refine KQ.blk_exit ?_) | (with_reducible refine K.exit ?_))
    refine K.reg ?_
    refine KO.as rfl rfl ?_
    refine KO.nil ?_
    repeat (first | (with_reducible refine KQ.next ?_) | (with_reducible refine K.ret ?_))
    refine KQ.ret1 rfl rfl (fun w' hs => ⟨_, _, rfl, ⟨?_, rfl⟩, hw.below_step hs.below, hs.below⟩)
    rw [fidx_miss fun j u hu => hno j u (by have := (List.getElem?_eq_some_iff.1 hu).1; omega) hu]
theorem conf_e (w0 : World) (L : List HP) (v : Value) (xs : List It) (f : FuncId) (cp : List Value) (pf : It → Bool) (hr : ∀ w, St w0 L w → RdS w 8 itC v xs) (hlen : xs.length < 1000000) (hcall : ∀ args w, (callFunc f args).run Tryz.prog w = .ok (.enter f args) w)
    (hcl : ∀ e, e ∈ xs → KE Tryz.prog f ([] ++ ([Value.agg (itC e).toArray] ++ cp)).toArray w0 L (fun v L' => v = .bool (pf e) ∧ L' = L)) :
    KE Tryz.prog 69 #[v, .func (.func f) [].toArray cp.toArray] w0 L (fun v L' => v = .bool (xs.any pf) ∧ L' = L) := by
  refine KE.mk (n := 9) Tryz.func69 rfl Tryz.ntmps69 (by simp) ?_
  intro w hw
  repeat ((with_reducible refine K.seq ?_))
  refine K.reg ?_
  refine KO.as rfl rfl ?_
  refine KO.nil ?_
  repeat (first | (with_reducible refine K.seq ?_) | (with_reducible refine KQ.next ?_))
  refine K.reg ?_
  refine KO.mv rfl rfl ?_
  refine KO.mv rfl rfl ?_
  refine KO.ce rfl rfl rfl Tryz.call56 rfl ((idxf_e w0 L v xs f cp pf hr hlen hcall hcl).rebase hw) ?_; rintro v L' ⟨rfl, rfl⟩
  refine KO.geq rfl rfl rfl ?_
  refine KO.as rfl rfl ?_
  refine KO.nil ?_
  repeat (first | (with_reducible refine KQ.next ?_) | (with_reducible refine K.ret ?_))
  refine KQ.ret1 rfl rfl (fun w' hs => ⟨_, _, rfl, ⟨?_, rfl⟩, hw.below_step hs.below, hs.below⟩)
  rw [fidx_any]
end Go.Proofs.YtjhogocabcdjbaaGreatDoor
/- slices.Insert of one value. -/
namespace Go.Proofs.YtjhogocabcdjbaaGreatDoor
open Go Go.RowKit WB
theorem it_nmInfo : (Tryz.prog.info? 107).map (fun i => (i.zero, i.size, i.bytes)) = some (some (Value.agg #[.int .i64 0, .int .i64 0, .string ⟨#[]⟩, .string ⟨#[]⟩, .int .i64 0, .int .i64 0, .int .i64 0, .int .i64 0]), 8, 80) := by kernel_rfl
set_option maxHeartbeats 1000000 in
/-- at the end -/
theorem it_ins_end (w w0 : World) (L : List HP) (v : Value) (n : Nat) (xs vs : List Value) (bv : Nat) (h : St w0 (osl 107 8 v n xs :: blk bv (.cells vs.toArray 107 (0, 0)) :: L) w)
    (hv : vs.length = 8) (h1 : ∀ u ∈ vs, u.oneCell' = true) (hn : n < 1000000) :
    Calls Tryz.prog 68 #[v, .int .i64 n, .slice (some ⟨bv, 0, none⟩) 1 1] w fun e w' => ∃ v', e = .returned v' ∧ St w0 (osl 107 8 v' (n + 1) (xs ++ vs) :: L) w' := by
  obtain ⟨i0, hi, hz0, hz1, hz2⟩ := info_parts it_nmInfo
  have hnews : HasCells w ⟨bv, 0, none⟩ vs := by
    have h2 := h.pick (.tail .head)
    exact h2.hasCells fun j u hj => by simpa using hj
  obtain ⟨v', w1, hr, hst⟩ := append_st (P := Tryz.prog) 23 23 107 i0 _ 8 80 Tryz.underlying23 hi hz0 hz1 hz2 rfl h ⟨bv, 0, none⟩ 1 1 vs (by rw [hv]) hnews h1 (by unfold maxLen; omega) (by omega)
  have HR := Lib.hid hr
  have HS := Lib.hid hst
  have hcase : v = .slice none 0 0 ∧ n = 0 ∨ ∃ g cap, v = .slice (some ⟨g, 0, none⟩) n cap ∧ n ≤ cap := by
    rcases h.osl_cases with ⟨h1, h2, _⟩ | ⟨g, cap, _, h1, h2, _⟩
    · exact .inl ⟨h1, h2⟩
    · exact .inr ⟨g, cap, h1, h2⟩
  clear h hr hst hnews hi hz0 hz1 hz2
  rcases hcase with ⟨rfl, rfl⟩ | ⟨g, cap, rfl, hnc⟩
  · go_enter Tryz.func68, Tryz.ntmps68
    go_wp2_with (at_builtin; refine Lib.wpList_append_run _ rfl _ _ _ _ rfl _ _ rfl rfl _ _ HR.out ?_)
    go_ret
    exact ⟨_, rfl, HS.out.swap2.drop⟩
  · have hE : ((n : Int) == (n : Int)) = true := by simp
    by_cases hcn : cap = n
    · have hcn' : n = cap := hcn.symm
      subst hcn'
      go_enter Tryz.func68, Tryz.ntmps68
      go_wp2_with (at_builtin; refine Lib.wpList_append_run _ rfl _ _ _ _ rfl _ _ rfl rfl _ _ HR.out ?_)
      go_ret
      exact ⟨_, rfl, HS.out.swap2.drop⟩
    · go_enter Tryz.func68, Tryz.ntmps68
      go_wp2_with (at_builtin; refine Lib.wpList_append_run _ rfl _ _ _ _ rfl _ _ rfl rfl _ _ HR.out ?_)
      go_ret
      exact ⟨_, rfl, HS.out.swap2.drop⟩
end Go.Proofs.YtjhogocabcdjbaaGreatDoor
/- slices.Insert of one value, not at the end. -/
namespace Go.Proofs.YtjhogocabcdjbaaGreatDoor
open Go Go.RowKit WB
set_option maxHeartbeats 2000000 in
set_option maxRecDepth 100000 in
theorem it_ins_room (w w0 : World) (L : List HP) (g n cap k : Nat) (xs vs : List Value) (bv : Nat) (h : St w0 (osl 107 8 (.slice (some ⟨g, 0, none⟩) n cap) n xs :: blk bv (.cells vs.toArray 107 (0, 0)) :: L) w)
    (hv : vs.length = 8) (h1 : ∀ u ∈ vs, u.oneCell' = true) (hx1 : ∀ u ∈ xs, u.oneCell' = true) (hn : n < 1000000) (hk : k < n) (hroom : n + 1 ≤ cap) :
    Calls Tryz.prog 68 #[.slice (some ⟨g, 0, none⟩) n cap, .int .i64 k, .slice (some ⟨bv, 0, none⟩) 1 1] w fun e w' => ∃ v', e = .returned v' ∧ St w0 (osl 107 8 v' (n + 1) (xs.take (k * 8) ++ vs ++ xs.drop (k * 8)) :: L) w' := by
  obtain ⟨i0, hi, hz0, hz1, hz2⟩ := info_parts it_nmInfo
  rcases h.osl_cases with ⟨hc, _⟩ | ⟨g', cap', cur, hc, hnc, hcm, hcs, htake, hxl, hblk⟩
  · simp at hc
  · simp only [Value.slice.injEq, Option.some.injEq, Addr.mk.injEq, and_true, true_and] at hc
    obtain ⟨rfl, rfl⟩ := hc
    have hov : ∀ o n c o' n' c', (callFunc 104 #[.slice (some ⟨bv, o, none⟩) n c, .slice (some ⟨g, o', none⟩) n' c']).run Tryz.prog w = .ok (.value (.bool false)) w := fun o n c o' n' c' => by
      rw [run_callFunc_extern Tryz.func104 (by kernel_rfl) (by kernel_rfl) (by kernel_rfl) (e := Extern.SlicesOverlaps.overlaps #[23, 23] #[4]) (by kernel_rfl),
        overlaps_no 23 4 107 i0 Tryz.underlying23 hi hblk.swap2 o n c o' n' c' (by rw [hcs]; omega)]
      rfl
    have HB := Lib.hid hblk
    have hne : ((k : Int) == (n : Int)) = false := by simp; omega
    have hcap : cap < 9223372036854775808 := by unfold maxLen at hcm; omega
    have hsz : (cur.toList.take (n * 8)).length = n * 8 := by simp; omega
    have hcl : cur.toList.length = cap * 8 := by simpa using hcs
    have hmin : Nat.min (n + 1 - k) (n - k) = n - k := Nat.min_eq_right (by omega)
    have hm1 : ∀ u ∈ (cur.toList.take (n * 8)).drop (k * 8), u.oneCell' = true := fun u hu => hx1 u (htake ▸ List.mem_of_mem_drop hu)
    have hl1 : ((cur.toList.take (n * 8)).drop (k * 8)).length = Nat.min (n + 1 - k) (n - k) * i0.size := by
      rw [List.length_drop, hsz, hz1, hmin, Nat.sub_mul]
    have hc1 := run_copy_any (P := Tryz.prog) w.drew 23 23 3 107 i0 g ((k + 1) * 8) (n - k) (cap - (k + 1)) ⟨g, k * 8, none⟩ (n + 1 - k) (cap - k) cur 107 _ Tryz.underlying23 hi hblk.drew.look.2 hl1
      (hblk.drew.hasCells fun j u hj => by
        rw [List.getElem?_drop, List.getElem?_take] at hj
        split at hj
        · simpa using hj
        · simp at hj) (by rw [hl1, hz1, hmin, hcs]; omega) hm1
    have hs1 := hblk.drew.setRow (c' := (cur.toList.take ((k + 1) * 8) ++ (cur.toList.take (n * 8)).drop (k * 8) ++ cur.toList.drop ((k + 1) * 8 + ((cur.toList.take (n * 8)).drop (k * 8)).length)).toArray)
    have hlen1 : ((cur.toList.take (n * 8)).drop (k * 8)).length = n * 8 - k * 8 := by rw [List.length_drop, hsz]
    generalize hC1 : cur.toList.take ((k + 1) * 8) ++ (cur.toList.take (n * 8)).drop (k * 8) ++ cur.toList.drop ((k + 1) * 8 + ((cur.toList.take (n * 8)).drop (k * 8)).length) = C1 at hc1 hs1
    have hC1l : C1.length = cap * 8 := by rw [← hC1]; simp only [List.length_append, List.length_take, hlen1, List.length_drop, hcl]; omega
    have hc2 := run_copy_any (P := Tryz.prog) (w.drew.setRow g C1.toArray) 23 23 3 107 i0 g (k * 8) (n + 1 - k) (cap - k) ⟨bv, 0, none⟩ 1 1 C1.toArray 107 vs Tryz.underlying23 hi hs1.look.2
      (by rw [hv, hz1, show Nat.min 1 (n + 1 - k) = 1 from Nat.min_eq_left (by omega), Nat.one_mul]) (hs1.drop.hasCells fun j u hj => by simpa using hj) (by rw [hv]; simp [hC1l]; omega) h1
    have hs2 := hs1.setRow (c' := (C1.take (k * 8) ++ vs ++ C1.drop (k * 8 + vs.length)).toArray)
    have hmin2 : Nat.min 1 (n + 1 - k) = 1 := Nat.min_eq_left (by omega)
    rw [hmin2] at hc2
    rw [hmin] at hc1
    have hfin : ((C1.take (k * 8) ++ vs ++ C1.drop (k * 8 + vs.length)).toArray).toList.take ((n + 1) * 8) = xs.take (k * 8) ++ vs ++ xs.drop (k * 8) := by
      have := take_drop_splice cur.toList vs (k * 8) 8 (n * 8) (cap * 8) (by omega) hv (by omega) hcl
      simp only [htake] at this
      rw [hv]
      have e : (k + 1) * 8 = k * 8 + 8 := by omega
      have e2 : (n + 1) * 8 = n * 8 + 8 := by omega
      have e3 : (k * 8 + 8 + (n * 8 - k * 8)) = n * 8 + 8 := by omega
      rw [htake, e, show (xs.drop (k * 8)).length = n * 8 - k * 8 by rw [List.length_drop, hxl], e3] at hC1
      rw [← hC1, e2]
      exact this
    have hout := hs2.osl_mk (n := n + 1) (size := 8) (cap := cap) hroom hcm (by simp [hC1l, hv]; omega) hfin
    generalize C1.take (k * 8) ++ vs ++ C1.drop (k * 8 + vs.length) = C2 at hc2 hout hs2 hfin
    have HC1 := Lib.hid hc1
    have HC2 := Lib.hid hc2
    have HO := Lib.hid hout
    clear h hblk hcm hi hz0 hz1 hz2 hcs htake hxl hx1 h1 hv hc1 hc2 hout hs1 hs2 hfin hC1 hlen1 hl1 hm1 hcl hsz hmin hmin2 hC1l
    go_enter Tryz.func68, Tryz.ntmps68
    go_wp2_with fail
    refine wp_region_ord [.pure, .pure, .pure, .pure, .pure, .pure, .pure, .pure, .write] [0, 1, 2, 3, 4, 5, 6, 7, 8] (by kernel_rfl) (by kernel_rfl) ?_
    simp only [List.map_cons, List.map_nil, item, List.getD_cons_zero, List.getD_cons_succ]
    repeat ((with_reducible refine vcL_pure (v := ?_) (a' := ?_) ?_ ?_ ?_ ?_); rotate_left 2; (rfl); ((intro w'; go_simp; (try (go_bits; (try go_simp); (try (go_bits; (try go_simp))))); (repeat (first | rewrite [if_pos (by omega)] | rewrite [if_neg (by omega)]))) <;> rfl); (go_simp; rfl))
    refine vcL_writeVal (a' := ?_) (v := ?_) (w' := ?_) rfl ?_ ?_ ?_
    rotate_left 3
    · rw [exec_copy2 _ _ _ _ rfl (.slice (some ⟨g, (k + 1) * 8, none⟩) (n - k) (cap - (k + 1))) (.slice (some ⟨g, k * 8, none⟩) (n + 1 - k) (cap - k)) rfl rfl HC1.out]
    · go_simp; rfl
    refine vcL_nil ?_
    go_wp2_with (refine wpL_copy rfl _ _ _ _ rfl (.slice (some ⟨g, k * 8, none⟩) (n + 1 - k) (cap - k)) (.slice (some ⟨bv, 0, none⟩) 1 1) rfl rfl HC2.out ?_; intro K hK; go_simp)
    go_ret
    exact ⟨_, rfl, HO.out.swap2.drop⟩
end Go.Proofs.YtjhogocabcdjbaaGreatDoor
/- slices.Insert of one value, not at the end, no room. -/
namespace Go.Proofs.YtjhogocabcdjbaaGreatDoor
open Go Go.RowKit WB
set_option maxHeartbeats 2000000 in
set_option maxRecDepth 100000 in
theorem it_ins_grow (w w0 : World) (L : List HP) (g n k : Nat) (cap : Nat) (xs vs : List Value) (bv : Nat) (h : St w0 (osl 107 8 (.slice (some ⟨g, 0, none⟩) n cap) n xs :: blk bv (.cells vs.toArray 107 (0, 0)) :: L) w)
    (hv : vs.length = 8) (h1 : ∀ u ∈ vs, u.oneCell' = true) (hx1 : ∀ u ∈ xs, u.oneCell' = true) (hn : n < 1000000) (hk : k < n) (hroom : cap < n + 1) :
    Calls Tryz.prog 68 #[.slice (some ⟨g, 0, none⟩) n cap, .int .i64 k, .slice (some ⟨bv, 0, none⟩) 1 1] w fun e w' => ∃ v', e = .returned v' ∧ St w0 (osl 107 8 v' (n + 1) (xs.take (k * 8) ++ vs ++ xs.drop (k * 8)) :: L) w' := by
  obtain ⟨i0, hi, hz0, hz1, hz2⟩ := info_parts it_nmInfo
  rcases h.osl_cases with ⟨hc, _⟩ | ⟨g', cap', cur, hc, hnc, hcm, hcs, htake, hxl, hblk⟩
  · simp at hc
  · simp only [Value.slice.injEq, Option.some.injEq, Addr.mk.injEq, and_true, true_and] at hc
    obtain ⟨rfl, rfl⟩ := hc
    have hcn : cap = n := by omega
    have hne : ((k : Int) == (n : Int)) = false := by simp; omega
    have hcl : cur.toList.length = cap * 8 := by simpa using hcs
    have hxk : (xs.take (k * 8)).length = k * 8 := by rw [List.length_take, hxl]; omega
    have hcell : ∀ (j : Nat) (u : Value), xs[j]? = some u → cur[j]? = some u := fun j u hj => by
      rw [← htake, List.getElem?_take] at hj
      split at hj
      · simpa using hj
      · simp at hj
    -- the append
    have hr := run_append_zeros (P := Tryz.prog) w 23 3 23 107 i0 _ .i64 .i64 Tryz.underlying23 Tryz.underlying3 hi hz0 ⟨g, 0, none⟩ k cap (xs.take (k * 8)) (by rw [hxk, hz1])
      (hblk.hasCells fun j u hj => by
        rw [List.getElem?_take] at hj
        split at hj
        · rw [Nat.zero_add]; exact hcell j u hj
        · simp at hj) (n + 1 - k) (by omega) (by rw [hz1]; omega) (by omega) (by omega) (by rw [hz2]; exact growslice_fits (by omega) (by omega)) (by rw [hz2]; omega)
    have hge := grownCap_ge w (k + (n + 1 - k)) cap 107
    have hle := grownCap_le_maxLen w (k + (n + 1 - k)) cap 107 (by unfold maxLen; omega)
    have hs0 := hblk.drew.alloc (.cells ((xs.take (k * 8)).toArray ++ Builtin.zeroCells (Value.agg #[.int .i64 0, .int .i64 0, .string ⟨#[]⟩, .string ⟨#[]⟩, .int .i64 0, .int .i64 0, .int .i64 0, .int .i64 0]).cells (n + 1 - k) ++ Builtin.zeroCells (Value.agg #[.int .i64 0, .int .i64 0, .string ⟨#[]⟩, .string ⟨#[]⟩, .int .i64 0, .int .i64 0, .int .i64 0, .int .i64 0]).cells (grownCap w (k + (n + 1 - k)) cap 107 - (k + (n + 1 - k)))) 107)
    have hzl : ∀ q, (Builtin.zeroCells (Value.agg #[.int .i64 0, .int .i64 0, .string ⟨#[]⟩, .string ⟨#[]⟩, .int .i64 0, .int .i64 0, .int .i64 0, .int .i64 0]).cells q).size = q * 8 := fun q => by rw [size_zeroCells]; rfl
    generalize hW : w.drew.alloc (.cells ((xs.take (k * 8)).toArray ++ Builtin.zeroCells (Value.agg #[.int .i64 0, .int .i64 0, .string ⟨#[]⟩, .string ⟨#[]⟩, .int .i64 0, .int .i64 0, .int .i64 0, .int .i64 0]).cells (n + 1 - k) ++ Builtin.zeroCells (Value.agg #[.int .i64 0, .int .i64 0, .string ⟨#[]⟩, .string ⟨#[]⟩, .int .i64 0, .int .i64 0, .int .i64 0, .int .i64 0]).cells (grownCap w (k + (n + 1 - k)) cap 107 - (k + (n + 1 - k)))) 107) = W at hr hs0
    clear hW
    generalize hcp : grownCap w (k + (n + 1 - k)) cap 107 = cp at hr hs0 hge hle
    clear hcp
    have e1 : k + (n + 1 - k) = n + 1 := by omega
    rw [e1] at hr hge
    generalize hB : w.heap.size = B at hr
    have hB' : w.drew.heap.size = B := hB
    rw [hB'] at hs0
    clear hB hB'
    generalize hZ : Builtin.zeroCells (Value.agg #[.int .i64 0, .int .i64 0, .string ⟨#[]⟩, .string ⟨#[]⟩, .int .i64 0, .int .i64 0, .int .i64 0, .int .i64 0]).cells (n + 1 - k) ++ Builtin.zeroCells (Value.agg #[.int .i64 0, .int .i64 0, .string ⟨#[]⟩, .string ⟨#[]⟩, .int .i64 0, .int .i64 0, .int .i64 0, .int .i64 0]).cells (cp - (k + (n + 1 - k))) = Z at hs0
    have hZl : Z.toList.length = (cp - k) * 8 := by
      rw [← hZ]; simp only [Array.length_toList, Array.size_append, hzl]; omega
    have hC0 : ((xs.take (k * 8)).toArray ++ Builtin.zeroCells (Value.agg #[.int .i64 0, .int .i64 0, .string ⟨#[]⟩, .string ⟨#[]⟩, .int .i64 0, .int .i64 0, .int .i64 0, .int .i64 0]).cells (n + 1 - k) ++ Builtin.zeroCells (Value.agg #[.int .i64 0, .int .i64 0, .string ⟨#[]⟩, .string ⟨#[]⟩, .int .i64 0, .int .i64 0, .int .i64 0, .int .i64 0]).cells (cp - (k + (n + 1 - k)))) = (xs.take (k * 8) ++ Z.toList).toArray := by
      rw [← hZ]; apply Array.ext'; simp
    rw [hC0] at hs0
    clear hC0 hZ hzl
    have hs0' := hs0
    -- the first copy
    generalize hC0 : xs.take (k * 8) ++ Z.toList = C0 at hs0
    have hC0l : C0.length = cp * 8 := by rw [← hC0, List.length_append, hxk, hZl]; omega
    have hmin1 : Nat.min 1 (n + 1 - k) = 1 := Nat.min_eq_left (by omega)
    have hbv : St w0 (blk bv (.cells vs.toArray 107 (0, 0)) :: blk B (.cells C0.toArray 107 (0, 0)) :: blk g (.cells cur 107 (0, 0)) :: L) W := hs0.pick (.tail (.tail .head))
    have hc1 := run_copy_any (P := Tryz.prog) W 23 23 3 107 i0 B (k * 8) (n + 1 - k) (cp - k) ⟨bv, 0, none⟩ 1 1 C0.toArray 107 vs Tryz.underlying23 hi hs0.look.2
      (by rw [hv, hz1, hmin1, Nat.one_mul]) (hbv.hasCells fun j u hj => by simpa using hj) (by rw [hv]; simp [hC0l]; omega) h1
    have hs1 := hs0.setRow (c' := (C0.take (k * 8) ++ vs ++ C0.drop (k * 8 + vs.length)).toArray)
    rw [hmin1] at hc1
    generalize hC1 : C0.take (k * 8) ++ vs ++ C0.drop (k * 8 + vs.length) = C1 at hc1 hs1
    have hC1l : C1.length = cp * 8 := by rw [← hC1]; simp only [List.length_append, List.length_take, List.length_drop, hC0l, hv]; omega
    generalize hW1 : W.setRow B C1.toArray = W1 at hc1 hs1
    clear hW1
    -- the second
    have hdl : (xs.drop (k * 8)).length = (n - k) * 8 := by rw [List.length_drop, hxl]; omega
    have hmin2 : Nat.min (n - k) (n - k) = n - k := Nat.min_self _
    have hg1 : St w0 (blk g (.cells cur 107 (0, 0)) :: blk B (.cells C1.toArray 107 (0, 0)) :: blk bv (.cells vs.toArray 107 (0, 0)) :: L) W1.drew := (hs1.pick (.tail .head)).drew
    have hc2 := run_copy_any (P := Tryz.prog) W1.drew 23 23 3 107 i0 B ((k + 1) * 8) (n - k) (cp - (k + 1)) ⟨g, k * 8, none⟩ (n - k) (cap - k) C1.toArray 107 (xs.drop (k * 8)) Tryz.underlying23 hi hs1.drew.look.2
      (by rw [hdl, hz1, hmin2]) (hg1.hasCells fun j u hj => by rw [List.getElem?_drop] at hj; exact hcell _ u hj) (by rw [hdl]; simp [hC1l]; omega) (fun u hu => hx1 u (List.mem_of_mem_drop hu))
    have hs2 := hs1.drew.setRow (c' := (C1.take ((k + 1) * 8) ++ xs.drop (k * 8) ++ C1.drop ((k + 1) * 8 + (xs.drop (k * 8)).length)).toArray)
    rw [hmin2] at hc2
    have hfin : ((C1.take ((k + 1) * 8) ++ xs.drop (k * 8) ++ C1.drop ((k + 1) * 8 + (xs.drop (k * 8)).length)).toArray).toList.take ((n + 1) * 8) = xs.take (k * 8) ++ vs ++ xs.drop (k * 8) := by
      have := grow_splice (xs.take (k * 8)) Z.toList vs (xs.drop (k * 8)) (k * 8) 8 ((n - k) * 8) hxk hv hdl
      simp only [hC0] at this
      rw [hv] at hC1
      rw [hC1] at this
      rw [hdl, show (k + 1) * 8 = k * 8 + 8 by omega, show (n + 1) * 8 = k * 8 + 8 + (n - k) * 8 by omega]
      exact this
    have hlen2 : (C1.take ((k + 1) * 8) ++ xs.drop (k * 8) ++ C1.drop ((k + 1) * 8 + (xs.drop (k * 8)).length)).length = cp * 8 := by
      simp only [List.length_append, List.length_take, List.length_drop, hC1l, hxl]; omega
    generalize C1.take ((k + 1) * 8) ++ xs.drop (k * 8) ++ C1.drop ((k + 1) * 8 + (xs.drop (k * 8)).length) = C2 at hc2 hs2 hfin hlen2
    have hout := hs2.osl_mk (n := n + 1) (size := 8) (cap := cp) hge hle (by simpa using hlen2) hfin
    have e9 : ((n + 1 - k : Nat) : Int) = (n : Int) + 1 - k := by omega
    rw [e9] at hr
    clear e9
    have HR := Lib.hid hr
    have HC1 := Lib.hid hc1
    have HC2 := Lib.hid hc2
    have HO := Lib.hid hout
    have hcp2 : cp < 9223372036854775808 := by unfold maxLen at hle; omega
    clear h hblk hcm hi hz0 hz1 hz2 hcs htake hxl hx1 h1 hv hc1 hc2 hout hs0 hs0' hs1 hs2 hfin hlen2 hC0 hC0l hC1 hC1l hr hg1 hbv hdl hxk hcl hcell hZl hmin1 hmin2 hle e1 hcn
    go_enter Tryz.func68, Tryz.ntmps68
    go_wp2_with (first | (at_builtin; refine Lib.wpList_append_run _ rfl _ _ _ _ rfl _ _ rfl rfl _ _ HR.out ?_) | (refine wpL_copy rfl _ _ _ _ rfl (.slice (some ⟨B, k * 8, none⟩) (n + 1 - k) (cp - k)) (.slice (some ⟨bv, 0, none⟩) 1 1) rfl rfl HC1.out ?_; intro K hK; go_simp))
    refine wp_region_ord [.pure, .pure, .pure, .pure, .pure, .pure, .pure, .pure, .write] [0, 1, 2, 3, 4, 5, 6, 7, 8] (by kernel_rfl) (by kernel_rfl) ?_
    simp only [List.map_cons, List.map_nil, item, List.getD_cons_zero, List.getD_cons_succ]
    repeat ((with_reducible refine vcL_pure (v := ?_) (a' := ?_) ?_ ?_ ?_ ?_); rotate_left 2; (rfl); ((intro w'; go_simp; (try (go_bits; (try go_simp); (try (go_bits; (try go_simp))))); (repeat (first | rewrite [if_pos (by omega)] | rewrite [if_neg (by omega)]))) <;> rfl); (go_simp; rfl))
    refine vcL_writeVal (a' := ?_) (v := ?_) (w' := ?_) rfl ?_ ?_ ?_
    rotate_left 3
    · rw [exec_copy2 _ _ _ _ rfl (.slice (some ⟨B, (k + 1) * 8, none⟩) (n - k) (cp - (k + 1))) (.slice (some ⟨g, k * 8, none⟩) (n - k) (cap - k)) rfl rfl HC2.out]
    · go_simp; rfl
    refine vcL_nil ?_
    go_wp2_with fail
    go_ret
    exact ⟨_, rfl, HO.out.pick (.tail .head) |>.drop.pick (.tail .head) |>.drop⟩
end Go.Proofs.YtjhogocabcdjbaaGreatDoor
/- queue: a message put into its place; one taken out. -/
namespace Go.Proofs.YtjhogocabcdjbaaGreatDoor
open Go Go.RowKit WB
theorem it_info : (Tryz.prog.info? 107).map (fun i => (i.zero, i.size, i.bytes)) = some (some (Value.agg #[.int .i64 0, .int .i64 0, .string ⟨#[]⟩, .string ⟨#[]⟩, .int .i64 0, .int .i64 0, .int .i64 0, .int .i64 0]), 8, 80) := by kernel_rfl
theorem itC_one (x : It) : (itC x).all Value.oneCell' = true := rfl
theorem itC_ones (xs : List It) : ∀ u ∈ xs.flatMap itC, u.oneCell' = true := flat_one (fun e u hu => List.all_eq_true.1 (itC_one e) u hu) xs
theorem itIns_c (w0 : World) (L : List HP) (v : Value) (xs : List It) (x : It) (k bv : Nat) (hk : k ≤ xs.length) (hn : xs.length < 1000000) :
    KC Tryz.prog 68 #[v, .int .i64 (k : Nat), .slice (some ⟨bv, 0, none⟩) 1 1] w0 (itS v xs :: blk bv (.cells (itC x).toArray 107 (0, 0)) :: L) (fun v' L' => L' = itS v' (xs.take k ++ x :: xs.drop k) :: L) := fun w h => by
  have fin : ∀ {w' : World} {v' : Value}, St w0 (osl 107 8 v' (xs.length + 1) (xs.flatMap itC |>.take (k * 8)) :: L) w' → True := fun _ => trivial
  have e1 : (xs.take k ++ x :: xs.drop k).length = xs.length + 1 := by simp; omega
  have e2 : (xs.flatMap itC).take (k * 8) ++ itC x ++ (xs.flatMap itC).drop (k * 8) = (xs.take k ++ x :: xs.drop k).flatMap itC := by
    rw [flat_take itC 8 (fun _ => rfl) xs k hk, flat_drop itC 8 (fun _ => rfl) xs k hk]; simp
  by_cases hkn : k = xs.length
  · subst hkn
    refine (it_ins_end w w0 L v xs.length (xs.flatMap itC) (itC x) bv h rfl (fun u hu => List.all_eq_true.1 (itC_one x) u hu) hn).mono ?_
    rintro e w' ⟨v', he, hs⟩
    refine ⟨v', _, he, rfl, ?_⟩
    show St w0 (osl 107 8 v' _ _ :: L) w'
    rw [e1, show (xs.take xs.length ++ x :: xs.drop xs.length).flatMap itC = xs.flatMap itC ++ itC x by simp]
    exact hs
  · have hlt : k < xs.length := by omega
    have key : Calls Tryz.prog 68 #[v, .int .i64 (k : Nat), .slice (some ⟨bv, 0, none⟩) 1 1] w fun e w' => ∃ v', e = .returned v' ∧ St w0 (osl 107 8 v' (xs.length + 1) ((xs.flatMap itC).take (k * 8) ++ itC x ++ (xs.flatMap itC).drop (k * 8)) :: L) w' := by
      obtain ⟨g, cap, rfl⟩ := SL_some h hlt
      by_cases hr : xs.length + 1 ≤ cap
      · exact it_ins_room w w0 L g xs.length cap k _ (itC x) bv h rfl (fun u hu => List.all_eq_true.1 (itC_one x) u hu) (itC_ones xs) hn hlt hr
      · exact it_ins_grow w w0 L g xs.length k cap _ (itC x) bv h rfl (fun u hu => List.all_eq_true.1 (itC_one x) u hu) (itC_ones xs) hn hlt (by omega)
    refine key.mono ?_
    rintro e w' ⟨v', he, hs⟩
    refine ⟨v', _, he, rfl, ?_⟩
    show St w0 (osl 107 8 v' _ _ :: L) w'
    rw [e1, ← e2]; exact hs
theorem del_c (w0 : World) (L : List HP) (v : Value) (xs : List It) (k : Nat) (hk : k < xs.length) (hn : xs.length < 1000000) :
    KC Tryz.prog 58 #[v, .int .i64 (k : Nat), .int .i64 ((k : Int) + 1)] w0 (itS v xs :: L) (fun v' L' => L' = itS v' (xs.eraseIdx k) :: L) := by
  refine KC.pre (fun w hw => SL_some hw hk) ?_
  rintro ⟨g, cap, rfl⟩
  refine KC.pre (fun w hw => (SL_open hw).2.1) fun hnc => ?_
  refine KC.mk (n := 33) Tryz.func58 rfl Tryz.ntmps58 (by simp) ?_
  repeat ((with_reducible refine K.seq ?_))
  refine K.reg ?_
  refine KO.as rfl rfl ?_
  refine KO.nil ?_
  repeat (first | (with_reducible refine K.seq ?_) | (with_reducible refine KQ.next ?_))
  refine K.reg ?_
  refine KO.mv rfl rfl ?_
  refine KO.mv rfl rfl ?_
  refine KO.mv rfl rfl ?_
  refine KO.mv rfl rfl ?_
  refine KO.len rfl Tryz.underlying23 rfl ?_
  refine KO.cutAny (lo := k) (hi := k + 1) (mx := xs.length) rfl rfl rfl rfl Tryz.underlying23 Tryz.sizeOf107 rfl (by omega) rfl (by omega) (by omega) (by omega) rfl (fun q13 => ?_)
  refine KO.nil ?_
  repeat (first | (with_reducible refine K.seq ?_) | (with_reducible refine KQ.next ?_))
  refine K.reg ?_
  refine KO.mv rfl rfl ?_
  refine KO.mv rfl rfl ?_
  refine KO.eqI rfl rfl rfl ?_
  refine KO.nil ?_
  repeat ((with_reducible refine KQ.next ?_))
  refine K.condF rfl (by simp; omega) ?_
  repeat (first | (with_reducible refine K.seq ?_) | (with_reducible refine KQ.next ?_) | (with_reducible refine K.skip ?_))
  refine K.reg ?_
  refine KO.mv rfl rfl ?_
  refine KO.len rfl Tryz.underlying23 rfl ?_
  refine KO.as rfl rfl ?_
  refine KO.nil ?_
  repeat (first | (with_reducible refine K.seq ?_) | (with_reducible refine KQ.next ?_))
  refine K.draw [.pure, .pure, .pure, .pure, .pure, .pure, .write, .pure] [0, 1, 2, 3, 4, 5, 6, 7] (by kernel_rfl) (by kernel_rfl) ?_
  refine KO.mv rfl rfl ?_
  refine KO.mv rfl rfl ?_
  refine KO.cutTo rfl rfl Tryz.underlying23 Tryz.sizeOf107 (by exact rfl) (by omega) rfl ?_
  refine KO.mv rfl rfl ?_
  refine KO.mv rfl rfl ?_
  refine KO.cutFrom (lo := k + 1) rfl rfl Tryz.underlying23 Tryz.sizeOf107 (by omega) (by omega) (by omega) rfl ?_
  refine KO.move (j := k + 1) rfl rfl rfl Pick.head rfl hnc Tryz.underlying23 it_info (fun _ => rfl) itC_one (by omega) (by omega) rfl ?_
  refine KO.as rfl rfl ?_
  refine KO.nil ?_
  repeat (first | (with_reducible refine K.seq ?_) | (with_reducible refine KQ.next ?_))
  refine K.reg ?_
  refine KO.mv rfl rfl ?_
  refine KO.mv rfl rfl ?_
  refine KO.len rfl Tryz.underlying23 rfl ?_
  refine KO.mv rfl rfl ?_
  refine KO.cutMid (lo := k + (xs.length - (k + 1))) (hi := xs.length) rfl rfl rfl Tryz.underlying23 Tryz.sizeOf107 rfl rfl (by omega) (by omega) rfl ?_
  refine KO.clear rfl rfl Pick.head hnc (by simp; omega) (by simp; omega) Tryz.underlying23 it_info (fun _ => rfl) rfl rfl ?_
  refine KO.nil ?_
  repeat (first | (with_reducible refine K.seq ?_) | (with_reducible refine KQ.next ?_))
  refine K.reg ?_
  refine KO.mv rfl rfl ?_
  refine KO.as rfl rfl ?_
  refine KO.nil ?_
  repeat (first | (with_reducible refine KQ.next ?_) | (with_reducible refine K.ret ?_))
  refine KQ.ret1 rfl rfl (fun w' hs => ⟨_, _, rfl, rfl, ?_⟩)
  have e : (List.take (k + (xs.length - (k + 1))) (List.take k xs ++ List.drop (k + 1) xs ++ List.drop (k + (xs.length - (k + 1))) xs)) = xs.eraseIdx k := by
    rw [List.take_append_of_le_length (by simp; omega), List.take_of_length_le (by simp; omega), List.eraseIdx_eq_take_drop_succ]
  rw [e] at hs
  exact hs
theorem delf_c (w0 : World) (L : List HP) (v : Value) (xs : List It) (f : FuncId) (cp : List Value) (pf : It → Bool) (hn : xs.length < 1000000) (hcall : ∀ args w, (callFunc f args).run Tryz.prog w = .ok (.enter f args) w)
    (hcl : ∀ e v ys, e ∈ xs → KE Tryz.prog f ([] ++ ([Value.agg (itC e).toArray] ++ cp)).toArray w0 (itS v ys :: L) (fun u L' => u = .bool (pf e) ∧ L' = itS v ys :: L)) :
    KC Tryz.prog 60 #[v, .func (.func f) [].toArray cp.toArray] w0 (itS v xs :: L) (fun v' L' => L' = itS v' (xs.filter fun e => !pf e) :: L) := by
  refine KC.pre (fun w hw => SL_form hw) ?_
  rintro ⟨sa, cap, rfl, hsa⟩
  refine KC.mk (n := 42) Tryz.func60 rfl Tryz.ntmps60 (by simp) ?_
  repeat ((with_reducible refine K.seq ?_))
  refine K.reg ?_
  refine KO.as rfl rfl ?_
  refine KO.nil ?_
  repeat (first | (with_reducible refine K.seq ?_) | (with_reducible refine KQ.next ?_))
  refine K.reg ?_
  refine KO.mv rfl rfl ?_
  refine KO.mv rfl rfl ?_
  refine KO.ce rfl rfl rfl Tryz.call56 rfl (idxf_e w0 _ _ xs f cp pf (RdS.of (fun _ => rfl) Pick.head) hn hcall (fun e he => hcl e _ xs he)) ?_; rintro v L' ⟨rfl, rfl⟩
  refine KO.as rfl rfl ?_
  refine KO.nil ?_
  repeat (first | (with_reducible refine K.seq ?_) | (with_reducible refine KQ.next ?_))
  refine K.reg ?_
  refine KO.mv rfl rfl ?_
  refine KO.eqI rfl rfl rfl ?_
  refine KO.nil ?_
  repeat ((with_reducible refine KQ.next ?_))
  refine K.condD rfl (fun h => ?_) (fun h => ?_)
  · repeat ((with_reducible refine K.seq ?_))
    refine K.reg ?_
    refine KO.mv rfl rfl ?_
    refine KO.as rfl rfl ?_
    refine KO.nil ?_
    repeat (first | (with_reducible refine KQ.next ?_) | (with_reducible refine KQ.then_ret ?_) | (with_reducible refine K.ret ?_))
    refine KQ.ret1 rfl rfl (fun w' hs => ⟨_, _, rfl, rfl, ?_⟩)
    rw [List.filter_eq_self.2 (fun a ha => by
      have := List.findIdx?_eq_none_iff.1 (fidx_neg (by omega : fidx pf xs < 0)) a ha
      simp [this])]
    exact hs
  · obtain ⟨i0, e0, hi0, he0, hp0, hlt0, hfi⟩ := fidx_nonneg (p := pf) (l := xs) (by unfold fidx at h ⊢; split at h <;> simp_all)
    obtain ⟨g, rfl⟩ := hsa (by omega)
    refine K.fact (fun w hw => (SL_open hw).2.1) fun hnc => ?_
    repeat (first | (with_reducible refine K.seq ?_) | (with_reducible refine KQ.next ?_) | (with_reducible refine K.skip ?_))
    refine K.reg ?_
    refine KO.mv rfl rfl ?_
    rw [hi0]; refine KO.add rfl rfl rfl (by omega) rfl ?_
    refine KO.as rfl rfl ?_
    refine KO.nil ?_
    repeat (first | (with_reducible refine KQ.next ?_) | (with_reducible refine K.block ?_))
    refine K.loop (fun k : Nat × Nat × List It => [(0, .slice (some ⟨g, 0, none⟩) xs.length cap), (1, .func (.func f) [].toArray cp.toArray), (5, .int .i64 (k.1 : Nat)), (6, .int .i64 (k.2.1 : Nat))]) (fun k => itS (.slice (some ⟨g, 0, none⟩) xs.length cap) k.2.2 :: L)
      (fun k => k.2.2.length = xs.length ∧ k.1 < k.2.1 ∧ k.2.1 ≤ xs.length ∧ k.2.2.take k.1 = (xs.take k.2.1).filter (fun e => !pf e) ∧ k.2.2.drop k.2.1 = xs.drop k.2.1) (fun k => xs.length - k.2.1) (i0, i0 + 1, xs) ⟨rfl, by dsimp only; omega, by dsimp only; omega, (take_filter_of_findIdx hfi).symm, rfl⟩ ⟨rfl, rfl, rfl, rfl, trivial⟩ (fun _ h => h) ?_
    rintro ⟨i, j, ys⟩ ⟨hyl, hij, hjl, hys, hyd⟩
    dsimp only at hyl hij hjl hys hyd ⊢
    repeat ((with_reducible refine K.seq ?_))
    refine K.reg ?_
    refine KO.mv rfl rfl ?_
    refine KO.mv rfl rfl ?_
    refine KO.len rfl Tryz.underlying23 rfl ?_
    refine KO.lss rfl rfl rfl ?_
    refine KO.nil ?_
    repeat ((with_reducible refine KQ.next ?_))
    refine K.condD rfl (fun h1 => ?_) (fun h1 => ?_)
    · obtain ⟨e, he⟩ : ∃ e, xs[j]? = some e := ⟨xs[j], List.getElem?_eq_getElem (by omega)⟩
      have hye : ys[j]? = some e := by rw [← he]; have := congrArg (fun l => l[0]?) hyd; simpa using this
      repeat (first | (with_reducible refine K.seq ?_) | (with_reducible refine KQ.next ?_) | (with_reducible refine K.skip ?_) | (with_reducible refine K.block ?_))
      refine K.reg ?_
      refine KO.mv rfl rfl ?_
      refine KO.mv rfl rfl ?_
      refine KO.idx0 rfl rfl Tryz.runUnderlying23 Tryz.sizeOf107 (by exact rfl) (by omega) rfl ?_
      refine KO.ldEN rfl rfl Tryz.isAgg107 Tryz.sizeOf107 (by with_reducible (repeat (exact Pick.head))) (fun _ => rfl) (by assumption) rfl ?_
      refine KO.alloc rfl Tryz.zeroValue107 (by exact rfl) rfl ?_; intro b7
      refine KO.sto0 rfl rfl rfl (by exact rfl) (by exact Tryz.sizeOf107) (by exact rfl) (by with_reducible (repeat (exact Pick.head))) (by exact rfl) ?_
      refine KO.nil ?_
      repeat (first | (with_reducible refine K.seq ?_) | (with_reducible refine KQ.next ?_))
      refine K.reg ?_
      refine KO.mv rfl rfl ?_
      refine KO.ldB0 rfl rfl Tryz.isAgg107 Tryz.sizeOf107 (by with_reducible (repeat (exact Pick.head))) (by exact rfl) rfl ?_
      refine KO.ce rfl rfl rfl hcall rfl ((hcl e _ ys (List.mem_of_getElem? he)).only (fun w h => h.drop)) ?_; rintro v L' ⟨rfl, rfl⟩
      refine KO.not rfl rfl ?_
      refine KO.nil ?_
      repeat ((with_reducible refine KQ.next ?_))
      refine K.cond rfl (fun h2 => ?_) (fun h2 => ?_)
      · obtain ⟨u, hu⟩ : ∃ u, ys[i]? = some u := ⟨ys[i], List.getElem?_eq_getElem (by omega)⟩
        repeat ((with_reducible refine K.seq ?_))
        refine K.reg ?_
        refine KO.mv rfl rfl ?_
        refine KO.mv rfl rfl ?_
        refine KO.ldB0 rfl rfl Tryz.isAgg107 Tryz.sizeOf107 (by with_reducible (repeat (exact Pick.head))) (by exact rfl) rfl ?_
        refine KO.idx0 rfl rfl Tryz.runUnderlying23 Tryz.sizeOf107 rfl (by omega) rfl ?_
        refine KO.stEN rfl rfl e rfl Tryz.sizeOf107 itC_one (by with_reducible (repeat (first | exact Pick.head | apply Pick.tail))) (fun _ => rfl) hu ?_
        refine KO.nil ?_
        repeat ((with_reducible refine KQ.next ?_))
        refine K.reg ?_
        refine KO.mv rfl rfl ?_
        refine KO.add rfl rfl rfl (by omega) rfl ?_
        refine KO.as rfl rfl ?_
        refine KO.nil ?_
        repeat (first | (with_reducible refine KQ.next ?_) | (with_reducible refine KQ.blk_normal ?_))
        refine K.reg ?_
        refine KO.mv rfl rfl ?_
        refine KO.add rfl rfl rfl (by omega) rfl ?_
        refine KO.as rfl rfl ?_
        refine KO.nil ?_
        refine KQ.round (i + 1, j + 1, ys.set i e) ⟨by simp; omega, by dsimp only; omega, by dsimp only; omega, ?_, ?_⟩ (by dsimp only; omega) ⟨rfl, rfl, rfl, rfl, trivial⟩ (fun _ h => h.drop2)
        · dsimp only
          rw [take_succ_some he, List.filter_append, ← hys, take_succ_some (e := e) (by rw [List.getElem?_set_self (by omega)])]
          rw [List.take_set_of_le (Nat.le_refl _)]
          simp only [List.filter_cons, h2, if_true, List.filter_nil]
        · dsimp only
          rw [List.drop_set_of_lt (by omega)]
          have := congrArg (List.drop 1) hyd
          simpa [List.drop_drop, Nat.add_comm] using this
      · repeat (first | (with_reducible refine KQ.next ?_) | (with_reducible refine KQ.blk_normal ?_) | (with_reducible refine K.skip ?_))
        refine K.reg ?_
        refine KO.mv rfl rfl ?_
        refine KO.add rfl rfl rfl (by omega) rfl ?_
        refine KO.as rfl rfl ?_
        refine KO.nil ?_
        refine KQ.round (i, j + 1, ys) ⟨hyl, by dsimp only; omega, by dsimp only; omega, ?_, ?_⟩ (by dsimp only; omega) ⟨rfl, rfl, rfl, rfl, trivial⟩ (fun _ h => h.drop)
        · dsimp only
          rw [take_succ_some he, List.filter_append, ← hys]
          simp only [List.filter_cons, h2, List.filter_nil, List.append_nil, Bool.false_eq_true, if_false]
        · dsimp only
          have := congrArg (List.drop 1) hyd
          simpa [List.drop_drop, Nat.add_comm] using this
    · have hjx : j = xs.length := by omega
      subst hjx
      have hys : ys.take i = xs.filter (fun e => !pf e) := by rw [hys, List.take_length]
      repeat (first | (with_reducible refine K.seq ?_) | (with_reducible refine KQ.next ?_) | (with_reducible refine KQ.then_exit ?_) | (with_reducible refine KQ.blk_exit ?_) | (with_reducible refine K.exit ?_))
      refine K.reg ?_
      refine KO.mv rfl rfl ?_
      refine KO.mv rfl rfl ?_
      refine KO.cutFrom (lo := i) rfl rfl Tryz.underlying23 Tryz.sizeOf107 rfl (by omega) (by omega) rfl ?_
      refine KO.clear rfl rfl Pick.head hnc hyl.symm (by omega) Tryz.underlying23 it_info (fun _ => rfl) rfl rfl ?_
      refine KO.nil ?_
      repeat (first | (with_reducible refine K.seq ?_) | (with_reducible refine KQ.next ?_))
      refine K.reg ?_
      refine KO.mv rfl rfl ?_
      refine KO.mv rfl rfl ?_
      refine KO.cutTo (hi := i) rfl rfl Tryz.underlying23 Tryz.sizeOf107 rfl (by omega) rfl ?_
      refine KO.as rfl rfl ?_
      refine KO.nil ?_
      repeat (first | (with_reducible refine KQ.next ?_) | (with_reducible refine K.ret ?_))
      refine KQ.ret1 rfl rfl (fun w' hs => ⟨_, _, rfl, rfl, ?_⟩)
      rw [← hys]; exact hs
end Go.Proofs.YtjhogocabcdjbaaGreatDoor
