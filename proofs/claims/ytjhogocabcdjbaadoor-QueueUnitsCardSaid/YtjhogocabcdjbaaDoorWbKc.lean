/- the steps of the calculus: numbers, texts, calls -/
import Derived.Test.YtjhogocabcdjbaaDoorWbKb
import Derived.IntWalk
set_option linter.unusedSimpArgs false
set_option linter.unusedVariables false
namespace WB
open Go Go.RowKit
theorem wrapI {r : Int} (h1 : -9223372036854775808 ≤ r) (h2 : r ≤ 9223372036854775807) : IntKind.i64.wrap r = r := by
  unfold IntKind.wrap
  simp only [IntKind.bits, IntKind.signed, Bool.true_and]
  simp only [show (2 ^ 64 : Int) = 18446744073709551616 from rfl, show (2 ^ (64 - 1) : Int) = 9223372036854775808 from rfl]
  by_cases h : r % 18446744073709551616 ≥ 9223372036854775808
  · rw [if_pos (by simpa using h)]; omega
  · rw [if_neg (by simpa using h)]; omega
theorem wrapU {r : Int} (h1 : 0 ≤ r) (h2 : r ≤ 18446744073709551615) : IntKind.u64.wrap r = r := by
  unfold IntKind.wrap
  simp only [IntKind.bits, IntKind.signed, Bool.false_and]
  simp only [show (2 ^ 64 : Int) = 18446744073709551616 from rfl]
  rw [if_neg (by simp)]; omega
section
variable {P : Program} {ops : Array Oper} {d : Bool} {Q : Exit → Act → World → Prop} {n : Nat} {D : List Deferred} {w0 : World} {G : Env} {L R : List HP} {l : List (Kd × Oper)} {k : Kd}
  {t : Nat} {op : Op} {ty T T' E : TypeId} {pos : String} {af : Array Edge} {x y z : Operand} {v u : Value} {b b' p q : Bool} {i j off : Nat} {a c r : Int} {ad : Addr} {kk : IntKind}
theorem KO.add (hx : ev G x = some (.int .i64 a)) (hy : ev G y = some (.int .i64 c)) (hr : a + c = r) (h1 : -9223372036854775808 ≤ r ∧ r ≤ 9223372036854775807) (ht : Nat.blt t n = true)
    (h : KO P ops d Q n D w0 ((t, .int .i64 r) :: G) L l) : KO P ops d Q n D w0 G L ((k, ⟨some t, .binOp .add T x y T', ty, pos, af, none⟩) :: l) :=
  KO.val (fun a w ha => by simp [execOp, ha.eval hx, ha.eval hy, eqGuard_at_int, binOp_add, Op.intArith, hr, wrapI h1.1 h1.2]) ht h
theorem KO.sub (hx : ev G x = some (.int .i64 a)) (hy : ev G y = some (.int .i64 c)) (hr : a - c = r) (h1 : -9223372036854775808 ≤ r ∧ r ≤ 9223372036854775807) (ht : Nat.blt t n = true)
    (h : KO P ops d Q n D w0 ((t, .int .i64 r) :: G) L l) : KO P ops d Q n D w0 G L ((k, ⟨some t, .binOp .sub T x y T', ty, pos, af, none⟩) :: l) :=
  KO.val (fun a w ha => by simp [execOp, ha.eval hx, ha.eval hy, eqGuard_at_int, binOp_sub, Op.intArith, hr, wrapI h1.1 h1.2]) ht h
theorem KO.mul (hx : ev G x = some (.int .i64 a)) (hy : ev G y = some (.int .i64 c)) (hr : a * c = r) (h1 : -9223372036854775808 ≤ r ∧ r ≤ 9223372036854775807) (ht : Nat.blt t n = true)
    (h : KO P ops d Q n D w0 ((t, .int .i64 r) :: G) L l) : KO P ops d Q n D w0 G L ((k, ⟨some t, .binOp .mul T x y T', ty, pos, af, none⟩) :: l) :=
  KO.val (fun a w ha => by simp [execOp, ha.eval hx, ha.eval hy, eqGuard_at_int, binOp_mul, Op.intArith, hr, wrapI h1.1 h1.2]) ht h
theorem KO.lss (hx : ev G x = some (.int kk a)) (hy : ev G y = some (.int kk c)) (ht : Nat.blt t n = true) (h : KO P ops d Q n D w0 ((t, .bool (decide (a < c))) :: G) L l) :
    KO P ops d Q n D w0 G L ((k, ⟨some t, .binOp .lss T x y T', ty, pos, af, none⟩) :: l) :=
  KO.val (fun a w ha => by simp [execOp, ha.eval hx, ha.eval hy, eqGuard_at_int, binOp_lss]) ht h
theorem KO.leq (hx : ev G x = some (.int kk a)) (hy : ev G y = some (.int kk c)) (ht : Nat.blt t n = true) (h : KO P ops d Q n D w0 ((t, .bool (decide (a ≤ c))) :: G) L l) :
    KO P ops d Q n D w0 G L ((k, ⟨some t, .binOp .leq T x y T', ty, pos, af, none⟩) :: l) :=
  KO.val (fun a w ha => by simp [execOp, ha.eval hx, ha.eval hy, eqGuard_at_int, binOp_leq]) ht h
theorem KO.gtr (hx : ev G x = some (.int kk a)) (hy : ev G y = some (.int kk c)) (ht : Nat.blt t n = true) (h : KO P ops d Q n D w0 ((t, .bool (decide (c < a))) :: G) L l) :
    KO P ops d Q n D w0 G L ((k, ⟨some t, .binOp .gtr T x y T', ty, pos, af, none⟩) :: l) :=
  KO.val (fun a w ha => by simp [execOp, ha.eval hx, ha.eval hy, eqGuard_at_int, binOp_gtr]) ht h
theorem KO.geq (hx : ev G x = some (.int kk a)) (hy : ev G y = some (.int kk c)) (ht : Nat.blt t n = true) (h : KO P ops d Q n D w0 ((t, .bool (decide (c ≤ a))) :: G) L l) :
    KO P ops d Q n D w0 G L ((k, ⟨some t, .binOp .geq T x y T', ty, pos, af, none⟩) :: l) :=
  KO.val (fun a w ha => by simp [execOp, ha.eval hx, ha.eval hy, eqGuard_at_int, binOp_geq]) ht h
theorem KO.eqI (hx : ev G x = some (.int kk a)) (hy : ev G y = some (.int kk c)) (ht : Nat.blt t n = true) (h : KO P ops d Q n D w0 ((t, .bool (decide (a = c))) :: G) L l) :
    KO P ops d Q n D w0 G L ((k, ⟨some t, .binOp .eql T x y T', ty, pos, af, none⟩) :: l) :=
  KO.val (fun a' w ha => by simp [execOp, ha.eval hx, ha.eval hy, eqGuard_at_int, binOp_eql, show (a == c) = decide (a = c) from rfl]) ht h
theorem KO.neI (hx : ev G x = some (.int kk a)) (hy : ev G y = some (.int kk c)) (ht : Nat.blt t n = true) (h : KO P ops d Q n D w0 ((t, .bool (decide (a ≠ c))) :: G) L l) :
    KO P ops d Q n D w0 G L ((k, ⟨some t, .binOp .neq T x y T', ty, pos, af, none⟩) :: l) :=
  KO.val (fun a' w ha => by
    have e : (a != c) = decide (a ≠ c) := by by_cases h : a = c <;> simp [h]
    simp only [execOp, ha.eval hx, ha.eval hy, eqGuard_at_int, binOp_neq, e, Sem.run_bind, Sem.run_pure, Result.andThen_ok]) ht h
theorem KO.not (hx : ev G x = some (.bool b)) (ht : Nat.blt t n = true) (h : KO P ops d Q n D w0 ((t, .bool (!b)) :: G) L l) : KO P ops d Q n D w0 G L ((k, ⟨some t, .unOp .not T x, ty, pos, af, none⟩) :: l) :=
  KO.val (fun a' w ha => by simp [execOp, ha.eval hx, unary_not]) ht h
theorem KO.eqB (hx : ev G x = some (.bool p)) (hy : ev G y = some (.bool q)) (hT : P.underlying T = some .bool) (ht : Nat.blt t n = true) (h : KO P ops d Q n D w0 ((t, .bool (p == q)) :: G) L l) :
    KO P ops d Q n D w0 G L ((k, ⟨some t, .binOp .eql T x y T', ty, pos, af, none⟩) :: l) :=
  KO.val (fun a' w ha => by simp [execOp, ha.eval hx, ha.eval hy, eqGuard_at_bool, run_eql_bool w T p q hT]) ht h
theorem KO.neB (hx : ev G x = some (.bool p)) (hy : ev G y = some (.bool q)) (hT : P.underlying T = some .bool) (ht : Nat.blt t n = true) (h : KO P ops d Q n D w0 ((t, .bool (!(p == q))) :: G) L l) :
    KO P ops d Q n D w0 G L ((k, ⟨some t, .binOp .neq T x y T', ty, pos, af, none⟩) :: l) :=
  KO.val (fun a' w ha => by simp [execOp, ha.eval hx, ha.eval hy, eqGuard_at_bool, run_neq_bool w T p q hT]) ht h
/-! texts -/
variable {s s' : ByteArray}
theorem toList_eq_iff (s s' : ByteArray) : (s.toList == s'.toList) = decide (s = s') := by
  by_cases h : s = s'
  · simp [h]
  · have : s.toList ≠ s'.toList := fun e => h (by
      rw [ByteArray.toList_eq, ByteArray.toList_eq] at e
      exact ByteArray.ext (Array.ext' e))
    simp [h, this]
theorem KO.eqS (hx : ev G x = some (.string s)) (hy : ev G y = some (.string s')) (ht : Nat.blt t n = true) (h : KO P ops d Q n D w0 ((t, .bool (decide (s = s'))) :: G) L l) :
    KO P ops d Q n D w0 G L ((k, ⟨some t, .binOp .eql T x y T', ty, pos, af, none⟩) :: l) :=
  KO.val (fun a' w ha => by simp only [execOp, ha.eval hx, ha.eval hy, eqGuard_at_string, binOp_string_eql, toList_eq_iff, Sem.run_bind, Sem.run_pure, Result.andThen_ok]) ht h
theorem KO.neS (hx : ev G x = some (.string s)) (hy : ev G y = some (.string s')) (ht : Nat.blt t n = true) (h : KO P ops d Q n D w0 ((t, .bool (!decide (s = s'))) :: G) L l) :
    KO P ops d Q n D w0 G L ((k, ⟨some t, .binOp .neq T x y T', ty, pos, af, none⟩) :: l) :=
  KO.val (fun a' w ha => by simp only [execOp, ha.eval hx, ha.eval hy, eqGuard_at_string, binOp_string_neq, toList_eq_iff, Sem.run_bind, Sem.run_pure, Result.andThen_ok]) ht h
theorem KO.cat (hx : ev G x = some (.string s)) (hy : ev G y = some (.string s')) (hs : s.size + s'.size ≤ 9223372036854775807) (ht : Nat.blt t n = true) (h : KO P ops d Q n D w0 ((t, .string (s ++ s')) :: G) L l) :
    KO P ops d Q n D w0 G L ((k, ⟨some t, .binOp .add T x y T', ty, pos, af, none⟩) :: l) :=
  KO.val (fun a' w ha => by simp [execOp, ha.eval hx, ha.eval hy, eqGuard_at_string, binOp_string_add, run_string_add_sum w s s' hs]) ht h
theorem KO.lenS (hx : ev G x = some (.string s)) (hT : P.underlying T = some .string) (ht : Nat.blt t n = true) (h : KO P ops d Q n D w0 ((t, .int .i64 (s.size : Nat)) :: G) L l) :
    KO P ops d Q n D w0 G L ((k, ⟨some t, .call ⟨.builtin .len, #[x], #[T]⟩, ty, pos, af, none⟩) :: l) :=
  KO.val (fun a' w ha => by simp [execOp, resolve, invoke, builtin, ha.eval hx, run_len_string _ _ _ _ hT, goInt]) ht h
/-! slices -/
theorem KO.len {bs : Option Addr} {len cap : Nat} (hx : ev G x = some (.slice bs len cap)) (hT : P.underlying T = some (.slice E)) (ht : Nat.blt t n = true) (h : KO P ops d Q n D w0 ((t, .int .i64 (len : Nat)) :: G) L l) :
    KO P ops d Q n D w0 G L ((k, ⟨some t, .call ⟨.builtin .len, #[x], #[T]⟩, ty, pos, af, none⟩) :: l) :=
  KO.val (fun a' w ha => by simp [execOp, resolve, invoke, builtin, ha.eval hx, run_len_slice w T ty bs len cap (by rw [hT]; simp [Program.elem, hT]), goInt]) ht h
theorem KO.cap {bs : Option Addr} {len cap : Nat} (hx : ev G x = some (.slice bs len cap)) (hT : P.underlying T = some (.slice E)) (ht : Nat.blt t n = true) (h : KO P ops d Q n D w0 ((t, .int .i64 (cap : Nat)) :: G) L l) :
    KO P ops d Q n D w0 G L ((k, ⟨some t, .call ⟨.builtin .cap, #[x], #[T]⟩, ty, pos, af, none⟩) :: l) :=
  KO.val (fun a' w ha => by simp [execOp, resolve, invoke, builtin, ha.eval hx, Builtin.cap_, run_underlying hT, goInt]) ht h
theorem KO.idx0 {g : Nat} {len cap sz : Nat} (hx : ev G x = some (.slice (some ⟨g, 0, none⟩) len cap)) (hy : ev G y = some (.int kk a)) (hu : ∀ w, (underlying T).run P w = .ok (.slice E) w) (hs : ∀ w, (Go.sizeOf E).run P w = .ok sz w)
    (ha : a = (i : Int)) (hb : i < len) (ht : Nat.blt t n = true) (h : KO P ops d Q n D w0 ((t, .pointer (some ⟨g, i * sz, none⟩)) :: G) L l) : KO P ops d Q n D w0 G L ((k, ⟨some t, .indexAddr T x y, ty, pos, af, none⟩) :: l) :=
  KO.idx hx hy hu hs ha hb ht (by rw [Nat.zero_add]; exact h)
theorem KO.fo {fs : Array Field} {f b o sz off : Nat} {fd : Field} (hx : ev G x = some (.pointer (some ⟨b, o, none⟩))) (hu : ∀ w, (underlying T).run P w = .ok (.struct fs) w) (hf : fs[f]? = some fd) (ho : fd.offset = off) (hs : ∀ w, (Go.sizeOf fd.type).run P w = .ok (sz + 1) w) (ht : Nat.blt t n = true)
    (h : KO P ops d Q n D w0 ((t, .pointer (some ⟨b, o + off, none⟩)) :: G) L l) : KO P ops d Q n D w0 G L ((k, ⟨some t, .fieldAddr T x f, ty, pos, af, none⟩) :: l) :=
  KO.fld hx hu hf hs ht (by rw [Addr.add_lit, ho]; exact h)
theorem KO.fo0 {fs : Array Field} {f b sz off : Nat} {fd : Field} (hx : ev G x = some (.pointer (some ⟨b, 0, none⟩))) (hu : ∀ w, (underlying T).run P w = .ok (.struct fs) w) (hf : fs[f]? = some fd) (ho : fd.offset = off) (hs : ∀ w, (Go.sizeOf fd.type).run P w = .ok (sz + 1) w) (ht : Nat.blt t n = true)
    (h : KO P ops d Q n D w0 ((t, .pointer (some ⟨b, off, none⟩)) :: G) L l) : KO P ops d Q n D w0 G L ((k, ⟨some t, .fieldAddr T x f, ty, pos, af, none⟩) :: l) :=
  KO.fo hx hu hf ho hs ht (by rw [Nat.zero_add]; exact h)
/-! calls -/
theorem args_eval {a : Act} (ha : Knows n D G a) {xs : Array Operand} {vs : List Value} (h : xs.toList.map (ev G) = vs.map some) : xs.map a.eval = vs.toArray := by
  have key : ∀ (xs : List Operand) (us : List Value), xs.map (ev G) = us.map some → xs.map a.eval = us := by
    intro xs
    induction xs with
    | nil => intro us h; cases us with | nil => rfl | cons _ _ => simp at h
    | cons x xs ih => intro us h; cases us with
      | nil => simp at h
      | cons u us => simp only [List.map_cons, List.cons.injEq] at h ⊢; exact ⟨ha.eval h.1, ih us h.2⟩
  apply Array.ext'; simpa using key _ _ h
theorem run_callop {a : Act} (ha : Knows n D G a) {f : FuncId} {xs : Array Operand} {ts : Array TypeId} {vs : List Value} {fi cp : Array Value} {dst : Option Nat} (hf : ev G x = some (.func (.func f) fi cp)) (hxs : xs.toList.map (ev G) = vs.map some) {ar : Array Value} (har : fi ++ vs.toArray ++ cp = ar)
    (hcall : ∀ args w, (callFunc f args).run P w = .ok (.enter f args) w) (w : World) : (execOp a.eval ⟨dst, .call ⟨.value x, xs, ts⟩, ty, pos, af, none⟩).run P w = .ok (.enter f ar) w := by
  have e := args_eval ha hxs
  simp only [execOp, resolve, ha.eval hf, Deferred.ofValue, e, invoke, Sem.run_bind, Sem.run_pure, Result.andThen_ok, hcall, har]
theorem KO.call {f : FuncId} {xs : Array Operand} {ts : Array TypeId} {vs : List Value} {fi cp ar : Array Value} {Rr : Value → List HP → Prop} (hk : (!d || k == .write) = true) (hf : ev G x = some (.func (.func f) fi cp)) (hxs : xs.toList.map (ev G) = vs.map some) (har : fi ++ vs.toArray ++ cp = ar)
    (hcall : ∀ args w, (callFunc f args).run P w = .ok (.enter f args) w) (ht : Nat.blt t n = true) (hc : KC P f ar w0 L Rr) (h : ∀ v L', Rr v L' → KO P ops d Q n D w0 ((t, v) :: G) L' l) :
    KO P ops d Q n D w0 G L ((k, ⟨some t, .call ⟨.value x, xs, ts⟩, ty, pos, af, none⟩) :: l) := fun a w ha hw => by
  refine vcG_write hk rfl ?_
  unfold Oper.wp
  rw [run_callop ha hf hxs har hcall]
  refine (hc w hw).mono ?_
  rintro e w' ⟨v, L', rfl, hr, hs⟩
  exact h v L' hr _ w' (put_dst ha v ht) hs
/-- a call that keeps what was there -/
theorem KO.callE {f : FuncId} {xs : Array Operand} {ts : Array TypeId} {vs : List Value} {fi cp ar : Array Value} {Rr : Value → List HP → Prop} (hk : (!d || (k == .keep || k == .write)) = true) (hf : ev G x = some (.func (.func f) fi cp)) (hxs : xs.toList.map (ev G) = vs.map some) (har : fi ++ vs.toArray ++ cp = ar)
    (hcall : ∀ args w, (callFunc f args).run P w = .ok (.enter f args) w) (ht : Nat.blt t n = true) (hc : KE P f ar w0 L Rr) (h : ∀ v L', Rr v L' → KO P ops d Q n D w0 ((t, v) :: G) L' l) :
    KO P ops d Q n D w0 G L ((k, ⟨some t, .call ⟨.value x, xs, ts⟩, ty, pos, af, none⟩) :: l) := fun a w ha hw => by
  refine vcG_keep hk rfl ?_
  unfold Oper.wp
  rw [run_callop ha hf hxs har hcall]
  refine (hc w hw).mono ?_
  rintro e w' ⟨v, L', rfl, hr, hs, hb⟩
  exact ⟨Ext.of_below hb, h v L' hr _ w' (put_dst ha v ht) hs⟩
/-- any ending -/
theorem KO.callP {f : FuncId} {xs : Array Operand} {ts : Array TypeId} {vs : List Value} {fi cp ar : Array Value} {Rr : Ending → List HP → Prop} {dst : Option Nat} (hf : ev G x = some (.func (.func f) fi cp)) (hxs : xs.toList.map (ev G) = vs.map some) (har : fi ++ vs.toArray ++ cp = ar)
    (hcall : ∀ args w, (callFunc f args).run P w = .ok (.enter f args) w) (hc : KP P f ar w0 L Rr)
    (hr : ∀ v L', Rr (.returned v) L' → match dst with | some t => Nat.blt t n = true ∧ KO P ops false Q n D w0 ((t, v) :: G) L' l | none => KO P ops false Q n D w0 G L' l)
    (hp : ∀ ch L', Rr (.panicked ch) L' → KQ Q (.panic ch) n D w0 G L') (ho : ∀ L', ¬ Rr .outgrown L') :
    KO P ops false Q n D w0 G L ((k, ⟨dst, .call ⟨.value x, xs, ts⟩, ty, pos, af, none⟩) :: l) := fun a w ha hw => by
  refine vcG_write rfl rfl ?_
  unfold Oper.wp
  rw [run_callop ha hf hxs har hcall]
  refine (hc w hw).mono ?_
  rintro e w' ⟨L', hr', hs⟩
  cases e with
  | returned v =>
    have := hr v L' hr'
    cases dst with
    | none => exact this _ w' ha hs
    | some t => exact this.2 _ w' (put_dst ha v this.1) hs
  | panicked ch => exact hp ch L' hr' _ w' ha hs
  | outgrown => exact absurd hr' (ho L')
end
section
variable {P : Program} {f : FuncId} {args : Array Value} {w0 : World} {L : List HP}
/-- a contract of the elder make: it returns v, and what was there is kept -/
theorem KE.of_below {v : Value} (h : ∀ w, St w0 L w → Calls P f args w fun e w' => e = .returned v ∧ Below w.heap.size w w') : KE P f args w0 L (fun u L' => u = v ∧ L' = L) := fun w hw =>
  (h w hw).mono fun _ _ ⟨he, hb⟩ => ⟨v, L, he, ⟨rfl, rfl⟩, hw.below_step hb, hb⟩
theorem KE.below {v : Value} (h : KE P f args w0 L (fun u _ => u = v)) (w : World) (hw : St w0 L w) : Calls P f args w fun e w' => e = .returned v ∧ Below w.heap.size w w' :=
  (h w hw).mono fun _ _ ⟨_, _, he, hv, _, hb⟩ => ⟨by rw [he, hv], hb⟩
end
end WB
