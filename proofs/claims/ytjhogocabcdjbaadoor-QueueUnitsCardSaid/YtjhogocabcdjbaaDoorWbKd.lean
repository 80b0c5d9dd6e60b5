/- the steps of the calculus: what is built, slices of structs -/
import Derived.Test.YtjhogocabcdjbaaDoorWbKc
set_option linter.unusedSimpArgs false
set_option linter.unusedVariables false
namespace WB
open Go Go.RowKit
def evs (G : Env) : List Operand → Option (List Value)
  | [] => some []
  | x :: r => match ev G x, evs G r with | some v, some vs => some (v :: vs) | _, _ => none
theorem evs_map {G : Env} : ∀ {xs : List Operand} {vs : List Value}, evs G xs = some vs → xs.map (ev G) = vs.map some
  | [], vs, h => by simp only [evs, Option.some.injEq] at h; subst h; rfl
  | x :: xs, vs, h => by
    unfold evs at h
    cases h1 : ev G x with
    | none => rw [h1] at h; simp at h
    | some v =>
      cases h2 : evs G xs with
      | none => rw [h1, h2] at h; simp at h
      | some us =>
        rw [h1, h2] at h
        simp only [Option.some.injEq] at h
        subst h
        simp [h1, evs_map h2]
def putL : Nat → List Value → List Value → List Value
  | 0, us, cs => us ++ cs.drop us.length
  | i + 1, us, c :: cs => c :: putL i us cs
  | _ + 1, _, [] => []
theorem putL_eq : ∀ (i : Nat) (us cs : List Value), i + us.length ≤ cs.length → cs.take i ++ us ++ cs.drop (i + us.length) = putL i us cs
  | 0, us, cs, _ => by simp [putL]
  | i + 1, us, c :: cs, h => by
    have := putL_eq i us cs (by simp at h; omega)
    simp only [putL, List.take_succ_cons, List.cons_append, show i + 1 + us.length = (i + us.length) + 1 by omega, List.drop_succ_cons, ← this]
  | i + 1, us, [], h => by simp at h
def ecells : Value → List Value := fun v => v.cells.toList
section
variable {P : Program} {ops : Array Oper} {d : Bool} {Q : Exit → Act → World → Prop} {n : Nat} {D : List Deferred} {w0 : World} {G : Env} {L R : List HP} {l : List (Kd × Oper)} {k : Kd}
  {t : Nat} {op : Op} {ty T T' E : TypeId} {pos : String} {af : Array Edge} {x y z : Operand} {v u : Value} {b b' p q : Bool} {i j off : Nat} {a c r : Int} {ad : Addr} {kk : IntKind}
theorem KO.sto {b : Nat} {cs cs' us : List Value} (hk : (!d || k == .write) = true) (hx : ev G x = some (.pointer (some ⟨b, off, none⟩))) (hy : ev G y = some v) (hv : v.cells = us.toArray) (hn : ∀ w, (Go.sizeOf T).run P w = .ok us.length w) (h1 : us.all Value.oneCell' = true)
    (hp : Pick L (blk b (.cells cs.toArray E (0, 0))) R) (hfit : Nat.ble (off + us.length) cs.length = true) (hc : putL off us cs = cs') (h : KO P ops d Q n D w0 G (blk b (.cells cs'.toArray E (0, 0)) :: R) l) :
    KO P ops d Q n D w0 G L ((k, ⟨none, .store T x y, ty, pos, af, none⟩) :: l) :=
  have hf : off + us.length ≤ cs.length := by simpa [Nat.ble_eq] using hfit
  KO.st hk hx hy hv hn (fun u hu => List.all_eq_true.1 h1 u hu) hp hf ((putL_eq _ _ _ hf).trans hc) h
theorem KO.pickT (hx : ev G x = some (.bool b)) (hb : b = true) (hv : ev G y = some v) (ht : Nat.blt t n = true) (h : KO P ops d Q n D w0 ((t, v) :: G) L l) : KO P ops d Q n D w0 G L ((k, ⟨some t, .pick x y z, ty, pos, af, none⟩) :: l) :=
  KO.pick hx (by rw [hb]; exact hv) ht h
theorem KO.pickF (hx : ev G x = some (.bool b)) (hb : b = false) (hv : ev G z = some v) (ht : Nat.blt t n = true) (h : KO P ops d Q n D w0 ((t, v) :: G) L l) : KO P ops d Q n D w0 G L ((k, ⟨some t, .pick x y z, ty, pos, af, none⟩) :: l) :=
  KO.pick hx (by rw [hb]; exact hv) ht h
theorem KO.mkc {f : Fn} {xs ys : Array Operand} {us vs : List Value} (h1 : evs G xs.toList = some us) (h2 : evs G ys.toList = some vs) (ht : Nat.blt t n = true) (h : KO P ops d Q n D w0 ((t, .func f us.toArray vs.toArray) :: G) L l) :
    KO P ops d Q n D w0 G L ((k, ⟨some t, .makeFunc f xs ys, ty, pos, af, none⟩) :: l) := KO.mkf (us := us.toArray) (vs := vs.toArray) (by simpa using evs_map h1) (by simpa using evs_map h2) ht h
theorem KO.cl {f : FuncId} {xs : Array Operand} {ts : Array TypeId} {vs : List Value} {fi cp : List Value} {Rr : Value → List HP → Prop} (hk : (!d || k == .write) = true) (hf : ev G x = some (.func (.func f) fi.toArray cp.toArray)) (hxs : evs G xs.toList = some vs)
    (hcall : ∀ args w, (callFunc f args).run P w = .ok (.enter f args) w) (ht : Nat.blt t n = true) (hc : KC P f (fi ++ (vs ++ cp)).toArray w0 L Rr) (h : ∀ v L', Rr v L' → KO P ops d Q n D w0 ((t, v) :: G) L' l) :
    KO P ops d Q n D w0 G L ((k, ⟨some t, .call ⟨.value x, xs, ts⟩, ty, pos, af, none⟩) :: l) := KO.call hk hf (evs_map hxs) (by simp) hcall ht hc h
theorem KO.ce {f : FuncId} {xs : Array Operand} {ts : Array TypeId} {vs : List Value} {fi cp : List Value} {Rr : Value → List HP → Prop} (hk : (!d || (k == .keep || k == .write)) = true) (hf : ev G x = some (.func (.func f) fi.toArray cp.toArray)) (hxs : evs G xs.toList = some vs)
    (hcall : ∀ args w, (callFunc f args).run P w = .ok (.enter f args) w) (ht : Nat.blt t n = true) (hc : KE P f (fi ++ (vs ++ cp)).toArray w0 L Rr) (h : ∀ v L', Rr v L' → KO P ops d Q n D w0 ((t, v) :: G) L' l) :
    KO P ops d Q n D w0 G L ((k, ⟨some t, .call ⟨.value x, xs, ts⟩, ty, pos, af, none⟩) :: l) := KO.callE hk hf (evs_map hxs) (by simp) hcall ht hc h
/-! unsigned -/
theorem KO.i2u (hx : ev G x = some (.int .i64 a)) (hs : (P.underlying T).isSome = true) (hd : P.underlying T' = some (.int .u64)) (h0 : 0 ≤ a ∧ a ≤ 18446744073709551615) (ht : Nat.blt t n = true) (h : KO P ops d Q n D w0 ((t, .int .u64 a) :: G) L l) :
    KO P ops d Q n D w0 G L ((k, ⟨some t, .convert T T' x, ty, pos, af, none⟩) :: l) :=
  KO.val (fun a' w ha => by
    have := run_convert_int (P := P) w T T' .i64 a hs (by rw [hd]; simp [Program.intKind, hd])
    simp [Program.intKind, hd, wrapU h0.1 h0.2] at this
    simp [execOp, ha.eval hx, this]) ht h
theorem KO.u2i (hx : ev G x = some (.int .u64 a)) (hs : (P.underlying T).isSome = true) (hd : P.underlying T' = some (.int .i64)) (h0 : 0 ≤ a ∧ a ≤ 9223372036854775807) (ht : Nat.blt t n = true) (h : KO P ops d Q n D w0 ((t, .int .i64 a) :: G) L l) :
    KO P ops d Q n D w0 G L ((k, ⟨some t, .convert T T' x, ty, pos, af, none⟩) :: l) :=
  KO.val (fun a' w ha => by
    have := run_convert_int (P := P) w T T' .u64 a hs (by rw [hd]; simp [Program.intKind, hd])
    simp [Program.intKind, hd, wrapI (by omega : -9223372036854775808 ≤ a) h0.2] at this
    simp [execOp, ha.eval hx, this]) ht h
theorem KO.shr1 {yk : IntKind} (hx : ev G x = some (.int .u64 a)) (hy : ev G y = some (.int yk 1)) (hr : a / 2 = r) (ht : Nat.blt t n = true) (h : KO P ops d Q n D w0 ((t, .int .u64 r) :: G) L l) :
    KO P ops d Q n D w0 G L ((k, ⟨some t, .binOp .shr T x y T', ty, pos, af, none⟩) :: l) :=
  KO.val (fun a' w ha => by simp [execOp, ha.eval hx, ha.eval hy, eqGuard_at_int, binOp_shr, shift_shr_u64, ← hr]) ht h
/-- max of two -/
theorem KO.max2 {ts : Array TypeId} (hx : ev G x = some (.int .i64 a)) (hy : ev G y = some (.int .i64 c)) (hr : max a c = r) (ht : Nat.blt t n = true) (h : KO P ops d Q n D w0 ((t, .int .i64 r) :: G) L l) :
    KO P ops d Q n D w0 G L ((k, ⟨some t, .call ⟨.builtin .max, #[x, y], ts⟩, ty, pos, af, none⟩) :: l) :=
  KO.val (fun a' w ha => by
    subst hr
    simp [execOp, resolve, invoke, builtin, ha.eval hx, ha.eval hy, Builtin.max_, Builtin.max2]
    rw [Int.max_def]; split <;> split <;> first | rfl | omega) ht h
/-! slices of structs -/
def SL {α : Type} (E : TypeId) (sz : Nat) (cf : α → List Value) (v : Value) (xs : List α) : HP := osl E sz v xs.length (xs.flatMap cf)
variable {α : Type} {cf : α → List Value} {sz : Nat} {xs : List α} {e e' : α}
theorem SL_cells {w : World} {g len cap : Nat} (hsz : ∀ e, (cf e).length = sz) (hw : St w0 (SL E sz cf (.slice (some ⟨g, 0, none⟩) len cap) xs :: R) w) (he : xs[i]? = some e) : ∀ j, j < sz → w.cell? ⟨g, i * sz + j, none⟩ = (cf e)[j]? := fun j hj => by
  have hi := (List.getElem?_eq_some_iff.1 he).1
  have hlen : len = xs.length := by
    rcases hw.osl_cases with ⟨h, _⟩ | ⟨_, _, _, h, _⟩
    · simp at h
    · simp at h; exact h.2.1
  have hlt : i * sz + j < xs.length * sz := by
    have : (i + 1) * sz ≤ xs.length * sz := Nat.mul_le_mul_right _ hi
    rw [Nat.succ_mul] at this; omega
  subst hlen
  rw [hw.osl_owns.cellAt _ hlt, flat_get cf sz hsz e xs i j hi hj]
  simp [List.getD_eq_getElem?_getD, he]
/-- a field of an element -/
theorem KO.ldE {g len cap : Nat} (hk : (!d || k != .pure) = true) (hx : ev G x = some (.pointer (some ⟨g, i * sz + j, none⟩))) (hT : ∀ w, (isAgg T).run P w = .ok false w) (hp : Pick L (SL E sz cf (.slice (some ⟨g, 0, none⟩) len cap) xs) R) (hsz : ∀ e, (cf e).length = sz)
    (he : xs[i]? = some e) (hj : Nat.blt j sz = true) (hv : (cf e)[j]? = some v) (ht : Nat.blt t n = true)
    (h : KO P ops d Q n D w0 ((t, v) :: G) L l) : KO P ops d Q n D w0 G L ((k, ⟨some t, .load T x, ty, pos, af, none⟩) :: l) :=
  KO.ldS hk hx hT (fun w hw => by rw [SL_cells hsz (hw.pick hp) he j (by simpa [Nat.blt_eq] using hj), hv]) ht h
/-- a whole element -/
theorem KO.ldEN {g len cap : Nat} (hk : (!d || k != .pure) = true) (hx : ev G x = some (.pointer (some ⟨g, i * sz, none⟩))) (hT : ∀ w, (isAgg T).run P w = .ok true w) (hn : ∀ w, (Go.sizeOf T).run P w = .ok sz w) (hp : Pick L (SL E sz cf (.slice (some ⟨g, 0, none⟩) len cap) xs) R) (hsz : ∀ e, (cf e).length = sz)
    (he : xs[i]? = some e) (ht : Nat.blt t n = true)
    (h : KO P ops d Q n D w0 ((t, .agg (cf e).toArray) :: G) L l) : KO P ops d Q n D w0 G L ((k, ⟨some t, .load T x, ty, pos, af, none⟩) :: l) :=
  KO.ldN hk hx hT hn (by simpa using hsz e) (fun w hw j c hj => by
    have hjs : j < sz := by rw [← hsz e]; exact (List.getElem?_eq_some_iff.1 hj).1
    rw [Addr.add_lit, SL_cells hsz (hw.pick hp) he j hjs]; exact hj) ht h
/-- a part of an element -/
theorem KO.ldEP {g len cap m : Nat} {us : List Value} (hk : (!d || k != .pure) = true) (hx : ev G x = some (.pointer (some ⟨g, i * sz + j, none⟩))) (hT : ∀ w, (isAgg T).run P w = .ok true w) (hn : ∀ w, (Go.sizeOf T).run P w = .ok m w) (hp : Pick L (SL E sz cf (.slice (some ⟨g, 0, none⟩) len cap) xs) R) (hsz : ∀ e, (cf e).length = sz)
    (he : xs[i]? = some e) (hu : ((cf e).drop j).take m = us) (hm : us.length = m) (ht : Nat.blt t n = true)
    (h : KO P ops d Q n D w0 ((t, .agg us.toArray) :: G) L l) : KO P ops d Q n D w0 G L ((k, ⟨some t, .load T x, ty, pos, af, none⟩) :: l) :=
  KO.ldN hk hx hT hn (by simpa using hm) (fun w hw q c hj => by
    rw [show (us.toArray).toList = us from rfl, ← hu, List.getElem?_take] at hj
    split at hj
    · rw [List.getElem?_drop] at hj
      have hjs : j + q < sz := by rw [← hsz e]; exact (List.getElem?_eq_some_iff.1 hj).1
      rw [Addr.add_lit, Nat.add_assoc, SL_cells hsz (hw.pick hp) he (j + q) hjs]; exact hj
    · simp at hj) ht h
end
section
variable {w0 w : World} {L : List HP} {E : TypeId} {α : Type} {cf : α → List Value} {sz : Nat} {xs : List α} {v : Value}
theorem SL_shape (h : St w0 (SL E sz cf v xs :: L) w) : (v = .slice none 0 0 ∧ xs = []) ∨ ∃ g cap, v = .slice (some ⟨g, 0, none⟩) xs.length cap := by
  rcases h.osl_cases with ⟨h1, h2, _⟩ | ⟨g, cap, _, h1, _⟩
  · exact .inl ⟨h1, List.eq_nil_of_length_eq_zero h2⟩
  · exact .inr ⟨g, cap, h1⟩
/-- some element, so no nil -/
theorem SL_some (h : St w0 (SL E sz cf v xs :: L) w) {i : Nat} (hi : i < xs.length) : ∃ g cap, v = .slice (some ⟨g, 0, none⟩) xs.length cap := by
  rcases SL_shape h with ⟨_, h1⟩ | h1
  · rw [h1] at hi; simp at hi
  · exact h1
theorem SL_form (h : St w0 (SL E sz cf v xs :: L) w) : ∃ a cap, v = .slice a xs.length cap ∧ (0 < xs.length → ∃ g, a = some ⟨g, 0, none⟩) := by
  rcases SL_shape h with ⟨h0, h1⟩ | ⟨g, cap, h1⟩
  · exact ⟨none, 0, by rw [h0, h1]; rfl, fun h => by rw [h1] at h; simp at h⟩
  · exact ⟨_, cap, h1, fun _ => ⟨g, rfl⟩⟩
end
end WB
namespace WB
open Go Go.RowKit
section
variable {P : Program} {ops : Array Oper} {d : Bool} {Q : Exit → Act → World → Prop} {n : Nat} {D : List Deferred} {w0 : World} {G : Env} {L R : List HP} {l : List (Kd × Oper)} {k : Kd}
  {t : Nat} {ty T E : TypeId} {pos : String} {af : Array Edge} {x : Operand} {v : Value} {i j : Nat} {α : Type} {cf : α → List Value} {sz : Nat} {xs : List α} {e : α}
/-- a whole block -/
theorem KO.ldB0 {b : Nat} {cs : List Value} {fz : Nat × Nat} (hk : (!d || k != .pure) = true) (hx : ev G x = some (.pointer (some ⟨b, 0, none⟩))) (hT : ∀ w, (isAgg T).run P w = .ok true w) (hn : ∀ w, (Go.sizeOf T).run P w = .ok sz w) (hp : Pick L (blk b (.cells cs.toArray E fz)) R)
    (hsz : cs.length = sz) (ht : Nat.blt t n = true) (h : KO P ops d Q n D w0 ((t, .agg cs.toArray) :: G) L l) : KO P ops d Q n D w0 G L ((k, ⟨some t, .load T x, ty, pos, af, none⟩) :: l) :=
  KO.ldB hk hx hT hn hp (us := cs) (by rw [List.drop_zero, List.take_of_length_le (by omega)]) hsz ht h
/-- the first field of an element -/
theorem KO.ldE0 {g len cap : Nat} (hk : (!d || k != .pure) = true) (hx : ev G x = some (.pointer (some ⟨g, i * sz, none⟩))) (hT : ∀ w, (isAgg T).run P w = .ok false w) (hp : Pick L (SL E sz cf (.slice (some ⟨g, 0, none⟩) len cap) xs) R) (hsz : ∀ e, (cf e).length = sz)
    (he : xs[i]? = some e) (hj : Nat.blt 0 sz = true) (hv : (cf e)[0]? = some v) (ht : Nat.blt t n = true)
    (h : KO P ops d Q n D w0 ((t, v) :: G) L l) : KO P ops d Q n D w0 G L ((k, ⟨some t, .load T x, ty, pos, af, none⟩) :: l) :=
  KO.ldE (j := 0) hk (by rw [Nat.add_zero]; exact hx) hT hp hsz he hj hv ht h
end
end WB
