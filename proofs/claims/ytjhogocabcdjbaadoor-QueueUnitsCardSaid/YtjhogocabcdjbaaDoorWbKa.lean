/- A CALCULUS OF STEPS: 'K c Q n D w0 G L' says: from every frame that knows what G lists, in every world that is as w0 below and has the parts L above, the code c comes to Q. The world itself is never named. -/
import Derived.Test.YtjhogocabcdjbaaDoorWbQ
import Derived.LoopN
set_option linter.unusedSimpArgs false
set_option linter.unusedVariables false
namespace WB
open Go Go.RowKit

abbrev Env := List (Nat × Value)
def envAt : Env → Nat → Option Value
  | [], _ => none
  | (s, v) :: r, t => match Nat.beq s t with | true => some v | false => envAt r t
def ev (G : Env) : Operand → Option Value
  | .tmp t => envAt G t
  | .const v => some v
  | .global g => some (.pointer (some ⟨g, 0, none⟩))
  | .func f => some (.func (.func f) #[] #[])
structure Knows (n : Nat) (D : List Deferred) (G : Env) (a : Act) : Prop where
  size : a.tmps.size = n
  defers : a.defers = D
  get : ∀ t v, envAt G t = some v → a.tmps[t]? = some v
theorem envAt_cons (s : Nat) (v : Value) (r : Env) (t : Nat) : envAt ((s, v) :: r) t = if s = t then some v else envAt r t := by
  show (match Nat.beq s t with | true => some v | false => envAt r t) = _
  cases h : Nat.beq s t with
  | true => rw [if_pos (Nat.eq_of_beq_eq_true h)]
  | false => rw [if_neg (fun e => by rw [e, Nat.beq_refl] at h; cases h)]
section
variable {n : Nat} {D : List Deferred} {G G' : Env} {a : Act} {x : Operand} {v : Value}
theorem Knows.eval (h : Knows n D G a) (hx : ev G x = some v) : a.eval x = v := by
  cases x with
  | tmp t =>
    have := h.get t v hx
    simp [Act.eval, Array.getD_eq_getD_getElem?, this]
  | const u => simp only [ev, Option.some.injEq] at hx; exact hx
  | global g => simp only [ev, Option.some.injEq] at hx; exact hx
  | func f => simp only [ev, Option.some.injEq] at hx; exact hx
theorem Knows.put (h : Knows n D G a) (t : Nat) (v : Value) (ht : t < n) : Knows n D ((t, v) :: G) (a.put (some t) v) := by
  refine ⟨by simp [Act.put, h.size], h.defers, fun s u hs => ?_⟩
  rw [envAt_cons] at hs
  by_cases e : t = s
  · subst e
    rw [if_pos rfl] at hs
    have : t < a.tmps.size := by rw [h.size]; exact ht
    simp [Act.put, this]
    simpa using hs
  · rw [if_neg e] at hs
    simp [Act.put, e]
    exact h.get s u hs
def SubL (G : Env) : Env → Prop
  | [] => True
  | (t, v) :: r => envAt G t = some v ∧ SubL G r
theorem SubL.get : ∀ {G' : Env}, SubL G G' → ∀ t v, envAt G' t = some v → envAt G t = some v
  | [], _, t, v, h => by simp [envAt] at h
  | (s, u) :: r, ⟨h1, h2⟩, t, v, h => by
    rw [envAt_cons] at h
    by_cases e : s = t
    · subst e; rw [if_pos rfl] at h; rw [h1]; exact h
    · rw [if_neg e] at h; exact SubL.get h2 t v h
theorem Knows.sub (h : Knows n D G a) (hs : SubL G G') : Knows n D G' a := ⟨h.size, h.defers, fun t v ht => h.get t v (hs.get t v ht)⟩
end
/-- the arguments' frame -/
def argEnv : Nat → List Value → Env
  | _, [] => []
  | i, v :: r => (i, v) :: argEnv (i + 1) r
theorem argEnv_get : ∀ (l : List Value) (i t : Nat) (v : Value), envAt (argEnv i l) t = some v → i ≤ t ∧ l[t - i]? = some v
  | [], i, t, v, h => by simp [argEnv, envAt] at h
  | u :: l, i, t, v, h => by
    rw [argEnv, envAt_cons] at h
    by_cases e : i = t
    · subst e; rw [if_pos rfl] at h; exact ⟨Nat.le_refl _, by simpa using h⟩
    · rw [if_neg e] at h
      obtain ⟨h1, h2⟩ := argEnv_get l (i + 1) t v h
      refine ⟨by omega, ?_⟩
      rw [show t - i = (t - (i + 1)) + 1 by omega]; simpa using h2
theorem Knows.enter {args : Array Value} {n : Nat} (h : args.size ≤ n) : Knows n [] (argEnv 0 args.toList) { tmps := args ++ Array.replicate (n - args.size) undef, defers := [] } := by
  refine ⟨by simp; omega, rfl, fun t v ht => ?_⟩
  have := (argEnv_get _ _ _ _ ht).2
  rw [Nat.sub_zero] at this
  have hlt : t < args.size := by
    have := (List.getElem?_eq_some_iff.1 this).1
    simpa using this
  simp only [Array.getElem?_append, hlt, if_true]
  simpa using this

/-! one list of operations, in one order -/
def vcG (d : Bool) (P : Program) (ops : Array Oper) (Q : Exit → Act → World → Prop) (l : List (Kd × Oper)) (a : Act) (w : World) : Prop :=
  match d with | true => vcL P ops Q l a w | false => wpList P ops Q (l.map (·.2)) a w
def panicQ (d : Bool) (Q : Exit → Act → World → Prop) : Exit → Act → World → Prop := match d with | true => fun _ _ _ => False | false => Q
section
variable {d : Bool} {P : Program} {ops : Array Oper} {Q : Exit → Act → World → Prop} {rest : List (Kd × Oper)} {k : Kd} {o : Oper} {a : Act} {w : World} {v : Value}
theorem vcG_skip (hw : Region.wanted o (yielded ops a.tmps) = false) (h : vcG d P ops Q rest (a.put o.dst undef) w) : vcG d P ops Q ((k, o) :: rest) a w := by
  cases d with
  | true => show vcL _ _ _ _ _ _; rw [vcL_no hw]; exact h
  | false => exact wpList_skip hw h
theorem wpList_go (hw : Region.wanted o (yielded ops a.tmps) = true) {l : List Oper} (h : o.wp P a w (wpList P ops Q l) Q) : wpList P ops Q (o :: l) a w := by
  unfold wpList; rw [if_pos hw]; exact .inl h
theorem vcG_val (hw : Region.wanted o (yielded ops a.tmps) = true) (hv : ∀ w', (execOp a.eval o).run P w' = .ok (.value v) w') (h : vcG d P ops Q rest (a.put o.dst v) w) : vcG d P ops Q ((k, o) :: rest) a w := by
  cases d with
  | true =>
    show vcL _ _ _ _ _ _
    by_cases hl : k.light = true
    · rw [vcL_light hl hw]; exact ⟨v, fun w' _ => .inl (hv w'), h⟩
    · cases k with
      | keep => rw [vcL_keep hw]; unfold Oper.wp; rw [hv]; exact ⟨Ext.refl w, h⟩
      | write => rw [vcL_write hw]; unfold Oper.wp; rw [hv]; exact h
      | _ => exact absurd rfl hl
  | false => exact wpList_go hw (by unfold Oper.wp; rw [hv]; exact h)
theorem vcG_read (hk : (!d || k != .pure) = true) (hw : Region.wanted o (yielded ops a.tmps) = true) (hv : ∀ w', Ext w w' → (execOp a.eval o).run P w' = .ok (.value v) w') (h : vcG d P ops Q rest (a.put o.dst v) w) :
    vcG d P ops Q ((k, o) :: rest) a w := by
  cases d with
  | true =>
    show vcL _ _ _ _ _ _
    cases k with
    | pure => simp at hk
    | read => rw [vcL_light rfl hw]; exact ⟨v, fun w' e => .inl (hv w' e), h⟩
    | same => rw [vcL_light rfl hw]; exact ⟨v, fun w' (e : w' = w) => .inl (by subst e; exact hv _ (Ext.refl _)), h⟩
    | keep => rw [vcL_keep hw]; unfold Oper.wp; rw [hv _ (Ext.refl w)]; exact ⟨Ext.refl w, h⟩
    | write => rw [vcL_write hw]; unfold Oper.wp; rw [hv _ (Ext.refl w)]; exact h
  | false => exact wpList_go hw (by unfold Oper.wp; rw [hv _ (Ext.refl w)]; exact h)
theorem vcG_same (hk : (!d || (k != .pure && k != .read)) = true) (hw : Region.wanted o (yielded ops a.tmps) = true) (hv : Gives P (execOp a.eval o) v w) (h : vcG d P ops Q rest (a.put o.dst v) w) :
    vcG d P ops Q ((k, o) :: rest) a w := by
  have key : ∀ (N : Act → World → Prop) Q', N (a.put o.dst v) w → o.wp P a w N Q' := fun N Q' hN => by
    unfold Oper.wp
    rcases hv with hg | ⟨f, args, hg, hcall⟩
    · rw [hg]; exact hN
    · rw [hg]
      refine hcall.mono ?_
      rintro e w' ⟨rfl, rfl⟩
      exact hN
  cases d with
  | true =>
    show vcL _ _ _ _ _ _
    cases k with
    | pure => simp at hk
    | read => simp at hk
    | same => rw [vcL_light rfl hw]; exact ⟨v, fun w' (e : w' = w) => by subst e; exact hv, h⟩
    | keep => rw [vcL_keep hw]; exact key _ _ ⟨Ext.refl w, h⟩
    | write => rw [vcL_write hw]; exact key _ _ h
  | false => exact wpList_go hw (key _ _ h)
theorem vcG_keep (hk : (!d || (k == .keep || k == .write)) = true) (hw : Region.wanted o (yielded ops a.tmps) = true)
    (h : o.wp P a w (fun a' w' => Ext w w' ∧ vcG d P ops Q rest a' w') (fun _ _ _ => False)) : vcG d P ops Q ((k, o) :: rest) a w := by
  cases d with
  | true =>
    show vcL _ _ _ _ _ _
    cases k with
    | pure => simp at hk
    | read => simp at hk
    | same => simp at hk
    | keep => rw [vcL_keep hw]; exact h
    | write => rw [vcL_write hw]; exact wp_mono_F (fun a w hh => hh.2) h
  | false => exact wpList_go hw (wp_mono_F (fun a w hh => hh.2) h)
theorem vcG_write (hk : (!d || k == .write) = true) (hw : Region.wanted o (yielded ops a.tmps) = true)
    (h : o.wp P a w (fun a' w' => vcG d P ops Q rest a' w') (panicQ d Q)) : vcG d P ops Q ((k, o) :: rest) a w := by
  cases d with
  | true =>
    show vcL _ _ _ _ _ _
    cases k with
    | write => rw [vcL_write hw]; exact h
    | _ => simp at hk
  | false => exact wpList_go hw h
end

/-! the judgements -/
section
variable (P : Program)
def KO (ops : Array Oper) (d : Bool) (Q : Exit → Act → World → Prop) (n : Nat) (D : List Deferred) (w0 : World) (G : Env) (L : List HP) (l : List (Kd × Oper)) : Prop :=
  ∀ a w, Knows n D G a → St w0 L w → vcG d P ops Q l a w
def K (c : Code) (Q : Exit → Act → World → Prop) (n : Nat) (D : List Deferred) (w0 : World) (G : Env) (L : List HP) : Prop :=
  ∀ a w, Knows n D G a → St w0 L w → c.wp P Q a w
end
def KQ (Q : Exit → Act → World → Prop) (e : Exit) (n : Nat) (D : List Deferred) (w0 : World) (G : Env) (L : List HP) : Prop :=
  ∀ a w, Knows n D G a → St w0 L w → Q e a w
section
variable {P : Program} {ops : Array Oper} {d : Bool} {Q : Exit → Act → World → Prop} {n : Nat} {D : List Deferred} {w0 : World} {G G' : Env} {L L' : List HP} {l : List (Kd × Oper)} {c x y : Code} {e : Exit}
/-! structure -/
def wr : List Oper → List (Kd × Oper)
  | [] => []
  | o :: l => (.write, o) :: wr l
theorem wr_map : ∀ l : List Oper, (wr l).map (·.2) = l
  | [] => rfl
  | o :: l => by simp [wr, wr_map l]
theorem K.reg {id : Nat} {l : List Oper} (h : KO P l.toArray false Q n D w0 G L (wr l)) : K P (.region id l.toArray false) Q n D w0 G L := fun a w ha hw => by
  have := h a w ha hw
  simp only [vcG, wr_map] at this
  exact wp_region_lit this
theorem K.draw {id : Nat} (ks : List Kd) (ord : List Nat) (hmix : P.follows .mixedOrders = true) (hok : okR ops ks ord = true)
    (h : KO P ops true Q n D w0 G L (ord.map (item ops ks))) : K P (.region id ops true) Q n D w0 G L := fun a _ ha hw =>
  wp_region_ord ks ord hmix hok (h a _ ha hw.drew)
theorem KO.nil (h : KQ Q .normal n D w0 G L) : KO P ops d Q n D w0 G L [] := fun a w ha hw => by
  cases d with
  | true => exact h a w ha hw
  | false => exact h a w ha hw
theorem K.seq (h : K P x (Exit.then (y.wp P Q) Q) n D w0 G L) : K P (.seq x y) Q n D w0 G L := fun a w ha hw => wp_seq (h a w ha hw)
theorem K.block {id : Nat} (h : K P x (Exit.inBlock id Q) n D w0 G L) : K P (.block id x) Q n D w0 G L := fun a w ha hw => wp_block (h a w ha hw)
theorem K.ret (h : KQ Q .ret n D w0 G L) : K P .ret Q n D w0 G L := fun a w ha hw => wp_ret (h a w ha hw)
theorem K.skip (h : KQ Q .normal n D w0 G L) : K P .skip Q n D w0 G L := fun a w ha hw => wp_skip (h a w ha hw)
theorem K.label {t : Nat} (h : KQ Q .normal n D w0 G L) : K P (.label t) Q n D w0 G L := fun a w ha hw => wp_label (h a w ha hw)
theorem K.exit {id : Nat} (h : KQ Q (.exit id) n D w0 G L) : K P (.exit id) Q n D w0 G L := fun a w ha hw => wp_exit (h a w ha hw)
theorem K.cond {cd : Operand} {b : Bool} (hc : ev G cd = some (.bool b)) (ht : b = true → K P x Q n D w0 G L) (hf : b = false → K P y Q n D w0 G L) : K P (.cond cd x y) Q n D w0 G L := fun a w ha hw =>
  wp_cond_split (ha.eval hc) (fun e => ht e a w ha hw) (fun e => hf e a w ha hw)
theorem K.condD {cd : Operand} {p : Prop} [Decidable p] (hc : ev G cd = some (.bool (decide p))) (ht : p → K P x Q n D w0 G L) (hf : ¬ p → K P y Q n D w0 G L) : K P (.cond cd x y) Q n D w0 G L :=
  K.cond hc (fun e => ht (of_decide_eq_true e)) (fun e => hf (of_decide_eq_false e))
theorem K.condT {cd : Operand} {b : Bool} (hc : ev G cd = some (.bool b)) (hb : b = true) (h : K P x Q n D w0 G L) : K P (.cond cd x y) Q n D w0 G L :=
  K.cond hc (fun _ => h) (fun e => by rw [hb] at e; cases e)
theorem K.condF {cd : Operand} {b : Bool} (hc : ev G cd = some (.bool b)) (hb : b = false) (h : K P y Q n D w0 G L) : K P (.cond cd x y) Q n D w0 G L :=
  K.cond hc (fun e => by rw [hb] at e; cases e) (fun _ => h)
theorem KQ.next (h : K P y Q n D w0 G L) : KQ (Exit.then (y.wp P Q) Q) .normal n D w0 G L := h
theorem KQ.then_exit {N : Act → World → Prop} {i : Nat} (h : KQ Q (.exit i) n D w0 G L) : KQ (Exit.then N Q) (.exit i) n D w0 G L := h
theorem KQ.then_ret {N : Act → World → Prop} (h : KQ Q .ret n D w0 G L) : KQ (Exit.then N Q) .ret n D w0 G L := h
theorem KQ.then_panic {N : Act → World → Prop} {ch : List PanicEntry} (h : KQ Q (.panic ch) n D w0 G L) : KQ (Exit.then N Q) (.panic ch) n D w0 G L := h
theorem KQ.blk_ret {i : Nat} (h : KQ Q .ret n D w0 G L) : KQ (Exit.inBlock i Q) .ret n D w0 G L := h
theorem KQ.blk_normal {i : Nat} (h : KQ Q .normal n D w0 G L) : KQ (Exit.inBlock i Q) .normal n D w0 G L := h
theorem KQ.blk_panic {i : Nat} {ch : List PanicEntry} (h : KQ Q (.panic ch) n D w0 G L) : KQ (Exit.inBlock i Q) (.panic ch) n D w0 G L := h
theorem KQ.blk_exit {i : Nat} (h : KQ Q .normal n D w0 G L) : KQ (Exit.inBlock i Q) (.exit i) n D w0 G L := fun a w ha hw => by
  show if i = i then Q .normal a w else Q (.exit i) a w
  rw [if_pos rfl]; exact h a w ha hw
theorem KQ.blk_pass {i j : Nat} (hne : Nat.beq j i = false) (h : KQ Q (.exit j) n D w0 G L) : KQ (Exit.inBlock i Q) (.exit j) n D w0 G L := fun a w ha hw => by
  show if j = i then Q .normal a w else Q (.exit j) a w
  rw [if_neg (fun e => by rw [e, Nat.beq_refl] at hne; cases hne)]; exact h a w ha hw
/-! forgetting, turning the parts -/
theorem K.weak (hs : SubL G G') (h : K P c Q n D w0 G' L) : K P c Q n D w0 G L := fun a w ha hw => h a w (ha.sub hs) hw
theorem KO.weak (hs : SubL G G') (h : KO P ops d Q n D w0 G' L l) : KO P ops d Q n D w0 G L l := fun a w ha hw => h a w (ha.sub hs) hw
theorem K.conv (hs : ∀ w, St w0 L w → St w0 L' w) (h : K P c Q n D w0 G L') : K P c Q n D w0 G L := fun a w ha hw => h a w ha (hs w hw)
theorem KO.conv (hs : ∀ w, St w0 L w → St w0 L' w) (h : KO P ops d Q n D w0 G L' l) : KO P ops d Q n D w0 G L l := fun a w ha hw => h a w ha (hs w hw)
theorem KQ.conv (hs : ∀ w, St w0 L w → St w0 L' w) (h : KQ Q e n D w0 G L') : KQ Q e n D w0 G L := fun a w ha hw => h a w ha (hs w hw)
theorem K.fact {p : Prop} (hs : ∀ w, St w0 L w → p) (h : p → K P c Q n D w0 G L) : K P c Q n D w0 G L := fun a w ha hw => h (hs w hw) a w ha hw
theorem KO.fact {p : Prop} (hs : ∀ w, St w0 L w → p) (h : p → KO P ops d Q n D w0 G L l) : KO P ops d Q n D w0 G L l := fun a w ha hw => h (hs w hw) a w ha hw
theorem KQ.fact {p : Prop} (hs : ∀ w, St w0 L w → p) (h : p → KQ Q e n D w0 G L) : KQ Q e n D w0 G L := fun a w ha hw => h (hs w hw) a w ha hw
theorem K.open' {α : Sort _} {F : α → List HP} (hs : ∀ w, St w0 L w → ∃ x, St w0 (F x) w) (h : ∀ x, K P c Q n D w0 G (F x)) : K P c Q n D w0 G L := fun a w ha hw => by
  obtain ⟨x, hx⟩ := hs w hw
  exact h x a w ha hx
theorem KO.open' {α : Sort _} {F : α → List HP} (hs : ∀ w, St w0 L w → ∃ x, St w0 (F x) w) (h : ∀ x, KO P ops d Q n D w0 G (F x) l) : KO P ops d Q n D w0 G L l := fun a w ha hw => by
  obtain ⟨x, hx⟩ := hs w hw
  exact h x a w ha hx
theorem KQ.open' {α : Sort _} {F : α → List HP} (hs : ∀ w, St w0 L w → ∃ x, St w0 (F x) w) (h : ∀ x, KQ Q e n D w0 G (F x)) : KQ Q e n D w0 G L := fun a w ha hw => by
  obtain ⟨x, hx⟩ := hs w hw
  exact h x a w ha hx
/-! loops -/
def LoopI {α : Type} (n : Nat) (D : List Deferred) (w0 : World) (E : α → Env) (H : α → List HP) (φ : α → Prop) (m : α → Nat) (x : α) (a : Act) (w : World) : Prop :=
  ∃ y, φ y ∧ m y < m x ∧ Knows n D (E y) a ∧ St w0 (H y) w
theorem K.loop {α : Type} (E : α → Env) (H : α → List HP) (φ : α → Prop) (m : α → Nat) (x0 : α) (h0 : φ x0) (hG : SubL G (E x0)) (hL : ∀ w, St w0 L w → St w0 (H x0) w)
    (round : ∀ x, φ x → K P c (Exit.then (LoopI n D w0 E H φ m x) Q) n D w0 (E x) (H x)) : K P (.loop c) Q n D w0 G L := fun a w ha hw => by
  have key : ∀ (N : Nat) (x : α) (a : Act) (w : World), m x < N → φ x → Knows n D (E x) a → St w0 (H x) w → Code.rounds P c Q N a w := by
    intro N
    induction N with
    | zero => intro x a w h; omega
    | succ N ih =>
      intro x a w hlt hx ha hw
      rw [rounds_succ]
      refine Go.wp_mono (round x hx a w ha hw) fun e a w hq => ?_
      cases e with
      | normal =>
        obtain ⟨y, hy, hlt', ha', hw'⟩ := hq
        exact ih y a w (by omega) hy ha' hw'
      | _ => exact hq
  exact wp_loop_rounds (m x0 + 1) (key _ x0 a w (Nat.lt_succ_self _) h0 (ha.sub hG) (hL w hw))
theorem KQ.round {α : Type} {E : α → Env} {H : α → List HP} {φ : α → Prop} {m : α → Nat} {x : α} (y : α) (hy : φ y) (hm : m y < m x) (hG : SubL G (E y)) (hL : ∀ w, St w0 L w → St w0 (H y) w) :
    KQ (Exit.then (LoopI n D w0 E H φ m x) Q) .normal n D w0 G L := fun _ w ha hw => ⟨y, hy, hm, ha.sub hG, hL w hw⟩
/-- a loop that is gone through fewer than N times is unrolled -/
theorem K.rounds (N : Nat) (h : ∀ a w, Knows n D G a → St w0 L w → Code.rounds P c Q N a w) : K P (.loop c) Q n D w0 G L := fun a w ha hw => wp_loop_rounds N (h a w ha hw)
end
/-! contracts -/
def KC (P : Program) (f : FuncId) (args : Array Value) (w0 : World) (L : List HP) (R : Value → List HP → Prop) : Prop :=
  ∀ w, St w0 L w → Calls P f args w fun e w' => ∃ v L', e = .returned v ∧ R v L' ∧ St w0 L' w'
/-- with what was there kept, and new blocks -/
def KE (P : Program) (f : FuncId) (args : Array Value) (w0 : World) (L : List HP) (R : Value → List HP → Prop) : Prop :=
  ∀ w, St w0 L w → Calls P f args w fun e w' => ∃ v L', e = .returned v ∧ R v L' ∧ St w0 L' w' ∧ Below w.heap.size w w'
/-- any ending -/
def KP (P : Program) (f : FuncId) (args : Array Value) (w0 : World) (L : List HP) (R : Ending → List HP → Prop) : Prop :=
  ∀ w, St w0 L w → Calls P f args w fun e w' => ∃ L', R e L' ∧ St w0 L' w'
def RetR (w0 : World) (R : Value → List HP → Prop) : Ending → World → Prop := fun e w' => ∃ v L', e = .returned v ∧ R v L' ∧ St w0 L' w'
section
variable {P : Program} {f : FuncId} {args : Array Value} {w0 : World} {L : List HP} {R R' : Value → List HP → Prop}
theorem KE.kc (h : KE P f args w0 L R) : KC P f args w0 L R := fun w hw => (h w hw).mono fun _ _ ⟨v, L', a, b, c, _⟩ => ⟨v, L', a, b, c⟩
theorem KC.mono (h : KC P f args w0 L R) (hr : ∀ v L', R v L' → R' v L') : KC P f args w0 L R' := fun w hw => (h w hw).mono fun _ _ ⟨v, L', a, b, c⟩ => ⟨v, L', a, hr _ _ b, c⟩
theorem KE.mono (h : KE P f args w0 L R) (hr : ∀ v L', R v L' → R' v L') : KE P f args w0 L R' := fun w hw => (h w hw).mono fun _ _ ⟨v, L', a, b, c⟩ => ⟨v, L', a, hr _ _ b, c⟩
theorem KC.mk {fn : Func} {c : Code} {n : Nat} (hf : P.funcs[f]? = some fn) (hb : fn.body = some c) (hn : fn.ntmps = n) (hsz : args.size ≤ n)
    (h : K P c (bodyPost P fn (RetR w0 R)) n [] w0 (argEnv 0 args.toList) L) : KC P f args w0 L R := fun w hw => by
  subst hn
  exact calls_of_wp hf hb (h _ w (Knows.enter hsz) hw)
/-- what was there is kept: the base is the world at the call -/
theorem KE.mk {fn : Func} {c : Code} {n : Nat} (hf : P.funcs[f]? = some fn) (hb : fn.body = some c) (hn : fn.ntmps = n) (hsz : args.size ≤ n)
    (h : ∀ w, St w0 L w → K P c (bodyPost P fn fun e w' => ∃ v L', e = .returned v ∧ R v L' ∧ St w0 L' w' ∧ Below w.heap.size w w') n [] w (argEnv 0 args.toList) []) : KE P f args w0 L R := fun w hw => by
  subst hn
  exact calls_of_wp hf hb (h w hw _ w (Knows.enter hsz) (St.init w))
theorem KP.mk {RE : Ending → List HP → Prop} {fn : Func} {c : Code} {n : Nat} (hf : P.funcs[f]? = some fn) (hb : fn.body = some c) (hn : fn.ntmps = n) (hsz : args.size ≤ n)
    (h : K P c (bodyPost P fn fun e w' => ∃ L', RE e L' ∧ St w0 L' w') n [] w0 (argEnv 0 args.toList) L) : KP P f args w0 L RE := fun w hw => by
  subst hn
  exact calls_of_wp hf hb (h _ w (Knows.enter hsz) hw)
end
section
variable {P : Program} {fn : Func} {R : Ending → World → Prop} {n : Nat} {w0 : World} {G : Env} {L : List HP} {v v1 v2 v3 : Value} {t t1 t2 t3 : Nat}
theorem res1 (hr : fn.results = #[.tmp t]) (hv : envAt G t = some v) (a : Act) (w : World) (ha : Knows n [] G a) : (results fn a.tmps).run P w = .ok v w := by
  rw [results_tmp hr]; simp [Array.getD_eq_getD_getElem?, ha.get _ _ hv]
theorem res2 (hr : fn.results = #[.tmp t1, .tmp t2]) (h1 : envAt G t1 = some v1) (h2 : envAt G t2 = some v2) (a : Act) (w : World) (ha : Knows n [] G a) : (results fn a.tmps).run P w = .ok (.tuple #[v1, v2]) w := by
  rw [results_tmp2 hr]; simp [Array.getD_eq_getD_getElem?, ha.get _ _ h1, ha.get _ _ h2]
theorem res3 (hr : fn.results = #[.tmp t1, .tmp t2, .tmp t3]) (h1 : envAt G t1 = some v1) (h2 : envAt G t2 = some v2) (h3 : envAt G t3 = some v3) (a : Act) (w : World) (ha : Knows n [] G a) :
    (results fn a.tmps).run P w = .ok (.tuple #[v1, v2, v3]) w := by
  rw [results_tmp3 hr]; simp [Array.getD_eq_getD_getElem?, ha.get _ _ h1, ha.get _ _ h2, ha.get _ _ h3]
theorem KQ.fin (hr : ∀ a w, Knows n [] G a → St w0 L w → (results fn a.tmps).run P w = .ok v w) (h : ∀ w, St w0 L w → R (.returned v) w) : KQ (bodyPost P fn R) .ret n [] w0 G L := fun a w ha hw => ⟨ha.defers, v, hr a w ha hw, h w hw⟩
theorem KQ.fin' (hr : ∀ a w, Knows n [] G a → St w0 L w → (results fn a.tmps).run P w = .ok v w) (h : ∀ w, St w0 L w → R (.returned v) w) : KQ (bodyPost P fn R) .normal n [] w0 G L := fun a w ha hw => ⟨ha.defers, v, hr a w ha hw, h w hw⟩
theorem KQ.ret1 (hr : fn.results = #[.tmp t]) (hv : envAt G t = some v) (h : ∀ w, St w0 L w → R (.returned v) w) : KQ (bodyPost P fn R) .ret n [] w0 G L :=
  KQ.fin (fun a w ha _ => res1 hr hv a w ha) h
theorem KQ.ret2 (hr : fn.results = #[.tmp t1, .tmp t2]) (h1 : envAt G t1 = some v1) (h2 : envAt G t2 = some v2) (h : ∀ w, St w0 L w → R (.returned (.tuple #[v1, v2])) w) : KQ (bodyPost P fn R) .ret n [] w0 G L :=
  KQ.fin (fun a w ha _ => res2 hr h1 h2 a w ha) h
theorem KQ.ret3 (hr : fn.results = #[.tmp t1, .tmp t2, .tmp t3]) (h1 : envAt G t1 = some v1) (h2 : envAt G t2 = some v2) (h3 : envAt G t3 = some v3) (h : ∀ w, St w0 L w → R (.returned (.tuple #[v1, v2, v3])) w) : KQ (bodyPost P fn R) .ret n [] w0 G L :=
  KQ.fin (fun a w ha _ => res3 hr h1 h2 h3 a w ha) h
theorem KQ.ret0 (hr : fn.results = #[]) (h : ∀ w, St w0 L w → R (.returned (.tuple #[])) w) : KQ (bodyPost P fn R) .ret n [] w0 G L :=
  KQ.fin (fun a w _ _ => results_none hr a.tmps P w) h
theorem KQ.end0 (hr : fn.results = #[]) (h : ∀ w, St w0 L w → R (.returned (.tuple #[])) w) : KQ (bodyPost P fn R) .normal n [] w0 G L :=
  KQ.fin' (fun a w _ _ => results_none hr a.tmps P w) h
end
end WB
