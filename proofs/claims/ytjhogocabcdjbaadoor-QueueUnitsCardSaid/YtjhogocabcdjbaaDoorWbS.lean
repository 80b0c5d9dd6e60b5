import Derived.Test.YtjhogocabcdjbaaDoorWbR
set_option linter.unusedSimpArgs false
set_option linter.unusedVariables false
namespace WB
open Go Go.RowKit

inductive Kd | pure | read | same | keep | write
  deriving DecidableEq
def Kd.light : Kd → Bool | .pure | .read | .same => true | _ => false

def Ext (w w' : World) : Prop := w.heap.size ≤ w'.heap.size ∧ ∀ k, k < w.heap.size → w'.heap[k]? = w.heap[k]?
theorem Ext.refl (w : World) : Ext w w := ⟨Nat.le_refl _, fun _ _ => rfl⟩
theorem Ext.trans {a b c : World} (h : Ext a b) (k : Ext b c) : Ext a c := ⟨Nat.le_trans h.1 k.1, fun i hi => (k.2 i (Nat.lt_of_lt_of_le hi h.1)).trans (h.2 i hi)⟩
theorem Ext.of_below {w w' : World} (h : Below w.heap.size w w') : Ext w w' := ⟨h.size, h.block⟩
theorem Ext.drew (w : World) : Ext w w.drew := ⟨Nat.le_refl _, fun _ _ => rfl⟩
theorem Ext.cell {w w' : World} (h : Ext w w') {a : Addr} {v : Value} (hc : w.cell? a = some v) : w'.cell? a = some v := by
  have hb : a.block < w.heap.size := by
    unfold World.cell? at hc
    split at hc
    · rename_i e; exact (Array.getElem?_eq_some_iff.1 e).1
    · simp at hc
  rw [← hc]; exact World.cell?_of_block (h.2 _ hb)

def stays (k : Kd) (w w' : World) : Prop := match k with | .pure => True | .read => Ext w w' | _ => w' = w

/-- What an operation gives, and leaves the world as it was: of itself, or by a call. -/
def Gives (P : Program) (m : Sem Next) (v : Value) (w : World) : Prop :=
  m.run P w = .ok (.value v) w ∨ ∃ f args, m.run P w = .ok (.enter f args) w ∧ Calls P f args w fun e w' => e = .returned v ∧ w' = w
/-- The region walked in one order. -/
def vcL (P : Program) (ops : Array Oper) (Q : Exit → Act → World → Prop) : List (Kd × Oper) → Act → World → Prop
  | [], a, w => Q .normal a w
  | (k, o) :: rest, a, w =>
    if Region.wanted o (yielded ops a.tmps) then
      match k with
      | .keep => o.wp P a w (fun a' w' => Ext w w' ∧ vcL P ops Q rest a' w') (fun _ _ _ => False)
      | .write => o.wp P a w (fun a' w' => vcL P ops Q rest a' w') (fun _ _ _ => False)
      | k => ∃ v, (∀ w', stays k w w' → Gives P (execOp a.eval o) v w') ∧ vcL P ops Q rest (a.put o.dst v) w
    else vcL P ops Q rest (a.put o.dst undef) w

/-! What an operation reads. -/
def tmpOf : Operand → List Nat | .tmp t => [t] | _ => []
def readsOf (ops : Array Oper) (o : Oper) : List Nat :=
  o.op.operands.toList.flatMap tmpOf ++ (match o.guard with | some (j, _) => ((ops[j]?).bind (·.dst)).toList | none => [])

theorem eval_put {a : Act} {d : Option Tmp} {v : Value} {x : Operand} (h : ∀ t, d = some t → t ∉ tmpOf x) : (a.put d v).eval x = a.eval x := by
  cases d with
  | none => rfl
  | some t =>
    cases x with
    | tmp u =>
      have : t ≠ u := by have := h t rfl; simpa [tmpOf] using this
      simp [Act.put, Act.eval, Array.getD_eq_getD_getElem?, this]
    | _ => rfl

def plainOp : Op → Bool | .select .. | .defer _ | .go _ => false | _ => true
theorem execOp_congr {ρ ρ' : Operand → Value} {o : Oper} (hp : plainOp o.op = true) (h : ∀ x ∈ o.op.operands.toList, ρ x = ρ' x) : execOp ρ o = execOp ρ' o := by
  have mapc : ∀ (xs : Array Operand), (∀ x ∈ xs.toList, ρ x = ρ' x) → xs.map ρ = xs.map ρ' := fun xs hx =>
    Array.map_congr_left fun x hx' => hx x (Array.mem_toList_iff.2 hx')
  have mapp : ∀ (ps : Array (Nat × Operand)), (∀ x ∈ ps.toList.map (·.2), ρ x = ρ' x) → ps.map (fun (i, x) => (i, ρ x)) = ps.map (fun (i, x) => (i, ρ' x)) := fun ps hx =>
    Array.map_congr_left fun p hp => by
      have := hx p.2 (List.mem_map.2 ⟨p, Array.mem_toList_iff.2 hp, rfl⟩)
      simp [this]
  have mapo : ∀ (x : Option Operand), (∀ y, x = some y → ρ y = ρ' y) → x.map ρ = x.map ρ' := fun x hx => by
    cases x with
    | none => rfl
    | some y => simp [hx y rfl]
  have callc : ∀ (c : Call) (t : TypeId), (∀ x ∈ c.operands.toList, ρ x = ρ' x) → resolve ρ c t = resolve ρ' c t := fun c t hx => by
    have ha : c.args.map ρ = c.args.map ρ' := mapc _ fun x hx' => hx x (by simp [Call.operands, Array.mem_toList_iff.1 hx'])
    unfold resolve
    cases hc : c.callee with
    | value f => simp only [ha]; rw [hx f (by simp [Call.operands, hc])]
    | invoke r m => simp only [ha]; rw [hx r (by simp [Call.operands, hc])]
    | builtin b => simp only [ha]
  rcases o with ⟨dst, op, ty, pos, after, guard⟩
  unfold execOp
  cases op with
  | build t ps => simp only [Op.operands] at h ⊢; rw [mapp ps (fun x hx => h x (by simpa using hx))]
  | buildSlice t n ps => simp only [Op.operands] at h ⊢; rw [mapp ps (fun x hx => h x (by simpa using hx))]
  | makeFunc f xs ys =>
    simp only [Op.operands, Array.toList_append, List.mem_append] at h ⊢
    rw [mapc xs (fun x hx => h x (.inl hx)), mapc ys (fun x hx => h x (.inr hx))]
  | makeMap t r => simp only [Op.operands] at h ⊢; rw [mapo r (fun y hy => h y (by simp [hy]))]
  | slice t x l hi m =>
    simp only [Op.operands] at h ⊢
    rw [h x (by simp), mapo l (fun y hy => h y (by simp [hy])), mapo hi (fun y hy => h y (by simp [hy])), mapo m (fun y hy => h y (by simp [hy]))]
  | call c => simp only [Op.operands] at h ⊢; rw [callc c _ h]
  | go c => simp only [Op.operands] at h ⊢; rw [callc c _ h]
  | defer c => simp only [Op.operands] at h ⊢; rw [callc c _ h]
  | select cs bl => simp [plainOp] at hp
  | alloc => rfl
  | ready => rfl
  | waits => rfl
  | _ => simp [Op.operands] at h ⊢ <;> simp [h]
theorem put_comm {a : Act} {d e : Option Tmp} {v u : Value} (h : ∀ x, d = some x → e ≠ some x) : (a.put d v).put e u = (a.put e u).put d v := by
  cases d with
  | none => rfl
  | some x =>
    cases e with
    | none => rfl
    | some y =>
      have hne : x ≠ y := fun e => h x rfl (by rw [e])
      simp only [Act.put]
      rw [Array.setIfInBounds_comm _ _ hne]

theorem wanted_put {ops : Array Oper} {o : Oper} {tm : Array Value} {d : Option Tmp} {v : Value} {df : List Deferred} (h : ∀ t, d = some t → t ∉ readsOf ops o) :
    Region.wanted o (yielded ops (({ tmps := tm, defers := df } : Act).put d v).tmps) = Region.wanted o (yielded ops tm) := by
  cases d with
  | none => rfl
  | some t =>
    unfold Region.wanted
    cases hg : o.guard with
    | none => rfl
    | some g =>
      obtain ⟨j, want⟩ := g
      have ht := h t rfl
      simp only [readsOf, hg, List.mem_append, not_or] at ht
      simp only [yielded, Act.put]
      cases hj : (ops[j]?).bind (·.dst) with
      | none => rfl
      | some u =>
        have hne : t ≠ u := by
          have := ht.2
          rw [hj] at this
          simpa using this
        simp [hne]

theorem exec_put {ops : Array Oper} {o : Oper} {a : Act} {d : Option Tmp} {v : Value} (hp : plainOp o.op = true) (h : ∀ t, d = some t → t ∉ readsOf ops o) :
    execOp (a.put d v).eval o = execOp a.eval o := by
  refine execOp_congr hp fun x hx => eval_put fun t ht hm => h t ht ?_
  simp only [readsOf, List.mem_append, List.mem_flatMap]
  exact .inl ⟨x, hx, hm⟩

/-- Two operations that do not touch what the other reads or writes. -/
structure Free (ops : Array Oper) (o o' : Oper) : Prop where
  r1 : ∀ t, o.dst = some t → t ∉ readsOf ops o'
  r2 : ∀ t, o'.dst = some t → t ∉ readsOf ops o
  w : ∀ t, o.dst = some t → o'.dst ≠ some t

theorem wp_shift {P : Program} {ops : Array Oper} {o : Oper} {a : Act} {w : World} {d : Option Tmp} {u : Value} {N N' : Act → World → Prop}
    (hp : plainOp o.op = true) (h1 : ∀ t, d = some t → t ∉ readsOf ops o) (h2 : ∀ t, d = some t → o.dst ≠ some t)
    (hN : ∀ (x : Act) (v : Value) (w' : World), x.tmps = a.tmps → N ((x.put o.dst v).put d u) w' → N' (x.put o.dst v) w') (h : o.wp P (a.put d u) w N (fun _ _ _ => False)) :
    o.wp P a w N' (fun _ _ _ => False) := by
  have hc : ∀ v, (a.put d u).put o.dst v = (a.put o.dst v).put d u := fun v => put_comm h2
  unfold Oper.wp at h ⊢
  rw [exec_put hp h1] at h
  cases hr : (execOp a.eval o).run P w with
  | halt hh w' => rw [hr] at h; cases hh <;> exact h
  | ok n w' =>
    rw [hr] at h
    cases n with
    | value v => simp only [Oper.upon] at h ⊢; rw [hc] at h; exact hN a _ _ rfl h
    | skip => simp only [Oper.upon] at h ⊢; rw [hc] at h; exact hN a _ _ rfl h
    | defer dd =>
      simp only [Oper.upon] at h ⊢
      have e : ({ (a.put d u) with defers := dd :: (a.put d u).defers } : Act).put o.dst undef = (({ a with defers := dd :: a.defers } : Act).put o.dst undef).put d u := by
        rw [← put_comm h2]; cases d <;> rfl
      rw [e] at h
      exact hN { a with defers := dd :: a.defers } _ _ rfl h
    | enter f args =>
      simp only [Oper.upon] at h ⊢
      refine h.mono fun e w'' hh => ?_
      cases e with
      | returned v => simp only at hh ⊢; rw [hc] at hh; exact hN a _ _ rfl hh
      | panicked c => exact hh
      | outgrown => obtain ⟨_, _, hx⟩ := hh; exact hx.elim
    | row r args =>
      simp only [Oper.upon] at h ⊢
      refine h.mono fun v w'' hh => ?_
      rw [hc] at hh; exact hN a _ _ rfl hh
    | _ => exact h

section
variable {P : Program} {ops : Array Oper} {Q : Exit → Act → World → Prop} {rest : List (Kd × Oper)} {k : Kd} {o : Oper} {a : Act} {w : World}
theorem vcL_no (hw : Region.wanted o (yielded ops a.tmps) = false) : vcL P ops Q ((k, o) :: rest) a w = vcL P ops Q rest (a.put o.dst undef) w := by
  cases k <;> simp [vcL, hw]
theorem vcL_light (hk : k.light = true) (hw : Region.wanted o (yielded ops a.tmps) = true) : vcL P ops Q ((k, o) :: rest) a w =
    ∃ v, (∀ w', stays k w w' → Gives P (execOp a.eval o) v w') ∧ vcL P ops Q rest (a.put o.dst v) w := by
  cases k <;> first | (simp [Kd.light] at hk; done) | simp [vcL, hw]
theorem vcL_keep (hw : Region.wanted o (yielded ops a.tmps) = true) : vcL P ops Q ((.keep, o) :: rest) a w =
    o.wp P a w (fun a' w' => Ext w w' ∧ vcL P ops Q rest a' w') (fun _ _ _ => False) := by simp [vcL, hw]
theorem vcL_write (hw : Region.wanted o (yielded ops a.tmps) = true) : vcL P ops Q ((.write, o) :: rest) a w =
    o.wp P a w (fun a' w' => vcL P ops Q rest a' w') (fun _ _ _ => False) := by simp [vcL, hw]
end

def compat (k k' : Kd) : Prop := k'.light = true ∨ k = .pure ∨ (k = .read ∧ k' = .keep)

theorem replay {P : Program} {ops : Array Oper} {Q : Exit → Act → World → Prop} {rest : List (Kd × Oper)} {k : Kd} {o : Oper} (hk : k.light = true) (hp : plainOp o.op = true)
    {a x : Act} {w w' : World} {d : Option Tmp} {u v : Value} (hx : x.tmps = a.tmps) (hr : ∀ t, d = some t → t ∉ readsOf ops o)
    (hw : Region.wanted o (yielded ops a.tmps) = true) (hv : ∀ w'', stays k w w'' → Gives P (execOp a.eval o) v w'')
    (hs : ∀ w'', stays k w' w'' → stays k w w'') (h : vcL P ops Q rest ((x.put d u).put o.dst v) w') : vcL P ops Q ((k, o) :: rest) (x.put d u) w' := by
  have hw' : Region.wanted o (yielded ops (x.put d u).tmps) = true := by
    obtain ⟨tm, df⟩ := x
    rw [wanted_put hr]; rw [show tm = a.tmps from hx]; exact hw
  have he : execOp (x.put d u).eval o = execOp a.eval o := by
    rw [exec_put hp hr]
    exact execOp_congr hp fun y _ => by cases y <;> simp [Act.eval, hx]
  have : ∃ v, (∀ w'', stays k w' w'' → Gives P (execOp (x.put d u).eval o) v w'') ∧ vcL P ops Q rest ((x.put d u).put o.dst v) w' :=
    ⟨v, fun w'' hs' => by rw [he]; exact hv w'' (hs w'' hs'), h⟩
  rw [vcL_light hk hw']; exact this

theorem replay_not {P : Program} {ops : Array Oper} {Q : Exit → Act → World → Prop} {rest : List (Kd × Oper)} {k : Kd} {o : Oper}
    {a x : Act} {w' : World} {d : Option Tmp} {u : Value} (hx : x.tmps = a.tmps) (hr : ∀ t, d = some t → t ∉ readsOf ops o)
    (hw : Region.wanted o (yielded ops a.tmps) = false) (h : vcL P ops Q rest ((x.put d u).put o.dst undef) w') : vcL P ops Q ((k, o) :: rest) (x.put d u) w' := by
  have hw' : Region.wanted o (yielded ops (x.put d u).tmps) = false := by
    obtain ⟨tm, df⟩ := x
    rw [wanted_put hr]; rw [show tm = a.tmps from hx]; exact hw
  rw [vcL_no hw']; exact h

theorem swap {P : Program} {ops : Array Oper} {Q : Exit → Act → World → Prop} {rest : List (Kd × Oper)} {k k' : Kd} {o o' : Oper} (hk : k.light = true) (hc : compat k k')
    (hp : plainOp o.op = true) (hp' : plainOp o'.op = true) (hf : Free ops o o') {a : Act} {w : World}
    (h : vcL P ops Q ((k, o) :: (k', o') :: rest) a w) : vcL P ops Q ((k', o') :: (k, o) :: rest) a w := by
  -- what the first one leaves, and how it may be told behind the second
  have key : ∃ u, vcL P ops Q ((k', o') :: rest) (a.put o.dst u) w ∧
      ∀ (x : Act) (v : Value) (w' : World), x.tmps = a.tmps → (∀ w'', stays k w' w'' → stays k w w'') → vcL P ops Q rest ((x.put o'.dst v).put o.dst u) w' → vcL P ops Q ((k, o) :: rest) (x.put o'.dst v) w' := by
    cases hw : Region.wanted o (yielded ops a.tmps) with
    | false =>
      rw [vcL_no hw] at h
      exact ⟨undef, h, fun x v w' hx _ hr => replay_not hx hf.r2 hw hr⟩
    | true =>
      rw [vcL_light hk hw] at h
      obtain ⟨v, hv, hr⟩ := h
      exact ⟨v, hr, fun x u w' hx hs hr => replay hk hp hx hf.r2 hw hv hs hr⟩
  obtain ⟨u, hi, hre⟩ := key
  have hw' : Region.wanted o' (yielded ops (a.put o.dst u).tmps) = Region.wanted o' (yielded ops a.tmps) := by
    obtain ⟨tm, df⟩ := a; exact wanted_put hf.r1
  have hee : execOp (a.put o.dst u).eval o' = execOp a.eval o' := exec_put hp' hf.r1
  have hsame : ∀ w'', stays k w w'' → stays k w w'' := fun _ x => x
  have hcomm : ∀ v, (a.put o.dst u).put o'.dst v = (a.put o'.dst v).put o.dst u := fun v => put_comm hf.w
  cases hwd : Region.wanted o' (yielded ops a.tmps) with
  | false =>
    rw [vcL_no (by rw [hw', hwd]), hcomm] at hi
    rw [vcL_no hwd]
    exact hre a undef w rfl hsame hi
  | true =>
    have hwd' : Region.wanted o' (yielded ops (a.put o.dst u).tmps) = true := by rw [hw', hwd]
    by_cases hl' : k'.light = true
    · rw [vcL_light hl' hwd'] at hi
      rw [vcL_light hl' hwd]
      obtain ⟨v, hv, hr⟩ := hi
      rw [hcomm] at hr
      exact ⟨v, fun w'' hs => by rw [← hee]; exact hv w'' hs, hre a v w rfl hsame hr⟩
    · cases k' with
      | keep =>
        rw [vcL_keep hwd'] at hi; rw [vcL_keep hwd]
        refine wp_shift hp' hf.r1 hf.w (fun x v w' hx hN => ⟨hN.1, hre x v w' hx (fun w'' hs => ?_) hN.2⟩) hi
        rcases hc with hc | rfl | ⟨rfl, _⟩
        · exact absurd hc hl'
        · trivial
        · exact hN.1.trans hs
      | write =>
        rw [vcL_write hwd'] at hi; rw [vcL_write hwd]
        refine wp_shift hp' hf.r1 hf.w (fun x v w' hx hN => hre x v w' hx (fun w'' hs => ?_) hN) hi
        rcases hc with hc | rfl | ⟨_, hc⟩
        · exact absurd hc hl'
        · trivial
        · simp at hc
      | _ => exact absurd rfl hl'
end WB
