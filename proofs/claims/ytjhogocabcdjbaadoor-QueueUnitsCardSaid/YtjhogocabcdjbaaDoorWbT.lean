import Derived.Test.YtjhogocabcdjbaaDoorWbS
set_option linter.unusedSimpArgs false
set_option linter.unusedVariables false
namespace WB
open Go Go.RowKit
variable {P : Program} {ops : Array Oper} {Q : Exit → Act → World → Prop}

theorem wp_mono_F {o : Oper} {a : Act} {w : World} {N N' : Act → World → Prop} (hN : ∀ a w, N a w → N' a w) (h : o.wp P a w N (fun _ _ _ => False)) : o.wp P a w N' Q := by
  unfold Oper.wp at h ⊢
  cases hr : (execOp a.eval o).run P w with
  | halt hh w' => rw [hr] at h; cases hh <;> exact h.elim
  | ok n w' =>
    rw [hr] at h
    cases n with
    | value v => exact hN _ _ h
    | skip => exact hN _ _ h
    | defer dd => exact hN _ _ h
    | enter f args =>
      simp only [Oper.upon] at h ⊢
      refine h.mono fun e w'' hh => ?_
      cases e with
      | returned v => exact hN _ _ hh
      | panicked c => exact hh.elim
      | outgrown => obtain ⟨_, _, hx⟩ := hh; exact hx.elim
    | row r args =>
      simp only [Oper.upon] at h ⊢
      exact h.mono fun v w'' hh => hN _ _ hh
    | _ => exact h.elim

theorem vcL_tail {x : Kd × Oper} {L L' : List (Kd × Oper)} (hL : ∀ a w, vcL P ops Q L a w → vcL P ops Q L' a w) {a : Act} {w : World} (h : vcL P ops Q (x :: L) a w) : vcL P ops Q (x :: L') a w := by
  obtain ⟨k, o⟩ := x
  cases hw : Region.wanted o (yielded ops a.tmps) with
  | false => rw [vcL_no hw] at h ⊢; exact hL _ _ h
  | true =>
    by_cases hl : k.light = true
    · rw [vcL_light hl hw] at h ⊢
      obtain ⟨v, hv, hr⟩ := h
      exact ⟨v, hv, hL _ _ hr⟩
    · cases k with
      | keep => rw [vcL_keep hw] at h ⊢; exact wp_mono_F (fun a w hh => ⟨hh.1, hL _ _ hh.2⟩) h
      | write => rw [vcL_write hw] at h ⊢; exact wp_mono_F (fun a w hh => hL _ _ hh) h
      | _ => exact absurd rfl hl

def freeB (ops : Array Oper) (o o' : Oper) : Bool :=
  (match o.dst with | some t => !(readsOf ops o').contains t && !(match o'.dst with | some u => t == u | none => false) | none => true) &&
  (match o'.dst with | some t => !(readsOf ops o).contains t | none => true)
theorem free_of {o o' : Oper} (h : freeB ops o o' = true) : Free ops o o' := by
  unfold freeB at h
  rw [Bool.and_eq_true] at h
  obtain ⟨h1, h2⟩ := h
  refine ⟨fun t ht => ?_, fun t ht => ?_, fun t ht hd => ?_⟩
  · rw [ht] at h1; simp only [Bool.and_eq_true, Bool.not_eq_true'] at h1
    intro hc; have := List.contains_iff_mem.2 hc; rw [this] at h1; simp at h1
  · rw [ht] at h2; simp only [Bool.not_eq_true'] at h2
    intro hc; have := List.contains_iff_mem.2 hc; rw [this] at h2; simp at h2
  · rw [ht, hd] at h1; simp at h1

def compatB (k k' : Kd) : Bool := match k, k' with
  | _, .pure => true | _, .read => true | _, .same => true
  | .pure, _ => true | .read, .keep => true | _, _ => false
theorem compat_of {k k' : Kd} (h : compatB k k' = true) : compat k k' := by
  cases k <;> cases k' <;> simp_all [compatB, compat, Kd.light]

def item (ops : Array Oper) (ks : List Kd) (i : Nat) : Kd × Oper := (ks.getD i .write, ops.toList.getD i default)

def lightFree (ops : Array Oper) (ks : List Kd) (x i : Nat) : Bool :=
  (item ops ks x).1.light && (compatB (item ops ks x).1 (item ops ks i).1 && (freeB ops (item ops ks x).2 (item ops ks i).2 && (plainOp (item ops ks x).2.op && plainOp (item ops ks i).2.op)))

theorem bubble {ks : List Kd} {i : Nat} {post : List Nat} : ∀ (pre : List Nat), (∀ x ∈ pre, lightFree ops ks x i = true) → ∀ a w,
    vcL P ops Q ((pre ++ i :: post).map (item ops ks)) a w → vcL P ops Q ((i :: (pre ++ post)).map (item ops ks)) a w
  | [], _, a, w, h => h
  | x :: pre, hp, a, w, h => by
    have h1 : vcL P ops Q ((x :: i :: (pre ++ post)).map (item ops ks)) a w := by
      refine vcL_tail (fun a w hh => bubble pre (fun y hy => hp y (List.mem_cons_of_mem _ hy)) a w hh) h
    have hx := hp x List.mem_cons_self
    simp only [lightFree, Bool.and_eq_true] at hx
    obtain ⟨e1, e2, e3, e4, e5⟩ := hx
    exact swap e1 (compat_of e2) e4 e5 (free_of e3) h1

def mkAnc : List Oper → List (List Nat) → List (List Nat)
  | [], acc => acc
  | o :: l, acc => mkAnc l (acc ++ [depsOf o ++ (depsOf o).flatMap fun d => acc.getD d []])
def ancOk (ops : Array Oper) (anc : List (List Nat)) : Bool :=
  (List.range ops.size).all fun i => (anc.getD i []).all fun x => (depsOf (ops.toList.getD i default)).any fun d => d == x || (anc.getD d []).contains x
def onlyBack (ops : Array Oper) : Bool := (List.range ops.size).all fun i => (depsOf (ops.toList.getD i default)).all fun d => Nat.blt d i

theorem anc_sound {anc : List (List Nat)} (hb : onlyBack ops = true) (ha : ancOk ops anc = true) {l : List Nat} (hv : Valid ops l) :
    ∀ n i, i ≤ n → i < ops.size → ∀ p s, l = p ++ i :: s → ∀ x ∈ anc.getD i [], x ∈ p := by
  have get : ∀ i (h : i < ops.size), ops[i]? = some (ops.toList.getD i default) := fun i h => by simp [h]
  intro n
  induction n with
  | zero =>
    intro i hin hi p s hl x hx
    unfold ancOk at ha
    have h1 := List.all_eq_true.1 (List.all_eq_true.1 ha i (List.mem_range.2 hi)) x hx
    obtain ⟨d, hd, _⟩ := List.any_eq_true.1 h1
    unfold onlyBack at hb
    have h2 := List.all_eq_true.1 (List.all_eq_true.1 hb i (List.mem_range.2 hi)) d hd
    simp [Nat.blt_eq] at h2; omega
  | succ n ih =>
    intro i hin hi p s hl x hx
    unfold ancOk at ha
    have h1 := List.all_eq_true.1 (List.all_eq_true.1 ha i (List.mem_range.2 hi)) x hx
    obtain ⟨d, hd, hdx⟩ := List.any_eq_true.1 h1
    have hdp := hv.2.2 p i s hl _ (get i hi) d hd
    have hdi : d < i := by
      unfold onlyBack at hb
      have h2 := List.all_eq_true.1 (List.all_eq_true.1 hb i (List.mem_range.2 hi)) d hd
      simpa [Nat.blt_eq] using h2
    rw [Bool.or_eq_true] at hdx
    rcases hdx with hdx | hdx
    · have : d = x := by simpa using hdx
      exact this ▸ hdp
    · obtain ⟨p1, p2, rfl⟩ := List.append_of_mem hdp
      have := ih d (by omega) (by omega) p1 (p2 ++ i :: s) (by rw [hl]; simp) x (List.contains_iff_mem.1 hdx)
      exact List.mem_append.2 (.inl this)

def pairsOk (f : Nat → Nat → Bool) : List Nat → Bool
  | [] => true
  | x :: l => l.all (f x) && pairsOk f l
theorem pairsOk_split {f : Nat → Nat → Bool} {i : Nat} {post : List Nat} : ∀ (pre : List Nat), pairsOk f (pre ++ i :: post) = true → (∀ x ∈ pre, f x i = true) ∧ pairsOk f (pre ++ post) = true ∧ (∀ y ∈ post, f i y = true)
  | [], h => by simp only [List.nil_append, pairsOk, Bool.and_eq_true] at h; exact ⟨fun _ hx => (by cases hx), h.2, fun y hy => List.all_eq_true.1 h.1 y hy⟩
  | x :: pre, h => by
    simp only [List.cons_append, pairsOk, Bool.and_eq_true] at h
    obtain ⟨h1, h2, h3⟩ := pairsOk_split pre h.2
    refine ⟨fun y hy => ?_, ?_, h3⟩
    · rcases List.mem_cons.1 hy with rfl | hy
      · exact List.all_eq_true.1 h.1 i (by simp)
      · exact h1 y hy
    · simp only [List.cons_append, pairsOk, Bool.and_eq_true]
      refine ⟨List.all_eq_true.2 fun y hy => List.all_eq_true.1 h.1 y ?_, h2⟩
      rcases List.mem_append.1 hy with hy | hy
      · simp [hy]
      · simp [hy]

def okR (ops : Array Oper) (ks : List Kd) (ord : List Nat) : Bool :=
  let anc := mkAnc ops.toList []
  onlyBack ops && (ancOk ops anc && ((List.range ops.size).all (fun i => ord.contains i) && (ord.all (fun i => Nat.blt i ops.size) &&
    pairsOk (fun x i => !(x == i) && ((anc.getD i []).contains x || lightFree ops ks x i)) ord)))

theorem main_step {ks : List Kd} {anc : List (List Nat)} (hb : onlyBack ops = true) (ha : ancOk ops anc = true) {l : List Nat} (hv : Valid ops l) :
    ∀ (s p rem : List Nat), l = p ++ s → (∀ x, x ∈ rem ↔ x ∈ s) →
      pairsOk (fun x i => !(x == i) && ((anc.getD i []).contains x || lightFree ops ks x i)) rem = true →
      ∀ a w, vcL P ops Q (rem.map (item ops ks)) a w → wpOps P ops Q s a w
  | [], p, rem, hl, hm, hp, a, w, h => by
    have : rem = [] := List.eq_nil_iff_forall_not_mem.2 fun x hx => by simpa using (hm x).1 hx
    subst this; exact h
  | i :: s, p, rem, hl, hm, hp, a, w, h => by
    have hi : i < ops.size := (hv.2.1 i).1 (by rw [hl]; simp)
    have hnd := hv.1
    rw [hl] at hnd
    have hnp : ∀ x ∈ i :: s, x ∉ p := fun x hx hxp => (List.nodup_append.1 hnd).2.2 x hxp x hx rfl
    have hns : i ∉ s := (List.nodup_cons.1 (List.nodup_append.1 hnd).2.1).1
    obtain ⟨pre, post, rfl⟩ := List.append_of_mem ((hm i).2 List.mem_cons_self)
    obtain ⟨h1, h2, h3⟩ := pairsOk_split pre hp
    have hpre : ∀ x ∈ pre, lightFree ops ks x i = true := fun x hx => by
      have hf := h1 x hx
      simp only [Bool.and_eq_true, Bool.or_eq_true] at hf
      rcases hf.2 with hc | hc
      · have hxp := anc_sound hb ha hv i i (Nat.le_refl _) hi p s hl x (List.contains_iff_mem.1 hc)
        exact absurd hxp (hnp x ((hm x).1 (by simp [hx])))
      · exact hc
    have hbub := bubble pre hpre a w h
    have hm' : ∀ x, x ∈ pre ++ post ↔ x ∈ s := fun x => by
      have hx := hm x
      constructor
      · intro hxx
        have hx2 : x ∈ pre ++ i :: post := by
          rcases List.mem_append.1 hxx with e | e <;> simp [e]
        rcases List.mem_cons.1 (hx.1 hx2) with rfl | e
        · exfalso
          rcases List.mem_append.1 hxx with e | e
          · have := h1 x e; simp at this
          · have := h3 x e; simp at this
        · exact e
      · intro hxs
        have := hx.2 (List.mem_cons_of_mem _ hxs)
        rcases List.mem_append.1 this with e | e
        · simp [e]
        · rcases List.mem_cons.1 e with rfl | e
          · exact absurd hxs hns
          · simp [e]
    have IH := main_step hb ha hv s (p ++ [i]) (pre ++ post) (by rw [hl]; simp) hm' h2
    have hget : ops[i]? = some (item ops ks i).2 := by simp [item, hi]
    simp only [List.map_cons] at hbub
    simp only [wpOps, hget]
    cases hw : Region.wanted (item ops ks i).2 (yielded ops a.tmps) with
    | false =>
      simp only [Bool.false_eq_true, if_false]
      rw [show item ops ks i = ((item ops ks i).1, (item ops ks i).2) from rfl, vcL_no hw] at hbub
      exact IH _ _ hbub
    | true =>
      simp only [if_true]
      left
      rw [show item ops ks i = ((item ops ks i).1, (item ops ks i).2) from rfl] at hbub
      by_cases hlt : (item ops ks i).1.light = true
      · rw [vcL_light hlt hw] at hbub
        obtain ⟨v, hv', hr⟩ := hbub
        have hst : stays (item ops ks i).1 w w := by
          cases (item ops ks i).1 <;> first | trivial | exact Ext.refl w | rfl
        unfold Oper.wp
        rcases hv' w hst with hg | ⟨f, args, hg, hcall⟩
        · rw [hg]; exact IH _ _ hr
        · rw [hg]
          refine hcall.mono ?_
          rintro e w' ⟨rfl, rfl⟩
          exact IH _ _ hr
      · generalize hk : (item ops ks i).1 = k at hbub hlt
        cases k with
        | keep => rw [vcL_keep hw] at hbub; exact wp_mono_F (fun a w hh => IH _ _ hh.2) hbub
        | write => rw [vcL_write hw] at hbub; exact wp_mono_F (fun a w hh => IH _ _ hh) hbub
        | _ => exact absurd rfl hlt

/-- A REGION THAT DRAWS, walked in the one order 'ord'. -/
theorem wp_region_ord {id : Nat} {a : Act} {w : World} (ks : List Kd) (ord : List Nat) (hmix : P.follows .mixedOrders = true) (hok : okR ops ks ord = true)
    (h : vcL P ops Q (ord.map (item ops ks)) a w.drew) : (Code.region id ops true).wp P Q a w := by
  simp only [okR, Bool.and_eq_true] at hok
  obtain ⟨hb, ha, hall, hlt, hp⟩ := hok
  refine wp_region_draw fun t => ?_
  have hv : Valid ops (Region.schedule (P.follows .mixedOrders) ops t) := schedule_valid _ hmix _ _ fun i o ho d hd => by
    have hi : i < ops.size := (Array.getElem?_eq_some_iff.1 ho).1
    have h1 := List.all_eq_true.1 (List.all_eq_true.1 hb i (List.mem_range.2 hi)) d (by
      have : ops.toList.getD i default = o := by
        simp [Array.getElem?_eq_getElem hi] at ho ⊢
        simp [ho]
      rw [this]; exact hd)
    simpa [Nat.blt_eq] using h1
  generalize Region.schedule (P.follows .mixedOrders) ops t = l at hv ⊢
  refine main_step hb ha hv l [] ord rfl (fun x => ?_) hp a _ h
  rw [hv.2.1 x]
  constructor
  · intro hx; simpa [Nat.blt_eq] using List.all_eq_true.1 hlt x hx
  · intro hx; exact List.contains_iff_mem.1 (List.all_eq_true.1 hall x (List.mem_range.2 hx))
end WB
