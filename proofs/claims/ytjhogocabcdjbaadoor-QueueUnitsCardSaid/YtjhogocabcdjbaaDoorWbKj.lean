/- a region that draws its order, where some pairs of operations may come either way: each way is walked -/
import Derived.Test.YtjhogocabcdjbaaDoorWbKi
set_option linter.unusedSimpArgs false
set_option linter.unusedVariables false
namespace WB
open Go Go.RowKit
variable {P : Program} {ops : Array Oper} {Q : Exit → Act → World → Prop}
def via (anc : List (List Nat)) (x i : Nat) (q : Nat × Nat) : Bool := (q.1 == x || (anc.getD q.1 []).contains x) && (q.2 == i || (anc.getD i []).contains q.2)
theorem via_sound {anc : List (List Nat)} (hb : onlyBack ops = true) (ha : ancOk ops anc = true) {l : List Nat} (hv : Valid ops l) {q : Nat × Nat} (hE : ∀ p s, l = p ++ q.2 :: s → q.1 ∈ p) {x i : Nat} (h : via anc x i q = true) : ∀ p s, l = p ++ i :: s → x ∈ p := by
  intro p s hl
  unfold via at h
  simp only [Bool.and_eq_true, Bool.or_eq_true, beq_iff_eq] at h
  have lt : ∀ y, y ∈ l → y < ops.size := fun y hy => (hv.2.1 y).1 hy
  have h1 : q.1 ∈ p := by
    rcases h.2 with e | e
    · exact hE p s (by rw [e]; exact hl)
    · have := anc_sound hb ha hv i i (Nat.le_refl _) (lt i (by rw [hl]; simp)) p s hl q.2 (List.contains_iff_mem.1 e)
      obtain ⟨p1, p2, rfl⟩ := List.append_of_mem this
      have := hE p1 (p2 ++ i :: s) (by rw [hl]; simp)
      simp [this]
  rcases h.1 with e | e
  · rw [← e]; exact h1
  · obtain ⟨p1, p2, rfl⟩ := List.append_of_mem h1
    have := anc_sound hb ha hv q.1 q.1 (Nat.le_refl _) (lt q.1 (by rw [hl]; simp)) p1 (p2 ++ i :: s) (by rw [hl]; simp) x (List.contains_iff_mem.1 e)
    simp [this]
theorem main_stepE {E : List (Nat × Nat)} {ks : List Kd} {anc : List (List Nat)} (hb : onlyBack ops = true) (ha : ancOk ops anc = true) {l : List Nat} (hv : Valid ops l) (hE : ∀ q ∈ E, ∀ p s, l = p ++ q.2 :: s → q.1 ∈ p) :
    ∀ (s p rem : List Nat), l = p ++ s → (∀ x, x ∈ rem ↔ x ∈ s) →
      pairsOk (fun x i => !(x == i) && ((anc.getD i []).contains x || (lightFree ops ks x i || E.any (via anc x i)))) rem = true →
      ∀ a w, vcL P ops Q (rem.map (item ops ks)) a w → wpOps P ops Q s a w
  | [], p, rem, hl, hm, hp, a, w, h => by
    have : rem = [] := List.eq_nil_iff_forall_not_mem.2 fun x hx => by simpa using (hm x).1 hx
    subst this; exact h
  | i :: s, p, rem, hl, hm, hp, a, w, h => by
    have hi : i < ops.size := (hv.2.1 i).1 (by rw [hl]; simp)
    have hnd := hv.1
    rw [hl] at hnd
    have hnp : ∀ x ∈ i :: s, x ∉ p := fun x hx hxp => (List.nodup_append.1 hnd).2.2 x hxp x hx rfl
    have hns : i ∉ s := (List.nodup_cons.1 (List.nodup_append.1 hnd).2.1).1
    obtain ⟨pre, post, rfl⟩ := List.append_of_mem ((hm i).2 List.mem_cons_self)
    obtain ⟨h1, h2, h3⟩ := pairsOk_split pre hp
    have hpre : ∀ x ∈ pre, lightFree ops ks x i = true := fun x hx => by
      have hf := h1 x hx
      simp only [Bool.and_eq_true, Bool.or_eq_true] at hf
      rcases hf.2 with hc | hc | hc
      · have hxp := anc_sound hb ha hv i i (Nat.le_refl _) hi p s hl x (List.contains_iff_mem.1 hc)
        exact absurd hxp (hnp x ((hm x).1 (by simp [hx])))
      · exact hc
      · obtain ⟨q, hq, hqv⟩ := List.any_eq_true.1 hc
        have hxp := via_sound hb ha hv (hE q hq) hqv p s hl
        exact absurd hxp (hnp x ((hm x).1 (by simp [hx])))
    have hbub := bubble pre hpre a w h
    have hm' : ∀ x, x ∈ pre ++ post ↔ x ∈ s := fun x => by
      have hx := hm x
      constructor
      · intro hxx
        have hx2 : x ∈ pre ++ i :: post := by
          rcases List.mem_append.1 hxx with e | e <;> simp [e]
        rcases List.mem_cons.1 (hx.1 hx2) with rfl | e
        · exfalso
          rcases List.mem_append.1 hxx with e | e
          · have := h1 x e; simp at this
          · have := h3 x e; simp at this
        · exact e
      · intro hxs
        have := hx.2 (List.mem_cons_of_mem _ hxs)
        rcases List.mem_append.1 this with e | e
        · simp [e]
        · rcases List.mem_cons.1 e with rfl | e
          · exact absurd hxs hns
          · simp [e]
    have IH := main_stepE hb ha hv hE s (p ++ [i]) (pre ++ post) (by rw [hl]; simp) hm' h2
    have hget : ops[i]? = some (item ops ks i).2 := by simp [item, hi]
    simp only [List.map_cons] at hbub
    simp only [wpOps, hget]
    cases hw : Region.wanted (item ops ks i).2 (yielded ops a.tmps) with
    | false =>
      simp only [Bool.false_eq_true, if_false]
      rw [show item ops ks i = ((item ops ks i).1, (item ops ks i).2) from rfl, vcL_no hw] at hbub
      exact IH _ _ hbub
    | true =>
      simp only [if_true]
      left
      rw [show item ops ks i = ((item ops ks i).1, (item ops ks i).2) from rfl] at hbub
      by_cases hlt : (item ops ks i).1.light = true
      · rw [vcL_light hlt hw] at hbub
        obtain ⟨v, hv', hr⟩ := hbub
        have hst : stays (item ops ks i).1 w w := by
          cases (item ops ks i).1 <;> first | trivial | exact Ext.refl w | rfl
        unfold Oper.wp
        rcases hv' w hst with hg | ⟨f, args, hg, hcall⟩
        · rw [hg]; exact IH _ _ hr
        · rw [hg]
          refine hcall.mono ?_
          rintro e w' ⟨rfl, rfl⟩
          exact IH _ _ hr
      · generalize hk : (item ops ks i).1 = k at hbub hlt
        cases k with
        | keep => rw [vcL_keep hw] at hbub; exact wp_mono_F (fun a w hh => IH _ _ hh.2) hbub
        | write => rw [vcL_write hw] at hbub; exact wp_mono_F (fun a w hh => IH _ _ hh) hbub
        | _ => exact absurd rfl hlt

/-- for each of these pairs, which comes first -/
def ways : List (Nat × Nat) → List (List (Nat × Nat))
  | [] => [[]]
  | q :: r => (ways r).map (q :: ·) ++ (ways r).map ((q.2, q.1) :: ·)
theorem ways_some {l : List Nat} (hn : l.Nodup) : ∀ (X : List (Nat × Nat)), (∀ q ∈ X, q.1 ∈ l ∧ q.2 ∈ l ∧ q.1 ≠ q.2) → ∃ E ∈ ways X, ∀ q ∈ E, ∀ p s, l = p ++ q.2 :: s → q.1 ∈ p
  | [], _ => ⟨[], by simp [ways], fun _ h => by cases h⟩
  | q :: X, h => by
    obtain ⟨E, hE, hall⟩ := ways_some hn X fun q hq => h q (List.mem_cons_of_mem _ hq)
    obtain ⟨h1, h2, h3⟩ := h q List.mem_cons_self
    obtain ⟨p1, s1, hl⟩ := List.append_of_mem h2
    have uniq : ∀ {y : Nat} {p s p' s' : List Nat}, l = p ++ y :: s → l = p' ++ y :: s' → p = p' := by
      intro y p s p' s' e1 e2
      have : ∀ (p p' s s' : List Nat), (p ++ y :: s).Nodup → p ++ y :: s = p' ++ y :: s' → p = p' := by
        intro p
        induction p with
        | nil =>
          intro p' s s' hn e
          cases p' with
          | nil => rfl
          | cons x p' =>
            simp only [List.nil_append, List.cons_append, List.cons.injEq] at e
            obtain ⟨rfl, e⟩ := e
            simp only [List.nil_append, List.nodup_cons] at hn
            exact absurd (by rw [e]; simp) hn.1
        | cons x p ih =>
          intro p' s s' hn e
          cases p' with
          | nil =>
            simp only [List.nil_append, List.cons_append, List.cons.injEq] at e
            obtain ⟨rfl, e⟩ := e
            simp only [List.cons_append, List.nodup_cons] at hn
            exact absurd (by simp) hn.1
          | cons x' p' =>
            simp only [List.cons_append, List.cons.injEq] at e
            simp only [List.cons_append, List.nodup_cons] at hn
            rw [e.1, ih p' s s' hn.2 e.2]
      exact this p p' s s' (e1 ▸ hn) (e1.symm.trans e2)
    by_cases hin : q.1 ∈ p1
    · refine ⟨q :: E, by simp only [ways, List.mem_append, List.mem_map]; exact .inl ⟨E, hE, rfl⟩, fun q' hq' p s e => ?_⟩
      rcases List.mem_cons.1 hq' with rfl | hq'
      · rw [← uniq hl e]; exact hin
      · exact hall q' hq' p s e
    · refine ⟨(q.2, q.1) :: E, by simp only [ways, List.mem_append, List.mem_map]; exact .inr ⟨E, hE, rfl⟩, fun q' hq' p s e => ?_⟩
      rcases List.mem_cons.1 hq' with rfl | hq'
      · dsimp only at e ⊢
        have h4 : q.1 ∈ s1 := by
          have := h1; rw [hl] at this
          simp only [List.mem_append, List.mem_cons] at this
          rcases this with a | a | a
          · exact absurd a hin
          · exact absurd a h3
          · exact a
        obtain ⟨p2, s2, rfl⟩ := List.append_of_mem h4
        have e2 : l = (p1 ++ q.2 :: p2) ++ q.1 :: s2 := by rw [hl]; simp
        rw [← uniq e2 e]; simp
      · exact hall q' hq' p s e
def okRE (ops : Array Oper) (ks : List Kd) (E : List (Nat × Nat)) (ord : List Nat) : Bool :=
  let anc := mkAnc ops.toList []
  onlyBack ops && (ancOk ops anc && ((List.range ops.size).all (fun i => ord.contains i) && (ord.all (fun i => Nat.blt i ops.size) &&
    pairsOk (fun x i => !(x == i) && ((anc.getD i []).contains x || (lightFree ops ks x i || E.any (via anc x i)))) ord)))
def okX (ops : Array Oper) (ks : List Kd) : List (List (Nat × Nat)) → List (List Nat) → Bool
  | [], [] => true
  | E :: r, o :: s => okRE ops ks E o && okX ops ks r s
  | _, _ => false
@[reducible] def allD (f : List Nat → Prop) : List (List Nat) → Prop
  | [] => True
  | o :: r => f o ∧ allD f r
theorem okX_some {ks : List Kd} {f : List Nat → Prop} {E : List (Nat × Nat)} : ∀ {W : List (List (Nat × Nat))} {O : List (List Nat)}, okX ops ks W O = true → allD f O → E ∈ W → ∃ o, okRE ops ks E o = true ∧ f o
  | [], _, _, _, h => by cases h
  | F :: r, [], h, _, _ => by simp [okX] at h
  | F :: r, o :: s, h, hf, hE => by
    simp only [okX, Bool.and_eq_true] at h
    rcases List.mem_cons.1 hE with rfl | hE
    · exact ⟨o, h.1, hf.1⟩
    · exact okX_some h.2 hf.2 hE
theorem wp_region_ways {id : Nat} {a : Act} {w : World} (ks : List Kd) (X : List (Nat × Nat)) (O : List (List Nat)) (hmix : P.follows .mixedOrders = true) (hX : (onlyBack ops && X.all fun q => Nat.blt q.1 ops.size && (Nat.blt q.2 ops.size && !(q.1 == q.2))) = true) (hok : okX ops ks (ways X) O = true)
    (h : allD (fun ord => vcL P ops Q (ord.map (item ops ks)) a w.drew) O) : (Code.region id ops true).wp P Q a w := by
  rw [Bool.and_eq_true] at hX
  obtain ⟨hb, hX⟩ := hX
  refine wp_region_draw fun t => ?_
  have hv : Valid ops (Region.schedule (P.follows .mixedOrders) ops t) := schedule_valid _ hmix _ _ fun i o ho d hd => by
    have hi : i < ops.size := (Array.getElem?_eq_some_iff.1 ho).1
    have h1 := List.all_eq_true.1 (List.all_eq_true.1 hb i (List.mem_range.2 hi)) d (by
      have : ops.toList.getD i default = o := by
        simp [Array.getElem?_eq_getElem hi] at ho ⊢
        simp [ho]
      rw [this]; exact hd)
    simpa [Nat.blt_eq] using h1
  generalize Region.schedule (P.follows .mixedOrders) ops t = l at hv ⊢
  obtain ⟨E, hE, hEl⟩ := ways_some hv.1 X fun q hq => by
    have := List.all_eq_true.1 hX q hq
    simp only [Bool.and_eq_true, Nat.blt_eq, Bool.not_eq_true', beq_eq_false_iff_ne] at this
    exact ⟨(hv.2.1 _).2 this.1, (hv.2.1 _).2 this.2.1, this.2.2⟩
  obtain ⟨ord, hok, h⟩ := okX_some hok h hE
  simp only [okRE, Bool.and_eq_true] at hok
  obtain ⟨hb, ha, hall, hlt, hp⟩ := hok
  refine main_stepE hb ha hv hEl l [] ord rfl (fun x => ?_) hp a _ h
  rw [hv.2.1 x]
  constructor
  · intro hx; simpa [Nat.blt_eq] using List.all_eq_true.1 hlt x hx
  · intro hx; exact List.contains_iff_mem.1 (List.all_eq_true.1 hall x (List.mem_range.2 hx))
theorem allD_mono {f g : List Nat → Prop} (h : ∀ o, f o → g o) : ∀ {O : List (List Nat)}, allD f O → allD g O
  | [], _ => trivial
  | _ :: _, hf => ⟨h _ hf.1, allD_mono h hf.2⟩
theorem K.drawX {n : Nat} {D : List Deferred} {w0 : World} {G : Env} {L : List HP} {id : Nat} (ks : List Kd) (X : List (Nat × Nat)) (O : List (List Nat)) (hmix : P.follows .mixedOrders = true) (hX : (onlyBack ops && X.all fun q => Nat.blt q.1 ops.size && (Nat.blt q.2 ops.size && !(q.1 == q.2))) = true) (hok : okX ops ks (ways X) O = true)
    (h : allD (fun ord => KO P ops true Q n D w0 G L (ord.map (item ops ks))) O) : K P (.region id ops true) Q n D w0 G L := fun a _ ha hw =>
  wp_region_ways ks X O hmix hX hok (allD_mono (fun _ hh => hh a _ ha hw.drew) h)
end WB
