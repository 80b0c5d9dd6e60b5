/- A REGION THAT DRAWS ITS ORDER, WALKED IN ONE ORDER: operations that only reckon or read may be told as early as they can; those that write, or call, stand in one forced order. -/
import Derived.Test.YtjhogocabcdjbaaDoorWbA
set_option linter.unusedSimpArgs false
set_option linter.unusedVariables false
namespace WB
open Go Go.RowKit

def Edge.always (e : Edge) : Bool := match e.ground with | .textOnly _ => false | .gcOnly _ => false | _ => true
def depsOf (o : Oper) : List Nat := (o.after.toList.filter Edge.always).map (·.on)

/-- every index once, each behind all that it hangs on -/
theorem len_le_of_subset : ∀ (l l' : List Nat), l.Nodup → (∀ x ∈ l, x ∈ l') → l.length ≤ l'.length
  | [], _, _, _ => Nat.zero_le _
  | a :: l, l', hn, h => by
    have ha : a ∈ l' := h a (List.mem_cons_self)
    have := len_le_of_subset l (l'.erase a) (List.nodup_cons.1 hn).2 (fun x hx => by
      have hne : x ≠ a := fun e => (List.nodup_cons.1 hn).1 (e ▸ hx)
      exact (List.mem_erase_of_ne hne).2 (h x (List.mem_cons_of_mem _ hx)))
    rw [List.length_erase_of_mem ha] at this
    have hp : 0 < l'.length := List.length_pos_of_mem ha
    simp only [List.length_cons]; omega

def Valid (ops : Array Oper) (l : List Nat) : Prop :=
  l.Nodup ∧ (∀ i, i ∈ l ↔ i < ops.size) ∧ ∀ p i s, l = p ++ i :: s → ∀ o, ops[i]? = some o → ∀ d ∈ depsOf o, d ∈ p

theorem binds_any (e : Edge) : Region.binds .any e = Edge.always e := by
  unfold Region.binds Edge.always; cases e.ground <;> rfl
theorem linearise_go_valid (m : Region.Mode) (hm : m = .any) (ops : Array Oper) (hlt : ∀ (i : Nat) (o : Oper), ops[i]? = some o → ∀ d ∈ depsOf o, d < i) :
    ∀ (fuel t : Nat) (listed : Array Bool) (acc : List Nat), listed.size = ops.size →
      (∀ i, i < ops.size → (listed.getD i false = true ↔ i ∈ acc)) → (∀ i ∈ acc, i < ops.size) → acc.Nodup → fuel + acc.length = ops.size →
      (∀ p i s, acc.reverse = p ++ i :: s → ∀ o, ops[i]? = some o → ∀ d ∈ depsOf o, d ∈ p) →
      Valid ops (Region.linearise.go m ops fuel t listed acc)
  | 0, t, listed, acc, hs, hl, hr, hn, hf, hv => by
    unfold Region.linearise.go
    refine ⟨(List.reverse_perm acc).nodup_iff.2 hn, fun i => ?_, hv⟩
    rw [List.mem_reverse]
    refine ⟨hr i, fun hi => Classical.byContradiction fun hna => ?_⟩
    have := len_le_of_subset (i :: acc) (List.range ops.size) (List.nodup_cons.2 ⟨hna, hn⟩) (fun x hx => by
      rcases List.mem_cons.1 hx with rfl | hx
      · exact List.mem_range.2 hi
      · exact List.mem_range.2 (hr x hx))
    simp at this; omega
  | fuel + 1, t, listed, acc, hs, hl, hr, hn, hf, hv => by
    unfold Region.linearise.go
    have hex : ∃ i, i < ops.size ∧ i ∉ acc ∧ ∀ j, j < i → j ∈ acc := by
      have hne : ∃ i, i < ops.size ∧ i ∉ acc := by
        refine Classical.byContradiction fun hc => ?_
        have hall : ∀ i, i < ops.size → i ∈ acc := fun i hi => Classical.byContradiction fun h => hc ⟨i, hi, h⟩
        have := len_le_of_subset (List.range ops.size) acc List.nodup_range (fun x hx => hall x (List.mem_range.1 hx))
        simp at this; omega
      obtain ⟨i, hi⟩ := hne
      have : ∀ n, ∀ i, i ≤ n → (i < ops.size ∧ i ∉ acc) → ∃ i, i < ops.size ∧ i ∉ acc ∧ ∀ j, j < i → j ∈ acc := by
        intro n
        induction n with
        | zero => intro i hin hi; exact ⟨i, hi.1, hi.2, fun j hj => by omega⟩
        | succ n ih =>
          intro i hin hi
          by_cases hc : ∃ j, j < i ∧ j ∉ acc
          · obtain ⟨j, hj, hja⟩ := hc
            exact ih j (by omega) ⟨by omega, hja⟩
          · exact ⟨i, hi.1, hi.2, fun j hj => Classical.byContradiction fun h => hc ⟨j, hj, h⟩⟩
      exact this i i (Nat.le_refl _) hi
    have hget : ∀ i, i < ops.size → ∀ b, listed.getD i b = listed.getD i false := by
      intro i hi b
      simp [Array.getD, hs, hi]
    generalize hrs : ((List.range ops.size).filter fun i => !listed.getD i true && ((ops[i]?).map (·.after.all fun e => !Region.binds m e || listed.getD e.on false)).getD false) = rs
    have hmem : ∀ i, i ∈ rs ↔ i < ops.size ∧ i ∉ acc ∧ ∃ o, ops[i]? = some o ∧ (o.after.all fun e => !Region.binds m e || listed.getD e.on false) = true := by
      intro i
      rw [← hrs, List.mem_filter, List.mem_range]
      constructor
      · rintro ⟨hi, h⟩
        simp only [Bool.and_eq_true, Bool.not_eq_true'] at h
        rw [hget i hi] at h
        refine ⟨hi, fun hc => ?_, ops[i], by simp [hi], ?_⟩
        · have := (hl i hi).2 hc; simp [this] at h
        · have h2 := h.2; simp only [Array.getElem?_eq_getElem hi, Option.map_some, Option.getD_some] at h2; exact h2
      · rintro ⟨hi, hna, o, ho, h⟩
        refine ⟨hi, ?_⟩
        rw [hget i hi]
        have : listed.getD i false = false := by
          cases hb : listed.getD i false with
          | false => rfl
          | true => exact absurd ((hl i hi).1 hb) hna
        simp only [this, ho, Option.map_some, Option.getD_some, h, Bool.not_false, Bool.and_self]
    have hpos : rs ≠ [] := by
      obtain ⟨i, hi, hna, hall⟩ := hex
      have : i ∈ rs := (hmem i).2 ⟨hi, hna, ops[i], by simp [hi], by
        rw [Array.all_eq_true']
        intro e he
        cases hb : Region.binds m e with
        | false => simp
        | true =>
          rw [hm, binds_any] at hb
          have hlt' := hlt i ops[i] (by simp [hi]) e.on (List.mem_map.2 ⟨e, List.mem_filter.2 ⟨Array.mem_toList_iff.2 he, hb⟩, rfl⟩)
          have : listed.getD e.on false = true := (hl e.on (by omega)).2 (hall _ hlt')
          simp [this]⟩
      intro h; rw [h] at this; simp at this
    have hlen : 0 < rs.length := List.length_pos_iff.2 hpos
    have hmod : t % rs.length < rs.length := Nat.mod_lt _ hlen
    have hsome : rs[t % rs.length]? = some (rs[t % rs.length]'hmod) := List.getElem?_eq_getElem hmod
    simp only [hsome]
    have hin := (hmem (rs[t % rs.length]'hmod)).1 (List.getElem_mem _)
    generalize (rs[t % rs.length]'hmod) = i at hin ⊢
    obtain ⟨hi, hna, o, ho, hall⟩ := hin
    refine linearise_go_valid m hm ops hlt fuel _ _ _ (by simp [hs]) ?_ ?_ (List.nodup_cons.2 ⟨hna, hn⟩) (by simp; omega) ?_
    · intro k hk
      by_cases e : k = i
      · subst e; simp [Array.getD, hs, hi]
      · have h2 : (listed.setIfInBounds i true).getD k false = listed.getD k false := by
          simp [Array.getD, hs, hk, Ne.symm e]
        rw [h2, hl k hk]
        simp [e]
    · intro k hk
      rcases List.mem_cons.1 hk with rfl | hk
      · exact hi
      · exact hr k hk
    · intro p j s hp o' ho' d hd
      rw [List.reverse_cons] at hp
      rcases List.eq_nil_or_concat s with rfl | ⟨s', x, rfl⟩
      · have h2 := List.append_inj' hp rfl
        have hij : i = j := by simpa using h2.2
        subst hij
        rw [← h2.1, List.mem_reverse]
        rw [ho] at ho'; cases ho'
        obtain ⟨e, he, rfl⟩ := List.mem_map.1 hd
        obtain ⟨he1, he2⟩ := List.mem_filter.1 he
        rw [Array.all_eq_true'] at hall
        have h3 := hall e (Array.mem_toList_iff.1 he1)
        have hb : Region.binds m e = true := by
          unfold Edge.always at he2; unfold Region.binds; cases hg : e.ground <;> simp_all
        simp [hb] at h3
        exact (hl _ (by have := hlt i o ho e.on (List.mem_map.2 ⟨e, List.mem_filter.2 ⟨he1, he2⟩, rfl⟩); omega)).1 (by rw [Array.getD_eq_getD_getElem?]; exact h3)
      · have : acc.reverse ++ [i] = (p ++ j :: s') ++ [x] := by simpa [List.concat_eq_append] using hp
        have h2 := List.append_inj' this rfl
        exact hv p j s' h2.1 o' ho' d hd

theorem schedule_valid (mixed : Bool) (hmix : mixed = true) (ops : Array Oper) (t : Nat) (hlt : ∀ (i : Nat) (o : Oper), ops[i]? = some o → ∀ d ∈ depsOf o, d < i) :
    Valid ops (Region.schedule mixed ops t) := by
  have : Valid ops (Region.linearise .any ops t) := by
    unfold Region.linearise
    refine linearise_go_valid _ rfl ops hlt _ _ _ _ (by simp) ?_ (by simp) List.nodup_nil (by simp) ?_
    · intro i hi; simp [Array.getD, hi]
    · intro p i s h; simp at h
  unfold Region.schedule
  rw [hmix, Bool.true_or, if_pos rfl]
  exact this
end WB
