import Derived.Test.YtjhogocabcdjbaaDoorWbY
set_option linter.unusedSimpArgs false
set_option linter.unusedVariables false
/-! the order of byte strings; names as a sorted list: plain laws -/
namespace WB
open Go Go.RowKit
theorem cmpB_self : ∀ a : List UInt8, Lib.compareBytes a a = 0
  | [] => rfl
  | x :: a => by
    have : ¬ x < x := by rw [UInt8.lt_iff_toNat_lt]; omega
    simp only [Lib.compareBytes, this, if_false]; exact cmpB_self a
theorem cmpB_eq : ∀ {a b : List UInt8}, Lib.compareBytes a b = 0 → a = b
  | [], [], _ => rfl
  | [], _ :: _, h => by simp [Lib.compareBytes] at h
  | _ :: _, [], h => by simp [Lib.compareBytes] at h
  | x :: a, y :: b, h => by
    unfold Lib.compareBytes at h
    split at h
    · simp at h
    · split at h
      · simp at h
      · rename_i h1 h2
        have : x = y := UInt8.toNat_inj.1 (by rw [UInt8.lt_iff_toNat_lt] at h1 h2; omega)
        rw [this, cmpB_eq h]
theorem cmpB_anti : ∀ (a b : List UInt8), Lib.compareBytes a b = - Lib.compareBytes b a
  | [], [] => rfl
  | [], _ :: _ => rfl
  | _ :: _, [] => rfl
  | x :: a, y :: b => by
    unfold Lib.compareBytes
    by_cases h1 : x < y
    · have h2 : ¬ y < x := by rw [UInt8.lt_iff_toNat_lt] at *; omega
      simp [h1, h2]
    · by_cases h2 : y < x
      · simp [h1, h2]
      · simp only [h1, h2, if_false]; exact cmpB_anti a b
theorem cmpB_trans : ∀ {a b c : List UInt8}, Lib.compareBytes a b < 0 → Lib.compareBytes b c < 0 → Lib.compareBytes a c < 0
  | [], _, [], h1, h2 => by cases ‹List UInt8› <;> simp [Lib.compareBytes] at h1 h2
  | [], _, _ :: _, _, _ => by simp [Lib.compareBytes]
  | _ :: _, [], _, h1, _ => by simp [Lib.compareBytes] at h1
  | _ :: _, _ :: _, [], _, h2 => by simp [Lib.compareBytes] at h2
  | x :: a, y :: b, z :: c, h1, h2 => by
    unfold Lib.compareBytes at h1 h2 ⊢
    simp only [UInt8.lt_iff_toNat_lt] at h1 h2 ⊢
    by_cases e1 : x.toNat < y.toNat
    · by_cases e2 : y.toNat < z.toNat
      · have : x.toNat < z.toNat := by omega
        simp [this]
      · by_cases e3 : z.toNat < y.toNat
        · simp [e2, e3] at h2
        · have : x.toNat < z.toNat := by omega
          simp [this]
    · by_cases e1' : y.toNat < x.toNat
      · simp [e1, e1'] at h1
      · simp only [e1, e1', if_false] at h1
        by_cases e2 : y.toNat < z.toNat
        · have : x.toNat < z.toNat := by omega
          simp [this]
        · by_cases e3 : z.toNat < y.toNat
          · simp [e2, e3] at h2
          · simp only [e2, e3, if_false] at h2
            have n1 : ¬ x.toNat < z.toNat := by omega
            have n2 : ¬ z.toNat < x.toNat := by omega
            simp only [n1, n2, if_false]
            exact cmpB_trans h1 h2
theorem cmpN_self (a : ByteArray) : cmpN a a = 0 := cmpB_self _
theorem cmpN_eq {a b : ByteArray} (h : cmpN a b = 0) : a = b := by
  have := cmpB_eq h
  cases a; cases b; rename_i x y; cases x; cases y; simp at this; rw [this]
theorem cmpN_anti (a b : ByteArray) : cmpN a b = - cmpN b a := cmpB_anti _ _
theorem cmpN_trans {a b c : ByteArray} (h1 : cmpN a b < 0) (h2 : cmpN b c < 0) : cmpN a c < 0 := cmpB_trans h1 h2
theorem cmpN_zero {a b : ByteArray} : cmpN a b = 0 ↔ a = b := ⟨cmpN_eq, fun h => h ▸ cmpN_self a⟩

def Sorted (l : List Nm) : Prop := l.Pairwise fun a b => cmpN a.name b.name < 0
theorem Sorted.mono {l : List Nm} (h : Sorted l) (s : ByteArray) : Mono l s := fun p q hpq hq hs => by
  rcases Nat.lt_or_eq_of_le hpq with hlt | rfl
  · have := List.pairwise_iff_getElem.1 h p q (by omega) hq hlt
    rw [show nmAt l p = l[p]'(by omega) by simp [nmAt, List.getD_eq_getElem?_getD, show p < l.length by omega]]
    rw [show nmAt l q = l[q] by simp [nmAt, List.getD_eq_getElem?_getD, hq]] at hs
    exact cmpN_trans this hs
  · exact hs
theorem sorted_nil : Sorted [] := List.Pairwise.nil
/-- the entry with the name s -/
def lk (l : List Nm) (s : ByteArray) : Option Nm := l.find? fun x => decide (x.name = s)
/-- x put where it belongs -/
def insN (x : Nm) : List Nm → List Nm
  | [] => [x]
  | y :: l => if cmpN y.name x.name < 0 then y :: insN x l else if cmpN y.name x.name = 0 then x :: l else x :: y :: l
theorem lk_cons (x : Nm) (l : List Nm) (s : ByteArray) : lk (x :: l) s = if x.name = s then some x else lk l s := by
  unfold lk; rw [List.find?_cons]; by_cases h : x.name = s <;> simp [h]
theorem lk_above {l : List Nm} {s : ByteArray} (h : ∀ y ∈ l, cmpN s y.name < 0) : lk l s = none := by
  unfold lk; rw [List.find?_eq_none]
  intro y hy he
  have := h y hy
  simp at he; rw [he, cmpN_self] at this; omega
theorem look_sorted : ∀ {l : List Nm} (_ : Sorted l) (s : ByteArray), look l s = lk l s
  | [], _, s => rfl
  | x :: l, h, s => by
    obtain ⟨h1, h2⟩ := List.pairwise_cons.1 h
    rw [lk_cons]
    by_cases hx : cmpN x.name s < 0
    · have hs : srchN (x :: l) s = srchN l s + 1 := by simp [srchN, List.takeWhile_cons, hx]
      have hne : x.name ≠ s := fun e => by rw [e, cmpN_self] at hx; omega
      rw [if_neg hne, ← look_sorted h2 s]
      unfold look
      rw [hs]
      have : hitB (x :: l) s (srchN l s + 1) = hitB l s (srchN l s) := by simp [hitB, nmAt]
      rw [this]; rfl
    · have hs : srchN (x :: l) s = 0 := by simp [srchN, List.takeWhile_cons, hx]
      unfold look
      rw [hs]
      by_cases he : x.name = s
      · simp [hitB, nmAt, he, cmpN_self]
      · have h0 : cmpN x.name s ≠ 0 := fun e => he (cmpN_eq e)
        have : hitB (x :: l) s 0 = false := by simp [hitB, nmAt, h0]
        rw [this, if_neg he]
        have hlt : cmpN s x.name < 0 := by rw [cmpN_anti]; omega
        rw [lk_above fun y hy => cmpN_trans hlt (h1 y hy)]; rfl
theorem insN_mem {x y : Nm} : ∀ {l : List Nm}, y ∈ insN x l → y = x ∨ y ∈ l
  | [], h => by simp [insN] at h; exact Or.inl h
  | z :: l, h => by
    unfold insN at h
    split at h
    · rcases List.mem_cons.1 h with h | h
      · exact Or.inr (by simp [h])
      · rcases insN_mem h with h | h
        · exact Or.inl h
        · exact Or.inr (by simp [h])
    · split at h
      · rcases List.mem_cons.1 h with h | h
        · exact Or.inl h
        · exact Or.inr (by simp [h])
      · rcases List.mem_cons.1 h with h | h
        · exact Or.inl h
        · exact Or.inr h
theorem insN_sorted {x : Nm} : ∀ {l : List Nm}, Sorted l → Sorted (insN x l)
  | [], _ => List.pairwise_singleton _ _
  | z :: l, h => by
    obtain ⟨h1, h2⟩ := List.pairwise_cons.1 h
    unfold insN
    split
    · rename_i hz
      refine List.pairwise_cons.2 ⟨fun y hy => ?_, insN_sorted h2⟩
      rcases insN_mem hy with rfl | hy
      · exact hz
      · exact h1 y hy
    · split
      · rename_i he
        have he := cmpN_eq he
        exact List.pairwise_cons.2 ⟨fun y hy => he ▸ h1 y hy, h2⟩
      · rename_i h3 h4
        have hlt : cmpN x.name z.name < 0 := by rw [cmpN_anti]; omega
        refine List.pairwise_cons.2 ⟨fun y hy => ?_, h⟩
        rcases List.mem_cons.1 hy with rfl | hy
        · exact hlt
        · exact cmpN_trans hlt (h1 y hy)
theorem lk_insN {x : Nm} (s : ByteArray) : ∀ {l : List Nm}, lk (insN x l) s = if x.name = s then some x else lk l s
  | [] => by rw [insN, lk_cons]
  | z :: l => by
    unfold insN
    split
    · rename_i hz
      rw [lk_cons, lk_insN s, lk_cons]
      by_cases h1 : z.name = s
      · have : x.name ≠ s := fun e => by rw [h1, e, cmpN_self] at hz; omega
        simp [h1, this]
      · simp [h1]
    · split
      · rename_i he
        have he := cmpN_eq he
        rw [lk_cons, lk_cons]
        by_cases h1 : x.name = s
        · simp [h1]
        · simp [h1, he]
      · rw [lk_cons]
theorem insN_len {x : Nm} : ∀ {l : List Nm}, (insN x l).length ≤ l.length + 1
  | [] => by simp [insN]
  | z :: l => by
    unfold insN
    split
    · have := insN_len (x := x) (l := l); simp; omega
    · split <;> simp
theorem put_insN (x : Nm) : ∀ (l : List Nm), (if hitB l x.name (srchN l x.name) = true then l.set (srchN l x.name) x else l.take (srchN l x.name) ++ x :: l.drop (srchN l x.name)) = insN x l
  | [] => by simp [hitB, srchN, insN]
  | z :: l => by
    unfold insN
    by_cases hz : cmpN z.name x.name < 0
    · have hs : srchN (z :: l) x.name = srchN l x.name + 1 := by simp [srchN, List.takeWhile_cons, hz]
      have hh : hitB (z :: l) x.name (srchN l x.name + 1) = hitB l x.name (srchN l x.name) := by simp [hitB, nmAt]
      rw [if_pos hz, hs, hh, ← put_insN x l]
      split <;> simp
    · have hs : srchN (z :: l) x.name = 0 := by simp [srchN, List.takeWhile_cons, hz]
      rw [if_neg hz, hs]
      by_cases he : cmpN z.name x.name = 0
      · simp [hitB, nmAt, he]
      · simp [hitB, nmAt, he]
theorem setNm_right {l : List Nm} {x : Nm} (hr : rightNm x = true) (hl : l.length < 20) : setNm l x = insN x l ∧ setErr l x = 0 := by
  refine ⟨?_, ?_⟩
  · rw [← put_insN x l]; unfold setNm; simp [hr]; split
    · rfl
    · rw [if_neg (by omega)]
  · unfold setErr; simp [hr]; omega
theorem lk_some {l : List Nm} {s : ByteArray} {x : Nm} (h : lk l s = some x) : x ∈ l ∧ x.name = s := ⟨List.mem_of_find?_eq_some h, by simpa using List.find?_some h⟩
/-- two sorted lists that answer alike are the same -/
theorem sorted_ext : ∀ {l l' : List Nm}, Sorted l → Sorted l' → (∀ s, lk l s = lk l' s) → l = l'
  | [], [], _, _, _ => rfl
  | [], y :: l', _, _, h => by have := h y.name; rw [lk_cons] at this; simp [lk] at this
  | x :: l, [], _, _, h => by have := h x.name; rw [lk_cons] at this; simp [lk] at this
  | x :: l, y :: l', h1, h2, h => by
    obtain ⟨a1, a2⟩ := List.pairwise_cons.1 h1
    obtain ⟨b1, b2⟩ := List.pairwise_cons.1 h2
    have e1 := h x.name
    have e2 := h y.name
    rw [lk_cons, lk_cons, if_pos rfl] at e1
    rw [lk_cons, lk_cons, if_pos rfl] at e2
    have hn : y.name = x.name := by
      rcases Decidable.em (y.name = x.name) with e | e
      · exact e
      · rw [if_neg e] at e1
        rw [if_neg (fun h => e h.symm)] at e2
        have c1 := b1 _ (lk_some e1.symm).1
        have c2 := a1 _ (lk_some e2).1
        rw [cmpN_anti] at c1; omega
    rw [if_pos hn] at e1
    simp at e1
    subst e1
    rw [sorted_ext a2 b2 fun s => ?_]
    have e3 := h s
    rw [lk_cons, lk_cons] at e3
    by_cases hs : x.name = s
    · subst hs
      rw [lk_above a1, lk_above b1]
    · simpa [hs] using e3
end WB
