import Derived.Test.YtjhogocabcdjbaaDoorWbM
set_option linter.unusedSimpArgs false
set_option linter.unusedVariables false
/-! what a name stands for: plain laws -/
namespace WB
open Go Go.RowKit
theorem nodup_len {α : Type} [DecidableEq α] : ∀ {m l : List α}, m.Nodup → (∀ x ∈ m, x ∈ l) → m.length ≤ l.length
  | [], _, _, _ => Nat.zero_le _
  | x :: m, l, h, hs => by
    obtain ⟨h1, h2⟩ := List.nodup_cons.1 h
    have hx : x ∈ l := hs x (by simp)
    have := nodup_len (m := m) (l := l.erase x) h2 fun y hy => (List.mem_erase_of_ne (fun e => by subst e; exact h1 hy)).2 (hs y (by simp [hy]))
    rw [List.length_erase_of_mem hx] at this
    have := List.length_pos_of_mem hx
    simp; omega
theorem pigeon {α : Type} [DecidableEq α] (f : Nat → α) (l : List α) (h : ∀ i, i ≤ l.length → f i ∈ l) : ∃ i j, i < j ∧ j ≤ l.length ∧ f i = f j := by
  rcases Classical.em (∃ i j, i < j ∧ j ≤ l.length ∧ f i = f j) with hp | hp
  · exact hp
  · exfalso
    have hn : ((List.range (l.length + 1)).map f).Nodup := by
      rw [List.nodup_iff_pairwise_ne, List.pairwise_map, List.pairwise_iff_getElem]
      intro i j hi hj hij he
      simp at he hj
      exact hp ⟨i, j, hij, by omega, he⟩
    have := nodup_len (l := l) hn fun x hx => by
      obtain ⟨i, hi, rfl⟩ := List.mem_map.1 hx
      exact h i (by simp at hi; omega)
    simp at this; omega
/-- one step along -/
def nxt (l : List Nm) (s : ByteArray) : Option ByteArray := match look l s with
  | some x => if emptyB x.to = true then none else if 0 ≤ x.house then none else some x.to
  | none => none
theorem resN_nxt {l : List Nm} {s t : ByteArray} (h : nxt l s = some t) (n : Nat) : resN l (n + 1) s = resN l n t := by
  unfold nxt at h
  rw [resN]
  split at h
  · rename_i x hx
    rw [hx]
    split at h
    · simp at h
    · split at h
      · simp at h
      · rename_i h1 h2
        simp at h; subst h
        simp [h1, h2]
  · simp at h
theorem resN_end {l : List Nm} {s : ByteArray} (h : nxt l s = none) (n m : Nat) : resN l (n + 1) s = resN l (m + 1) s := by
  unfold nxt at h
  rw [resN, resN]
  split at h
  · rename_i x hx
    rw [hx]
    split at h
    · rename_i h1; simp [h1]
    · split at h
      · rename_i h1 h2; simp [h1, h2]
      · simp at h
  · rename_i hx; rw [hx]
/-- the i-th name on the way -/
def way (l : List Nm) (s : ByteArray) : Nat → Option ByteArray
  | 0 => some s
  | i + 1 => (way l s i).bind (nxt l)
theorem way_succ (l : List Nm) (s : ByteArray) : ∀ i, way l s (i + 1) = (nxt l s).bind (fun t => way l t i)
  | 0 => by simp [way]
  | i + 1 => by
    rw [way, way_succ l s i]
    cases h : nxt l s with
    | none => rfl
    | some t => simp [way]
theorem way_none {l : List Nm} {s : ByteArray} {i : Nat} (h : way l s i = none) : ∀ j, i ≤ j → way l s j = none := fun j hj => by
  induction hj with
  | refl => exact h
  | step _ ih => rw [way, ih]; rfl
theorem resN_way {l : List Nm} : ∀ (n : Nat) (s : ByteArray), resN l n s ≠ resN l (n + 1) s → (way l s n).isSome = true ∧ way l s (n + 1) = none
  | 0, s, h => by
    refine ⟨rfl, ?_⟩
    rw [way_succ]
    cases hn : nxt l s with
    | none => rfl
    | some t => rw [resN_nxt hn] at h; simp [resN] at h
  | n + 1, s, h => by
    cases hn : nxt l s with
    | none => exact absurd (resN_end hn n (n + 1)) h
    | some t =>
      rw [resN_nxt hn, resN_nxt hn] at h
      have := resN_way n t h
      rw [way_succ, way_succ l s (n + 1), hn]
      exact this
theorem way_add {l : List Nm} {s t : ByteArray} : ∀ {i j k : Nat}, way l s i = some t → way l s j = some t → way l s (i + k) = way l s (j + k)
  | i, j, 0, h1, h2 => by rw [Nat.add_zero, Nat.add_zero, h1, h2]
  | i, j, k + 1, h1, h2 => by rw [← Nat.add_assoc, ← Nat.add_assoc, way, way, way_add (k := k) h1 h2]
theorem look_mem {l : List Nm} {s : ByteArray} {x : Nm} (h : look l s = some x) : x ∈ l ∧ x.name = s := by
  unfold look at h
  split at h
  · rename_i hh
    simp at h; subst h
    have hl := hit_lt hh
    have he : cmpN (nmAt l (srchN l s)).name s = 0 := by unfold hitB at hh; rw [Bool.and_eq_true] at hh; simpa using hh.2
    refine ⟨?_, cmpN_eq he⟩
    simp [nmAt, List.getD_eq_getElem?_getD, hl]
  · simp at h
theorem nxt_mem {l : List Nm} {s t : ByteArray} (h : nxt l s = some t) : s ∈ l.map Nm.name := by
  unfold nxt at h
  split at h
  · rename_i x hx
    obtain ⟨h1, h2⟩ := look_mem hx
    exact List.mem_map.2 ⟨x, h1, h2⟩
  · simp at h
/-- behind a name that leads on, a round fewer does -/
theorem resN_fewer {l : List Nm} {s t : ByteArray} (h : nxt l s = some t) : resN l l.length t = resN l (l.length + 1) t := by
  rcases Decidable.em (resN l l.length t = resN l (l.length + 1) t) with e | e
  · exact e
  · exfalso
    obtain ⟨h1, h2⟩ := resN_way _ _ e
    have hall : ∀ i, i ≤ l.length → ∃ u, way l s i = some u ∧ u ∈ l.map Nm.name := fun i hi => by
      have hi1 : (way l s (i + 1)).isSome = true := by
        cases hw : way l s (i + 1) with
        | some _ => rfl
        | none =>
          have := way_none hw (l.length + 1) (by omega)
          rw [way_succ, h] at this
          simp at this; rw [this] at h1; simp at h1
      rw [way] at hi1
      cases hw : way l s i with
      | none => rw [hw] at hi1; simp at hi1
      | some u =>
        rw [hw] at hi1
        simp at hi1
        obtain ⟨v, hv⟩ := Option.isSome_iff_exists.1 hi1
        exact ⟨u, rfl, nxt_mem hv⟩
    obtain ⟨i, j, hij, hj, he⟩ := pigeon (fun i => (way l s i).getD default) (l.map Nm.name) fun i hi => by
      obtain ⟨u, hu, hm⟩ := hall i (by simpa using hi)
      simp only [hu]; exact hm
    simp only [List.length_map] at hj
    obtain ⟨u, hu, _⟩ := hall i (by omega)
    obtain ⟨v, hv, _⟩ := hall j hj
    rw [hu, hv] at he
    simp at he; subst he
    have := way_add (k := l.length + 2 - j) hu hv
    rw [show j + (l.length + 2 - j) = (l.length + 1) + 1 by omega, way_succ l s (l.length + 1), h] at this
    simp only [Option.bind_some, h2] at this
    have h3 := way_none this (l.length + 1) (by omega)
    rw [way_succ, h] at h3
    simp at h3; rw [h3] at h1; simp at h1
/-- a name that stands for a place of its own is local -/
theorem resN_local {l : List Nm} : ∀ {n : Nat} {s t : ByteArray} {k : Int}, resN l n s = (t, k, 0) → k < 0 → localB l t = true
  | 0, s, t, k, h, _ => by simp [resN] at h
  | n + 1, s, t, k, h, hk => by
    rw [resN] at h
    unfold localB
    split at h
    · simp at h
    · rename_i x hx
      split at h
      · rename_i h1
        simp at h; obtain ⟨rfl, rfl⟩ := h
        rw [hx]; exact h1
      · split at h
        · simp at h; omega
        · exact resN_local h hk
theorem resN_err {l : List Nm} : ∀ (n : Nat) (s : ByteArray), (resN l n s).2.2 = 0 ∨ (resN l n s).2.2 = 7 ∨ (resN l n s).2.2 = 11
  | 0, s => by simp [resN]
  | n + 1, s => by
    rw [resN]
    split
    · simp
    · split
      · simp
      · split
        · simp
        · exact resN_err n _
theorem resN_none {l : List Nm} {s : ByteArray} (h : look l s = none) (n : Nat) : resN l (n + 1) s = (⟨#[]⟩, 0, 7) := by rw [resN, h]
/-- a strictly rising row of numbers below k has no more than k -/
theorem rising_len : ∀ {l : List Nat} (lo hi : Nat), l.Pairwise (· < ·) → (∀ x ∈ l, lo ≤ x ∧ x < hi) → lo ≤ hi → l.length ≤ hi - lo
  | [], _, _, _, _, _ => Nat.zero_le _
  | x :: l, lo, hi, h, hx, hle => by
    obtain ⟨h1, h2⟩ := List.pairwise_cons.1 h
    obtain ⟨h3, h4⟩ := hx x (by simp)
    have := rising_len (x + 1) hi h2 (fun y hy => ⟨h1 y hy, (hx y (by simp [hy])).2⟩) (by omega)
    simp; omega
theorem sorted_nodup {l : List Nm} (h : Sorted l) : (l.map Nm.name).Nodup := by
  rw [List.nodup_iff_pairwise_ne, List.pairwise_map]
  exact h.imp fun {a b} hab e => by rw [e, cmpN_self] at hab; omega
theorem sorted_len {l : List Nm} (h : Sorted l) (ws : List ByteArray) (hw : ∀ x ∈ l, x.name ∈ ws) : l.length ≤ ws.length := by
  have := nodup_len (sorted_nodup h) (l := ws) fun s hs => by
    obtain ⟨x, hx, rfl⟩ := List.mem_map.1 hs
    exact hw x hx
  simpa using this
end WB
