/- waybillkeep.NamesChains: plain laws -/
import Derived.Test.YtjhogocabcdjbaaDoorNmO
import Derived.Test.YtjhogocabcdjbaaDoorWbQ
namespace Go.Proofs.YtjhogocabcdjbaaDoor
open Go Go.RowKit WB
/-- a slice of names that may be shared -/
def NamesAt (w : World) (v : Value) (xs : List Nm) : Prop :=
  ∃ sa cap, v = .slice sa xs.length cap ∧ ∀ i, i < xs.length → ∃ ad, sa = some ad ∧ w.cell? (ad.add (i * 3)) = some (.string (nmAt xs i).name) ∧ w.cell? ((ad.add (i * 3)).add 1) = some (.string (nmAt xs i).to) ∧
    w.cell? ((ad.add (i * 3)).add 2) = some (.int .i64 (nmAt xs i).house)
def wd (p : Nat) : ByteArray := ⟨#[UInt8.ofNat (97 + p)]⟩
def wds : List Value := [.string (wd 0), .string (wd 1), .string (wd 2), .string (wd 3), .string (wd 4)]
theorem wds_at : ∀ p, p < 5 → wds.toArray[p]? = some (.string (wd p))
  | 0, _ => rfl
  | 1, _ => rfl
  | 2, _ => rfl
  | 3, _ => rfl
  | 4, _ => rfl
theorem wd_word : ∀ p, p < 5 → wordB (wd p) = true
  | 0, _ => by decide +kernel
  | 1, _ => by decide +kernel
  | 2, _ => by decide +kernel
  | 3, _ => by decide +kernel
  | 4, _ => by decide +kernel
def ws5 : List ByteArray := [wd 0, wd 1, wd 2, wd 3, wd 4]
theorem wd_mem : ∀ p, p < 5 → wd p ∈ ws5
  | 0, _ => by simp [ws5]
  | 1, _ => by simp [ws5]
  | 2, _ => by simp [ws5]
  | 3, _ => by simp [ws5]
  | 4, _ => by simp [ws5]
theorem mem_wd {s : ByteArray} (h : s ∈ ws5) : ∃ p, p < 5 ∧ s = wd p := by
  simp only [ws5, List.mem_cons, List.not_mem_nil, or_false] at h
  rcases h with h | h | h | h | h
  · exact ⟨0, by omega, h⟩
  · exact ⟨1, by omega, h⟩
  · exact ⟨2, by omega, h⟩
  · exact ⟨3, by omega, h⟩
  · exact ⟨4, by omega, h⟩
theorem word_size {s : ByteArray} (h : wordB s = true) : s.size ≤ 8 := by
  unfold wordB lettersB at h
  simp only [Bool.and_eq_true, decide_eq_true_eq] at h
  exact h.2.1
theorem empty_size {s : ByteArray} (h : emptyB s = true) : s.size = 0 := by
  unfold emptyB at h
  have : s.toList = [] := by simpa using h
  rw [← ByteArray.size_data, ← Array.length_toList]
  rw [show s.data.toList = s.toList by simp [ByteArray.toList_eq]]
  rw [this]; rfl
theorem right_sizes {x : Nm} (h : rightNm x = true) : x.name.size ≤ maxLen ∧ x.to.size ≤ maxLen := by
  unfold rightNm at h
  simp only [Bool.and_eq_true, Bool.or_eq_true, decide_eq_true_eq] at h
  obtain ⟨h1, _, _, h2⟩ := h
  have := word_size h1
  refine ⟨by unfold maxLen; omega, ?_⟩
  rcases h2 with h2 | h2
  · have := word_size h2; unfold maxLen; omega
  · have := empty_size h2.1; unfold maxLen; omega
theorem right_two {p q : Nat} (hp : p < 5) (hq : q < 5) {k : Int} (h1 : -1 ≤ k) (h2 : k ≤ 3) : rightNm ⟨wd p, wd q, k⟩ = true := by
  simp [rightNm, wd_word p hp, wd_word q hq, h1, h2]
theorem right_one {p : Nat} (hp : p < 5) : rightNm ⟨wd p, ⟨#[]⟩, -1⟩ = true := by
  have : emptyB ⟨#[]⟩ = true := by decide +kernel
  simp [rightNm, wd_word p hp, this]
/-- the names and the map, side by side -/
structure CInv (ln : List Nm) (m : List (ByteArray × Value)) : Prop where
  sorted : Sorted ln
  words : ∀ x ∈ ln, x.name ∈ ws5
  right : ∀ x ∈ ln, rightNm x = true
  map : ∀ s, getA m s = (lk ln s).map fun x => .agg x.cells.toArray
theorem CInv.nil : CInv [] [] := ⟨sorted_nil, by simp, by simp, fun _ => rfl⟩
theorem CInv.len {ln : List Nm} {m} (h : CInv ln m) : ln.length ≤ 5 := sorted_len h.sorted ws5 h.words
theorem CInv.step {ln : List Nm} {m} (h : CInv ln m) {x : Nm} (hw : x.name ∈ ws5) (hr : rightNm x = true) : CInv (insN x ln) (putA m x.name (.agg x.cells.toArray)) := by
  refine ⟨insN_sorted h.sorted, fun y hy => ?_, fun y hy => ?_, fun s => ?_⟩
  · rcases insN_mem hy with rfl | hy
    · exact hw
    · exact h.words y hy
  · rcases insN_mem hy with rfl | hy
    · exact hr
    · exact h.right y hy
  · rw [getA_putA, lk_insN, h.map]
    by_cases e : x.name = s <;> simp [e]
/-- the second list: a part of the first -/
structure DInv (ln lm : List Nm) (done : ByteArray → Prop) : Prop where
  sorted : Sorted lm
  sub : ∀ x ∈ lm, x ∈ ln
  look : ∀ s, done s → lk lm s = lk ln s
theorem DInv.nil (ln : List Nm) : DInv ln [] fun _ => False := ⟨sorted_nil, by simp, fun _ h => h.elim⟩
theorem DInv.weak {ln lm : List Nm} {done done' : ByteArray → Prop} (h : DInv ln lm done) (hd : ∀ s, done' s → done s) : DInv ln lm done' := ⟨h.sorted, h.sub, fun s hs => h.look s (hd s hs)⟩
theorem DInv.put {ln lm : List Nm} {done done' : ByteArray → Prop} (h : DInv ln lm done) {x : Nm} (hx : lk ln x.name = some x) (hd : ∀ s, done' s → s = x.name ∨ done s) : DInv ln (insN x lm) done' := by
  refine ⟨insN_sorted h.sorted, fun y hy => ?_, fun s hs => ?_⟩
  · rcases insN_mem hy with rfl | hy
    · exact (lk_some hx).1
    · exact h.sub y hy
  · rw [lk_insN]
    rcases hd s hs with rfl | hs
    · simp [hx]
    · by_cases e : x.name = s
      · subst e; simp [hx]
      · rw [if_neg e]; exact h.look s hs
theorem done_step (j t0 : Nat) (s : ByteArray) (h : ∃ i, i < j + 1 ∧ s = wd ((i + t0) % 5)) : s = wd ((j + t0) % 5) ∨ ∃ i, i < j ∧ s = wd ((i + t0) % 5) := by
  obtain ⟨i, hi, rfl⟩ := h
  rcases Nat.lt_or_eq_of_le (Nat.lt_succ_iff.1 hi) with h | rfl
  · exact .inr ⟨i, h, rfl⟩
  · exact .inl rfl
theorem lk_mem {l : List Nm} (h : Sorted l) {x : Nm} (hx : x ∈ l) : lk l x.name = some x := by
  cases hh : lk l x.name with
  | none =>
    unfold lk at hh; rw [List.find?_eq_none] at hh
    exact absurd (hh x hx) (by simp)
  | some y =>
    obtain ⟨hy, hn⟩ := lk_some hh
    obtain ⟨i, hi, e1⟩ := List.getElem_of_mem hx
    obtain ⟨j, hj, e2⟩ := List.getElem_of_mem hy
    rcases Nat.lt_trichotomy i j with hij | rfl | hij
    · have := List.pairwise_iff_getElem.1 h i j hi hj hij
      rw [e1, e2, hn, cmpN_self] at this; omega
    · rw [← e1, ← e2]
    · have := List.pairwise_iff_getElem.1 h j i hj hi hij
      rw [e1, e2, hn, cmpN_self] at this; omega
theorem DInv.skip {ln lm : List Nm} {done done' : ByteArray → Prop} (h : DInv ln lm done) (hs : Sorted ln) {s0 : ByteArray} (hx : lk ln s0 = none) (hd : ∀ s, done' s → s = s0 ∨ done s) : DInv ln lm done' := by
  refine ⟨h.sorted, h.sub, fun s hs' => ?_⟩
  rcases hd s hs' with rfl | hs'
  · rw [hx]
    cases hh : lk lm s with
    | none => rfl
    | some x =>
      obtain ⟨h1, rfl⟩ := lk_some hh
      rw [lk_mem hs (h.sub x h1)] at hx; simp at hx
  · exact h.look s hs'
theorem DInv.all {ln lm : List Nm} {m} {done : ByteArray → Prop} (h : DInv ln lm done) (hc : CInv ln m) (hd : ∀ s ∈ ws5, done s) : lm = ln := by
  refine sorted_ext h.sorted hc.sorted fun s => ?_
  cases hh : lk ln s with
  | some x =>
    obtain ⟨h1, rfl⟩ := lk_some hh
    rw [h.look _ (hd _ (hc.words x h1)), hh]
  | none =>
    cases h2 : lk lm s with
    | none => rfl
    | some x =>
      obtain ⟨h1, rfl⟩ := lk_some h2
      rw [lk_mem hc.sorted (h.sub x h1)] at hh; simp at hh
theorem DInv.words {ln lm : List Nm} {m} {done : ByteArray → Prop} (h : DInv ln lm done) (hc : CInv ln m) : lm.length ≤ 5 := sorted_len h.sorted ws5 fun x hx => hc.words x (h.sub x hx)
end Go.Proofs.YtjhogocabcdjbaaDoor
