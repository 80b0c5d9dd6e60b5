/- queues, plain: what is seen of one beside another that has not what one unit did -/
import Derived.Test.YtjhogocabcdjbaaDoorWbQa
import Derived.Test.YtjhogocabcdjbaaDoorWbMp
set_option linter.unusedSimpArgs false
set_option linter.unusedVariables false
namespace WB
/-- an item without its place in the line -/
def strip (e : It) : It := { e with line := 0 }
theorem strip_avail (e : It) : availB (strip e) = availB e := rfl
theorem strip_end (u : Int) (b : Bool) (e : It) : endB u b (strip e) = endB u b e := rfl
theorem strip_free (u : Int) (e : It) : freeIt u (strip e) = strip (freeIt u e) := rfl
theorem map_filter_strip (p : It → Bool) (hp : ∀ e, p (strip e) = p e) (l : List It) : (l.filter p).map strip = (l.map strip).filter p := by
  rw [List.filter_map]; congr 1; exact List.filter_congr fun e _ => (hp e).symm
/-! what each does to the items without their places -/
def ins3 (t : It) (l : List It) : List It := l.filter (fun e => decide (t.m.pri ≤ e.m.pri)) ++ t :: l.filter (fun e => !decide (t.m.pri ≤ e.m.pri))
def get3 (v : Int) : List It → List It
  | [] => []
  | e :: l => if availB e = true then { e with got := v } :: l else e :: get3 v l
def del3 : List It → List It
  | [] => []
  | e :: l => if availB e = true then l else e :: del3 l
def ends3 (u : Int) (back : Bool) (l : List It) : List It := (l.filter fun e => !endB u back e).map (freeIt u)
def ml (e : It) : Ms × Int := (e.m, e.line)
def Ord (x y : It) : Prop := x.m.id ≠ y.m.id ∧ (y.m.pri < x.m.pri ∨ (x.m.pri = y.m.pri ∧ x.m.id < y.m.id))
theorem Ord.pri {x y : It} (h : Ord x y) : y.m.pri ≤ x.m.pri := by unfold Ord at h; omega
/-- a queue as the law has it -/
structure QIn (n : Int) (q : Qu) : Prop where
  ord : q.l.Pairwise Ord
  ids : ∀ e ∈ q.l, 0 ≤ e.m.id ∧ e.m.id < n
  pris : ∀ e ∈ q.l, 0 ≤ e.m.pri ∧ e.m.pri ≤ 9
  lines : ∀ e ∈ q.l, 0 ≤ e.line ∧ e.line < q.next
  len : q.l.length ≤ 20
  next : 0 ≤ q.next ∧ q.next ≤ n
theorem take_while_filter {p : It → Bool} {l : List It} (h : l.Pairwise fun x y => p y = true → p x = true) : l.takeWhile p = l.filter p ∧ l.dropWhile p = l.filter fun e => !p e := by
  induction l with
  | nil => exact ⟨rfl, rfl⟩
  | cons a l ih =>
    obtain ⟨h1, h2⟩ := List.pairwise_cons.1 h
    obtain ⟨i1, i2⟩ := ih h2
    by_cases ha : p a = true
    · simp [ha, i1, i2]
    · have hall : ∀ e ∈ l, p e = false := fun e he => by
        by_cases hp : p e = true
        · exact absurd (h1 e he hp) ha
        · simpa using hp
      have e1 : l.filter p = [] := List.filter_eq_nil_iff.2 fun e he => by simp [hall e he]
      have e2 : (l.filter fun e => !p e) = l := List.filter_eq_self.2 fun e he => by simp [hall e he]
      simp [ha, e1, e2]
theorem take_len_while {α : Type} (p : α → Bool) : ∀ l : List α, l.take (l.takeWhile p).length = l.takeWhile p ∧ l.drop (l.takeWhile p).length = l.dropWhile p
  | [] => ⟨rfl, rfl⟩
  | a :: l => by
    by_cases h : p a = true
    · simp [h, take_len_while p l]
    · simp [h]
section
variable {n : Int} {q : Qu} {m : Ms} {u : Int}
theorem QIn.cmp (h : QIn n q) (m : Ms) (u : Int) {e : It} (he : e ∈ q.l) : cmpIt e (qitem q m u) < 0 ↔ m.pri ≤ e.m.pri := by
  have := h.lines e he
  unfold cmpIt compI qitem
  dsimp only
  split <;> omega
theorem QIn.ok (h : QIn n q) (hn : n < 1000000) : QuOk q := by
  refine ⟨by have := h.len; omega, fun e he => ?_, ⟨h.next.1, by have := h.next; omega⟩, fun m u i j a b hij ha hb hlt => ?_⟩
  · have h1 := h.pris e he; have h2 := h.lines e he; have h3 := h.next
    unfold smallIt small; omega
  · have ma := List.mem_of_getElem? ha
    have mb := List.mem_of_getElem? hb
    rw [h.cmp m u ma]
    rw [h.cmp m u mb] at hlt
    rcases Nat.lt_or_ge i j with hlt2 | hge
    · obtain ⟨hi, rfl⟩ := List.getElem?_eq_some_iff.1 ha
      obtain ⟨hj, rfl⟩ := List.getElem?_eq_some_iff.1 hb
      have := (List.pairwise_iff_getElem.1 h.ord i j hi hj hlt2).pri
      omega
    · obtain rfl : i = j := by omega
      rw [ha] at hb; cases hb; exact hlt
theorem QIn.push (h : QIn n q) (m : Ms) (u : Int) : (qpush q m u).l = q.l.filter (fun e => decide (m.pri ≤ e.m.pri)) ++ qitem q m u :: q.l.filter (fun e => !decide (m.pri ≤ e.m.pri)) := by
  have hc : (q.l.takeWhile fun e => decide (cmpIt e (qitem q m u) < 0)) = q.l.takeWhile fun e => decide (m.pri ≤ e.m.pri) := by
    have : ∀ l : List It, (∀ e ∈ l, e ∈ q.l) → (l.takeWhile fun e => decide (cmpIt e (qitem q m u) < 0)) = l.takeWhile fun e => decide (m.pri ≤ e.m.pri) := by
      intro l
      induction l with
      | nil => intro _; rfl
      | cons a l ih =>
        intro hl
        have e1 : decide (cmpIt a (qitem q m u) < 0) = decide (m.pri ≤ a.m.pri) := decide_eq_decide.2 (h.cmp m u (hl a (by simp)))
        simp only [List.takeWhile_cons, e1, ih fun e he => hl e (by simp [he])]
    exact this q.l fun _ h => h
  obtain ⟨t1, t2⟩ := take_len_while (fun e : It => decide (m.pri ≤ e.m.pri)) q.l
  obtain ⟨f1, f2⟩ := take_while_filter (p := fun e : It => decide (m.pri ≤ e.m.pri)) (l := q.l) (h.ord.imp fun {x y} hxy hy => by
    have := hxy.pri; simp at hy ⊢; omega)
  unfold qpush srchIt
  dsimp only
  rw [hc, t1, t2, f1, f2]
theorem push_strip (h : QIn n q) (m : Ms) (u : Int) : (qpush q m u).l.map strip = ins3 ⟨m, 0, max u (-1), -1⟩ (q.l.map strip) := by
  rw [h.push]
  unfold ins3
  rw [List.map_append, List.map_cons, map_filter_strip _ (fun _ => rfl), map_filter_strip _ (fun _ => rfl)]
  rfl
theorem QIn.pushed (h : QIn n q) (hm : m.id = n) (h0 : 0 ≤ n) (hp : 0 ≤ m.pri ∧ m.pri ≤ 9) (hl : q.l.length < 20) (u : Int) : QIn (n + 1) (qpush q m u) := by
  have hl2 : ∀ e ∈ (qpush q m u).l, e = qitem q m u ∨ e ∈ q.l := fun e he => by
    rw [h.push] at he
    simp only [List.mem_append, List.mem_cons, List.mem_filter] at he
    rcases he with ⟨a, _⟩ | a | ⟨a, _⟩
    · exact .inr a
    · exact .inl a
    · exact .inr a
  have hnx : (qpush q m u).next = q.next + 1 := rfl
  refine ⟨?_, fun e he => ?_, fun e he => ?_, fun e he => ?_, ?_, by have := h.next; rw [hnx]; omega⟩
  · rw [h.push, List.pairwise_append, List.pairwise_cons]
    refine ⟨h.ord.sublist List.filter_sublist, ⟨fun e he => ?_, h.ord.sublist List.filter_sublist⟩, fun a ha b hb => ?_⟩
    · obtain ⟨h1, h2⟩ := List.mem_filter.1 he
      have := h.ids e h1
      simp at h2
      refine ⟨?_, .inl (by unfold qitem; dsimp only; omega)⟩
      unfold qitem; dsimp only; omega
    · obtain ⟨h1, h2⟩ := List.mem_filter.1 ha
      have i1 := h.ids a h1
      simp at h2
      rcases List.mem_cons.1 hb with rfl | hb
      · unfold Ord qitem; dsimp only; omega
      · obtain ⟨h3, h4⟩ := List.mem_filter.1 hb
        simp at h4
        refine ⟨?_, .inl (by omega)⟩
        intro e
        obtain ⟨i, hi, rfl⟩ := List.getElem_of_mem h1
        obtain ⟨j, hj, rfl⟩ := List.getElem_of_mem h3
        rcases Nat.lt_trichotomy i j with hlt | rfl | hlt
        · exact (List.pairwise_iff_getElem.1 h.ord i j hi hj hlt).1 e
        · omega
        · exact (List.pairwise_iff_getElem.1 h.ord j i hj hi hlt).1 e.symm
  · rcases hl2 e he with rfl | h1
    · unfold qitem; dsimp only; omega
    · have := h.ids e h1; omega
  · rcases hl2 e he with rfl | h1
    · exact hp
    · exact h.pris e h1
  · rw [hnx]
    rcases hl2 e he with rfl | h1
    · have := h.next; unfold qitem; dsimp only; omega
    · have := h.lines e h1; omega
  · unfold qpush
    simp; omega
theorem QIn.le (h : QIn n q) {k : Int} (hk : n ≤ k) : QIn k q := ⟨h.ord, fun e he => by have := h.ids e he; omega, h.pris, h.lines, h.len, by have := h.next; omega⟩
/-- one that has some of its items, changed in nothing that counts -/
theorem QIn.part (h : QIn n q) {l : List It} (hs : (l.map ml).Sublist (q.l.map ml)) : QIn n ⟨l, q.next⟩ := by
  have hm : ∀ e ∈ l, ∃ e' ∈ q.l, e'.m = e.m ∧ e'.line = e.line := fun e he => by
    obtain ⟨e', h1, h2⟩ := List.mem_map.1 (hs.subset (List.mem_map_of_mem (f := ml) he))
    exact ⟨e', h1, by simpa [ml] using h2⟩
  refine ⟨?_, fun e he => ?_, fun e he => ?_, fun e he => ?_, ?_, h.next⟩
  · have h1 : (q.l.map ml).Pairwise fun x y => x.1.id ≠ y.1.id ∧ (y.1.pri < x.1.pri ∨ (x.1.pri = y.1.pri ∧ x.1.id < y.1.id)) := List.pairwise_map.2 h.ord
    have h2 := h1.sublist hs
    rw [List.pairwise_map] at h2
    exact h2
  · obtain ⟨e', h1, h2, _⟩ := hm e he; rw [← h2]; exact h.ids e' h1
  · obtain ⟨e', h1, h2, _⟩ := hm e he; rw [← h2]; exact h.pris e' h1
  · obtain ⟨e', h1, _, h2⟩ := hm e he; rw [← h2]; exact h.lines e' h1
  · have := hs.length_le; have := h.len; simp at *; omega
end
/-! the items without their places -/
def getL (v : Int) (l : List It) : Option Nat → List It
  | none => l
  | some k => l.set k { itAt l k with got := v }
theorem getL_strip (v : Int) : ∀ l : List It, (getL v l (l.findIdx? availB)).map strip = get3 v (l.map strip) ∧ (getL v l (l.findIdx? availB)).map ml = l.map ml
  | [] => ⟨rfl, rfl⟩
  | a :: l => by
    obtain ⟨i1, i2⟩ := getL_strip v l
    rw [List.findIdx?_cons, List.map_cons, get3, strip_avail]
    by_cases ha : availB a = true
    · rw [if_pos ha, if_pos ha]; exact ⟨rfl, rfl⟩
    · rw [if_neg ha, if_neg ha, ← i1]
      cases hf : l.findIdx? availB with
      | none => exact ⟨rfl, rfl⟩
      | some k =>
        rw [hf] at i2
        exact ⟨rfl, congrArg (ml a :: ·) i2⟩
theorem get_strip (q : Qu) (v : Int) (hv : 0 ≤ v) : (qget q v).l.map strip = get3 v (q.l.map strip) ∧ (qget q v).next = q.next ∧ ((qget q v).l.map ml) = q.l.map ml := by
  obtain ⟨h1, h2⟩ := getL_strip v q.l
  have e : qget q v = ⟨getL v q.l (q.l.findIdx? availB), q.next⟩ := by
    unfold qget qgetI
    cases q.l.findIdx? availB with
    | none => rfl
    | some k => dsimp only; rw [if_neg (by omega)]; rfl
  rw [e]; exact ⟨h1, rfl, h2⟩
theorem getM_strip (q : Qu) : qgetM q = (match (q.l.map strip).find? availB with | none => zeroMs | some e => e.m) ∧ (qgetE q = match (q.l.map strip).find? availB with | none => 8 | some _ => 0) := by
  obtain ⟨l, nx⟩ := q
  unfold qgetM qgetE qgetI
  dsimp only
  induction l with
  | nil => exact ⟨rfl, rfl⟩
  | cons a l ih =>
    by_cases ha : availB a = true
    · rw [List.findIdx?_cons, List.map_cons, List.find?_cons, strip_avail, if_pos ha, ha]; exact ⟨rfl, rfl⟩
    · obtain ⟨i1, i2⟩ := ih
      cases hf : l.findIdx? availB with
      | none =>
        rw [hf] at i1 i2
        simp only [List.findIdx?_cons, ha, hf, Option.map_none, List.map_cons, List.find?_cons, strip_avail] at i1 i2 ⊢
        exact ⟨i1, i2⟩
      | some k =>
        rw [hf] at i1 i2
        simp only [List.findIdx?_cons, ha, hf, Option.map_some, List.map_cons, List.find?_cons, strip_avail, itAt, List.getD_cons_succ] at i1 i2 ⊢
        exact ⟨i1, i2⟩
theorem ends_strip (q : Qu) (u : Int) (b : Bool) (hu : 0 ≤ u) : (qends q u b).l.map strip = ends3 u b (q.l.map strip) := by
  unfold qends ends3
  rw [if_neg (by omega)]
  dsimp only
  rw [← map_filter_strip _ (fun _ => rfl), List.map_map, List.map_map]
  rfl
theorem QIn.ends {n : Int} {q : Qu} (h : QIn n q) (u : Int) (b : Bool) : QIn n (qends q u b) := by
  unfold qends
  split
  · exact h
  · refine h.part ?_
    rw [List.map_map]
    exact (List.filter_sublist).map _
theorem QIn.got {n : Int} {q : Qu} (h : QIn n q) (v : Int) (hv : 0 ≤ v) : QIn n (qget q v) := by
  obtain ⟨_, h2, h3⟩ := get_strip q v hv
  have := h.part (l := (qget q v).l) (by rw [h3]; exact .refl _)
  rw [← h2] at this
  exact this
/-! beside a queue without what one unit did -/
def oth (u : Int) (l : List It) : List It := l.filter fun e => !decide (e.put = u)
theorem oth_ins (u : Int) (t : It) (l : List It) : oth u (ins3 t l) = if t.put = u then oth u l |> fun r => r.filter (fun e => decide (t.m.pri ≤ e.m.pri)) ++ r.filter (fun e => !decide (t.m.pri ≤ e.m.pri)) else ins3 t (oth u l) := by
  unfold ins3 oth
  rw [List.filter_append]
  have c : ∀ p : It → Bool, (l.filter p).filter (fun e => !decide (e.put = u)) = (l.filter fun e => !decide (e.put = u)).filter p := fun p => by
    rw [List.filter_filter, List.filter_filter]; exact List.filter_congr fun e _ => Bool.and_comm _ _
  by_cases h : t.put = u
  · simp only [h, if_true, List.filter_cons, decide_true, Bool.not_true, Bool.false_eq_true, if_false, c]
  · simp only [h, if_false, List.filter_cons, decide_false, Bool.not_false, if_true, c]
theorem oth_get (u v : Int) (hu : 0 ≤ u) : ∀ l : List It, oth u (get3 v l) = get3 v (oth u l)
  | [] => rfl
  | e :: l => by
    have ih := oth_get u v hu l
    unfold oth at *
    by_cases ha : availB e = true
    · have hp : ¬ e.put = u := by unfold availB at ha; simp at ha; omega
      simp [get3, ha, List.filter_cons, hp]
    · by_cases hp : e.put = u
      · simp only [get3, ha, List.filter_cons, hp, decide_true, Bool.not_true, Bool.false_eq_true, if_false]; exact ih
      · simp only [get3, ha, List.filter_cons, hp, decide_false, Bool.not_false, Bool.false_eq_true, if_true, if_false]; rw [ih]
theorem oth_find (u : Int) (hu : 0 ≤ u) (l : List It) : (oth u l).find? availB = l.find? availB := by
  unfold oth
  rw [List.find?_filter]
  congr 1
  funext e
  by_cases ha : availB e = true
  · have hp : ¬ e.put = u := by unfold availB at ha; simp at ha; omega
    simp [ha, hp]
  · simp [ha]
theorem oth_ends (u v : Int) (b : Bool) (hu : 0 ≤ u) (hv : 0 ≤ v) (hne : v ≠ u) (l : List It) : oth u (ends3 v b l) = ends3 v b (oth u l) := by
  unfold oth ends3
  rw [List.filter_map, List.filter_filter, List.filter_filter]
  congr 1
  refine List.filter_congr fun e _ => ?_
  have : decide ((freeIt v e).put = u) = decide (e.put = u) := by
    refine decide_eq_decide.2 ?_
    unfold freeIt; dsimp only
    split <;> omega
  simp only [Function.comp, this, Bool.and_comm]
theorem oth_there (u : Int) (hu : 0 ≤ u) (l : List It) : (oth u l).filter availB = l.filter availB := by
  unfold oth
  rw [List.filter_filter]
  refine List.filter_congr fun e _ => ?_
  by_cases ha : availB e = true
  · have hp : ¬ e.put = u := by unfold availB at ha; simp at ha; omega
    simp [ha, hp]
  · simp [ha]
theorem there_strip (q : Qu) : qthere q = ((q.l.map strip).filter availB).map (·.m) := by
  unfold qthere
  rw [← map_filter_strip _ (fun _ => rfl), List.map_map]; rfl
theorem kept_strip (q : Qu) : qkept q = ((q.l.map strip).filter fun e => decide (e.put < 0)).map (·.m) := by
  unfold qkept
  rw [← map_filter_strip _ (fun _ => rfl), List.map_map]; rfl
/-- the two beside each other -/
structure QTwo (u n : Int) (a b : Qu) : Prop where
  ha : QIn n a
  hb : QIn n b
  rel : b.l.map strip = oth u (a.l.map strip)
  got : ∀ e ∈ a.l, e.got ≠ u
section
variable {u n : Int} {a b : Qu}
theorem QTwo.blen (h : QTwo u n a b) : b.l.length ≤ a.l.length := by
  have := congrArg List.length h.rel
  have h2 : (oth u (a.l.map strip)).length ≤ (a.l.map strip).length := List.length_filter_le _ _
  simp at this h2; omega
theorem QTwo.there (h : QTwo u n a b) (hu : 0 ≤ u) : qthere a = qthere b := by
  rw [there_strip, there_strip, h.rel, oth_there u hu]
theorem QTwo.le (h : QTwo u n a b) {k : Int} (hk : n ≤ k) : QTwo u k a b := ⟨h.ha.le hk, h.hb.le hk, h.rel, h.got⟩
theorem msRight_law {m : Ms} (h1 : 0 ≤ m.id ∧ m.id ≤ 1000) (h2 : 0 ≤ m.pri ∧ m.pri ≤ 9) (h3 : bodyB m.body = true) (h4 : wordB m.queue = true) (h5 : m.house = 0) : msRight m = true := by
  unfold msRight; rw [h3, h4, h5]; simp; omega
theorem QIn.putE {q : Qu} (h : QIn n q) {m : Ms} (hm : m.id = n) (hr : msRight m = true) (hl : q.l.length < 20) : qputE q m = 0 := by
  have hh : qhas q m.id = false := by
    unfold qhas
    rw [List.any_eq_false]
    intro e he
    have := h.ids e he
    unfold idB; simp; omega
  unfold qputE
  rw [hr, hh]
  simp; omega
theorem QTwo.putA (h : QTwo u n a b) {m : Ms} (hm : m.id = n) (h0 : 0 ≤ n) (hu : 0 ≤ u) (hp : 0 ≤ m.pri ∧ m.pri ≤ 9) (hl : a.l.length < 20) : QTwo u (n + 1) (qpush a m u) b := by
  refine ⟨h.ha.pushed hm h0 hp hl u, h.hb.le (by omega), ?_, fun e he => ?_⟩
  · rw [push_strip h.ha, oth_ins, if_pos (by dsimp only; omega), h.rel, ← h.rel]
    dsimp only
    have hb := (take_while_filter (p := fun e : It => decide (m.pri ≤ e.m.pri)) (l := b.l.map strip) (List.pairwise_map.2 (h.hb.ord.imp fun {x y} hxy hy => by
      have h1 := hxy.pri; have h2 : m.pri ≤ y.m.pri := of_decide_eq_true hy; exact decide_eq_true (show m.pri ≤ x.m.pri by omega))))
    rw [← hb.1, ← hb.2, List.takeWhile_append_dropWhile]
  · rw [h.ha.push] at he
    simp only [List.mem_append, List.mem_cons, List.mem_filter] at he
    rcases he with ⟨a, _⟩ | rfl | ⟨a, _⟩
    · exact h.got e a
    · unfold qitem; dsimp only; omega
    · exact h.got e a
theorem QTwo.putB (h : QTwo u n a b) {m : Ms} {v : Int} (hm : m.id = n) (h0 : 0 ≤ n) (hu : 0 ≤ u) (hv : 0 ≤ v) (hne : v ≠ u) (hp : 0 ≤ m.pri ∧ m.pri ≤ 9) (hl : a.l.length < 20) : QTwo u (n + 1) (qpush a m v) (qpush b m v) := by
  have hbl := h.blen
  refine ⟨h.ha.pushed hm h0 hp hl v, h.hb.pushed hm h0 hp (by omega) v, ?_, fun e he => ?_⟩
  · rw [push_strip h.ha, push_strip h.hb, oth_ins, if_neg (by dsimp only; omega), h.rel]
  · rw [h.ha.push] at he
    simp only [List.mem_append, List.mem_cons, List.mem_filter] at he
    rcases he with ⟨a, _⟩ | rfl | ⟨a, _⟩
    · exact h.got e a
    · unfold qitem; dsimp only; omega
    · exact h.got e a
theorem QTwo.getE (h : QTwo u n a b) (hu : 0 ≤ u) : qgetM a = qgetM b ∧ qgetE a = qgetE b := by
  have ha := getM_strip a
  have hb := getM_strip b
  rw [h.rel, oth_find u hu] at hb
  exact ⟨ha.1.trans hb.1.symm, ha.2.trans hb.2.symm⟩
theorem got_get (q : Qu) (v : Int) (hv : 0 ≤ v) (hne : v ≠ u) (h : ∀ e ∈ q.l, e.got ≠ u) : ∀ e ∈ (qget q v).l, e.got ≠ u := by
  unfold qget
  split
  · exact h
  · next k _ =>
    rw [if_neg (by omega)]
    intro e he
    rcases List.mem_or_eq_of_mem_set he with h1 | rfl
    · exact h e h1
    · exact hne
theorem QTwo.get (h : QTwo u n a b) {v : Int} (hu : 0 ≤ u) (hv : 0 ≤ v) (hne : v ≠ u) : QTwo u n (qget a v) (qget b v) :=
  ⟨h.ha.got v hv, h.hb.got v hv, by rw [(get_strip a v hv).1, (get_strip b v hv).1, h.rel, oth_get u v hu], got_get a v hv hne h.got⟩
theorem QTwo.ends (h : QTwo u n a b) {v : Int} (back : Bool) (hu : 0 ≤ u) (hv : 0 ≤ v) (hne : v ≠ u) : QTwo u n (qends a v back) (qends b v back) :=
  ⟨h.ha.ends v back, h.hb.ends v back, by rw [ends_strip a v back hv, ends_strip b v back hv, h.rel, oth_ends u v back hu hv hne], by
    unfold qends
    rw [if_neg (by omega)]
    intro e he
    obtain ⟨e', h1, rfl⟩ := List.mem_map.1 he
    have := h.got e' (List.mem_filter.1 h1).1
    unfold freeIt; dsimp only
    split <;> omega⟩
/-- at last -/
theorem QTwo.last (h : QTwo u n a b) (hu : 0 ≤ u) : qthere (qends a u true) = qthere b ∧ qkept (qends a u true) = qkept b ∧ (qends a u true).l.length = b.l.length := by
  have e : (qends a u true).l.map strip = b.l.map strip := by
    rw [ends_strip a u true hu, h.rel]
    unfold ends3 oth
    have h1 : (a.l.map strip).filter (fun e => !endB u true e) = (a.l.map strip).filter fun e => !decide (e.put = u) := List.filter_congr fun e _ => by unfold endB; simp
    rw [h1]
    have h2 : ∀ l : List It, (∀ e ∈ l, e.got ≠ u ∧ e.put ≠ u) → l.map (freeIt u) = l := fun l hl => by
      refine (List.map_congr_left fun e he => ?_).trans (List.map_id l)
      have := hl e he
      unfold freeIt; simp [this]
    refine h2 _ fun e he => ?_
    obtain ⟨h3, h4⟩ := List.mem_filter.1 he
    obtain ⟨e', h5, rfl⟩ := List.mem_map.1 h3
    refine ⟨h.got e' h5, by simpa using h4⟩
  refine ⟨by rw [there_strip, there_strip, e], by rw [kept_strip, kept_strip, e], ?_⟩
  have := congrArg List.length e
  simpa using this
end
end WB
namespace WB
/-! the last: each is got once, those of one priority as they came -/
structure QTail (l : List It) (g : List (Int × Go.Value)) (ls : List Int) : Prop where
  ord : l.Pairwise Ord
  ids : ∀ e ∈ l, 0 ≤ e.m.id ∧ e.m.id < 1000
  pris : ∀ e ∈ l, 0 ≤ e.m.pri ∧ e.m.pri ≤ 9
  len : ls.length = 10
  fresh : ∀ e ∈ l, availB e = true → getK g e.m.id = none ∧ ls.getD e.m.pri.toNat 0 ≤ e.m.id
theorem mem_erase_later {l : List It} {k : Nat} (h : l.findIdx? availB = some k) {e : It} (he : e ∈ l.eraseIdx k) (ha : availB e = true) : ∃ j, k < j ∧ l[j]? = some e := by
  obtain ⟨i, hne, hi⟩ := List.mem_eraseIdx_iff_getElem?.1 he
  refine ⟨i, ?_, hi⟩
  rcases Nat.lt_trichotomy i k with hlt | rfl | hlt
  · obtain ⟨hk, _, h3⟩ := List.findIdx?_eq_some_iff_getElem.1 h
    obtain ⟨hil, rfl⟩ := List.getElem?_eq_some_iff.1 hi
    have := h3 i hlt
    simp [ha] at this
  · exact absurd rfl hne
  · exact hlt
theorem QTail.step {l : List It} {g : List (Int × Go.Value)} {ls : List Int} (h : QTail l g ls) {k : Nat} {e0 : It} (hk : l.findIdx? availB = some k) (he : l[k]? = some e0) (v : Go.Value) :
    QTail (l.eraseIdx k) (putK g e0.m.id v) (ls.set e0.m.pri.toNat (e0.m.id + 1)) := by
  have hs : (l.eraseIdx k).Sublist l := List.eraseIdx_sublist l k
  have h0 := h.pris e0 (List.mem_of_getElem? he)
  refine ⟨h.ord.sublist hs, fun e h1 => h.ids e (hs.subset h1), fun e h1 => h.pris e (hs.subset h1), by simp [h.len], fun e h1 ha => ?_⟩
  obtain ⟨j, hj, hje⟩ := mem_erase_later hk h1 ha
  obtain ⟨hk1, rfl⟩ := List.getElem?_eq_some_iff.1 he
  obtain ⟨hj1, rfl⟩ := List.getElem?_eq_some_iff.1 hje
  have ho := List.pairwise_iff_getElem.1 h.ord k j hk1 hj1 hj
  obtain ⟨f1, f2⟩ := h.fresh _ (hs.subset h1) ha
  have hp := h.pris _ (hs.subset h1)
  refine ⟨by rw [getK_putK, if_neg ho.1]; exact f1, ?_⟩
  rw [List.getD_eq_getElem?_getD, List.getElem?_set]
  by_cases hpe : l[k].m.pri = l[j].m.pri
  · have hlt : l[k].m.id < l[j].m.id := by have := ho.2; omega
    rw [hpe, if_pos rfl, if_pos (by rw [h.len]; omega)]
    simp; omega
  · rw [if_neg (by omega), ← List.getD_eq_getElem?_getD]
    exact f2
theorem QTail.start {n : Int} {q : Qu} (h : QIn n q) (hn : n ≤ 1000) : QTail q.l [] (List.replicate 10 0) := by
  refine ⟨h.ord, fun e he => by have := h.ids e he; omega, h.pris, rfl, fun e he _ => ⟨rfl, ?_⟩⟩
  have h1 := h.ids e he
  have h2 := h.pris e he
  rw [List.getD_eq_getElem?_getD, List.getElem?_replicate, if_pos (by omega)]
  simp; omega
end WB
