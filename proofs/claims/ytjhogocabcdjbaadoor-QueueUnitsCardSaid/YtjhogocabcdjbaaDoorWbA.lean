/- A STATE OF THE HEAP, TOLD BY PARTS: 'St w0 L w': below w0's last block the world w is as w0; above it there lie, apart from each other, the parts of the list L. -/
import Derived.WalkKit
set_option linter.unusedSimpArgs false
set_option linter.unusedVariables false
namespace WB
open Go Go.RowKit

abbrev PH := Nat → Option Obj
def HP := PH → Prop

def Disj (h1 h2 : PH) : Prop := ∀ k, h1 k = none ∨ h2 k = none
def uni (h1 h2 : PH) : PH := fun k => (h1 k).or (h2 k)

def emp : HP := fun h => ∀ k, h k = none
def sep (A B : HP) : HP := fun h => ∃ h1 h2, Disj h1 h2 ∧ h = uni h1 h2 ∧ A h1 ∧ B h2
def blk (b : Nat) (o : Obj) : HP := fun h => h b = some o ∧ ∀ k, k ≠ b → h k = none
def pur (p : Prop) : HP := fun h => p ∧ emp h
def ex {α : Sort _} (A : α → HP) : HP := fun h => ∃ x, A x h

def seps : List HP → HP
  | [] => emp
  | a :: l => sep a (seps l)

/-- The world w is w0 below w0's last block; above it the parts of L lie apart. -/
structure St (w0 : World) (L : List HP) (w : World) : Prop where
  os : w.os = w0.os
  tape : w.tape = w0.tape
  output : w.output = w0.output
  size : w0.heap.size ≤ w.heap.size
  block : ∀ k, k < w0.heap.size → w.heap[k]? = w0.heap[k]?
  own : ∃ h : PH, (∀ k o, h k = some o → w0.heap.size ≤ k ∧ w.heap[k]? = some o) ∧ seps L h

inductive Pick : List HP → HP → List HP → Prop
  | head {a : HP} {L : List HP} : Pick (a :: L) a L
  | tail {x a : HP} {L R : List HP} : Pick L a R → Pick (x :: L) a (x :: R)

theorem uni_comm {h1 h2 : PH} (d : Disj h1 h2) : uni h1 h2 = uni h2 h1 := by
  funext k; unfold uni
  rcases d k with h | h <;> simp [h] 
theorem Disj.symm {h1 h2 : PH} (d : Disj h1 h2) : Disj h2 h1 := fun k => (d k).symm
theorem uni_assoc (h1 h2 h3 : PH) : uni (uni h1 h2) h3 = uni h1 (uni h2 h3) := by
  funext k; unfold uni; cases h1 k <;> simp
theorem disj_uni {h1 h2 h3 : PH} : Disj (uni h1 h2) h3 ↔ Disj h1 h3 ∧ Disj h2 h3 := by
  constructor
  · intro d
    constructor <;> intro k <;> have := d k <;> simp [uni] at this <;> rcases this with h | h <;> simp [h]
  · rintro ⟨d1, d2⟩ k
    rcases d1 k with h | h
    · rcases d2 k with h' | h'
      · left; simp [uni, h, h']
      · right; exact h'
    · right; exact h
theorem disj_uni' {h1 h2 h3 : PH} : Disj h3 (uni h1 h2) ↔ Disj h3 h1 ∧ Disj h3 h2 := by
  constructor
  · intro d; exact ⟨(disj_uni.1 d.symm).1.symm, (disj_uni.1 d.symm).2.symm⟩
  · rintro ⟨a, b⟩; exact (disj_uni.2 ⟨a.symm, b.symm⟩).symm
theorem sep_comm {A B : HP} {h : PH} (H : sep A B h) : sep B A h := by
  obtain ⟨h1, h2, d, rfl, a, b⟩ := H
  exact ⟨h2, h1, d.symm, uni_comm d, b, a⟩
theorem sep_assoc {A B C : HP} {h : PH} : sep (sep A B) C h ↔ sep A (sep B C) h := by
  constructor
  · rintro ⟨h12, h3, d, rfl, ⟨h1, h2, d', rfl, a, b⟩, c⟩
    rw [disj_uni] at d
    exact ⟨h1, uni h2 h3, disj_uni'.2 ⟨d', d.1⟩, uni_assoc _ _ _, a, h2, h3, d.2, rfl, b, c⟩
  · rintro ⟨h1, h23, d, rfl, a, h2, h3, d', rfl, b, c⟩
    rw [disj_uni'] at d
    exact ⟨uni h1 h2, h3, disj_uni.2 ⟨d.2, d'⟩, (uni_assoc _ _ _).symm, ⟨h1, h2, d.1, rfl, a, b⟩, c⟩
theorem sep_mono {A A' B B' : HP} (ha : ∀ h, A h → A' h) (hb : ∀ h, B h → B' h) {h : PH} (H : sep A B h) : sep A' B' h := by
  obtain ⟨h1, h2, d, e, a, b⟩ := H
  exact ⟨h1, h2, d, e, ha _ a, hb _ b⟩
theorem sep_left {A B C : HP} {h : PH} (H : sep A (sep B C) h) : sep B (sep A C) h := by
  have := sep_assoc.2 H
  exact sep_assoc.1 (sep_mono (fun _ x => sep_comm x) (fun _ x => x) this)
theorem uni_emp {h1 h2 : PH} (e : ∀ k, h1 k = none) : uni h1 h2 = h2 := by
  funext k; simp [uni, e]
theorem emp_sep {A : HP} {h : PH} : sep emp A h ↔ A h := by
  constructor
  · rintro ⟨h1, h2, d, rfl, e, a⟩
    rwa [uni_emp e]
  · intro a
    exact ⟨fun _ => none, h, fun k => .inl rfl, (uni_emp (fun _ => rfl)).symm, fun _ => rfl, a⟩
theorem seps_append {L L' : List HP} {h : PH} : seps (L ++ L') h ↔ sep (seps L) (seps L') h := by
  induction L generalizing h with
  | nil => simp only [List.nil_append, seps]; exact emp_sep.symm
  | cons a L ih =>
    simp only [List.cons_append, seps]
    constructor
    · intro H
      exact sep_assoc.2 (sep_mono (fun _ x => x) (fun _ x => ih.1 x) H)
    · intro H
      exact sep_mono (fun _ x => x) (fun _ x => ih.2 x) (sep_assoc.1 H)
theorem Pick.seps {L R : List HP} {a : HP} (p : Pick L a R) {h : PH} (H : WB.seps L h) : WB.seps (a :: R) h := by
  induction p generalizing h with
  | head => exact H
  | tail _ ih => exact sep_left (sep_mono (fun _ x => x) (fun _ x => ih x) H)
theorem Pick.unseps {L R : List HP} {a : HP} (p : Pick L a R) {h : PH} (H : WB.seps (a :: R) h) : WB.seps L h := by
  induction p generalizing h with
  | head => exact H
  | tail _ ih => exact sep_mono (fun _ x => x) (fun _ x => ih x) (sep_left H)

namespace St
variable {w0 w : World} {L L' R : List HP} {A B : HP}

theorem mapOwn (h : St w0 L w) (f : ∀ x, seps L x → seps L' x) : St w0 L' w :=
  { h with own := let ⟨x, a, b⟩ := h.own; ⟨x, a, f x b⟩ }
theorem pick (h : St w0 L w) (p : Pick L A R) : St w0 (A :: R) w := h.mapOwn fun _ => p.seps
theorem unpick (h : St w0 (A :: R) w) (p : Pick L A R) : St w0 L w := h.mapOwn fun _ => p.unseps
theorem imp (h : St w0 (A :: L) w) (f : ∀ x, A x → B x) : St w0 (B :: L) w := h.mapOwn fun _ => sep_mono f fun _ x => x
theorem drop (h : St w0 (A :: L) w) : St w0 L w := by
  obtain ⟨x, hx, h1, h2, d, rfl, a, b⟩ := h.own
  refine { h with own := ⟨h2, fun k o hk => hx k o ?_, b⟩ }
  rcases d k with e | e
  · simp [uni, e, hk]
  · simp [hk] at e
theorem split (h : St w0 (sep A B :: L) w) : St w0 (A :: B :: L) w := h.mapOwn fun _ x => sep_assoc.1 x
theorem join (h : St w0 (A :: B :: L) w) : St w0 (sep A B :: L) w := h.mapOwn fun _ x => sep_assoc.2 x
theorem splits (h : St w0 (seps L :: L') w) : St w0 (L ++ L') w := h.mapOwn fun _ x => seps_append.2 x
theorem joins (h : St w0 (L ++ L') w) : St w0 (seps L :: L') w := h.mapOwn fun _ x => seps_append.1 x
theorem exs {α : Sort _} {F : α → HP} (h : St w0 (ex F :: L) w) : ∃ x, St w0 (F x :: L) w := by
  obtain ⟨x, hx, h1, h2, d, e, ⟨y, a⟩, b⟩ := h.own
  exact ⟨y, { h with own := ⟨x, hx, h1, h2, d, e, a, b⟩ }⟩
theorem exi {α : Sort _} {F : α → HP} (y : α) (h : St w0 (F y :: L) w) : St w0 (ex F :: L) w := h.imp fun _ x => ⟨y, x⟩
theorem purs {p : Prop} (h : St w0 (pur p :: L) w) : p ∧ St w0 L w := by
  refine ⟨?_, h.drop⟩
  obtain ⟨x, hx, h1, h2, d, e, a, b⟩ := h.own
  exact a.1
theorem puri {p : Prop} (hp : p) (h : St w0 L w) : St w0 (pur p :: L) w :=
  h.mapOwn fun _ x => sep_mono (fun _ e => ⟨hp, e⟩) (fun _ x => x) (emp_sep.2 x)
theorem empi (h : St w0 L w) : St w0 (emp :: L) w := h.mapOwn fun _ x => emp_sep.2 x
theorem look {b : Nat} {o : Obj} (h : St w0 (blk b o :: L) w) : w0.heap.size ≤ b ∧ w.heap[b]? = some o := by
  obtain ⟨x, hx, h1, h2, d, rfl, a, _⟩ := h.own
  exact hx b o (by simp [uni, a.1])
theorem lookP {b : Nat} {o : Obj} (h : St w0 L w) (p : Pick L (blk b o) R) : w0.heap.size ≤ b ∧ w.heap[b]? = some o := (h.pick p).look
theorem lt {b : Nat} {o : Obj} (h : St w0 (blk b o :: L) w) : b < w.heap.size := by
  have := h.look.2
  exact (Array.getElem?_eq_some_iff.1 this).1
theorem ne {b b' : Nat} {o o' : Obj} (h : St w0 (blk b o :: blk b' o' :: L) w) : b ≠ b' := by
  rintro rfl
  obtain ⟨x, hx, h1, h2, d, rfl, a, h3, h4, d', rfl, a', _⟩ := h.own
  have := d b
  simp [a.1, uni, a'.1] at this
theorem init (w0 : World) : St w0 [] w0 := ⟨rfl, rfl, rfl, Nat.le_refl _, fun _ _ => rfl, ⟨fun _ => none, fun _ _ h => by simp at h, fun _ => rfl⟩⟩
theorem below (h : St w0 L w) : Below w0.heap.size w0 w := ⟨h.os, h.tape, h.output, h.size, h.block⟩
theorem drew (h : St w0 L w) : St w0 L w.drew := ⟨h.os, h.tape, h.output, h.size, h.block, h.own⟩

/-- One block of the parts is turned. -/
theorem upd {b : Nat} {o o' : Obj} {w' : World} (h : St w0 (blk b o :: L) w) (e1 : w'.os = w.os) (e2 : w'.tape = w.tape) (e3 : w'.output = w.output)
    (e4 : w'.heap.size = w.heap.size) (e5 : w'.heap[b]? = some o') (e6 : ∀ k, k ≠ b → w'.heap[k]? = w.heap[k]?) : St w0 (blk b o' :: L) w' := by
  obtain ⟨hb, _⟩ := h.look
  obtain ⟨x, hx, h1, h2, d, rfl, a, c⟩ := h.own
  refine ⟨e1.trans h.os, e2.trans h.tape, e3.trans h.output, by rw [e4]; exact h.size, fun k hk => by rw [e6 k (by omega)]; exact h.block k hk, ?_⟩
  refine ⟨uni (fun k => if k = b then some o' else none) h2, fun k v hk => ?_, _, h2, ?_, rfl, ?_, c⟩
  · by_cases e : k = b
    · subst e
      simp [uni] at hk
      subst hk
      exact ⟨hb, e5⟩
    · simp [uni, e] at hk
      rw [e6 k e]
      exact hx k v (by simp [uni, hk, a.2 k e])
  · intro k
    by_cases e : k = b
    · subst e
      have := d k
      simp [a.1] at this
      exact .inr this
    · exact .inl (by simp [e])
  · exact ⟨by simp, fun k hk => by simp [hk]⟩
theorem alloc (h : St w0 L w) (o : Obj) : St w0 (blk w.heap.size o :: L) (w.alloc o) := by
  obtain ⟨x, hx, c⟩ := h.own
  have hnone : ∀ k, w.heap.size ≤ k → x k = none := fun k hk => by
    cases e : x k with
    | none => rfl
    | some v => have := (hx k v e).2; rw [Array.getElem?_eq_none hk] at this; simp at this
  refine ⟨h.os, h.tape, h.output, by simp; have := h.size; omega, fun k hk => ?_, ?_⟩
  · rw [Below.heap_alloc _ _ _ (by have := h.size; omega)]; exact h.block k hk
  · refine ⟨uni (fun k => if k = w.heap.size then some o else none) x, fun k v hk => ?_, _, x, ?_, rfl, ?_, c⟩
    · by_cases e : k = w.heap.size
      · subst e
        simp [uni] at hk
        subst hk
        exact ⟨h.size, by show (w.heap.push o)[w.heap.size]? = _; simp⟩
      · simp [uni, e] at hk
        have := hx k v hk
        refine ⟨this.1, ?_⟩
        rw [Below.heap_alloc _ _ _ ?_]
        · exact this.2
        · exact (Array.getElem?_eq_some_iff.1 this.2).1
    · intro k
      by_cases e : k = w.heap.size
      · exact .inr (hnone k (by omega))
      · exact .inl (by simp [e])
    · exact ⟨by simp, fun k hk => by simp [hk]⟩
theorem setCell {b off : Nat} {c : Array Value} {T : TypeId} {fz : Nat × Nat} (h : St w0 (blk b (.cells c T fz) :: L) w) (v : Value) :
    St w0 (blk b (.cells (c.setIfInBounds off v) T fz) :: L) (w.setCell ⟨b, off, none⟩ v) := by
  refine h.upd rfl rfl rfl (by simp [World.setCell]) ?_ fun k hk => Below.heap_setCell _ _ _ _ hk
  simp [World.setCell, Array.getElem?_modify, h.look.2]
end St
end WB
