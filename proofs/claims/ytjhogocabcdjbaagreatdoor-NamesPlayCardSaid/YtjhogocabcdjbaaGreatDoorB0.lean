import Derived.WalkKit
import Derived.Laws.CopyOwn
import Derived.Lib.Hide
import Derived.Lib.Bytealg
import Derived.Lib.SlTrimSet
import Derived.Test.YtjhogocabcdjbaaGreatDoorShelf
import Derived.Shelf.Strings.SlTrimAscii
import Derived.LaidEql
import Derived.Stop.Asserts
import Derived.RowKitTokens
import Derived.Lib.Overlaps
import Derived.Lib.AppendZeros
import Derived.Maps.OwnOps
import Derived.LoopN
set_option linter.unusedSimpArgs false
set_option linter.unusedVariables false
/- A STATE OF THE HEAP, TOLD BY PARTS: 'St w0 L w': below w0's last block the world w is as w0; above it there lie, apart from each other, the parts of the list L. -/
namespace WB
open Go Go.RowKit

abbrev PH := Nat → Option Obj
def HP := PH → Prop

def Disj (h1 h2 : PH) : Prop := ∀ k, h1 k = none ∨ h2 k = none
def uni (h1 h2 : PH) : PH := fun k => (h1 k).or (h2 k)

def emp : HP := fun h => ∀ k, h k = none
def sep (A B : HP) : HP := fun h => ∃ h1 h2, Disj h1 h2 ∧ h = uni h1 h2 ∧ A h1 ∧ B h2
def blk (b : Nat) (o : Obj) : HP := fun h => h b = some o ∧ ∀ k, k ≠ b → h k = none
def pur (p : Prop) : HP := fun h => p ∧ emp h
def ex {α : Sort _} (A : α → HP) : HP := fun h => ∃ x, A x h

def seps : List HP → HP
  | [] => emp
  | a :: l => sep a (seps l)

/-- The world w is w0 below w0's last block; above it the parts of L lie apart. -/
structure St (w0 : World) (L : List HP) (w : World) : Prop where
  os : w.os = w0.os
  tape : w.tape = w0.tape
  output : w.output = w0.output
  size : w0.heap.size ≤ w.heap.size
  block : ∀ k, k < w0.heap.size → w.heap[k]? = w0.heap[k]?
  own : ∃ h : PH, (∀ k o, h k = some o → w0.heap.size ≤ k ∧ w.heap[k]? = some o) ∧ seps L h

inductive Pick : List HP → HP → List HP → Prop
  | head {a : HP} {L : List HP} : Pick (a :: L) a L
  | tail {x a : HP} {L R : List HP} : Pick L a R → Pick (x :: L) a (x :: R)

theorem uni_comm {h1 h2 : PH} (d : Disj h1 h2) : uni h1 h2 = uni h2 h1 := by
  funext k; unfold uni
  rcases d k with h | h <;> simp [h] 
theorem Disj.symm {h1 h2 : PH} (d : Disj h1 h2) : Disj h2 h1 := fun k => (d k).symm
theorem uni_assoc (h1 h2 h3 : PH) : uni (uni h1 h2) h3 = uni h1 (uni h2 h3) := by
  funext k; unfold uni; cases h1 k <;> simp
theorem disj_uni {h1 h2 h3 : PH} : Disj (uni h1 h2) h3 ↔ Disj h1 h3 ∧ Disj h2 h3 := by
  constructor
  · intro d
    constructor <;> intro k <;> have := d k <;> simp [uni] at this <;> rcases this with h | h <;> simp [h]
  · rintro ⟨d1, d2⟩ k
    rcases d1 k with h | h
    · rcases d2 k with h' | h'
      · left; simp [uni, h, h']
      · right; exact h'
    · right; exact h
theorem disj_uni' {h1 h2 h3 : PH} : Disj h3 (uni h1 h2) ↔ Disj h3 h1 ∧ Disj h3 h2 := by
  constructor
  · intro d; exact ⟨(disj_uni.1 d.symm).1.symm, (disj_uni.1 d.symm).2.symm⟩
  · rintro ⟨a, b⟩; exact (disj_uni.2 ⟨a.symm, b.symm⟩).symm
theorem sep_comm {A B : HP} {h : PH} (H : sep A B h) : sep B A h := by
  obtain ⟨h1, h2, d, rfl, a, b⟩ := H
  exact ⟨h2, h1, d.symm, uni_comm d, b, a⟩
theorem sep_assoc {A B C : HP} {h : PH} : sep (sep A B) C h ↔ sep A (sep B C) h := by
  constructor
  · rintro ⟨h12, h3, d, rfl, ⟨h1, h2, d', rfl, a, b⟩, c⟩
    rw [disj_uni] at d
    exact ⟨h1, uni h2 h3, disj_uni'.2 ⟨d', d.1⟩, uni_assoc _ _ _, a, h2, h3, d.2, rfl, b, c⟩
  · rintro ⟨h1, h23, d, rfl, a, h2, h3, d', rfl, b, c⟩
    rw [disj_uni'] at d
    exact ⟨uni h1 h2, h3, disj_uni.2 ⟨d.2, d'⟩, (uni_assoc _ _ _).symm, ⟨h1, h2, d.1, rfl, a, b⟩, c⟩
theorem sep_mono {A A' B B' : HP} (ha : ∀ h, A h → A' h) (hb : ∀ h, B h → B' h) {h : PH} (H : sep A B h) : sep A' B' h := by
  obtain ⟨h1, h2, d, e, a, b⟩ := H
  exact ⟨h1, h2, d, e, ha _ a, hb _ b⟩
theorem sep_left {A B C : HP} {h : PH} (H : sep A (sep B C) h) : sep B (sep A C) h := by
  have := sep_assoc.2 H
  exact sep_assoc.1 (sep_mono (fun _ x => sep_comm x) (fun _ x => x) this)
theorem uni_emp {h1 h2 : PH} (e : ∀ k, h1 k = none) : uni h1 h2 = h2 := by
  funext k; simp [uni, e]
theorem emp_sep {A : HP} {h : PH} : sep emp A h ↔ A h := by
  constructor
  · rintro ⟨h1, h2, d, rfl, e, a⟩
    rwa [uni_emp e]
  · intro a
    exact ⟨fun _ => none, h, fun k => .inl rfl, (uni_emp (fun _ => rfl)).symm, fun _ => rfl, a⟩
theorem seps_append {L L' : List HP} {h : PH} : seps (L ++ L') h ↔ sep (seps L) (seps L') h := by
  induction L generalizing h with
  | nil => simp only [List.nil_append, seps]; exact emp_sep.symm
  | cons a L ih =>
    simp only [List.cons_append, seps]
    constructor
    · intro H
      exact sep_assoc.2 (sep_mono (fun _ x => x) (fun _ x => ih.1 x) H)
    · intro H
      exact sep_mono (fun _ x => x) (fun _ x => ih.2 x) (sep_assoc.1 H)
theorem Pick.seps {L R : List HP} {a : HP} (p : Pick L a R) {h : PH} (H : WB.seps L h) : WB.seps (a :: R) h := by
  induction p generalizing h with
  | head => exact H
  | tail _ ih => exact sep_left (sep_mono (fun _ x => x) (fun _ x => ih x) H)
theorem Pick.unseps {L R : List HP} {a : HP} (p : Pick L a R) {h : PH} (H : WB.seps (a :: R) h) : WB.seps L h := by
  induction p generalizing h with
  | head => exact H
  | tail _ ih => exact sep_mono (fun _ x => x) (fun _ x => ih x) (sep_left H)

namespace St
variable {w0 w : World} {L L' R : List HP} {A B : HP}

theorem mapOwn (h : St w0 L w) (f : ∀ x, seps L x → seps L' x) : St w0 L' w :=
  { h with own := let ⟨x, a, b⟩ := h.own; ⟨x, a, f x b⟩ }
theorem pick (h : St w0 L w) (p : Pick L A R) : St w0 (A :: R) w := h.mapOwn fun _ => p.seps
theorem unpick (h : St w0 (A :: R) w) (p : Pick L A R) : St w0 L w := h.mapOwn fun _ => p.unseps
theorem imp (h : St w0 (A :: L) w) (f : ∀ x, A x → B x) : St w0 (B :: L) w := h.mapOwn fun _ => sep_mono f fun _ x => x
theorem drop (h : St w0 (A :: L) w) : St w0 L w := by
  obtain ⟨x, hx, h1, h2, d, rfl, a, b⟩ := h.own
  refine { h with own := ⟨h2, fun k o hk => hx k o ?_, b⟩ }
  rcases d k with e | e
  · simp [uni, e, hk]
  · simp [hk] at e
theorem split (h : St w0 (sep A B :: L) w) : St w0 (A :: B :: L) w := h.mapOwn fun _ x => sep_assoc.1 x
theorem join (h : St w0 (A :: B :: L) w) : St w0 (sep A B :: L) w := h.mapOwn fun _ x => sep_assoc.2 x
theorem splits (h : St w0 (seps L :: L') w) : St w0 (L ++ L') w := h.mapOwn fun _ x => seps_append.2 x
theorem joins (h : St w0 (L ++ L') w) : St w0 (seps L :: L') w := h.mapOwn fun _ x => seps_append.1 x
theorem exs {α : Sort _} {F : α → HP} (h : St w0 (ex F :: L) w) : ∃ x, St w0 (F x :: L) w := by
  obtain ⟨x, hx, h1, h2, d, e, ⟨y, a⟩, b⟩ := h.own
  exact ⟨y, { h with own := ⟨x, hx, h1, h2, d, e, a, b⟩ }⟩
theorem exi {α : Sort _} {F : α → HP} (y : α) (h : St w0 (F y :: L) w) : St w0 (ex F :: L) w := h.imp fun _ x => ⟨y, x⟩
theorem purs {p : Prop} (h : St w0 (pur p :: L) w) : p ∧ St w0 L w := by
  refine ⟨?_, h.drop⟩
  obtain ⟨x, hx, h1, h2, d, e, a, b⟩ := h.own
  exact a.1
theorem puri {p : Prop} (hp : p) (h : St w0 L w) : St w0 (pur p :: L) w :=
  h.mapOwn fun _ x => sep_mono (fun _ e => ⟨hp, e⟩) (fun _ x => x) (emp_sep.2 x)
theorem empi (h : St w0 L w) : St w0 (emp :: L) w := h.mapOwn fun _ x => emp_sep.2 x
theorem look {b : Nat} {o : Obj} (h : St w0 (blk b o :: L) w) : w0.heap.size ≤ b ∧ w.heap[b]? = some o := by
  obtain ⟨x, hx, h1, h2, d, rfl, a, _⟩ := h.own
  exact hx b o (by simp [uni, a.1])
theorem lookP {b : Nat} {o : Obj} (h : St w0 L w) (p : Pick L (blk b o) R) : w0.heap.size ≤ b ∧ w.heap[b]? = some o := (h.pick p).look
theorem lt {b : Nat} {o : Obj} (h : St w0 (blk b o :: L) w) : b < w.heap.size := by
  have := h.look.2
  exact (Array.getElem?_eq_some_iff.1 this).1
theorem ne {b b' : Nat} {o o' : Obj} (h : St w0 (blk b o :: blk b' o' :: L) w) : b ≠ b' := by
  rintro rfl
  obtain ⟨x, hx, h1, h2, d, rfl, a, h3, h4, d', rfl, a', _⟩ := h.own
  have := d b
  simp [a.1, uni, a'.1] at this
theorem init (w0 : World) : St w0 [] w0 := ⟨rfl, rfl, rfl, Nat.le_refl _, fun _ _ => rfl, ⟨fun _ => none, fun _ _ h => by simp at h, fun _ => rfl⟩⟩
theorem below (h : St w0 L w) : Below w0.heap.size w0 w := ⟨h.os, h.tape, h.output, h.size, h.block⟩
theorem drew (h : St w0 L w) : St w0 L w.drew := ⟨h.os, h.tape, h.output, h.size, h.block, h.own⟩

/-- One block of the parts is turned. -/
theorem upd {b : Nat} {o o' : Obj} {w' : World} (h : St w0 (blk b o :: L) w) (e1 : w'.os = w.os) (e2 : w'.tape = w.tape) (e3 : w'.output = w.output)
    (e4 : w'.heap.size = w.heap.size) (e5 : w'.heap[b]? = some o') (e6 : ∀ k, k ≠ b → w'.heap[k]? = w.heap[k]?) : St w0 (blk b o' :: L) w' := by
  obtain ⟨hb, _⟩ := h.look
  obtain ⟨x, hx, h1, h2, d, rfl, a, c⟩ := h.own
  refine ⟨e1.trans h.os, e2.trans h.tape, e3.trans h.output, by rw [e4]; exact h.size, fun k hk => by rw [e6 k (by omega)]; exact h.block k hk, ?_⟩
  refine ⟨uni (fun k => if k = b then some o' else none) h2, fun k v hk => ?_, _, h2, ?_, rfl, ?_, c⟩
  · by_cases e : k = b
    · subst e
      simp [uni] at hk
      subst hk
      exact ⟨hb, e5⟩
    · simp [uni, e] at hk
      rw [e6 k e]
      exact hx k v (by simp [uni, hk, a.2 k e])
  · intro k
    by_cases e : k = b
    · subst e
      have := d k
      simp [a.1] at this
      exact .inr this
    · exact .inl (by simp [e])
  · exact ⟨by simp, fun k hk => by simp [hk]⟩
theorem alloc (h : St w0 L w) (o : Obj) : St w0 (blk w.heap.size o :: L) (w.alloc o) := by
  obtain ⟨x, hx, c⟩ := h.own
  have hnone : ∀ k, w.heap.size ≤ k → x k = none := fun k hk => by
    cases e : x k with
    | none => rfl
    | some v => have := (hx k v e).2; rw [Array.getElem?_eq_none hk] at this; simp at this
  refine ⟨h.os, h.tape, h.output, by simp; have := h.size; omega, fun k hk => ?_, ?_⟩
  · rw [Below.heap_alloc _ _ _ (by have := h.size; omega)]; exact h.block k hk
  · refine ⟨uni (fun k => if k = w.heap.size then some o else none) x, fun k v hk => ?_, _, x, ?_, rfl, ?_, c⟩
    · by_cases e : k = w.heap.size
      · subst e
        simp [uni] at hk
        subst hk
        exact ⟨h.size, by show (w.heap.push o)[w.heap.size]? = _; simp⟩
      · simp [uni, e] at hk
        have := hx k v hk
        refine ⟨this.1, ?_⟩
        rw [Below.heap_alloc _ _ _ ?_]
        · exact this.2
        · exact (Array.getElem?_eq_some_iff.1 this.2).1
    · intro k
      by_cases e : k = w.heap.size
      · exact .inr (hnone k (by omega))
      · exact .inl (by simp [e])
    · exact ⟨by simp, fun k hk => by simp [hk]⟩
theorem setCell {b off : Nat} {c : Array Value} {T : TypeId} {fz : Nat × Nat} (h : St w0 (blk b (.cells c T fz) :: L) w) (v : Value) :
    St w0 (blk b (.cells (c.setIfInBounds off v) T fz) :: L) (w.setCell ⟨b, off, none⟩ v) := by
  refine h.upd rfl rfl rfl (by simp [World.setCell]) ?_ fun k hk => Below.heap_setCell _ _ _ _ hk
  simp [World.setCell, Array.getElem?_modify, h.look.2]
end St
end WB
/- A REGION THAT DRAWS ITS ORDER, WALKED IN ONE ORDER: operations that only reckon or read may be told as early as they can; those that write, or call, stand in one forced order. -/
namespace WB
open Go Go.RowKit

def Edge.always (e : Edge) : Bool := match e.ground with | .textOnly _ => false | .gcOnly _ => false | _ => true
def depsOf (o : Oper) : List Nat := (o.after.toList.filter Edge.always).map (·.on)

/-- every index once, each behind all that it hangs on -/
theorem len_le_of_subset : ∀ (l l' : List Nat), l.Nodup → (∀ x ∈ l, x ∈ l') → l.length ≤ l'.length
  | [], _, _, _ => Nat.zero_le _
  | a :: l, l', hn, h => by
    have ha : a ∈ l' := h a (List.mem_cons_self)
    have := len_le_of_subset l (l'.erase a) (List.nodup_cons.1 hn).2 (fun x hx => by
      have hne : x ≠ a := fun e => (List.nodup_cons.1 hn).1 (e ▸ hx)
      exact (List.mem_erase_of_ne hne).2 (h x (List.mem_cons_of_mem _ hx)))
    rw [List.length_erase_of_mem ha] at this
    have hp : 0 < l'.length := List.length_pos_of_mem ha
    simp only [List.length_cons]; omega

def Valid (ops : Array Oper) (l : List Nat) : Prop :=
  l.Nodup ∧ (∀ i, i ∈ l ↔ i < ops.size) ∧ ∀ p i s, l = p ++ i :: s → ∀ o, ops[i]? = some o → ∀ d ∈ depsOf o, d ∈ p

theorem binds_any (e : Edge) : Region.binds .any e = Edge.always e := by
  unfold Region.binds Edge.always; cases e.ground <;> rfl
theorem linearise_go_valid (m : Region.Mode) (hm : m = .any) (ops : Array Oper) (hlt : ∀ (i : Nat) (o : Oper), ops[i]? = some o → ∀ d ∈ depsOf o, d < i) :
    ∀ (fuel t : Nat) (listed : Array Bool) (acc : List Nat), listed.size = ops.size →
      (∀ i, i < ops.size → (listed.getD i false = true ↔ i ∈ acc)) → (∀ i ∈ acc, i < ops.size) → acc.Nodup → fuel + acc.length = ops.size →
      (∀ p i s, acc.reverse = p ++ i :: s → ∀ o, ops[i]? = some o → ∀ d ∈ depsOf o, d ∈ p) →
      Valid ops (Region.linearise.go m ops fuel t listed acc)
  | 0, t, listed, acc, hs, hl, hr, hn, hf, hv => by
    unfold Region.linearise.go
    refine ⟨(List.reverse_perm acc).nodup_iff.2 hn, fun i => ?_, hv⟩
    rw [List.mem_reverse]
    refine ⟨hr i, fun hi => Classical.byContradiction fun hna => ?_⟩
    have := len_le_of_subset (i :: acc) (List.range ops.size) (List.nodup_cons.2 ⟨hna, hn⟩) (fun x hx => by
      rcases List.mem_cons.1 hx with rfl | hx
      · exact List.mem_range.2 hi
      · exact List.mem_range.2 (hr x hx))
    simp at this; omega
  | fuel + 1, t, listed, acc, hs, hl, hr, hn, hf, hv => by
    unfold Region.linearise.go
    have hex : ∃ i, i < ops.size ∧ i ∉ acc ∧ ∀ j, j < i → j ∈ acc := by
      have hne : ∃ i, i < ops.size ∧ i ∉ acc := by
        refine Classical.byContradiction fun hc => ?_
        have hall : ∀ i, i < ops.size → i ∈ acc := fun i hi => Classical.byContradiction fun h => hc ⟨i, hi, h⟩
        have := len_le_of_subset (List.range ops.size) acc List.nodup_range (fun x hx => hall x (List.mem_range.1 hx))
        simp at this; omega
      obtain ⟨i, hi⟩ := hne
      have : ∀ n, ∀ i, i ≤ n → (i < ops.size ∧ i ∉ acc) → ∃ i, i < ops.size ∧ i ∉ acc ∧ ∀ j, j < i → j ∈ acc := by
        intro n
        induction n with
        | zero => intro i hin hi; exact ⟨i, hi.1, hi.2, fun j hj => by omega⟩
        | succ n ih =>
          intro i hin hi
          by_cases hc : ∃ j, j < i ∧ j ∉ acc
          · obtain ⟨j, hj, hja⟩ := hc
            exact ih j (by omega) ⟨by omega, hja⟩
          · exact ⟨i, hi.1, hi.2, fun j hj => Classical.byContradiction fun h => hc ⟨j, hj, h⟩⟩
      exact this i i (Nat.le_refl _) hi
    have hget : ∀ i, i < ops.size → ∀ b, listed.getD i b = listed.getD i false := by
      intro i hi b
      simp [Array.getD, hs, hi]
    generalize hrs : ((List.range ops.size).filter fun i => !listed.getD i true && ((ops[i]?).map (·.after.all fun e => !Region.binds m e || listed.getD e.on false)).getD false) = rs
    have hmem : ∀ i, i ∈ rs ↔ i < ops.size ∧ i ∉ acc ∧ ∃ o, ops[i]? = some o ∧ (o.after.all fun e => !Region.binds m e || listed.getD e.on false) = true := by
      intro i
      rw [← hrs, List.mem_filter, List.mem_range]
      constructor
      · rintro ⟨hi, h⟩
        simp only [Bool.and_eq_true, Bool.not_eq_true'] at h
        rw [hget i hi] at h
        refine ⟨hi, fun hc => ?_, ops[i], by simp [hi], ?_⟩
        · have := (hl i hi).2 hc; simp [this] at h
        · have h2 := h.2; simp only [Array.getElem?_eq_getElem hi, Option.map_some, Option.getD_some] at h2; exact h2
      · rintro ⟨hi, hna, o, ho, h⟩
        refine ⟨hi, ?_⟩
        rw [hget i hi]
        have : listed.getD i false = false := by
          cases hb : listed.getD i false with
          | false => rfl
          | true => exact absurd ((hl i hi).1 hb) hna
        simp only [this, ho, Option.map_some, Option.getD_some, h, Bool.not_false, Bool.and_self]
    have hpos : rs ≠ [] := by
      obtain ⟨i, hi, hna, hall⟩ := hex
      have : i ∈ rs := (hmem i).2 ⟨hi, hna, ops[i], by simp [hi], by
        rw [Array.all_eq_true']
        intro e he
        cases hb : Region.binds m e with
        | false => simp
        | true =>
          rw [hm, binds_any] at hb
          have hlt' := hlt i ops[i] (by simp [hi]) e.on (List.mem_map.2 ⟨e, List.mem_filter.2 ⟨Array.mem_toList_iff.2 he, hb⟩, rfl⟩)
          have : listed.getD e.on false = true := (hl e.on (by omega)).2 (hall _ hlt')
          simp [this]⟩
      intro h; rw [h] at this; simp at this
    have hlen : 0 < rs.length := List.length_pos_iff.2 hpos
    have hmod : t % rs.length < rs.length := Nat.mod_lt _ hlen
    have hsome : rs[t % rs.length]? = some (rs[t % rs.length]'hmod) := List.getElem?_eq_getElem hmod
    simp only [hsome]
    have hin := (hmem (rs[t % rs.length]'hmod)).1 (List.getElem_mem _)
    generalize (rs[t % rs.length]'hmod) = i at hin ⊢
    obtain ⟨hi, hna, o, ho, hall⟩ := hin
    refine linearise_go_valid m hm ops hlt fuel _ _ _ (by simp [hs]) ?_ ?_ (List.nodup_cons.2 ⟨hna, hn⟩) (by simp; omega) ?_
    · intro k hk
      by_cases e : k = i
      · subst e; simp [Array.getD, hs, hi]
      · have h2 : (listed.setIfInBounds i true).getD k false = listed.getD k false := by
          simp [Array.getD, hs, hk, Ne.symm e]
        rw [h2, hl k hk]
        simp [e]
    · intro k hk
      rcases List.mem_cons.1 hk with rfl | hk
      · exact hi
      · exact hr k hk
    · intro p j s hp o' ho' d hd
      rw [List.reverse_cons] at hp
      rcases List.eq_nil_or_concat s with rfl | ⟨s', x, rfl⟩
      · have h2 := List.append_inj' hp rfl
        have hij : i = j := by simpa using h2.2
        subst hij
        rw [← h2.1, List.mem_reverse]
        rw [ho] at ho'; cases ho'
        obtain ⟨e, he, rfl⟩ := List.mem_map.1 hd
        obtain ⟨he1, he2⟩ := List.mem_filter.1 he
        rw [Array.all_eq_true'] at hall
        have h3 := hall e (Array.mem_toList_iff.1 he1)
        have hb : Region.binds m e = true := by
          unfold Edge.always at he2; unfold Region.binds; cases hg : e.ground <;> simp_all
        simp [hb] at h3
        exact (hl _ (by have := hlt i o ho e.on (List.mem_map.2 ⟨e, List.mem_filter.2 ⟨he1, he2⟩, rfl⟩); omega)).1 (by rw [Array.getD_eq_getD_getElem?]; exact h3)
      · have : acc.reverse ++ [i] = (p ++ j :: s') ++ [x] := by simpa [List.concat_eq_append] using hp
        have h2 := List.append_inj' this rfl
        exact hv p j s' h2.1 o' ho' d hd

theorem schedule_valid (mixed : Bool) (hmix : mixed = true) (ops : Array Oper) (t : Nat) (hlt : ∀ (i : Nat) (o : Oper), ops[i]? = some o → ∀ d ∈ depsOf o, d < i) :
    Valid ops (Region.schedule mixed ops t) := by
  have : Valid ops (Region.linearise .any ops t) := by
    unfold Region.linearise
    refine linearise_go_valid _ rfl ops hlt _ _ _ _ (by simp) ?_ (by simp) List.nodup_nil (by simp) ?_
    · intro i hi; simp [Array.getD, hi]
    · intro p i s h; simp at h
  unfold Region.schedule
  rw [hmix, Bool.true_or, if_pos rfl]
  exact this
end WB
namespace WB
open Go Go.RowKit

inductive Kd | pure | read | same | keep | write
  deriving DecidableEq
def Kd.light : Kd → Bool | .pure | .read | .same => true | _ => false

def Ext (w w' : World) : Prop := w.heap.size ≤ w'.heap.size ∧ ∀ k, k < w.heap.size → w'.heap[k]? = w.heap[k]?
theorem Ext.refl (w : World) : Ext w w := ⟨Nat.le_refl _, fun _ _ => rfl⟩
theorem Ext.trans {a b c : World} (h : Ext a b) (k : Ext b c) : Ext a c := ⟨Nat.le_trans h.1 k.1, fun i hi => (k.2 i (Nat.lt_of_lt_of_le hi h.1)).trans (h.2 i hi)⟩
theorem Ext.of_below {w w' : World} (h : Below w.heap.size w w') : Ext w w' := ⟨h.size, h.block⟩
theorem Ext.drew (w : World) : Ext w w.drew := ⟨Nat.le_refl _, fun _ _ => rfl⟩
theorem Ext.cell {w w' : World} (h : Ext w w') {a : Addr} {v : Value} (hc : w.cell? a = some v) : w'.cell? a = some v := by
  have hb : a.block < w.heap.size := by
    unfold World.cell? at hc
    split at hc
    · rename_i e; exact (Array.getElem?_eq_some_iff.1 e).1
    · simp at hc
  rw [← hc]; exact World.cell?_of_block (h.2 _ hb)

def stays (k : Kd) (w w' : World) : Prop := match k with | .pure => True | .read => Ext w w' | _ => w' = w

/-- What an operation gives, and leaves the world as it was: of itself, or by a call. -/
def Gives (P : Program) (m : Sem Next) (v : Value) (w : World) : Prop :=
  m.run P w = .ok (.value v) w ∨ ∃ f args, m.run P w = .ok (.enter f args) w ∧ Calls P f args w fun e w' => e = .returned v ∧ w' = w
/-- The region walked in one order. -/
def vcL (P : Program) (ops : Array Oper) (Q : Exit → Act → World → Prop) : List (Kd × Oper) → Act → World → Prop
  | [], a, w => Q .normal a w
  | (k, o) :: rest, a, w =>
    if Region.wanted o (yielded ops a.tmps) then
      match k with
      | .keep => o.wp P a w (fun a' w' => Ext w w' ∧ vcL P ops Q rest a' w') (fun _ _ _ => False)
      | .write => o.wp P a w (fun a' w' => vcL P ops Q rest a' w') (fun _ _ _ => False)
      | k => ∃ v, (∀ w', stays k w w' → Gives P (execOp a.eval o) v w') ∧ vcL P ops Q rest (a.put o.dst v) w
    else vcL P ops Q rest (a.put o.dst undef) w

/-! What an operation reads. -/
def tmpOf : Operand → List Nat | .tmp t => [t] | _ => []
def readsOf (ops : Array Oper) (o : Oper) : List Nat :=
  o.op.operands.toList.flatMap tmpOf ++ (match o.guard with | some (j, _) => ((ops[j]?).bind (·.dst)).toList | none => [])

theorem eval_put {a : Act} {d : Option Tmp} {v : Value} {x : Operand} (h : ∀ t, d = some t → t ∉ tmpOf x) : (a.put d v).eval x = a.eval x := by
  cases d with
  | none => rfl
  | some t =>
    cases x with
    | tmp u =>
      have : t ≠ u := by have := h t rfl; simpa [tmpOf] using this
      simp [Act.put, Act.eval, Array.getD_eq_getD_getElem?, this]
    | _ => rfl

def plainOp : Op → Bool | .select .. | .defer _ | .go _ => false | _ => true
theorem execOp_congr {ρ ρ' : Operand → Value} {o : Oper} (hp : plainOp o.op = true) (h : ∀ x ∈ o.op.operands.toList, ρ x = ρ' x) : execOp ρ o = execOp ρ' o := by
  have mapc : ∀ (xs : Array Operand), (∀ x ∈ xs.toList, ρ x = ρ' x) → xs.map ρ = xs.map ρ' := fun xs hx =>
    Array.map_congr_left fun x hx' => hx x (Array.mem_toList_iff.2 hx')
  have mapp : ∀ (ps : Array (Nat × Operand)), (∀ x ∈ ps.toList.map (·.2), ρ x = ρ' x) → ps.map (fun (i, x) => (i, ρ x)) = ps.map (fun (i, x) => (i, ρ' x)) := fun ps hx =>
    Array.map_congr_left fun p hp => by
      have := hx p.2 (List.mem_map.2 ⟨p, Array.mem_toList_iff.2 hp, rfl⟩)
      simp [this]
  have mapo : ∀ (x : Option Operand), (∀ y, x = some y → ρ y = ρ' y) → x.map ρ = x.map ρ' := fun x hx => by
    cases x with
    | none => rfl
    | some y => simp [hx y rfl]
  have callc : ∀ (c : Call) (t : TypeId), (∀ x ∈ c.operands.toList, ρ x = ρ' x) → resolve ρ c t = resolve ρ' c t := fun c t hx => by
    have ha : c.args.map ρ = c.args.map ρ' := mapc _ fun x hx' => hx x (by simp [Call.operands, Array.mem_toList_iff.1 hx'])
    unfold resolve
    cases hc : c.callee with
    | value f => simp only [ha]; rw [hx f (by simp [Call.operands, hc])]
    | invoke r m => simp only [ha]; rw [hx r (by simp [Call.operands, hc])]
    | builtin b => simp only [ha]
  rcases o with ⟨dst, op, ty, pos, after, guard⟩
  unfold execOp
  cases op with
  | build t ps => simp only [Op.operands] at h ⊢; rw [mapp ps (fun x hx => h x (by simpa using hx))]
  | buildSlice t n ps => simp only [Op.operands] at h ⊢; rw [mapp ps (fun x hx => h x (by simpa using hx))]
  | makeFunc f xs ys =>
    simp only [Op.operands, Array.toList_append, List.mem_append] at h ⊢
    rw [mapc xs (fun x hx => h x (.inl hx)), mapc ys (fun x hx => h x (.inr hx))]
  | makeMap t r => simp only [Op.operands] at h ⊢; rw [mapo r (fun y hy => h y (by simp [hy]))]
  | slice t x l hi m =>
    simp only [Op.operands] at h ⊢
    rw [h x (by simp), mapo l (fun y hy => h y (by simp [hy])), mapo hi (fun y hy => h y (by simp [hy])), mapo m (fun y hy => h y (by simp [hy]))]
  | call c => simp only [Op.operands] at h ⊢; rw [callc c _ h]
  | go c => simp only [Op.operands] at h ⊢; rw [callc c _ h]
  | defer c => simp only [Op.operands] at h ⊢; rw [callc c _ h]
  | select cs bl => simp [plainOp] at hp
  | alloc => rfl
  | ready => rfl
  | waits => rfl
  | _ => simp [Op.operands] at h ⊢ <;> simp [h]
theorem put_comm {a : Act} {d e : Option Tmp} {v u : Value} (h : ∀ x, d = some x → e ≠ some x) : (a.put d v).put e u = (a.put e u).put d v := by
  cases d with
  | none => rfl
  | some x =>
    cases e with
    | none => rfl
    | some y =>
      have hne : x ≠ y := fun e => h x rfl (by rw [e])
      simp only [Act.put]
      rw [Array.setIfInBounds_comm _ _ hne]

theorem wanted_put {ops : Array Oper} {o : Oper} {tm : Array Value} {d : Option Tmp} {v : Value} {df : List Deferred} (h : ∀ t, d = some t → t ∉ readsOf ops o) :
    Region.wanted o (yielded ops (({ tmps := tm, defers := df } : Act).put d v).tmps) = Region.wanted o (yielded ops tm) := by
  cases d with
  | none => rfl
  | some t =>
    unfold Region.wanted
    cases hg : o.guard with
    | none => rfl
    | some g =>
      obtain ⟨j, want⟩ := g
      have ht := h t rfl
      simp only [readsOf, hg, List.mem_append, not_or] at ht
      simp only [yielded, Act.put]
      cases hj : (ops[j]?).bind (·.dst) with
      | none => rfl
      | some u =>
        have hne : t ≠ u := by
          have := ht.2
          rw [hj] at this
          simpa using this
        simp [hne]

theorem exec_put {ops : Array Oper} {o : Oper} {a : Act} {d : Option Tmp} {v : Value} (hp : plainOp o.op = true) (h : ∀ t, d = some t → t ∉ readsOf ops o) :
    execOp (a.put d v).eval o = execOp a.eval o := by
  refine execOp_congr hp fun x hx => eval_put fun t ht hm => h t ht ?_
  simp only [readsOf, List.mem_append, List.mem_flatMap]
  exact .inl ⟨x, hx, hm⟩

/-- Two operations that do not touch what the other reads or writes. -/
structure Free (ops : Array Oper) (o o' : Oper) : Prop where
  r1 : ∀ t, o.dst = some t → t ∉ readsOf ops o'
  r2 : ∀ t, o'.dst = some t → t ∉ readsOf ops o
  w : ∀ t, o.dst = some t → o'.dst ≠ some t

theorem wp_shift {P : Program} {ops : Array Oper} {o : Oper} {a : Act} {w : World} {d : Option Tmp} {u : Value} {N N' : Act → World → Prop}
    (hp : plainOp o.op = true) (h1 : ∀ t, d = some t → t ∉ readsOf ops o) (h2 : ∀ t, d = some t → o.dst ≠ some t)
    (hN : ∀ (x : Act) (v : Value) (w' : World), x.tmps = a.tmps → N ((x.put o.dst v).put d u) w' → N' (x.put o.dst v) w') (h : o.wp P (a.put d u) w N (fun _ _ _ => False)) :
    o.wp P a w N' (fun _ _ _ => False) := by
  have hc : ∀ v, (a.put d u).put o.dst v = (a.put o.dst v).put d u := fun v => put_comm h2
  unfold Oper.wp at h ⊢
  rw [exec_put hp h1] at h
  cases hr : (execOp a.eval o).run P w with
  | halt hh w' => rw [hr] at h; cases hh <;> exact h
  | ok n w' =>
    rw [hr] at h
    cases n with
    | value v => simp only [Oper.upon] at h ⊢; rw [hc] at h; exact hN a _ _ rfl h
    | skip => simp only [Oper.upon] at h ⊢; rw [hc] at h; exact hN a _ _ rfl h
    | defer dd =>
      simp only [Oper.upon] at h ⊢
      have e : ({ (a.put d u) with defers := dd :: (a.put d u).defers } : Act).put o.dst undef = (({ a with defers := dd :: a.defers } : Act).put o.dst undef).put d u := by
        rw [← put_comm h2]; cases d <;> rfl
      rw [e] at h
      exact hN { a with defers := dd :: a.defers } _ _ rfl h
    | enter f args =>
      simp only [Oper.upon] at h ⊢
      refine h.mono fun e w'' hh => ?_
      cases e with
      | returned v => simp only at hh ⊢; rw [hc] at hh; exact hN a _ _ rfl hh
      | panicked c => exact hh
      | outgrown => obtain ⟨_, _, hx⟩ := hh; exact hx.elim
    | row r args =>
      simp only [Oper.upon] at h ⊢
      refine h.mono fun v w'' hh => ?_
      rw [hc] at hh; exact hN a _ _ rfl hh
    | _ => exact h

section
variable {P : Program} {ops : Array Oper} {Q : Exit → Act → World → Prop} {rest : List (Kd × Oper)} {k : Kd} {o : Oper} {a : Act} {w : World}
theorem vcL_no (hw : Region.wanted o (yielded ops a.tmps) = false) : vcL P ops Q ((k, o) :: rest) a w = vcL P ops Q rest (a.put o.dst undef) w := by
  cases k <;> simp [vcL, hw]
theorem vcL_light (hk : k.light = true) (hw : Region.wanted o (yielded ops a.tmps) = true) : vcL P ops Q ((k, o) :: rest) a w =
    ∃ v, (∀ w', stays k w w' → Gives P (execOp a.eval o) v w') ∧ vcL P ops Q rest (a.put o.dst v) w := by
  cases k <;> first | (simp [Kd.light] at hk; done) | simp [vcL, hw]
theorem vcL_keep (hw : Region.wanted o (yielded ops a.tmps) = true) : vcL P ops Q ((.keep, o) :: rest) a w =
    o.wp P a w (fun a' w' => Ext w w' ∧ vcL P ops Q rest a' w') (fun _ _ _ => False) := by simp [vcL, hw]
theorem vcL_write (hw : Region.wanted o (yielded ops a.tmps) = true) : vcL P ops Q ((.write, o) :: rest) a w =
    o.wp P a w (fun a' w' => vcL P ops Q rest a' w') (fun _ _ _ => False) := by simp [vcL, hw]
end

def compat (k k' : Kd) : Prop := k'.light = true ∨ k = .pure ∨ (k = .read ∧ k' = .keep)

theorem replay {P : Program} {ops : Array Oper} {Q : Exit → Act → World → Prop} {rest : List (Kd × Oper)} {k : Kd} {o : Oper} (hk : k.light = true) (hp : plainOp o.op = true)
    {a x : Act} {w w' : World} {d : Option Tmp} {u v : Value} (hx : x.tmps = a.tmps) (hr : ∀ t, d = some t → t ∉ readsOf ops o)
    (hw : Region.wanted o (yielded ops a.tmps) = true) (hv : ∀ w'', stays k w w'' → Gives P (execOp a.eval o) v w'')
    (hs : ∀ w'', stays k w' w'' → stays k w w'') (h : vcL P ops Q rest ((x.put d u).put o.dst v) w') : vcL P ops Q ((k, o) :: rest) (x.put d u) w' := by
  have hw' : Region.wanted o (yielded ops (x.put d u).tmps) = true := by
    obtain ⟨tm, df⟩ := x
    rw [wanted_put hr]; rw [show tm = a.tmps from hx]; exact hw
  have he : execOp (x.put d u).eval o = execOp a.eval o := by
    rw [exec_put hp hr]
    exact execOp_congr hp fun y _ => by cases y <;> simp [Act.eval, hx]
  have : ∃ v, (∀ w'', stays k w' w'' → Gives P (execOp (x.put d u).eval o) v w'') ∧ vcL P ops Q rest ((x.put d u).put o.dst v) w' :=
    ⟨v, fun w'' hs' => by rw [he]; exact hv w'' (hs w'' hs'), h⟩
  rw [vcL_light hk hw']; exact this

theorem replay_not {P : Program} {ops : Array Oper} {Q : Exit → Act → World → Prop} {rest : List (Kd × Oper)} {k : Kd} {o : Oper}
    {a x : Act} {w' : World} {d : Option Tmp} {u : Value} (hx : x.tmps = a.tmps) (hr : ∀ t, d = some t → t ∉ readsOf ops o)
    (hw : Region.wanted o (yielded ops a.tmps) = false) (h : vcL P ops Q rest ((x.put d u).put o.dst undef) w') : vcL P ops Q ((k, o) :: rest) (x.put d u) w' := by
  have hw' : Region.wanted o (yielded ops (x.put d u).tmps) = false := by
    obtain ⟨tm, df⟩ := x
    rw [wanted_put hr]; rw [show tm = a.tmps from hx]; exact hw
  rw [vcL_no hw']; exact h

theorem swap {P : Program} {ops : Array Oper} {Q : Exit → Act → World → Prop} {rest : List (Kd × Oper)} {k k' : Kd} {o o' : Oper} (hk : k.light = true) (hc : compat k k')
    (hp : plainOp o.op = true) (hp' : plainOp o'.op = true) (hf : Free ops o o') {a : Act} {w : World}
    (h : vcL P ops Q ((k, o) :: (k', o') :: rest) a w) : vcL P ops Q ((k', o') :: (k, o) :: rest) a w := by
  -- what the first one leaves, and how it may be told behind the second
  have key : ∃ u, vcL P ops Q ((k', o') :: rest) (a.put o.dst u) w ∧
      ∀ (x : Act) (v : Value) (w' : World), x.tmps = a.tmps → (∀ w'', stays k w' w'' → stays k w w'') → vcL P ops Q rest ((x.put o'.dst v).put o.dst u) w' → vcL P ops Q ((k, o) :: rest) (x.put o'.dst v) w' := by
    cases hw : Region.wanted o (yielded ops a.tmps) with
    | false =>
      rw [vcL_no hw] at h
      exact ⟨undef, h, fun x v w' hx _ hr => replay_not hx hf.r2 hw hr⟩
    | true =>
      rw [vcL_light hk hw] at h
      obtain ⟨v, hv, hr⟩ := h
      exact ⟨v, hr, fun x u w' hx hs hr => replay hk hp hx hf.r2 hw hv hs hr⟩
  obtain ⟨u, hi, hre⟩ := key
  have hw' : Region.wanted o' (yielded ops (a.put o.dst u).tmps) = Region.wanted o' (yielded ops a.tmps) := by
    obtain ⟨tm, df⟩ := a; exact wanted_put hf.r1
  have hee : execOp (a.put o.dst u).eval o' = execOp a.eval o' := exec_put hp' hf.r1
  have hsame : ∀ w'', stays k w w'' → stays k w w'' := fun _ x => x
  have hcomm : ∀ v, (a.put o.dst u).put o'.dst v = (a.put o'.dst v).put o.dst u := fun v => put_comm hf.w
  cases hwd : Region.wanted o' (yielded ops a.tmps) with
  | false =>
    rw [vcL_no (by rw [hw', hwd]), hcomm] at hi
    rw [vcL_no hwd]
    exact hre a undef w rfl hsame hi
  | true =>
    have hwd' : Region.wanted o' (yielded ops (a.put o.dst u).tmps) = true := by rw [hw', hwd]
    by_cases hl' : k'.light = true
    · rw [vcL_light hl' hwd'] at hi
      rw [vcL_light hl' hwd]
      obtain ⟨v, hv, hr⟩ := hi
      rw [hcomm] at hr
      exact ⟨v, fun w'' hs => by rw [← hee]; exact hv w'' hs, hre a v w rfl hsame hr⟩
    · cases k' with
      | keep =>
        rw [vcL_keep hwd'] at hi; rw [vcL_keep hwd]
        refine wp_shift hp' hf.r1 hf.w (fun x v w' hx hN => ⟨hN.1, hre x v w' hx (fun w'' hs => ?_) hN.2⟩) hi
        rcases hc with hc | rfl | ⟨rfl, _⟩
        · exact absurd hc hl'
        · trivial
        · exact hN.1.trans hs
      | write =>
        rw [vcL_write hwd'] at hi; rw [vcL_write hwd]
        refine wp_shift hp' hf.r1 hf.w (fun x v w' hx hN => hre x v w' hx (fun w'' hs => ?_) hN) hi
        rcases hc with hc | rfl | ⟨_, hc⟩
        · exact absurd hc hl'
        · trivial
        · simp at hc
      | _ => exact absurd rfl hl'
end WB
namespace WB
open Go Go.RowKit
variable {P : Program} {ops : Array Oper} {Q : Exit → Act → World → Prop}

theorem wp_mono_F {o : Oper} {a : Act} {w : World} {N N' : Act → World → Prop} (hN : ∀ a w, N a w → N' a w) (h : o.wp P a w N (fun _ _ _ => False)) : o.wp P a w N' Q := by
  unfold Oper.wp at h ⊢
  cases hr : (execOp a.eval o).run P w with
  | halt hh w' => rw [hr] at h; cases hh <;> exact h.elim
  | ok n w' =>
    rw [hr] at h
    cases n with
    | value v => exact hN _ _ h
    | skip => exact hN _ _ h
    | defer dd => exact hN _ _ h
    | enter f args =>
      simp only [Oper.upon] at h ⊢
      refine h.mono fun e w'' hh => ?_
      cases e with
      | returned v => exact hN _ _ hh
      | panicked c => exact hh.elim
      | outgrown => obtain ⟨_, _, hx⟩ := hh; exact hx.elim
    | row r args =>
      simp only [Oper.upon] at h ⊢
      exact h.mono fun v w'' hh => hN _ _ hh
    | _ => exact h.elim

theorem vcL_tail {x : Kd × Oper} {L L' : List (Kd × Oper)} (hL : ∀ a w, vcL P ops Q L a w → vcL P ops Q L' a w) {a : Act} {w : World} (h : vcL P ops Q (x :: L) a w) : vcL P ops Q (x :: L') a w := by
  obtain ⟨k, o⟩ := x
  cases hw : Region.wanted o (yielded ops a.tmps) with
  | false => rw [vcL_no hw] at h ⊢; exact hL _ _ h
  | true =>
    by_cases hl : k.light = true
    · rw [vcL_light hl hw] at h ⊢
      obtain ⟨v, hv, hr⟩ := h
      exact ⟨v, hv, hL _ _ hr⟩
    · cases k with
      | keep => rw [vcL_keep hw] at h ⊢; exact wp_mono_F (fun a w hh => ⟨hh.1, hL _ _ hh.2⟩) h
      | write => rw [vcL_write hw] at h ⊢; exact wp_mono_F (fun a w hh => hL _ _ hh) h
      | _ => exact absurd rfl hl

def freeB (ops : Array Oper) (o o' : Oper) : Bool :=
  (match o.dst with | some t => !(readsOf ops o').contains t && !(match o'.dst with | some u => t == u | none => false) | none => true) &&
  (match o'.dst with | some t => !(readsOf ops o).contains t | none => true)
theorem free_of {o o' : Oper} (h : freeB ops o o' = true) : Free ops o o' := by
  unfold freeB at h
  rw [Bool.and_eq_true] at h
  obtain ⟨h1, h2⟩ := h
  refine ⟨fun t ht => ?_, fun t ht => ?_, fun t ht hd => ?_⟩
  · rw [ht] at h1; simp only [Bool.and_eq_true, Bool.not_eq_true'] at h1
    intro hc; have := List.contains_iff_mem.2 hc; rw [this] at h1; simp at h1
  · rw [ht] at h2; simp only [Bool.not_eq_true'] at h2
    intro hc; have := List.contains_iff_mem.2 hc; rw [this] at h2; simp at h2
  · rw [ht, hd] at h1; simp at h1

def compatB (k k' : Kd) : Bool := match k, k' with
  | _, .pure => true | _, .read => true | _, .same => true
  | .pure, _ => true | .read, .keep => true | _, _ => false
theorem compat_of {k k' : Kd} (h : compatB k k' = true) : compat k k' := by
  cases k <;> cases k' <;> simp_all [compatB, compat, Kd.light]

def item (ops : Array Oper) (ks : List Kd) (i : Nat) : Kd × Oper := (ks.getD i .write, ops.toList.getD i default)

def lightFree (ops : Array Oper) (ks : List Kd) (x i : Nat) : Bool :=
  (item ops ks x).1.light && (compatB (item ops ks x).1 (item ops ks i).1 && (freeB ops (item ops ks x).2 (item ops ks i).2 && (plainOp (item ops ks x).2.op && plainOp (item ops ks i).2.op)))

theorem bubble {ks : List Kd} {i : Nat} {post : List Nat} : ∀ (pre : List Nat), (∀ x ∈ pre, lightFree ops ks x i = true) → ∀ a w,
    vcL P ops Q ((pre ++ i :: post).map (item ops ks)) a w → vcL P ops Q ((i :: (pre ++ post)).map (item ops ks)) a w
  | [], _, a, w, h => h
  | x :: pre, hp, a, w, h => by
    have h1 : vcL P ops Q ((x :: i :: (pre ++ post)).map (item ops ks)) a w := by
      refine vcL_tail (fun a w hh => bubble pre (fun y hy => hp y (List.mem_cons_of_mem _ hy)) a w hh) h
    have hx := hp x List.mem_cons_self
    simp only [lightFree, Bool.and_eq_true] at hx
    obtain ⟨e1, e2, e3, e4, e5⟩ := hx
    exact swap e1 (compat_of e2) e4 e5 (free_of e3) h1

def insAll : List Nat → List Nat → List Nat
  | [], acc => acc
  | x :: l, acc => insAll l (if acc.contains x then acc else x :: acc)
def mkAnc : List Oper → List (List Nat) → List (List Nat)
  | [], acc => acc
  | o :: l, acc => mkAnc l (acc ++ [insAll ((insAll (depsOf o) []).flatMap fun d => d :: acc.getD d []) []])
def ancOk (ops : Array Oper) (anc : List (List Nat)) : Bool :=
  (List.range ops.size).all fun i => (anc.getD i []).all fun x => (depsOf (ops.toList.getD i default)).any fun d => d == x || (anc.getD d []).contains x
def onlyBack (ops : Array Oper) : Bool := (List.range ops.size).all fun i => (depsOf (ops.toList.getD i default)).all fun d => Nat.blt d i

theorem anc_sound {anc : List (List Nat)} (hb : onlyBack ops = true) (ha : ancOk ops anc = true) {l : List Nat} (hv : Valid ops l) :
    ∀ n i, i ≤ n → i < ops.size → ∀ p s, l = p ++ i :: s → ∀ x ∈ anc.getD i [], x ∈ p := by
  have get : ∀ i (h : i < ops.size), ops[i]? = some (ops.toList.getD i default) := fun i h => by simp [h]
  intro n
  induction n with
  | zero =>
    intro i hin hi p s hl x hx
    unfold ancOk at ha
    have h1 := List.all_eq_true.1 (List.all_eq_true.1 ha i (List.mem_range.2 hi)) x hx
    obtain ⟨d, hd, _⟩ := List.any_eq_true.1 h1
    unfold onlyBack at hb
    have h2 := List.all_eq_true.1 (List.all_eq_true.1 hb i (List.mem_range.2 hi)) d hd
    simp [Nat.blt_eq] at h2; omega
  | succ n ih =>
    intro i hin hi p s hl x hx
    unfold ancOk at ha
    have h1 := List.all_eq_true.1 (List.all_eq_true.1 ha i (List.mem_range.2 hi)) x hx
    obtain ⟨d, hd, hdx⟩ := List.any_eq_true.1 h1
    have hdp := hv.2.2 p i s hl _ (get i hi) d hd
    have hdi : d < i := by
      unfold onlyBack at hb
      have h2 := List.all_eq_true.1 (List.all_eq_true.1 hb i (List.mem_range.2 hi)) d hd
      simpa [Nat.blt_eq] using h2
    rw [Bool.or_eq_true] at hdx
    rcases hdx with hdx | hdx
    · have : d = x := by simpa using hdx
      exact this ▸ hdp
    · obtain ⟨p1, p2, rfl⟩ := List.append_of_mem hdp
      have := ih d (by omega) (by omega) p1 (p2 ++ i :: s) (by rw [hl]; simp) x (List.contains_iff_mem.1 hdx)
      exact List.mem_append.2 (.inl this)

def pairsOk (f : Nat → Nat → Bool) : List Nat → Bool
  | [] => true
  | x :: l => l.all (f x) && pairsOk f l
theorem pairsOk_split {f : Nat → Nat → Bool} {i : Nat} {post : List Nat} : ∀ (pre : List Nat), pairsOk f (pre ++ i :: post) = true → (∀ x ∈ pre, f x i = true) ∧ pairsOk f (pre ++ post) = true ∧ (∀ y ∈ post, f i y = true)
  | [], h => by simp only [List.nil_append, pairsOk, Bool.and_eq_true] at h; exact ⟨fun _ hx => (by cases hx), h.2, fun y hy => List.all_eq_true.1 h.1 y hy⟩
  | x :: pre, h => by
    simp only [List.cons_append, pairsOk, Bool.and_eq_true] at h
    obtain ⟨h1, h2, h3⟩ := pairsOk_split pre h.2
    refine ⟨fun y hy => ?_, ?_, h3⟩
    · rcases List.mem_cons.1 hy with rfl | hy
      · exact List.all_eq_true.1 h.1 i (by simp)
      · exact h1 y hy
    · simp only [List.cons_append, pairsOk, Bool.and_eq_true]
      refine ⟨List.all_eq_true.2 fun y hy => List.all_eq_true.1 h.1 y ?_, h2⟩
      rcases List.mem_append.1 hy with hy | hy
      · simp [hy]
      · simp [hy]

def okR (ops : Array Oper) (ks : List Kd) (ord : List Nat) : Bool :=
  let anc := mkAnc ops.toList []
  onlyBack ops && (ancOk ops anc && ((List.range ops.size).all (fun i => ord.contains i) && (ord.all (fun i => Nat.blt i ops.size) &&
    pairsOk (fun x i => !(x == i) && ((anc.getD i []).contains x || lightFree ops ks x i)) ord)))

theorem main_step {ks : List Kd} {anc : List (List Nat)} (hb : onlyBack ops = true) (ha : ancOk ops anc = true) {l : List Nat} (hv : Valid ops l) :
    ∀ (s p rem : List Nat), l = p ++ s → (∀ x, x ∈ rem ↔ x ∈ s) →
      pairsOk (fun x i => !(x == i) && ((anc.getD i []).contains x || lightFree ops ks x i)) rem = true →
      ∀ a w, vcL P ops Q (rem.map (item ops ks)) a w → wpOps P ops Q s a w
  | [], p, rem, hl, hm, hp, a, w, h => by
    have : rem = [] := List.eq_nil_iff_forall_not_mem.2 fun x hx => by simpa using (hm x).1 hx
    subst this; exact h
  | i :: s, p, rem, hl, hm, hp, a, w, h => by
    have hi : i < ops.size := (hv.2.1 i).1 (by rw [hl]; simp)
    have hnd := hv.1
    rw [hl] at hnd
    have hnp : ∀ x ∈ i :: s, x ∉ p := fun x hx hxp => (List.nodup_append.1 hnd).2.2 x hxp x hx rfl
    have hns : i ∉ s := (List.nodup_cons.1 (List.nodup_append.1 hnd).2.1).1
    obtain ⟨pre, post, rfl⟩ := List.append_of_mem ((hm i).2 List.mem_cons_self)
    obtain ⟨h1, h2, h3⟩ := pairsOk_split pre hp
    have hpre : ∀ x ∈ pre, lightFree ops ks x i = true := fun x hx => by
      have hf := h1 x hx
      simp only [Bool.and_eq_true, Bool.or_eq_true] at hf
      rcases hf.2 with hc | hc
      · have hxp := anc_sound hb ha hv i i (Nat.le_refl _) hi p s hl x (List.contains_iff_mem.1 hc)
        exact absurd hxp (hnp x ((hm x).1 (by simp [hx])))
      · exact hc
    have hbub := bubble pre hpre a w h
    have hm' : ∀ x, x ∈ pre ++ post ↔ x ∈ s := fun x => by
      have hx := hm x
      constructor
      · intro hxx
        have hx2 : x ∈ pre ++ i :: post := by
          rcases List.mem_append.1 hxx with e | e <;> simp [e]
        rcases List.mem_cons.1 (hx.1 hx2) with rfl | e
        · exfalso
          rcases List.mem_append.1 hxx with e | e
          · have := h1 x e; simp at this
          · have := h3 x e; simp at this
        · exact e
      · intro hxs
        have := hx.2 (List.mem_cons_of_mem _ hxs)
        rcases List.mem_append.1 this with e | e
        · simp [e]
        · rcases List.mem_cons.1 e with rfl | e
          · exact absurd hxs hns
          · simp [e]
    have IH := main_step hb ha hv s (p ++ [i]) (pre ++ post) (by rw [hl]; simp) hm' h2
    have hget : ops[i]? = some (item ops ks i).2 := by simp [item, hi]
    simp only [List.map_cons] at hbub
    simp only [wpOps, hget]
    cases hw : Region.wanted (item ops ks i).2 (yielded ops a.tmps) with
    | false =>
      simp only [Bool.false_eq_true, if_false]
      rw [show item ops ks i = ((item ops ks i).1, (item ops ks i).2) from rfl, vcL_no hw] at hbub
      exact IH _ _ hbub
    | true =>
      simp only [if_true]
      left
      rw [show item ops ks i = ((item ops ks i).1, (item ops ks i).2) from rfl] at hbub
      by_cases hlt : (item ops ks i).1.light = true
      · rw [vcL_light hlt hw] at hbub
        obtain ⟨v, hv', hr⟩ := hbub
        have hst : stays (item ops ks i).1 w w := by
          cases (item ops ks i).1 <;> first | trivial | exact Ext.refl w | rfl
        unfold Oper.wp
        rcases hv' w hst with hg | ⟨f, args, hg, hcall⟩
        · rw [hg]; exact IH _ _ hr
        · rw [hg]
          refine hcall.mono ?_
          rintro e w' ⟨rfl, rfl⟩
          exact IH _ _ hr
      · generalize hk : (item ops ks i).1 = k at hbub hlt
        cases k with
        | keep => rw [vcL_keep hw] at hbub; exact wp_mono_F (fun a w hh => IH _ _ hh.2) hbub
        | write => rw [vcL_write hw] at hbub; exact wp_mono_F (fun a w hh => IH _ _ hh) hbub
        | _ => exact absurd rfl hlt

/-- A REGION THAT DRAWS, walked in the one order 'ord'. -/
theorem wp_region_ord {id : Nat} {a : Act} {w : World} (ks : List Kd) (ord : List Nat) (hmix : P.follows .mixedOrders = true) (hok : okR ops ks ord = true)
    (h : vcL P ops Q (ord.map (item ops ks)) a w.drew) : (Code.region id ops true).wp P Q a w := by
  simp only [okR, Bool.and_eq_true] at hok
  obtain ⟨hb, ha, hall, hlt, hp⟩ := hok
  refine wp_region_draw fun t => ?_
  have hv : Valid ops (Region.schedule (P.follows .mixedOrders) ops t) := schedule_valid _ hmix _ _ fun i o ho d hd => by
    have hi : i < ops.size := (Array.getElem?_eq_some_iff.1 ho).1
    have h1 := List.all_eq_true.1 (List.all_eq_true.1 hb i (List.mem_range.2 hi)) d (by
      have : ops.toList.getD i default = o := by
        simp [Array.getElem?_eq_getElem hi] at ho ⊢
        simp [ho]
      rw [this]; exact hd)
    simpa [Nat.blt_eq] using h1
  generalize Region.schedule (P.follows .mixedOrders) ops t = l at hv ⊢
  refine main_step hb ha hv l [] ord rfl (fun x => ?_) hp a _ h
  rw [hv.2.1 x]
  constructor
  · intro hx; simpa [Nat.blt_eq] using List.all_eq_true.1 hlt x hx
  · intro hx; exact List.contains_iff_mem.1 (List.all_eq_true.1 hall x (List.mem_range.2 hx))
end WB
namespace WB
open Go Go.RowKit
section
variable {P : Program} {ops : Array Oper} {Q : Exit → Act → World → Prop} {rest : List (Kd × Oper)} {k : Kd} {o : Oper} {a a' : Act} {w : World} {v : Value}
theorem vcL_nil (h : Q .normal a w) : vcL P ops Q [] a w := h
theorem vcL_pure (hw : Region.wanted o (yielded ops a.tmps) = true) (hv : ∀ w', (execOp a.eval o).run P w' = .ok (.value v) w') (hp : a.put o.dst v = a')
    (h : vcL P ops Q rest a' w) : vcL P ops Q ((.pure, o) :: rest) a w := by
  rw [vcL_light rfl hw]; exact ⟨v, fun w' _ => .inl (hv w'), by rw [hp]; exact h⟩
theorem vcL_same (hw : Region.wanted o (yielded ops a.tmps) = true) (hv : (execOp a.eval o).run P w = .ok (.value v) w) (hp : a.put o.dst v = a')
    (h : vcL P ops Q rest a' w) : vcL P ops Q ((.same, o) :: rest) a w := by
  rw [vcL_light rfl hw]; exact ⟨v, fun w' (e : w' = w) => by subst e; exact .inl hv, by rw [hp]; exact h⟩
theorem vcL_pureCall (f : FuncId) (args : Array Value) (v : Value) (hw : Region.wanted o (yielded ops a.tmps) = true) (he : ∀ w', (execOp a.eval o).run P w' = .ok (.enter f args) w')
    (hc : ∀ w', Calls P f args w' fun e w'' => e = .returned v ∧ w'' = w') (hp : a.put o.dst v = a') (h : vcL P ops Q rest a' w) : vcL P ops Q ((.pure, o) :: rest) a w := by
  rw [vcL_light rfl hw]; exact ⟨v, fun w' _ => .inr ⟨f, args, he w', hc w'⟩, by rw [hp]; exact h⟩
theorem vcL_skip (hw : Region.wanted o (yielded ops a.tmps) = false) (hp : a.put o.dst undef = a') (h : vcL P ops Q rest a' w) : vcL P ops Q ((k, o) :: rest) a w := by
  rw [vcL_no hw, hp]; exact h
theorem vcL_keepK (hw : Region.wanted o (yielded ops a.tmps) = true)
    (h : ∀ K : Act → World → Prop, (∀ a' w', Ext w w' → vcL P ops Q rest a' w' → K a' w') → o.wp P a w K (fun _ _ _ => False)) : vcL P ops Q ((.keep, o) :: rest) a w := by
  rw [vcL_keep hw]; exact h _ fun _ _ e r => ⟨e, r⟩
theorem vcL_writeK (hw : Region.wanted o (yielded ops a.tmps) = true)
    (h : ∀ K : Act → World → Prop, (∀ a' w', vcL P ops Q rest a' w' → K a' w') → o.wp P a w K (fun _ _ _ => False)) : vcL P ops Q ((.write, o) :: rest) a w := by
  rw [vcL_write hw]; exact h _ fun _ _ r => r
end
/-- The cells of a value at an address. -/
def HasCells (w : World) (ad : Addr) (cs : List Value) : Prop := ∀ j c, cs[j]? = some c → w.cell? (ad.add j) = some c
theorem HasCells.one {w : World} {ad : Addr} {c : Value} (h : w.cell? ad = some c) : HasCells w ad [c] := fun j d hj => by
  cases j with
  | zero => simp at hj; subst hj; rw [show ad.add 0 = ad by simp [Addr.add]]; exact h
  | succ j => simp at hj
theorem HasCells.nil {w : World} {ad : Addr} : HasCells w ad [] := fun j d hj => by simp at hj
theorem HasCells.ext {w w' : World} {ad : Addr} {cs : List Value} (h : HasCells w ad cs) (e : Ext w w') : HasCells w' ad cs := fun j c hj => e.cell (h j c hj)
theorem HasCells.cons {w : World} {b off : Nat} {c : Value} {cs : List Value} (h : w.cell? ⟨b, off, none⟩ = some c) (t : HasCells w ⟨b, off + 1, none⟩ cs) : HasCells w ⟨b, off, none⟩ (c :: cs) := fun j d hj => by
  cases j with
  | zero => simp at hj; subst hj; rw [show (⟨b, off, none⟩ : Addr).add 0 = ⟨b, off, none⟩ by simp [Addr.add]]; exact h
  | succ j =>
    have := t j d (by simpa using hj)
    rw [Addr.add_lit] at this ⊢
    rw [show off + (j + 1) = off + 1 + j by omega]; exact this
theorem run_load_agg {P : Program} {w : World} {T : TypeId} {ad : Addr} {cs : List Value} (hT : (isAgg T).run P w = .ok true w) (hn : (Go.sizeOf T).run P w = .ok cs.length w)
    (hc : HasCells w ad cs) : (loadVar T ad).run P w = .ok (.agg cs.toArray) w := by
  simp [loadVar, hT, hn, run_loadCells_list (P := P) (w := w) ad cs hc]
theorem run_load_one {P : Program} {w : World} {T : TypeId} {ad : Addr} {c : Value} (hT : (isAgg T).run P w = .ok false w)
    (hc : w.cell? ad = some c) : (loadVar T ad).run P w = .ok c w := by
  simp [loadVar, hT, hc]
section
variable {P : Program} {ops : Array Oper} {Q : Exit → Act → World → Prop} {rest : List (Kd × Oper)} {a a' : Act} {w : World} {v : Value} {d : Option Tmp} {T ty : TypeId} {x : Operand} {pos : String} {after : Array Edge} {g : Option (Nat × Bool)} {ad : Addr}
theorem vcL_ld1 (hw : Region.wanted ⟨d, .load T x, ty, pos, after, g⟩ (yielded ops a.tmps) = true) (ha : a.eval x = .pointer (some ad)) (hT : ∀ w, (isAgg T).run P w = .ok false w)
    (hc : w.cell? ad = some v) (hp : a.put d v = a') (h : vcL P ops Q rest a' w) : vcL P ops Q ((.read, ⟨d, .load T x, ty, pos, after, g⟩) :: rest) a w := by
  rw [vcL_light rfl hw]
  refine ⟨v, fun w' (e : Ext w w') => ?_, by rw [hp]; exact h⟩
  refine .inl ?_
  simp [execOp, ha, Instr.loadAt, Instr.sureAddr, run_load_one (hT w') (e.cell hc)]
theorem vcL_ldn {cs : List Value} (hw : Region.wanted ⟨d, .load T x, ty, pos, after, g⟩ (yielded ops a.tmps) = true) (ha : a.eval x = .pointer (some ad)) (hT : ∀ w, (isAgg T).run P w = .ok true w)
    (hn : ∀ w, (Go.sizeOf T).run P w = .ok cs.length w) (hc : HasCells w ad cs) (hp : a.put d (.agg cs.toArray) = a') (h : vcL P ops Q rest a' w) :
    vcL P ops Q ((.read, ⟨d, .load T x, ty, pos, after, g⟩) :: rest) a w := by
  rw [vcL_light rfl hw]
  refine ⟨_, fun w' (e : Ext w w') => ?_, by rw [hp]; exact h⟩
  refine .inl ?_
  simp [execOp, ha, Instr.loadAt, Instr.sureAddr, run_load_agg (hT w') (hn w') (hc.ext e)]
end
end WB
namespace WB
open Go Go.RowKit

/-- A slice of the call's own (nil, or the head of a row of its own), its cells. -/
def osl (e : TypeId) (size : Nat) (v : Value) (n : Nat) (xs : List Value) : HP := fun h =>
  xs.length = n * size ∧ ((v = .slice none 0 0 ∧ n = 0 ∧ emp h) ∨
    ∃ g cap cur, v = .slice (some ⟨g, 0, none⟩) n cap ∧ n ≤ cap ∧ cap ≤ maxLen ∧ cur.size = cap * size ∧ cur.toList.take (n * size) = xs ∧ blk g (.cells cur e (0, 0)) h)

theorem ex_of_own {w0 w : World} {L : List HP} {A : HP} {p : Prop} (h : St w0 (A :: L) w) (f : ∀ x, A x → p) : p := by
  obtain ⟨x, hx, h1, h2, d, e, a, b⟩ := h.own
  exact f _ a

namespace St
variable {w0 w w' : World} {L : List HP} {e : TypeId} {size : Nat} {v v' : Value} {n n' : Nat} {xs xs' : List Value}

theorem osl_cases (h : St w0 (osl e size v n xs :: L) w) :
    (v = .slice none 0 0 ∧ n = 0 ∧ xs = [] ∧ St w0 L w) ∨
    ∃ g cap cur, v = .slice (some ⟨g, 0, none⟩) n cap ∧ n ≤ cap ∧ cap ≤ maxLen ∧ cur.size = cap * size ∧ cur.toList.take (n * size) = xs ∧ xs.length = n * size ∧ St w0 (blk g (.cells cur e (0, 0)) :: L) w := by
  obtain ⟨x, hx, h1, h2, d, e', ⟨hl, a⟩, b⟩ := h.own
  rcases a with ⟨rfl, rfl, he⟩ | ⟨g, cap, cur, rfl, a1, a2, a3, a4, a5⟩
  · exact .inl ⟨rfl, rfl, List.eq_nil_of_length_eq_zero (by simpa using hl), h.drop⟩
  · exact .inr ⟨g, cap, cur, rfl, a1, a2, a3, a4, hl, { h with own := ⟨x, hx, h1, h2, d, e', a5, b⟩ }⟩
theorem osl_nil (h : St w0 L w) : St w0 (osl e size (.slice none 0 0) 0 [] :: L) w :=
  h.empi.imp fun _ he => ⟨by simp, .inl ⟨rfl, rfl, he⟩⟩
theorem osl_mk {g cap : Nat} {cur : Array Value} (h : St w0 (blk g (.cells cur e (0, 0)) :: L) w) (hn : n ≤ cap) (hc : cap ≤ maxLen) (hs : cur.size = cap * size)
    (ht : cur.toList.take (n * size) = xs) : St w0 (osl e size (.slice (some ⟨g, 0, none⟩) n cap) n xs :: L) w :=
  h.imp fun _ hb => ⟨by rw [← ht, List.length_take, Array.length_toList, hs]; exact Nat.min_eq_left (Nat.mul_le_mul_right _ hn), .inr ⟨g, cap, cur, rfl, hn, hc, hs, ht, hb⟩⟩
theorem osl_len (h : St w0 (osl e size v n xs :: L) w) : xs.length = n * size := ex_of_own h fun _ hx => hx.1
theorem osl_owns (h : St w0 (osl e size v n xs :: L) w) : w.ownsRow w0.heap.size e size v n xs := by
  refine ⟨h.osl_len, ?_⟩
  rcases h.osl_cases with ⟨rfl, rfl, rfl, _⟩ | ⟨g, cap, cur, rfl, h1, h2, h3, h4, h5, h6⟩
  · exact .inl ⟨rfl, rfl⟩
  · exact .inr ⟨g, cap, cur, rfl, h6.look.1, h6.look.2, h1, h2, h3, h4⟩

theorem setRow {b : Nat} {c c' : Array Value} {T : TypeId} {fz : Nat × Nat} (h : St w0 (blk b (.cells c T fz) :: L) w) :
    St w0 (blk b (.cells c' T fz) :: L) (w.setRow b c') :=
  h.upd rfl rfl rfl (by simp) (setRow_heap w b c c' T fz h.look.2) fun k hk => setRow_other w b k c' hk

theorem below_step (h : St w0 L w) (hb : Below w.heap.size w w') : St w0 L w' := by
  refine ⟨hb.os.trans h.os, hb.tape.trans h.tape, hb.output.trans h.output, Nat.le_trans h.size hb.size, fun k hk => ?_, ?_⟩
  · rw [hb.block k (Nat.lt_of_lt_of_le hk h.size)]; exact h.block k hk
  · obtain ⟨x, hx, c⟩ := h.own
    refine ⟨x, fun k o hk => ?_, c⟩
    have := hx k o hk
    exact ⟨this.1, by rw [hb.block k (Array.getElem?_eq_some_iff.1 this.2).1]; exact this.2⟩
end St

theorem append_st {P : Program} {w0 w : World} {L : List HP} (t ty e : TypeId) (i : TypeInfo) (z : Value) (size bytes : Nat) (ht : P.underlying t = some (.slice e)) (hi : P.info? e = some i) (hz : i.zero = some z)
    (hsize : i.size = size) (hby : i.bytes = bytes) (hzs : z.cells.size = size)
    {v : Value} {n : Nat} {xs : List Value} (h : St w0 (osl e size v n xs :: L) w)
    (a : Addr) (m c : Nat) (news : List Value) (hl : news.length = m * size) (hnews : HasCells w a news) (h1 : ∀ u ∈ news, u.oneCell' = true)
    (h63 : n + m ≤ maxLen) (hbytes : (n + m) * bytes ≤ 140737488355328) :
    ∃ v' w', (Builtin.append_ #[t, t] ty #[v, .slice (some a) m c]).run P w = .ok v' w' ∧ St w0 (osl e size v' (n + m) (xs ++ news) :: L) w' := by
  subst hsize
  subst hby
  have hsmall : n + m ≤ 9223372036854775807 := by simp only [maxLen] at h63; omega
  have hxl := h.osl_len
  have fresh : ∀ (old : Nat), St w0 L w → St w0 (osl e i.size (.slice (some ⟨w.heap.size, 0, none⟩) (n + m) (grownCap w (n + m) old e)) (n + m) (xs ++ news) :: L)
      (w.drew.alloc (.cells (xs.toArray ++ news.toArray ++ Builtin.zeroCells z.cells (grownCap w (n + m) old e - (n + m))) e)) := by
    intro old hL
    refine (hL.drew.alloc _).osl_mk (grownCap_ge w (n + m) old e) (grownCap_le_maxLen w (n + m) old e h63) ?_ ?_
    · have hge := grownCap_ge w (n + m) old e
      simp only [Array.size_append, List.size_toArray, size_zeroCells, hzs, hxl, hl, ← Nat.add_mul]
      congr 1
      omega
    · simp only [Array.toList_append, List.append_assoc]
      rw [← List.append_assoc, show (n + m) * i.size = (xs ++ news).length by rw [List.length_append, hxl, hl, Nat.add_mul]]
      exact List.take_left
  rcases h.osl_cases with ⟨rfl, rfl, rfl, hL⟩ | ⟨g, cap, cur, rfl, hnc, hcm, hcs, htake, _, hblk⟩
  · by_cases hm : m = 0
    · subst hm
      obtain rfl : news = [] := List.eq_nil_of_length_eq_zero (by simpa using hl)
      refine ⟨.slice none 0 0, w, ?_, hL.osl_nil⟩
      simp [Builtin.append_, run_underlying ht, Go.sizeOf, typeInfo, hi, Builtin.lenOf, Builtin.firstCells, loadCells, loadCellsFrom]
    · have hr := run_append_nil (P := P) w t ty e i z ht hi hz a m c news hl hnews (by omega) (by omega) (by have hb := hbytes; simp only [Nat.zero_add] at hb; omega)
      have hf := fresh 0 hL
      simp only [Nat.zero_add, List.nil_append, Array.empty_append] at hf ⊢
      exact ⟨_, _, hr, hf⟩
  · by_cases hroom : n + m ≤ cap
    · have hfit : n * i.size + news.length ≤ cur.size := by rw [hl, hcs, ← Nat.add_mul]; exact Nat.mul_le_mul_right _ hroom
      have hr := run_append_room (P := P) w t ty e i ht hi g n cap cur hblk.look.2 a m c news hl hnews h1 hroom hfit
      refine ⟨_, _, hr, hblk.setRow.osl_mk hroom hcm ?_ ?_⟩
      · simp only [List.size_toArray, List.length_append, List.length_take, List.length_drop, Array.length_toList]
        omega
      · simp only [List.append_assoc]
        rw [htake, ← List.append_assoc, show (n + m) * i.size = (xs ++ news).length by rw [List.length_append, hxl, hl, Nat.add_mul]]
        exact List.take_left
    · have holds : ∀ j u, xs[j]? = some u → w.cell? ((⟨g, 0, none⟩ : Addr).add j) = some u := h.osl_owns.cells (g := g) rfl
      have hr := run_append_grow (P := P) w t ty e i z ht hi hz ⟨g, 0, none⟩ n cap xs hxl holds a m c news hl hnews (by omega) (by omega) (growslice_fits (by omega) hbytes)
      exact ⟨_, _, hr, fresh cap hblk.drop⟩

section
variable {P : Program} {ops : Array Oper} {Q : Exit → Act → World → Prop} {rest : List Oper} {a : Act} {w w' : World} {d : Option Tmp} {ty : TypeId} {pos : String} {after : Array Edge} {args : Array Operand} {argTypes : Array TypeId} {v : Value}
theorem exec_append (hr : (Builtin.append_ argTypes ty (args.map a.eval)).run P w = .ok v w') :
    (execOp a.eval ⟨d, .call ⟨.builtin .append, args, argTypes⟩, ty, pos, after, none⟩).run P w = .ok (.value v) w' := by
  simp [execOp, resolve, invoke, builtin, hr]
theorem exec_copy (hr : (Builtin.copy_ argTypes ty (args.map a.eval)).run P w = .ok v w') :
    (execOp a.eval ⟨d, .call ⟨.builtin .copy, args, argTypes⟩, ty, pos, after, none⟩).run P w = .ok (.value v) w' := by
  simp [execOp, resolve, invoke, builtin, hr]
theorem wpL_val {o : Oper} (hw : Region.wanted o (yielded ops a.tmps) = true) (hr : (execOp a.eval o).run P w = .ok (.value v) w')
    (h : ∀ K : Act → World → Prop, (∀ a w, wpList P ops Q rest a w → K a w) → K (a.put o.dst v) w') : wpList P ops Q (o :: rest) a w := by
  refine wpList_step fun K hK => ?_
  rw [if_pos hw, Oper.wp, hr]
  exact h K hK
end
end WB
namespace WB
open Go Go.RowKit

def cmpN (a b : ByteArray) : Int := Lib.compareBytes a.data.toList b.data.toList

theorem flat_get {α β : Type} (f : α → List β) (sz : Nat) (hf : ∀ x, (f x).length = sz) (d : α) : ∀ (l : List α) (i k : Nat), i < l.length → k < sz → (l.flatMap f)[i * sz + k]? = (f (l.getD i d))[k]?
  | [], i, k, h, _ => by simp at h
  | x :: l, 0, k, _, hk => by
    simp only [List.flatMap_cons, Nat.zero_mul, Nat.zero_add, List.getD_cons_zero]
    rw [List.getElem?_append_left (by rw [hf]; exact hk)]
  | x :: l, i + 1, k, h, hk => by
    simp only [List.flatMap_cons, List.getD_cons_succ]
    rw [List.getElem?_append_right (by rw [hf, Nat.succ_mul]; omega), hf, show (i + 1) * sz + k - sz = i * sz + k by rw [Nat.succ_mul]; omega]
    exact flat_get f sz hf d l i k (by simpa using h) hk
theorem flat_len {α β : Type} (f : α → List β) (sz : Nat) (hf : ∀ x, (f x).length = sz) : ∀ (l : List α), (l.flatMap f).length = l.length * sz
  | [] => by simp
  | x :: l => by simp only [List.flatMap_cons, List.length_append, List.length_cons, hf, flat_len f sz hf l, Nat.succ_mul]; omega

/-! names -/
structure Nm where
  name : ByteArray
  tgt : ByteArray
  house : Int
instance : Inhabited Nm := ⟨⟨⟨#[]⟩, ⟨#[]⟩, 0⟩⟩
def Nm.cells (x : Nm) : List Value := [.string x.name, .string x.tgt, .int .i64 x.house]
def nmCells (l : List Nm) : List Value := l.flatMap Nm.cells
def nmAt (l : List Nm) (i : Nat) : Nm := l.getD i default
theorem nmCells_len (l : List Nm) : (nmCells l).length = l.length * 3 := flat_len _ 3 (fun _ => rfl) l
theorem nm_cells {w0 w : World} {L : List HP} {E : TypeId} {g cap n : Nat} {l : List Nm} (h : St w0 (osl E 3 (.slice (some ⟨g, 0, none⟩) n cap) n (nmCells l) :: L) w) {i : Nat} (hi : i < l.length) :
    w.cell? ⟨g, i * 3, none⟩ = some (.string (nmAt l i).name) ∧ w.cell? ⟨g, i * 3 + 1, none⟩ = some (.string (nmAt l i).tgt) ∧ w.cell? ⟨g, i * 3 + 2, none⟩ = some (.int .i64 (nmAt l i).house) := by
  have hl := h.osl_len
  rw [nmCells_len] at hl
  have key : ∀ k, k < 3 → w.cell? ⟨g, i * 3 + k, none⟩ = (nmAt l i).cells[k]? := fun k hk => by
    rw [h.osl_owns.cellAt _ (by omega)]
    exact flat_get _ 3 (fun _ => rfl) default l i k hi hk
  exact ⟨key 0 (by omega), key 1 (by omega), key 2 (by omega)⟩
theorem Below.cells {w w' : World} (h : Below w.heap.size w w') {p : Addr} {v : Value} (hc : w.cell? p = some v) : w'.cell? p = some v := (Ext.of_below h).cell hc

/-- where s stands, or would stand, in l. -/
structure Srch (l : List Nm) (s : ByteArray) (k : Nat) : Prop where
  le : k ≤ l.length
  lo : ∀ p, p < k → cmpN (nmAt l p).name s < 0
  hi : ∀ p, k ≤ p → p < l.length → 0 ≤ cmpN (nmAt l p).name s
def Mono (l : List Nm) (s : ByteArray) : Prop := ∀ p q, p ≤ q → q < l.length → cmpN (nmAt l q).name s < 0 → cmpN (nmAt l p).name s < 0
def hitB (l : List Nm) (s : ByteArray) (k : Nat) : Bool := decide (k < l.length) && (cmpN (nmAt l k).name s == 0)
theorem ret_bool {a b : Bool} (h : a = b) : Ending.returned (.bool a) = .returned (.bool b) := by rw [h]
theorem ret_int {k : IntKind} {a b : Int} (h : a = b) : Ending.returned (.int k a) = .returned (.int k b) := by rw [h]
theorem ret_string {a b : ByteArray} (h : a = b) : Ending.returned (.string a) = .returned (.string b) := by rw [h]
/-! letters -/
def cutset : ByteArray := ⟨#[97, 98, 99, 100, 101, 102, 103, 104, 105, 106, 107, 108, 109, 110, 111, 112, 113, 114, 115, 116, 117, 118, 119, 120, 121, 122, 48, 49, 50, 51, 52, 53, 54, 55, 56, 57]⟩
def isLet (c : UInt8) : Bool := (97 ≤ c && c ≤ 122) || (48 ≤ c && c ≤ 57)
def allLet (s : ByteArray) : Bool := s.data.toList.all isLet
def lettersB (s : ByteArray) (most : Nat) : Bool := decide (1 ≤ s.size) && (decide (s.size ≤ most) && allLet s)
theorem cutset_isLet (c : UInt8) : cutset.data.toList.contains c = isLet c := by
  have h : ∀ n : Fin 256, cutset.data.toList.contains (UInt8.ofNat n.val) = isLet (UInt8.ofNat n.val) := by decide +kernel
  have := h ⟨c.toNat, c.toNat_lt⟩
  simpa using this
theorem dropWhile_nil {α : Type} {p : α → Bool} : ∀ {l : List α}, l.dropWhile p = [] ↔ l.all p = true
  | [] => by simp
  | a :: l => by
    by_cases h : p a = true
    · simp only [List.dropWhile_cons, h, if_true, List.all_cons, Bool.true_and]; exact dropWhile_nil
    · simp [h]
theorem trimS_nil (s : ByteArray) : Lib.trimS s.data.toList cutset.data.toList = [] ↔ allLet s = true := by
  have hp : (fun c => cutset.data.toList.contains c) = isLet := funext cutset_isLet
  have hall : ∀ l : List UInt8, (l.dropWhile isLet).all isLet = true ↔ l.all isLet = true := fun l => by
    induction l with
    | nil => simp
    | cons a l ih =>
      by_cases h : isLet a = true
      · simp [h, ← ih]
      · simp [h]
  unfold Lib.trimS Lib.trimLeftS Lib.trimRightS allLet
  rw [hp, dropWhile_nil, List.all_reverse, hall, List.all_reverse]
def wordB (s : ByteArray) : Bool := lettersB s 8
def bodyB (s : ByteArray) : Bool := lettersB s 12
def emptyB (s : ByteArray) : Bool := s.toList.isEmpty
def rightNm (x : Nm) : Bool := wordB x.name && (decide (-1 ≤ x.house) && (decide (x.house ≤ 3) && (wordB x.tgt || (emptyB x.tgt && x.house == -1))))
end WB
/- names: how a name is looked for. -/
namespace Go.Proofs.YtjhogocabcdjbaaGreatDoor
open Go Go.RowKit WB
theorem find1_any (a b s : ByteArray) (h : Int) (w : World) :
    Calls Tryz.prog 161 #[.agg #[.string a, .string b, .int .i64 h], .string s] w fun e w' => e = .returned (.int .i64 (cmpN a s)) ∧ Below w.heap.size w w' := by
  go_enter Tryz.func161, Tryz.ntmps161
  go_wp2_with (go_at_call 162; refine (Tryz.strings_Compare _ _ _).mono ?_; rintro e w' ⟨rfl, rfl⟩)
  go_ret
  exact ⟨rfl, (Below.refl _ _).alloc (Nat.le_refl _) _⟩
def BsInv (l : List Nm) (s : ByteArray) (w : World) (i j : Value) (wr : World) : Prop :=
  ∃ p q : Nat, p ≤ q ∧ q ≤ l.length ∧ i = .int .i64 p ∧ j = .int .i64 q ∧ (∀ k, k < p → cmpN (nmAt l k).name s < 0) ∧ (∀ k, q ≤ k → k < l.length → 0 ≤ cmpN (nmAt l k).name s) ∧ Below w.heap.size w wr
def BsPost (l : List Nm) (s : ByteArray) (w : World) (e : Ending) (w' : World) : Prop :=
  ∃ k : Nat, Srch l s k ∧ e = .returned (.tuple #[.int .i64 k, .bool (hitB l s k)]) ∧ Below w.heap.size w w'
set_option maxHeartbeats 1000000 in
theorem bsf_some (g n cap : Nat) (l : List Nm) (s : ByteArray) (w w0 : World) (L : List HP) (h : St w0 (osl 69 3 (.slice (some ⟨g, 0, none⟩) n cap) n (nmCells l) :: L) w) (hn2 : n < 1000000) (hmono : Mono l s) :
    Calls Tryz.prog 160 #[.slice (some ⟨g, 0, none⟩) n cap, .string s, .func (.func 161) #[] #[]] w (BsPost l s w) := by
  have hn : n = l.length := by have := h.osl_len; rw [nmCells_len] at this; omega
  have HN := Lib.hid hn
  have HS := Lib.hid h
  clear hn h
  go_enter Tryz.func160, Tryz.ntmps160
  go_wp2_with fail
  go_loopw [9, 10] (fun i j wr => BsInv l s w i j wr) (fun i j _ => (intOf j - intOf i).toNat)
  case atStart => exact ⟨0, n, by omega, by rw [HN.out]; exact Nat.le_refl _, rfl, rfl, fun k hk => by omega, fun k h1 h2 => by rw [← HN.out] at h2; omega, Below.refl _ _⟩
  case round =>
    obtain ⟨p, q, hpq, hq, rfl, rfl, h1, h2, hbel⟩ := hrel
    have hqn : q ≤ n := by rw [HN.out]; exact hq
    have H1 := Lib.hid h1
    have H2 := Lib.hid h2
    have HB := Lib.hid hbel
    clear h1 h2 hbel hq
    by_cases hlt : p < q
    · have hm : (p + q) / 2 < n := by omega
      obtain ⟨c0, c1, c2⟩ := nm_cells HS.out (i := (p + q) / 2) (by rw [← HN.out]; exact hm)
      have d0 := Below.cells HB.out c0
      have d1 := Below.cells HB.out c1
      have d2 := Below.cells HB.out c2
      clear c0 c1 c2
      go_wp2_with fail
      refine (find1_any _ _ _ _ _).mono ?_
      rintro e w1 ⟨rfl, hb1⟩
      have HB1 := Lib.hid hb1
      clear hb1 d0 d1 d2
      by_cases hc : cmpN (nmAt l ((p + q) / 2)).name s < 0
      · have hd : decide (cmpN (nmAt l ((p + q) / 2)).name s < 0) = true := by simpa using hc
        go_wp2_with fail
        go_roundw
        case rel =>
          refine ⟨(p + q) / 2 + 1, q, by omega, by rw [← HN.out]; exact hqn, by go_num, rfl, fun k hk => ?_, H2.out, HB.out.trans (HB1.out.mono HB.out.size)⟩
          exact hmono k ((p + q) / 2) (by omega) (by rw [← HN.out]; exact hm) hc
        case measure => simp [intOf]; omega
      · have hd : decide (cmpN (nmAt l ((p + q) / 2)).name s < 0) = false := by simpa using hc
        go_wp2_with fail
        go_roundw
        case rel =>
          refine ⟨p, (p + q) / 2, by omega, by rw [← HN.out]; omega, rfl, by go_num, H1.out, fun k hk1 hk2 => ?_, HB.out.trans (HB1.out.mono HB.out.size)⟩
          exact Int.not_lt.1 fun hk => absurd (hmono _ k hk1 hk2 hk) (Int.not_lt.2 hc)
        case measure => simp [intOf]; omega
    · obtain rfl : p = q := by omega
      by_cases hlt2 : p < n
      · obtain ⟨c0, c1, c2⟩ := nm_cells HS.out (i := p) (by rw [← HN.out]; exact hlt2)
        have d0 := Below.cells HB.out c0
        have d1 := Below.cells HB.out c1
        have d2 := Below.cells HB.out c2
        clear c0 c1 c2
        go_wp2_with fail
        refine (find1_any _ _ _ _ _).mono ?_
        rintro e w1 ⟨rfl, hb1⟩
        have HB1 := Lib.hid hb1
        clear hb1 d0 d1 d2
        go_wp2_with fail
        go_ret2
        exact ⟨p, ⟨by rw [← HN.out]; omega, H1.out, H2.out⟩, by simp [hitB, ← HN.out, hlt2], HB.out.trans (HB1.out.mono HB.out.size)⟩
      · go_wp2_with fail
        go_ret2
        exact ⟨p, ⟨by rw [← HN.out]; omega, H1.out, H2.out⟩, by simp [hitB, ← HN.out, hlt2], HB.out⟩
end Go.Proofs.YtjhogocabcdjbaaGreatDoor
/- names: where a name stands. -/
namespace Go.Proofs.YtjhogocabcdjbaaGreatDoor
open Go Go.RowKit WB
theorem mono_nil (s : ByteArray) : Mono [] s := fun p q _ hq => by simp at hq
set_option maxHeartbeats 1000000 in
theorem bsf_nil (s : ByteArray) (w : World) :
    Calls Tryz.prog 160 #[.slice none 0 0, .string s, .func (.func 161) #[] #[]] w (BsPost [] s w) := by
  go_enter Tryz.func160, Tryz.ntmps160
  go_wp2_with fail
  refine wp_loop_rounds 1 ?_
  rw [rounds_succ]
  go_wp2_with fail
  go_ret2
  exact ⟨0, ⟨by simp, fun p hp => by omega, fun p _ hp => by simp at hp⟩, by simp [hitB], Below.refl _ _⟩
/-- a names' block: the slice lies in cell off of block b -/
theorem find_any (b off : Nat) (c : Array Value) (T : TypeId) (fz : Nat × Nat) (v : Value) (l : List Nm) (s : ByteArray) (w w0 : World) (L : List HP)
    (h : St w0 (blk b (.cells c T fz) :: osl 69 3 v l.length (nmCells l) :: L) w) (hc : c[off]? = some v) (hn2 : l.length < 1000000) (hmono : Mono l s) :
    Calls Tryz.prog 85 #[.pointer (some ⟨b, off, none⟩), .string s] w (BsPost l s w) := by
  have hcell : w.cell? ⟨b, off, none⟩ = some v := by rw [World.cell?, h.look.2]; exact hc
  have HS := Lib.hid h
  clear h hc
  rcases HS.out.drop.osl_cases with ⟨rfl, hz, hx, _⟩ | ⟨g, cap, cur, rfl, _⟩
  · obtain rfl : l = [] := List.eq_nil_of_length_eq_zero hz
    clear hz hx
    go_enter Tryz.func85, Tryz.ntmps85
    go_wp2_with (go_at_call 160; refine (bsf_nil _ _).mono ?_; rintro e w' ⟨k, hk, rfl, hb⟩)
    go_ret2
    exact ⟨k, hk, rfl, hb⟩
  · have hc2 := bsf_some g l.length cap l s w w0 L HS.out.drop hn2 hmono
    have HC := Lib.hid hc2
    clear hc2 hmono
    generalize l.length = n at *
    go_enter Tryz.func85, Tryz.ntmps85
    go_wp2_with fail
    refine HC.out.mono ?_
    rintro e w' ⟨k, hk, rfl, hb⟩
    go_wp2_with fail
    go_ret2
    exact ⟨k, hk, rfl, hb⟩
end Go.Proofs.YtjhogocabcdjbaaGreatDoor
/- msg: which texts are words, and bodies; names: which may be. -/
namespace Go.Proofs.YtjhogocabcdjbaaGreatDoor
open Go Go.RowKit WB
theorem trim_set (s : ByteArray) (w : World) (hs : s.size ≤ 9223372036854775807) :
    Calls Tryz.prog 229 #[.string s, .string cutset] w fun e w' => e = .returned (.string ⟨(Lib.trimS s.data.toList cutset.data.toList).toArray⟩) ∧ Below w.heap.size w w' :=
  Any.strings_Trim_laid Tryz.lays160 (by kernel_rfl) s cutset w hs (by decide) (ascii_of_all (by decide))
set_option maxHeartbeats 400000 in
theorem letters_any (s : ByteArray) (most : Nat) (w : World) (hs : s.size ≤ maxLen) (_hm : most < 100) :
    Calls Tryz.prog 165 #[.string s, .int .i64 most] w fun e w' => e = .returned (.bool (lettersB s most)) ∧ Below w.heap.size w w' := by
  have hs' : s.size ≤ 9223372036854775807 := by unfold maxLen at hs; exact hs
  clear hs
  have ht := trim_set s w hs'
  have HT := Lib.hid ht
  have HN := Lib.hid (trimS_nil s)
  clear ht
  by_cases h1 : 1 ≤ s.size
  · by_cases h2 : s.size ≤ most
    · have hd1 : decide ((1 : Int) ≤ (s.size : Int)) = true := by simp; omega
      have hd2 : decide ((s.size : Int) ≤ (most : Int)) = true := by simp; omega
      by_cases h3 : allLet s = true
      · have hfin : lettersB s most = true := by simp [lettersB, h1, h2, h3]
        have HF := Lib.hid hfin
        have HE := Lib.hid (HN.out.2 h3)
        clear hfin h3
        go_enter Tryz.func165, Tryz.ntmps165
        go_wp2_with fail
        refine HT.out.mono ?_
        rintro e w' ⟨rfl, hb⟩
        rw [HE.out]
        go_wp2_with fail
        go_ret
        exact ⟨ret_bool HF.out.symm, hb⟩
      · have hfin : lettersB s most = false := by simp [lettersB, h3]
        have HF := Lib.hid hfin
        have hne : Lib.trimS s.data.toList cutset.data.toList ≠ [] := fun h => h3 (HN.out.1 h)
        obtain ⟨x, xs, hx⟩ := List.exists_cons_of_ne_nil hne
        have HE := Lib.hid hx
        clear hfin h3 hne hx
        go_enter Tryz.func165, Tryz.ntmps165
        go_wp2_with fail
        refine HT.out.mono ?_
        rintro e w' ⟨rfl, hb⟩
        rw [HE.out]
        go_wp2_with fail
        go_ret
        exact ⟨ret_bool HF.out.symm, hb⟩
    · have hd1 : decide ((1 : Int) ≤ (s.size : Int)) = true := by simp; omega
      have hd2 : decide ((s.size : Int) ≤ (most : Int)) = false := by simp; omega
      have hfin : lettersB s most = false := by simp [lettersB, h2]
      have HF := Lib.hid hfin
      clear hfin
      go_enter Tryz.func165, Tryz.ntmps165
      go_wp2_with fail
      go_ret
      exact ⟨ret_bool HF.out.symm, Below.refl _ _⟩
  · have hd1 : decide ((1 : Int) ≤ (s.size : Int)) = false := by simp; omega
    have hfin : lettersB s most = false := by simp [lettersB, h1]
    have HF := Lib.hid hfin
    clear hfin
    go_enter Tryz.func165, Tryz.ntmps165
    go_wp2_with fail
    go_ret
    exact ⟨ret_bool HF.out.symm, Below.refl _ _⟩
end Go.Proofs.YtjhogocabcdjbaaGreatDoor
/- names: which may be. -/
namespace Go.Proofs.YtjhogocabcdjbaaGreatDoor
open Go Go.RowKit WB
theorem word_is (s : ByteArray) (b : Bool) (w : World) (hs : s.size ≤ maxLen) (hb : wordB s = b) :
    Calls Tryz.prog 90 #[.string s] w fun e w' => e = .returned (.bool b) ∧ Below w.heap.size w w' := by
  subst hb
  have H := Lib.hid (letters_any s 8 w hs (by omega))
  go_enter Tryz.func90, Tryz.ntmps90
  go_wp2_with fail
  refine H.out.mono ?_
  rintro e w' ⟨rfl, hb⟩
  go_wp2_with fail
  go_ret
  exact ⟨rfl, hb⟩
theorem body_is (s : ByteArray) (b : Bool) (w : World) (hs : s.size ≤ maxLen) (hb : bodyB s = b) :
    Calls Tryz.prog 102 #[.string s] w fun e w' => e = .returned (.bool b) ∧ Below w.heap.size w w' := by
  subst hb
  have H := Lib.hid (letters_any s 12 w hs (by omega))
  go_enter Tryz.func102, Tryz.ntmps102
  go_wp2_with fail
  refine H.out.mono ?_
  rintro e w' ⟨rfl, hb⟩
  go_wp2_with fail
  go_ret
  exact ⟨rfl, hb⟩
set_option maxHeartbeats 800000 in
theorem right_any (x : Nm) (w : World) (h1 : x.name.size ≤ maxLen) (h2 : x.tgt.size ≤ maxLen) :
    Calls Tryz.prog 41 #[.agg x.cells.toArray] w fun e w' => e = .returned (.bool (rightNm x)) ∧ Below w.heap.size w w' := by
  obtain ⟨a, b, n⟩ := x
  simp only at h1 h2
  show Calls Tryz.prog 41 #[.agg #[.string a, .string b, .int .i64 n]] w _
  have W1 : ∀ (v : Bool) (w : World), wordB a = v → Calls Tryz.prog 90 #[.string a] w fun e w' => e = .returned (.bool v) ∧ Below w.heap.size w w' := fun v w hv => word_is a v w h1 hv
  have W2 : ∀ (v : Bool) (w : World), wordB b = v → Calls Tryz.prog 90 #[.string b] w fun e w' => e = .returned (.bool v) ∧ Below w.heap.size w w' := fun v w hv => word_is b v w h2 hv
  have H1 := Lib.hid W1
  have H2 := Lib.hid W2
  clear W1 W2 h1 h2
  have hb0 : Below w.heap.size w (w.alloc (.cells #[.string a, .string b, .int .i64 n] 69)) := (Below.refl _ _).alloc (Nat.le_refl _) _
  have HB0 := Lib.hid hb0
  clear hb0
  cases hA : wordB a with
  | false =>
    have HF := Lib.hid (show rightNm ⟨a, b, n⟩ = false by simp [rightNm, hA])
    have HA := Lib.hid hA
    clear hA
    go_enter Tryz.func41, Tryz.ntmps41
    go_wp2_with fail
    refine (H1.out _ _ HA.out).mono ?_
    rintro e w1 ⟨rfl, hb1⟩
    have HB1 := Lib.hid (HB0.out.trans (hb1.mono (by simp)))
    clear hb1
    go_wp2_with fail
    go_ret
    exact ⟨ret_bool HF.out.symm, HB1.out⟩
  | true =>
    have HA := Lib.hid hA
    by_cases hn1 : n < -1
    · have HF := Lib.hid (show rightNm ⟨a, b, n⟩ = false by simp [rightNm]; omega)
      have hd : decide (n < -1) = true := by simpa using hn1
      clear hA hn1
      go_enter Tryz.func41, Tryz.ntmps41
      go_wp2_with fail
      refine (H1.out _ _ HA.out).mono ?_
      rintro e w1 ⟨rfl, hb1⟩
      have HB1 := Lib.hid (HB0.out.trans (hb1.mono (by simp)))
      obtain ⟨c0, c1, c2⟩ : w1.cell? ⟨w.heap.size, 0, none⟩ = some (.string a) ∧ w1.cell? ⟨w.heap.size, 1, none⟩ = some (.string b) ∧ w1.cell? ⟨w.heap.size, 2, none⟩ = some (.int .i64 n) :=
        ⟨Below.cells hb1 (by simp), Below.cells hb1 (by simp), Below.cells hb1 (by simp)⟩
      clear hb1
      go_wp2_with fail
      go_ret
      exact ⟨ret_bool HF.out.symm, HB1.out⟩
    · by_cases hn2 : n ≥ 4
      · have HF := Lib.hid (show rightNm ⟨a, b, n⟩ = false by simp [rightNm]; omega)
        have hd : decide (n < -1) = false := by simpa using hn1
        have hd2 : decide ((4 : Int) ≤ n) = true := by simpa using hn2
        clear hA hn1 hn2
        go_enter Tryz.func41, Tryz.ntmps41
        go_wp2_with fail
        refine (H1.out _ _ HA.out).mono ?_
        rintro e w1 ⟨rfl, hb1⟩
        have HB1 := Lib.hid (HB0.out.trans (hb1.mono (by simp)))
        obtain ⟨c0, c1, c2⟩ : w1.cell? ⟨w.heap.size, 0, none⟩ = some (.string a) ∧ w1.cell? ⟨w.heap.size, 1, none⟩ = some (.string b) ∧ w1.cell? ⟨w.heap.size, 2, none⟩ = some (.int .i64 n) :=
          ⟨Below.cells hb1 (by simp), Below.cells hb1 (by simp), Below.cells hb1 (by simp)⟩
        clear hb1
        go_wp2_with fail
        go_ret
        exact ⟨ret_bool HF.out.symm, HB1.out⟩
      · have hd : decide (n < -1) = false := by simpa using hn1
        have hd2 : decide ((4 : Int) ≤ n) = false := by simpa using hn2
        cases hB : wordB b with
        | true =>
          have HF := Lib.hid (show rightNm ⟨a, b, n⟩ = true by simp [rightNm, hA, hB]; omega)
          have HB := Lib.hid hB
          clear hA hn1 hn2 hB
          go_enter Tryz.func41, Tryz.ntmps41
          go_wp2_with fail
          refine (H1.out _ _ HA.out).mono ?_
          rintro e w1 ⟨rfl, hb1⟩
          have HB1 := Lib.hid (HB0.out.trans (hb1.mono (by simp)))
          obtain ⟨c0, c1, c2⟩ : w1.cell? ⟨w.heap.size, 0, none⟩ = some (.string a) ∧ w1.cell? ⟨w.heap.size, 1, none⟩ = some (.string b) ∧ w1.cell? ⟨w.heap.size, 2, none⟩ = some (.int .i64 n) :=
            ⟨Below.cells hb1 (by simp), Below.cells hb1 (by simp), Below.cells hb1 (by simp)⟩
          clear hb1
          go_wp2_with fail
          refine (H2.out _ _ HB.out).mono ?_
          rintro e w2 ⟨rfl, hb2⟩
          have HB2 := Lib.hid (HB1.out.trans (hb2.mono HB1.out.size))
          clear hb2
          go_wp2_with fail
          go_ret
          exact ⟨ret_bool HF.out.symm, HB2.out⟩
        | false =>
          have HB := Lib.hid hB
          cases hE : emptyB b with
          | false =>
            have HF := Lib.hid (show rightNm ⟨a, b, n⟩ = false by simp [rightNm, hB, hE])
            have he1 : b.toList.isEmpty = false := hE
            have he2 : (b.toList == []) = false := by simpa [emptyB] using hE
            clear hA hn1 hn2 hB hE
            go_enter Tryz.func41, Tryz.ntmps41
            go_wp2_with fail
            refine (H1.out _ _ HA.out).mono ?_
            rintro e w1 ⟨rfl, hb1⟩
            have HB1 := Lib.hid (HB0.out.trans (hb1.mono (by simp)))
            obtain ⟨c0, c1, c2⟩ : w1.cell? ⟨w.heap.size, 0, none⟩ = some (.string a) ∧ w1.cell? ⟨w.heap.size, 1, none⟩ = some (.string b) ∧ w1.cell? ⟨w.heap.size, 2, none⟩ = some (.int .i64 n) :=
              ⟨Below.cells hb1 (by simp), Below.cells hb1 (by simp), Below.cells hb1 (by simp)⟩
            clear hb1
            go_wp2_with fail
            refine (H2.out _ _ HB.out).mono ?_
            rintro e w2 ⟨rfl, hb2⟩
            have HB2 := Lib.hid (HB1.out.trans (hb2.mono HB1.out.size))
            have d0 := Below.cells hb2 c0
            have d1 := Below.cells hb2 c1
            have d2 := Below.cells hb2 c2
            clear hb2 c0 c1 c2
            go_wp2_with fail
            go_ret
            exact ⟨ret_bool HF.out.symm, HB2.out⟩
          | true =>
            have p1 : decide (-1 ≤ n) = true := by simp; omega
            have p2 : decide (n ≤ 3) = true := by simp; omega
            have HF := Lib.hid (show rightNm ⟨a, b, n⟩ = (n == -1) by simp only [rightNm, hA, hB, hE, p1, p2, Bool.true_and, Bool.false_or])
            clear p1 p2
            have he1 : b.toList.isEmpty = true := hE
            have he2 : b.toList = [] := by simpa [emptyB] using hE
            clear hA hn1 hn2 hB hE
            go_enter Tryz.func41, Tryz.ntmps41
            go_wp2_with fail
            refine (H1.out _ _ HA.out).mono ?_
            rintro e w1 ⟨rfl, hb1⟩
            have HB1 := Lib.hid (HB0.out.trans (hb1.mono (by simp)))
            obtain ⟨c0, c1, c2⟩ : w1.cell? ⟨w.heap.size, 0, none⟩ = some (.string a) ∧ w1.cell? ⟨w.heap.size, 1, none⟩ = some (.string b) ∧ w1.cell? ⟨w.heap.size, 2, none⟩ = some (.int .i64 n) :=
              ⟨Below.cells hb1 (by simp), Below.cells hb1 (by simp), Below.cells hb1 (by simp)⟩
            clear hb1
            go_wp2_with fail
            refine (H2.out _ _ HB.out).mono ?_
            rintro e w2 ⟨rfl, hb2⟩
            have HB2 := Lib.hid (HB1.out.trans (hb2.mono HB1.out.size))
            have d0 := Below.cells hb2 c0
            have d1 := Below.cells hb2 c1
            have d2 := Below.cells hb2 c2
            clear hb2 c0 c1 c2
            go_wp2_with fail
            go_ret
            exact ⟨ret_bool HF.out.symm, HB2.out⟩
end Go.Proofs.YtjhogocabcdjbaaGreatDoor
/- api.Tell: the number in an error; errors.As at *api.Errno, after the guide's worked text ToyasAs. -/
namespace Go.Proofs.YtjhogocabcdjbaaGreatDoor
open Go Go.RowKit Go.Extern.Stop Go.Stop Go.Extern WB
theorem as_nil (t : Value) (w : World) : Calls Tryz.prog 255 #[.nilIface, t] w fun e w' => e = .returned (.bool false) ∧ w' = w := by
  go_enter Tryz.func255, Tryz.ntmps255
  go_wp2
  go_ret
  exact ⟨rfl, rfl⟩
theorem valueOfP (t : Addr) (w : World) : (ReflectliteValue.unpack (.iface 316 (.pointer (some t)))).run Tryz.prog w
    = .ok (.agg #[.pointer (some ⟨10, 316, none⟩), .pointer (some ⟨w.heap.size, 0, none⟩), .int .u64 150]) (w.alloc (.cells #[.pointer (some t)] 316)) := by kernel_rfl
theorem typeP (a : Addr) (w : World) : (ReflectliteValue.methodAny (ReflectliteValue.valueError "reflectlite.Value.Type" 0) (fun t _ _ _ => ReflectliteType.toType t) #[.agg #[.pointer (some ⟨10, 316, none⟩), .pointer (some a), .int .u64 150]]).run Tryz.prog w
    = .ok (.iface 300 (.agg #[.pointer (some ⟨10, 316, none⟩)])) w := by kernel_rfl
theorem methodKind (h : Value) (w : World) : (Go.method (582) 300 (.agg #[h]) "Kind").run Tryz.prog w = .ok (426, h) w := by kernel_rfl
theorem kindP (w : World) : ((ReflectliteType.abiMethod fun t => Functor.map (fun a : Nat => Value.int IntKind.u8 (a : Int)) (Rtype.kind t)) #[.pointer (some ⟨10, 316, none⟩)]).run Tryz.prog w = .ok (.int .u8 22) w := by kernel_rfl
theorem kindE (w : World) : ((ReflectliteType.abiMethod fun t => Functor.map (fun a : Nat => Value.int IntKind.u8 (a : Int)) (Rtype.kind t)) #[.pointer (some ⟨10, 39, none⟩)]).run Tryz.prog w = .ok (.int .u8 2) w := by kernel_rfl
theorem rlm (z : Sem Value) (f : TypeId → Addr → Nat → Nat → Sem Value) (v : Value) :
    ReflectliteValue.method z f #[v] = (do match ← ReflectliteValue.parts v with | none => z | some (t, a, fl) => f t a fl (fl % 32)) := rfl
theorem partsP (a : Addr) (w : World) : (ReflectliteValue.parts (.agg #[.pointer (some ⟨10, 316, none⟩), .pointer (some a), .int .u64 150])).run Tryz.prog w = .ok (some (316, a, 150)) w := by kernel_rfl
theorem isNilP (a p : Addr) (W : World) (ha : W.cell? a = some (.pointer (some p))) :
    (ReflectliteValue.method (ReflectliteValue.valueError "reflectlite.Value.IsNil" 0) ReflectliteValue.isNil #[.agg #[.pointer (some ⟨10, 316, none⟩), .pointer (some a), .int .u64 150]]).run Tryz.prog W = .ok (.bool false) W := by
  rw [rlm]
  simp only [Sem.run_bind, partsP, Result.andThen]
  simp [ReflectliteValue.isNil, loadVar, isAgg, underlying, Tryz.underlying316, ha, Result.andThen]
theorem methodElem (h : Value) (w : World) : (Go.method (582) 300 (.agg #[h]) "Elem").run Tryz.prog w = .ok (436, .agg #[h]) w := by kernel_rfl
theorem methodImplements (h : Value) (w : World) : (Go.method (582) 300 (.agg #[h]) "Implements").run Tryz.prog w = .ok (437, .agg #[h]) w := by kernel_rfl
theorem methodAssignableTo (h : Value) (w : World) : (Go.method (582) 300 (.agg #[h]) "AssignableTo").run Tryz.prog w = .ok (435, .agg #[h]) w := by kernel_rfl
theorem elemP (w : World) : (ReflectliteType.method ReflectliteType.elem #[.agg #[.pointer (some ⟨10, 316, none⟩)]]).run Tryz.prog w = .ok (.iface 300 (.agg #[.pointer (some ⟨10, 39, none⟩)])) w := by kernel_rfl
theorem implementsE (w : World) : (ReflectliteType.relation "Implements" ReflectliteType.implements_ #[.agg #[.pointer (some ⟨10, 39, none⟩)], .iface 300 (.agg #[.pointer (some ⟨10, 37, none⟩)])]).run Tryz.prog w = .ok (.bool true) w := by kernel_rfl
theorem typeOfE (v : Value) (w : World) : (ReflectliteType.typeOf #[.iface 39 v]).run Tryz.prog w = .ok (.iface 300 (.agg #[.pointer (some ⟨10, 39, none⟩)])) w := by kernel_rfl
theorem assignableE (w : World) : (ReflectliteType.relation "AssignableTo" ReflectliteType.assignableTo #[.agg #[.pointer (some ⟨10, 39, none⟩)], .iface 300 (.agg #[.pointer (some ⟨10, 39, none⟩)])]).run Tryz.prog w = .ok (.bool true) w := by kernel_rfl
theorem valueOfE (k : Int) (w : World) : (ReflectliteValue.unpack (.iface 39 (.int .i64 k))).run Tryz.prog w
    = .ok (.agg #[.pointer (some ⟨10, 39, none⟩), .pointer (some ⟨w.heap.size, 0, none⟩), .int .u64 130]) (w.alloc (.cells #[.int .i64 k] 39)) := by kernel_rfl
theorem elemOfP (w : World) : (Rtype.elem? 316).run Tryz.prog w = .ok (some 39) w := by kernel_rfl
theorem mkE (p : Addr) (w : World) : (ReflectliteValue.mk 39 p ReflectliteValue.flagAddr).run Tryz.prog w = .ok (.agg #[.pointer (some ⟨10, 39, none⟩), .pointer (some p), .int .u64 386]) w := by kernel_rfl
theorem elemVP (a p : Addr) (W : World) (ha : W.cell? a = some (.pointer (some p))) :
    (ReflectliteValue.method (ReflectliteValue.valueError "reflectlite.Value.Elem" 0) ReflectliteValue.elem #[.agg #[.pointer (some ⟨10, 316, none⟩), .pointer (some a), .int .u64 150]]).run Tryz.prog W
      = .ok (.agg #[.pointer (some ⟨10, 39, none⟩), .pointer (some p), .int .u64 386]) W := by
  rw [rlm]
  simp only [Sem.run_bind, partsP, Result.andThen]
  simp [ReflectliteValue.elem, loadVar, isAgg, underlying, Tryz.underlying316, ha, Result.andThen, elemOfP, mkE]
theorem rls (v x : Value) : ReflectliteValue.set #[v, x] = (do
    let (some (dst, a, fl), some (src, b, _)) := (← ReflectliteValue.parts v, ← ReflectliteValue.parts x)
      | unsupported (.noEntry "extern/(internal/reflectlite.Value).Set.zeroValue")
    if fl / ReflectliteValue.flagAddr % 2 == 0 then unsupported (.noEntry "extern/(internal/reflectlite.Value).Set.unaddressable")
    let val ← loadVar src b
    if ← Rtype.directlyAssignable dst src then storeVar dst a val
    else if ← Rtype.implements dst src then
      if (← Rtype.kind src) == 20 then
        match val with
        | .nilIface => unsupported (.noEntry "extern/reflectlite: a nil value of one interface type handed on as a value of another")
        | _ => storeVar dst a val
      else storeVar dst a (.iface src val)
    else panicString ("reflectlite.Set: value of type " ++ (← Rtype.spelt src) ++ " is not assignable to type " ++ (← Rtype.spelt dst))
    pure (.tuple #[])) := rfl
theorem partsEa (a : Addr) (w : World) : (ReflectliteValue.parts (.agg #[.pointer (some ⟨10, 39, none⟩), .pointer (some a), .int .u64 386])).run Tryz.prog w = .ok (some (39, a, 386)) w := by kernel_rfl
theorem partsE (a : Addr) (w : World) : (ReflectliteValue.parts (.agg #[.pointer (some ⟨10, 39, none⟩), .pointer (some a), .int .u64 130])).run Tryz.prog w = .ok (some (39, a, 130)) w := by kernel_rfl
theorem directE (w : World) : (Rtype.directlyAssignable 39 39).run Tryz.prog w = .ok true w := by kernel_rfl
theorem setE (ta b : Addr) (k : Int) (old : Value) (W : World) (hb : W.cell? b = some (.int .i64 k)) (ht : W.cell? ta = some old) (hf : W.frozen? ta = false) :
    (ReflectliteValue.set #[.agg #[.pointer (some ⟨10, 39, none⟩), .pointer (some ta), .int .u64 386], .agg #[.pointer (some ⟨10, 39, none⟩), .pointer (some b), .int .u64 130]]).run Tryz.prog W
      = .ok (.tuple #[]) (W.setCell ta (.int .i64 k)) := by
  rw [rls]
  simp only [Sem.run_bind, partsEa, partsE, Result.andThen]
  simp [ReflectliteValue.flagAddr, loadVar, isAgg, underlying, Tryz.underlying39, hb, Result.andThen, directE, storeVar, Value.cells, storeCells, Addr.add]
  rw [run_store Tryz.prog W ta _ _ (by rfl)]
  simp [ht, hf]
end Go.Proofs.YtjhogocabcdjbaaGreatDoor
/- api.Tell of an Errno. -/
namespace Go.Proofs.YtjhogocabcdjbaaGreatDoor
open Go Go.RowKit Go.Extern.Stop Go.Stop Go.Extern WB
/-- what errors.errorType holds -/
def ErrType (w : World) : Prop := w.cell? ⟨4, 0, none⟩ = some (.iface 300 (.agg #[.pointer (some ⟨10, 37, none⟩)]))
set_option maxHeartbeats 4000000 in
theorem as_hit (k : Int) (t : Addr) (old : Value) (w : World) (hg : w.cell? ⟨4, 0, none⟩ = some (.iface 300 (.agg #[.pointer (some ⟨10, 37, none⟩)]))) (ht0 : w.cell? t = some old) (hf0 : w.frozen? t = false) :
    Calls Tryz.prog 255 #[.iface 39 (.int .i64 k), .iface 316 (.pointer (some t))] w fun ev w' => ev = .returned (.bool true) ∧ w' = ((((w.alloc (.cells #[.pointer (some t)] 316)).alloc (.cells #[.pointer (some ⟨10, 316, none⟩), .pointer (some ⟨w.heap.size, 0, none⟩), .int .u64 150] 246)).alloc (.cells #[.pointer (some ⟨10, 316, none⟩), .pointer (some ⟨w.heap.size, 0, none⟩), .int .u64 150] 246)).alloc (.cells #[.int .i64 k] 39)).setCell t (.int .i64 k) := by
  have h6 := @run_callFunc_extern Tryz.prog 166 _ (fun args => ReflectliteValue.unpack (args.getD 0 (.tuple #[]))) Tryz.func166 (by kernel_rfl) (by kernel_rfl) (by kernel_rfl) (by kernel_rfl)
  have h7 := @run_callFunc_extern Tryz.prog 308 _ (ReflectliteValue.methodAny (ReflectliteValue.valueError "reflectlite.Value.Type" 0) (fun t _ _ _ => ReflectliteType.toType t)) Tryz.func308 (by kernel_rfl) (by kernel_rfl) (by kernel_rfl) (by kernel_rfl)
  have h8 := @run_callFunc_extern Tryz.prog 309 _ (ReflectliteValue.method (ReflectliteValue.valueError "reflectlite.Value.IsNil" 0) ReflectliteValue.isNil) Tryz.func309 (by kernel_rfl) (by kernel_rfl) (by kernel_rfl) (by kernel_rfl)
  have h27 := @run_callFunc_extern Tryz.prog 426 _ (ReflectliteType.abiMethod fun t => do pure (.int .u8 (← Rtype.kind t))) Tryz.func426 (by kernel_rfl) (by kernel_rfl) (by kernel_rfl) (by kernel_rfl)
  have h37 := @run_callFunc_extern Tryz.prog 436 _ (ReflectliteType.method ReflectliteType.elem) Tryz.func436 (by kernel_rfl) (by kernel_rfl) (by kernel_rfl) (by kernel_rfl)
  have h38 := @run_callFunc_extern Tryz.prog 437 _ (ReflectliteType.relation "Implements" ReflectliteType.implements_) Tryz.func437 (by kernel_rfl) (by kernel_rfl) (by kernel_rfl) (by kernel_rfl)
  have h10 := @run_callFunc_extern Tryz.prog 369 _ ReflectliteType.typeOf Tryz.func369 (by kernel_rfl) (by kernel_rfl) (by kernel_rfl) (by kernel_rfl)
  have h35 := @run_callFunc_extern Tryz.prog 435 _ (ReflectliteType.relation "AssignableTo" ReflectliteType.assignableTo) Tryz.func435 (by kernel_rfl) (by kernel_rfl) (by kernel_rfl) (by kernel_rfl)
  have h11 := @run_callFunc_extern Tryz.prog 370 _ (ReflectliteValue.method (ReflectliteValue.valueError "reflectlite.Value.Elem" 0) ReflectliteValue.elem) Tryz.func370 (by kernel_rfl) (by kernel_rfl) (by kernel_rfl) (by kernel_rfl)
  have h12 := @run_callFunc_extern Tryz.prog 371 _ ReflectliteValue.set Tryz.func371 (by kernel_rfl) (by kernel_rfl) (by kernel_rfl) (by kernel_rfl)
  have tO := typeOfE
  have mA := methodAssignableTo
  have a25 := assignableE
  have v25 := valueOfE
  have f6 := valueOfP
  have f7 := typeP
  have mK := methodKind
  have mE := methodElem
  have mI := methodImplements
  have k27 := kindP
  have k25 := kindE
  have e27 := elemP
  have i25 := implementsE
  have n8 := isNilP ⟨w.heap.size, 0, none⟩ t ((w.alloc (.cells #[.pointer (some t)] 316)).alloc (.cells #[.pointer (some ⟨10, 316, none⟩), .pointer (some ⟨w.heap.size, 0, none⟩), .int .u64 150] 246)) (by simp)
  have hlt : 4 < w.heap.size := by
    rcases Nat.lt_or_ge 4 w.heap.size with h | h
    · exact h
    · simp [World.cell?, Array.getElem?_eq_none h] at hg
  have hg2 : ((w.alloc (.cells #[.pointer (some t)] 316)).alloc (.cells #[.pointer (some ⟨10, 316, none⟩), .pointer (some ⟨w.heap.size, 0, none⟩), .int .u64 150] 246)).cell? ⟨4, 0, none⟩ = some (.iface 300 (.agg #[.pointer (some ⟨10, 37, none⟩)])) := by
    rw [World.cell?_alloc_lt _ _ ⟨4, 0, none⟩ (by simp <;> omega), World.cell?_alloc_lt _ _ ⟨4, 0, none⟩ hlt]; exact hg
  have htl : t.block < w.heap.size := by
    rcases Nat.lt_or_ge t.block w.heap.size with h | h
    · exact h
    · simp [World.cell?, Array.getElem?_eq_none h] at ht0
  have el := elemVP ⟨w.heap.size, 0, none⟩ t (((w.alloc (.cells #[.pointer (some t)] 316)).alloc (.cells #[.pointer (some ⟨10, 316, none⟩), .pointer (some ⟨w.heap.size, 0, none⟩), .int .u64 150] 246)).alloc (.cells #[.pointer (some ⟨10, 316, none⟩), .pointer (some ⟨w.heap.size, 0, none⟩), .int .u64 150] 246)) (by rw [World.cell?_alloc_lt _ _ ⟨w.heap.size, 0, none⟩ (by simp; omega)]; simp)
  have st := setE t ⟨w.heap.size + 1 + 1 + 1, 0, none⟩ k old ((((w.alloc (.cells #[.pointer (some t)] 316)).alloc (.cells #[.pointer (some ⟨10, 316, none⟩), .pointer (some ⟨w.heap.size, 0, none⟩), .int .u64 150] 246)).alloc (.cells #[.pointer (some ⟨10, 316, none⟩), .pointer (some ⟨w.heap.size, 0, none⟩), .int .u64 150] 246)).alloc (.cells #[.int .i64 k] 39))
    (by rw [World.cell?_alloc_at _ _ _ _ (by simp)]; rfl)
    (by rw [World.cell?_alloc_lt _ _ t (by simp; omega), World.cell?_alloc_lt _ _ t (by simp; omega), World.cell?_alloc_lt _ _ t (by simp; omega), World.cell?_alloc_lt _ _ t htl]; exact ht0)
    (by rw [World.frozen?_alloc_old _ _ t (by simp; omega), World.frozen?_alloc_old _ _ t (by simp; omega), World.frozen?_alloc_old _ _ t (by simp; omega), World.frozen?_alloc_old _ _ t (Nat.ne_of_lt htl)]; exact hf0)
  go_enter Tryz.func255, Tryz.ntmps255
  go_wp2
  refine wp_loop_rounds 1 ?_
  rw [rounds_succ]
  go_wp2
  go_ret
  exact ⟨rfl, rfl⟩
theorem tell_nil (w : World) : Calls Tryz.prog 177 #[.nilIface] w fun e w' => e = .returned (.int .i64 0) ∧ Below w.heap.size w w' := by
  go_enter Tryz.func177, Tryz.ntmps177
  go_wp2
  go_ret
  exact ⟨rfl, Below.refl _ _⟩
set_option maxHeartbeats 1000000 in
theorem tell_errno (k : Int) (w : World) (hg : ErrType w) : Calls Tryz.prog 177 #[.iface 39 (.int .i64 k)] w fun e w' => e = .returned (.int .i64 k) ∧ Below w.heap.size w w' := by
  have hlt : 4 < w.heap.size := by
    rcases Nat.lt_or_ge 4 w.heap.size with h | h
    · exact h
    · simp [ErrType, World.cell?, Array.getElem?_eq_none h] at hg
  have hg2 : (w.alloc (.cells #[.int .i64 0] 39)).cell? ⟨4, 0, none⟩ = some (.iface 300 (.agg #[.pointer (some ⟨10, 37, none⟩)])) := by
    rw [World.cell?_alloc_lt _ _ ⟨4, 0, none⟩ hlt]; exact hg
  have hc := as_hit k ⟨w.heap.size, 0, none⟩ (.int .i64 0) (w.alloc (.cells #[.int .i64 0] 39)) hg2 (by simp) (by simp)
  have HC := Lib.hid hc
  clear hc hg2 hg
  go_enter Tryz.func177, Tryz.ntmps177
  go_wp2_with fail
  refine HC.out.mono ?_
  rintro e w1 ⟨rfl, hw⟩
  have hcell : w1.cell? ⟨w.heap.size, 0, none⟩ = some (.int .i64 k) := by
    rw [hw]
    refine World.cell?_setCell_same _ _ _ (u := .int .i64 0) ?_
    rw [World.cell?_alloc_lt _ _ _ (by simp; omega), World.cell?_alloc_lt _ _ _ (by simp; omega), World.cell?_alloc_lt _ _ _ (by simp; omega), World.cell?_alloc_lt _ _ _ (by simp)]
    simp
  have hb : Below w.heap.size w w1 := by
    rw [hw]
    exact ((((((Below.refl _ _).alloc (Nat.le_refl _) _).alloc (by simp) _).alloc (by simp; omega) _).alloc (by simp; omega) _).alloc (by simp; omega) _).setCell (Nat.le_refl _) _
  clear hw
  have HB := Lib.hid hb
  clear hb
  go_wp2_with fail
  go_ret
  exact ⟨rfl, HB.out⟩
end Go.Proofs.YtjhogocabcdjbaaGreatDoor
namespace WB
open Go Go.RowKit

theorem run_copy_any {P : Program} (w : World) (dT sT ty elem : TypeId) (i : TypeInfo) (g o dLen dCap : Nat) (a : Addr) (sLen sCap : Nat) (cur : Array Value) (t : TypeId) (cs : List Value)
    (hu : P.underlying dT = some (.slice elem)) (hi : P.info? elem = some i)
    (hg : w.heap[g]? = some (.cells cur t (0, 0))) (hn : cs.length = Nat.min sLen dLen * i.size)
    (hsrc : HasCells w a cs) (hfit : o + cs.length ≤ cur.size) (h1 : ∀ v ∈ cs, v.oneCell' = true) :
    (Builtin.copy_ #[dT, sT] ty #[.slice (some ⟨g, o, none⟩) dLen dCap, .slice (some a) sLen sCap]).run P w =
      .ok (goInt (Nat.min sLen dLen : Nat)) (w.setRow g (cur.toList.take o ++ cs ++ cur.toList.drop (o + cs.length)).toArray) := by
  have hl := run_loadCells_list (P := P) (w := w) a cs hsrc
  have hst := run_storeCells_at P g o t cs 0 cur w hg (by simpa using hfit) h1
  simp only [Nat.add_zero] at hst
  simp [Builtin.copy_, run_underlying hu, Builtin.lenOf, Builtin.firstCells, Go.sizeOf, typeInfo, hi, ← hn, hl, hst]

theorem run_append_zeros {P : Program} (w : World) (t tn ty e : TypeId) (i : TypeInfo) (z : Value) (k kn : IntKind) (ht : P.underlying t = some (.slice e)) (htn : P.underlying tn = some (.int kn)) (hi : P.info? e = some i) (hz : i.zero = some z)
    (b : Addr) (sLen sCap : Nat) (olds : List Value) (hlo : olds.length = sLen * i.size) (holds : HasCells w b olds)
    (n : Nat) (h0 : 0 < n) (hs : 0 < i.size) (hg : sCap < sLen + n) (h63 : ((sLen + n : Nat) : Int) ≤ 9223372036854775807) (hfit : Builtin.nextslicecap (sLen + n) sCap * i.bytes ≤ 281474976710656)
    (h48 : n * i.bytes ≤ 281474976710656) :
    (Builtin.append_ #[t, tn] ty #[.slice (some b) sLen sCap, .int k n]).run P w =
      .ok (.slice (some ⟨w.heap.size, 0, none⟩) (sLen + n) (grownCap w (sLen + n) sCap e))
        (w.drew.alloc (.cells (olds.toArray ++ Builtin.zeroCells z.cells n ++ Builtin.zeroCells z.cells (grownCap w (sLen + n) sCap e - (sLen + n))) e)) := by
  have hn : n ≠ 0 := by omega
  have hn2 : ¬ (sLen + n ≤ sCap) := by omega
  have hw : IntKind.i64.wrap (n : Int) = n := by rw [IntKind.wrap_i64]; omega
  have h63' : ¬ (9223372036854775807 < ((sLen : Int) + (n : Int))) := by omega
  have h48' : ¬ (281474976710656 < Builtin.nextslicecap (sLen + n) sCap * i.bytes) := by omega
  have h48i : ¬ (281474976710656 < (n : Int) * (i.bytes : Int)) := by
    rw [← Int.natCast_mul]
    omega
  have hneg : ¬ ((n : Int) < 0) := by omega
  have hns : ¬ (n * i.size = 0) := Nat.mul_ne_zero hn (by omega)
  have hfo := run_firstCells_some (P := P) w.drew i.size sLen b sLen sCap olds hlo (by simpa [HasCells] using holds)
  simp [Builtin.append_, run_underlying ht, run_underlying htn, Go.sizeOf, typeInfo, zeroValue, hi, hz, asInt, asIntOf, hw, hn2, hneg, hns, h63', h48', h48i, Question.forced, hfo, newRow, grownCap]

namespace St
variable {w0 w : World} {L : List HP} {b b' : Nat} {c c' : Array Value} {T T' : TypeId}
theorem frozen (h : St w0 (blk b (.cells c T (0, 0)) :: L) w) (o : Nat) : w.frozen? ⟨b, o, none⟩ = false := by
  simp [World.frozen?, h.look.2]
theorem shape (h : St w0 (blk b (.cells c T (0, 0)) :: L) w) : w.shape? b = some (T, c.size) := by
  simp [World.shape?, h.look.2]
theorem hasCells {fz : Nat × Nat} (h : St w0 (blk b (.cells c T fz) :: L) w) {off : Nat} {cs : List Value} (hc : ∀ (j : Nat) (v : Value), cs[j]? = some v → c[off + j]? = some v) : HasCells w ⟨b, off, none⟩ cs := fun j v hj => by
  rw [Addr.add_lit, World.cell?, h.look.2]; exact hc j v hj
theorem swap2 {A B : HP} (h : St w0 (A :: B :: L) w) : St w0 (B :: A :: L) w := h.pick (.tail .head)
end St

theorem overlaps_no {P : Program} {w0 w : World} {L : List HP} {b b' : Nat} {c c' : Array Value} {T T' : TypeId} (t tR e : TypeId) (i : TypeInfo) (ht : P.underlying t = some (.slice e)) (hi : P.info? e = some i)
    (h : St w0 (blk b (.cells c T (0, 0)) :: blk b' (.cells c' T' (0, 0)) :: L) w) (o n cap o' n' cap' : Nat) (hc' : c'.size ≠ 0) :
    (Extern.SlicesOverlaps.overlaps #[t, t] #[tR] #[.slice (some ⟨b, o, none⟩) n cap, .slice (some ⟨b', o', none⟩) n' cap']).run P w = .ok (.bool false) w :=
  Lib.run_overlaps_apart w t tR e ht i.size (fun w => by simp [Go.sizeOf, typeInfo, hi]) ⟨b, o, none⟩ ⟨b', o', none⟩ n cap n' cap' h.ne T T' c.size c'.size h.shape h.drop.shape hc' (h.frozen o) (h.frozen _)

section
variable {P : Program} {ops : Array Oper} {Q : Exit → Act → World → Prop} {a a' : Act} {w w' : World} {o : Oper} {v : Value}
theorem exec_copy2 (d s : Operand) (t t' : TypeId) (ho : o.op = .call ⟨.builtin .copy, #[d, s], #[t, t']⟩) (x u : Value) (hd : a.eval d = x) (hs : a.eval s = u)
    (hr : (Builtin.copy_ #[t, t'] o.type #[x, u]).run P w = .ok v w') : (execOp a.eval o).run P w = .ok (.value v) w' := by
  unfold execOp
  simp only [ho, resolve, invoke, builtin, Sem.run_bind, Sem.run_pure, Result.andThen_ok, List.map_toArray, List.map_cons, List.map_nil, hd, hs, hr]
theorem exec_append2 (d s : Operand) (t t' : TypeId) (ho : o.op = .call ⟨.builtin .append, #[d, s], #[t, t']⟩) (x u : Value) (hd : a.eval d = x) (hs : a.eval s = u)
    (hr : (Builtin.append_ #[t, t'] o.type #[x, u]).run P w = .ok v w') : (execOp a.eval o).run P w = .ok (.value v) w' := by
  unfold execOp
  simp only [ho, resolve, invoke, builtin, Sem.run_bind, Sem.run_pure, Result.andThen_ok, List.map_toArray, List.map_cons, List.map_nil, hd, hs, hr]
theorem wpL_copy {rest : List Oper} (hg : o.guard = none) (d s : Operand) (t t' : TypeId) (ho : o.op = .call ⟨.builtin .copy, #[d, s], #[t, t']⟩) (x u : Value) (hd : a.eval d = x) (hs : a.eval s = u)
    (hr : (Builtin.copy_ #[t, t'] o.type #[x, u]).run P w = .ok v w') (h : ∀ K : Act → World → Prop, (∀ a w, wpList P ops Q rest a w → K a w) → K (a.put o.dst v) w') : wpList P ops Q (o :: rest) a w :=
  wpL_val (by simp [Region.wanted, hg]) (exec_copy2 d s t t' ho x u hd hs hr) h
variable {rest : List (Kd × Oper)}
theorem vcL_writeVal (hw : Region.wanted o (yielded ops a.tmps) = true) (hr : (execOp a.eval o).run P w = .ok (.value v) w') (hp : a.put o.dst v = a')
    (h : vcL P ops Q rest a' w') : vcL P ops Q ((.write, o) :: rest) a w := by
  rw [vcL_write hw, Oper.wp, hr]; show vcL P ops Q rest (a.put o.dst v) w'; rw [hp]; exact h
theorem vcL_writeSkip (hw : Region.wanted o (yielded ops a.tmps) = true) (hr : (execOp a.eval o).run P w = .ok .skip w') (hp : a.put o.dst undef = a')
    (h : vcL P ops Q rest a' w') : vcL P ops Q ((.write, o) :: rest) a w := by
  rw [vcL_write hw, Oper.wp, hr]; show vcL P ops Q rest (a.put o.dst undef) w'; rw [hp]; exact h
theorem vcL_keepVal (hw : Region.wanted o (yielded ops a.tmps) = true) (hr : (execOp a.eval o).run P w = .ok (.value v) w') (he : Ext w w') (hp : a.put o.dst v = a')
    (h : vcL P ops Q rest a' w') : vcL P ops Q ((.keep, o) :: rest) a w := by
  rw [vcL_keep hw, Oper.wp, hr]; refine ⟨he, ?_⟩; rw [hp]; exact h
end

/-- a store, whole -/
theorem run_store_row {P : Program} {w0 w : World} {L : List HP} {b off : Nat} {c : Array Value} {T E : TypeId} {v : Value} (h : St w0 (blk b (.cells c E (0, 0)) :: L) w)
    (hn : (Go.sizeOf T).run P w = .ok v.cells.size w) (hfit : off + v.cells.size ≤ c.size) (h1 : ∀ u ∈ v.cells.toList, u.oneCell' = true) :
    (storeVar T ⟨b, off, none⟩ v).run P w = .ok () (w.setRow b (c.toList.take off ++ v.cells.toList ++ c.toList.drop (off + v.cells.toList.length)).toArray) := by
  have hst := run_storeCells_at P b off E v.cells.toList 0 c w h.look.2 (by simpa using hfit) h1
  simp only [Nat.add_zero] at hst
  simp [storeVar, hn, hst]

/-! lists -/
theorem take_drop_splice {α : Type} (cur ins : List α) (k m n c : Nat) (hk : k ≤ n) (hm : ins.length = m) (hn : n + m ≤ c) (hc : cur.length = c) :
    let c1 := cur.take (k + m) ++ ((cur.take n).drop k) ++ cur.drop (n + m)
    (c1.take k ++ ins ++ c1.drop (k + m)).take (n + m) = (cur.take n).take k ++ ins ++ (cur.take n).drop k := by
  intro c1
  have h1 : c1.take k = cur.take k := by
    simp only [c1, List.append_assoc]
    rw [List.take_append_of_le_length (by simp; omega), List.take_take, Nat.min_eq_left (by omega)]
  have h2 : c1.drop (k + m) = (cur.take n).drop k ++ cur.drop (n + m) := by
    simp only [c1, List.append_assoc]
    rw [List.drop_append_of_le_length (by simp; omega), List.drop_of_length_le (by simp; omega), List.nil_append]
  rw [h1, h2, List.take_take, Nat.min_eq_left hk]
  rw [← List.append_assoc, List.take_append_of_le_length (by simp; omega)]
  exact List.take_of_length_le (by simp; omega)
theorem grow_splice {α : Type} (A Z vs D : List α) (k m d : Nat) (hA : A.length = k) (hv : vs.length = m) (hD : D.length = d) :
    let C0 := A ++ Z
    let C1 := C0.take k ++ vs ++ C0.drop (k + m)
    (C1.take (k + m) ++ D ++ C1.drop (k + m + d)).take (k + m + d) = A ++ vs ++ D := by
  intro C0 C1
  have h0 : C0.take k = A := by simp only [C0]; rw [← hA]; exact List.take_left
  have h1 : C1.take (k + m) = A ++ vs := by
    simp only [C1, h0]
    rw [show k + m = (A ++ vs).length by simp [hA, hv]]
    exact List.take_left
  rw [h1, show k + m + d = (A ++ vs ++ D).length by simp [hA, hv, hD]; omega]
  exact List.take_left
end WB
/- slices.Insert of one value. -/
namespace Go.Proofs.YtjhogocabcdjbaaGreatDoor
open Go Go.RowKit WB
theorem nmInfo : (Tryz.prog.info? 69).map (fun i => (i.zero, i.size, i.bytes)) = some (some (Value.agg #[.string ⟨#[]⟩, .string ⟨#[]⟩, .int .i64 0]), 3, 40) := by kernel_rfl
set_option maxHeartbeats 1000000 in
/-- at the end -/
theorem ins_end (w w0 : World) (L : List HP) (v : Value) (n : Nat) (xs vs : List Value) (bv : Nat) (h : St w0 (osl 69 3 v n xs :: blk bv (.cells vs.toArray 69 (0, 0)) :: L) w)
    (hv : vs.length = 3) (h1 : ∀ u ∈ vs, u.oneCell' = true) (hn : n < 1000000) :
    Calls Tryz.prog 86 #[v, .int .i64 n, .slice (some ⟨bv, 0, none⟩) 1 1] w fun e w' => ∃ v', e = .returned v' ∧ St w0 (osl 69 3 v' (n + 1) (xs ++ vs) :: L) w' := by
  obtain ⟨i0, hi, hz0, hz1, hz2⟩ := info_parts nmInfo
  have hnews : HasCells w ⟨bv, 0, none⟩ vs := by
    have h2 := h.pick (.tail .head)
    exact h2.hasCells fun j u hj => by simpa using hj
  obtain ⟨v', w1, hr, hst⟩ := append_st (P := Tryz.prog) 62 62 69 i0 _ 3 40 Tryz.underlying62 hi hz0 hz1 hz2 rfl h ⟨bv, 0, none⟩ 1 1 vs (by rw [hv]) hnews h1 (by unfold maxLen; omega) (by omega)
  have HR := Lib.hid hr
  have HS := Lib.hid hst
  have hcase : v = .slice none 0 0 ∧ n = 0 ∨ ∃ g cap, v = .slice (some ⟨g, 0, none⟩) n cap ∧ n ≤ cap := by
    rcases h.osl_cases with ⟨h1, h2, _⟩ | ⟨g, cap, _, h1, h2, _⟩
    · exact .inl ⟨h1, h2⟩
    · exact .inr ⟨g, cap, h1, h2⟩
  clear h hr hst hnews hi hz0 hz1 hz2
  rcases hcase with ⟨rfl, rfl⟩ | ⟨g, cap, rfl, hnc⟩
  · go_enter Tryz.func86, Tryz.ntmps86
    go_wp2_with (at_builtin; refine Lib.wpList_append_run _ rfl _ _ _ _ rfl _ _ rfl rfl _ _ HR.out ?_)
    go_ret
    exact ⟨_, rfl, HS.out.swap2.drop⟩
  · have hE : ((n : Int) == (n : Int)) = true := by simp
    by_cases hcn : cap = n
    · have hcn' : n = cap := hcn.symm
      subst hcn'
      go_enter Tryz.func86, Tryz.ntmps86
      go_wp2_with (at_builtin; refine Lib.wpList_append_run _ rfl _ _ _ _ rfl _ _ rfl rfl _ _ HR.out ?_)
      go_ret
      exact ⟨_, rfl, HS.out.swap2.drop⟩
    · go_enter Tryz.func86, Tryz.ntmps86
      go_wp2_with (at_builtin; refine Lib.wpList_append_run _ rfl _ _ _ _ rfl _ _ rfl rfl _ _ HR.out ?_)
      go_ret
      exact ⟨_, rfl, HS.out.swap2.drop⟩
end Go.Proofs.YtjhogocabcdjbaaGreatDoor
/- slices.Insert of one value, not at the end. -/
namespace Go.Proofs.YtjhogocabcdjbaaGreatDoor
open Go Go.RowKit WB
set_option maxHeartbeats 2000000 in
set_option maxRecDepth 100000 in
theorem ins_room (w w0 : World) (L : List HP) (g n cap k : Nat) (xs vs : List Value) (bv : Nat) (h : St w0 (osl 69 3 (.slice (some ⟨g, 0, none⟩) n cap) n xs :: blk bv (.cells vs.toArray 69 (0, 0)) :: L) w)
    (hv : vs.length = 3) (h1 : ∀ u ∈ vs, u.oneCell' = true) (hx1 : ∀ u ∈ xs, u.oneCell' = true) (hn : n < 1000000) (hk : k < n) (hroom : n + 1 ≤ cap) :
    Calls Tryz.prog 86 #[.slice (some ⟨g, 0, none⟩) n cap, .int .i64 k, .slice (some ⟨bv, 0, none⟩) 1 1] w fun e w' => ∃ v', e = .returned v' ∧ St w0 (osl 69 3 v' (n + 1) (xs.take (k * 3) ++ vs ++ xs.drop (k * 3)) :: L) w' := by
  obtain ⟨i0, hi, hz0, hz1, hz2⟩ := info_parts nmInfo
  rcases h.osl_cases with ⟨hc, _⟩ | ⟨g', cap', cur, hc, hnc, hcm, hcs, htake, hxl, hblk⟩
  · simp at hc
  · simp only [Value.slice.injEq, Option.some.injEq, Addr.mk.injEq, and_true, true_and] at hc
    obtain ⟨rfl, rfl⟩ := hc
    have hov : ∀ o n c o' n' c', (callFunc 163 #[.slice (some ⟨bv, o, none⟩) n c, .slice (some ⟨g, o', none⟩) n' c']).run Tryz.prog w = .ok (.value (.bool false)) w := fun o n c o' n' c' => by
      rw [run_callFunc_extern Tryz.func163 (by kernel_rfl) (by kernel_rfl) (by kernel_rfl) (e := Extern.SlicesOverlaps.overlaps #[62, 62] #[4]) (by kernel_rfl),
        overlaps_no 62 4 69 i0 Tryz.underlying62 hi hblk.swap2 o n c o' n' c' (by rw [hcs]; omega)]
      rfl
    have HB := Lib.hid hblk
    have hne : ((k : Int) == (n : Int)) = false := by simp; omega
    have hcap : cap < 9223372036854775808 := by unfold maxLen at hcm; omega
    have hsz : (cur.toList.take (n * 3)).length = n * 3 := by simp; omega
    have hcl : cur.toList.length = cap * 3 := by simpa using hcs
    have hmin : Nat.min (n + 1 - k) (n - k) = n - k := Nat.min_eq_right (by omega)
    have hm1 : ∀ u ∈ (cur.toList.take (n * 3)).drop (k * 3), u.oneCell' = true := fun u hu => hx1 u (htake ▸ List.mem_of_mem_drop hu)
    have hl1 : ((cur.toList.take (n * 3)).drop (k * 3)).length = Nat.min (n + 1 - k) (n - k) * i0.size := by
      rw [List.length_drop, hsz, hz1, hmin, Nat.sub_mul]
    have hc1 := run_copy_any (P := Tryz.prog) w.drew 62 62 3 69 i0 g ((k + 1) * 3) (n - k) (cap - (k + 1)) ⟨g, k * 3, none⟩ (n + 1 - k) (cap - k) cur 69 _ Tryz.underlying62 hi hblk.drew.look.2 hl1
      (hblk.drew.hasCells fun j u hj => by
        rw [List.getElem?_drop, List.getElem?_take] at hj
        split at hj
        · simpa using hj
        · simp at hj) (by rw [hl1, hz1, hmin, hcs]; omega) hm1
    have hs1 := hblk.drew.setRow (c' := (cur.toList.take ((k + 1) * 3) ++ (cur.toList.take (n * 3)).drop (k * 3) ++ cur.toList.drop ((k + 1) * 3 + ((cur.toList.take (n * 3)).drop (k * 3)).length)).toArray)
    have hlen1 : ((cur.toList.take (n * 3)).drop (k * 3)).length = n * 3 - k * 3 := by rw [List.length_drop, hsz]
    generalize hC1 : cur.toList.take ((k + 1) * 3) ++ (cur.toList.take (n * 3)).drop (k * 3) ++ cur.toList.drop ((k + 1) * 3 + ((cur.toList.take (n * 3)).drop (k * 3)).length) = C1 at hc1 hs1
    have hC1l : C1.length = cap * 3 := by rw [← hC1]; simp only [List.length_append, List.length_take, hlen1, List.length_drop, hcl]; omega
    have hc2 := run_copy_any (P := Tryz.prog) (w.drew.setRow g C1.toArray) 62 62 3 69 i0 g (k * 3) (n + 1 - k) (cap - k) ⟨bv, 0, none⟩ 1 1 C1.toArray 69 vs Tryz.underlying62 hi hs1.look.2
      (by rw [hv, hz1, show Nat.min 1 (n + 1 - k) = 1 from Nat.min_eq_left (by omega), Nat.one_mul]) (hs1.drop.hasCells fun j u hj => by simpa using hj) (by rw [hv]; simp [hC1l]; omega) h1
    have hs2 := hs1.setRow (c' := (C1.take (k * 3) ++ vs ++ C1.drop (k * 3 + vs.length)).toArray)
    have hmin2 : Nat.min 1 (n + 1 - k) = 1 := Nat.min_eq_left (by omega)
    rw [hmin2] at hc2
    rw [hmin] at hc1
    have hfin : ((C1.take (k * 3) ++ vs ++ C1.drop (k * 3 + vs.length)).toArray).toList.take ((n + 1) * 3) = xs.take (k * 3) ++ vs ++ xs.drop (k * 3) := by
      have := take_drop_splice cur.toList vs (k * 3) 3 (n * 3) (cap * 3) (by omega) hv (by omega) hcl
      simp only [htake] at this
      rw [hv]
      have e : (k + 1) * 3 = k * 3 + 3 := by omega
      have e2 : (n + 1) * 3 = n * 3 + 3 := by omega
      have e3 : (k * 3 + 3 + (n * 3 - k * 3)) = n * 3 + 3 := by omega
      rw [htake, e, show (xs.drop (k * 3)).length = n * 3 - k * 3 by rw [List.length_drop, hxl], e3] at hC1
      rw [← hC1, e2]
      exact this
    have hout := hs2.osl_mk (n := n + 1) (size := 3) (cap := cap) hroom hcm (by simp [hC1l, hv]; omega) hfin
    generalize C1.take (k * 3) ++ vs ++ C1.drop (k * 3 + vs.length) = C2 at hc2 hout hs2 hfin
    have HC1 := Lib.hid hc1
    have HC2 := Lib.hid hc2
    have HO := Lib.hid hout
    clear h hblk hcm hi hz0 hz1 hz2 hcs htake hxl hx1 h1 hv hc1 hc2 hout hs1 hs2 hfin hC1 hlen1 hl1 hm1 hcl hsz hmin hmin2 hC1l
    go_enter Tryz.func86, Tryz.ntmps86
    go_wp2_with fail
    refine wp_region_ord [.pure, .pure, .pure, .pure, .pure, .pure, .pure, .pure, .write] [0, 1, 2, 3, 4, 5, 6, 7, 8] (by kernel_rfl) (by kernel_rfl) ?_
    simp only [List.map_cons, List.map_nil, item, List.getD_cons_zero, List.getD_cons_succ]
    repeat ((with_reducible refine vcL_pure (v := ?_) (a' := ?_) ?_ ?_ ?_ ?_); rotate_left 2; (rfl); ((intro w'; go_simp; (try (go_bits; (try go_simp); (try (go_bits; (try go_simp))))); (repeat (first | rewrite [if_pos (by omega)] | rewrite [if_neg (by omega)]))) <;> rfl); (go_simp; rfl))
    refine vcL_writeVal (a' := ?_) (v := ?_) (w' := ?_) rfl ?_ ?_ ?_
    rotate_left 3
    · rw [exec_copy2 _ _ _ _ rfl (.slice (some ⟨g, (k + 1) * 3, none⟩) (n - k) (cap - (k + 1))) (.slice (some ⟨g, k * 3, none⟩) (n + 1 - k) (cap - k)) rfl rfl HC1.out]
    · go_simp; rfl
    refine vcL_nil ?_
    go_wp2_with (refine wpL_copy rfl _ _ _ _ rfl (.slice (some ⟨g, k * 3, none⟩) (n + 1 - k) (cap - k)) (.slice (some ⟨bv, 0, none⟩) 1 1) rfl rfl HC2.out ?_; intro K hK; go_simp)
    go_ret
    exact ⟨_, rfl, HO.out.swap2.drop⟩
end Go.Proofs.YtjhogocabcdjbaaGreatDoor
/- slices.Insert of one value, not at the end, no room. -/
namespace Go.Proofs.YtjhogocabcdjbaaGreatDoor
open Go Go.RowKit WB
set_option maxHeartbeats 2000000 in
set_option maxRecDepth 100000 in
theorem ins_grow (w w0 : World) (L : List HP) (g n k : Nat) (cap : Nat) (xs vs : List Value) (bv : Nat) (h : St w0 (osl 69 3 (.slice (some ⟨g, 0, none⟩) n cap) n xs :: blk bv (.cells vs.toArray 69 (0, 0)) :: L) w)
    (hv : vs.length = 3) (h1 : ∀ u ∈ vs, u.oneCell' = true) (hx1 : ∀ u ∈ xs, u.oneCell' = true) (hn : n < 1000000) (hk : k < n) (hroom : cap < n + 1) :
    Calls Tryz.prog 86 #[.slice (some ⟨g, 0, none⟩) n cap, .int .i64 k, .slice (some ⟨bv, 0, none⟩) 1 1] w fun e w' => ∃ v', e = .returned v' ∧ St w0 (osl 69 3 v' (n + 1) (xs.take (k * 3) ++ vs ++ xs.drop (k * 3)) :: L) w' := by
  obtain ⟨i0, hi, hz0, hz1, hz2⟩ := info_parts nmInfo
  rcases h.osl_cases with ⟨hc, _⟩ | ⟨g', cap', cur, hc, hnc, hcm, hcs, htake, hxl, hblk⟩
  · simp at hc
  · simp only [Value.slice.injEq, Option.some.injEq, Addr.mk.injEq, and_true, true_and] at hc
    obtain ⟨rfl, rfl⟩ := hc
    have hcn : cap = n := by omega
    have hne : ((k : Int) == (n : Int)) = false := by simp; omega
    have hcl : cur.toList.length = cap * 3 := by simpa using hcs
    have hxk : (xs.take (k * 3)).length = k * 3 := by rw [List.length_take, hxl]; omega
    have hcell : ∀ (j : Nat) (u : Value), xs[j]? = some u → cur[j]? = some u := fun j u hj => by
      rw [← htake, List.getElem?_take] at hj
      split at hj
      · simpa using hj
      · simp at hj
    -- the append
    have hr := run_append_zeros (P := Tryz.prog) w 62 3 62 69 i0 _ .i64 .i64 Tryz.underlying62 Tryz.underlying3 hi hz0 ⟨g, 0, none⟩ k cap (xs.take (k * 3)) (by rw [hxk, hz1])
      (hblk.hasCells fun j u hj => by
        rw [List.getElem?_take] at hj
        split at hj
        · rw [Nat.zero_add]; exact hcell j u hj
        · simp at hj) (n + 1 - k) (by omega) (by rw [hz1]; omega) (by omega) (by omega) (by rw [hz2]; exact growslice_fits (by omega) (by omega)) (by rw [hz2]; omega)
    have hge := grownCap_ge w (k + (n + 1 - k)) cap 69
    have hle := grownCap_le_maxLen w (k + (n + 1 - k)) cap 69 (by unfold maxLen; omega)
    have hs0 := hblk.drew.alloc (.cells ((xs.take (k * 3)).toArray ++ Builtin.zeroCells (Value.agg #[.string ⟨#[]⟩, .string ⟨#[]⟩, .int .i64 0]).cells (n + 1 - k) ++ Builtin.zeroCells (Value.agg #[.string ⟨#[]⟩, .string ⟨#[]⟩, .int .i64 0]).cells (grownCap w (k + (n + 1 - k)) cap 69 - (k + (n + 1 - k)))) 69)
    have hzl : ∀ q, (Builtin.zeroCells (Value.agg #[.string ⟨#[]⟩, .string ⟨#[]⟩, .int .i64 0]).cells q).size = q * 3 := fun q => by rw [size_zeroCells]; rfl
    generalize hW : w.drew.alloc (.cells ((xs.take (k * 3)).toArray ++ Builtin.zeroCells (Value.agg #[.string ⟨#[]⟩, .string ⟨#[]⟩, .int .i64 0]).cells (n + 1 - k) ++ Builtin.zeroCells (Value.agg #[.string ⟨#[]⟩, .string ⟨#[]⟩, .int .i64 0]).cells (grownCap w (k + (n + 1 - k)) cap 69 - (k + (n + 1 - k)))) 69) = W at hr hs0
    clear hW
    generalize hcp : grownCap w (k + (n + 1 - k)) cap 69 = cp at hr hs0 hge hle
    clear hcp
    have e1 : k + (n + 1 - k) = n + 1 := by omega
    rw [e1] at hr hge
    generalize hB : w.heap.size = B at hr
    have hB' : w.drew.heap.size = B := hB
    rw [hB'] at hs0
    clear hB hB'
    generalize hZ : Builtin.zeroCells (Value.agg #[.string ⟨#[]⟩, .string ⟨#[]⟩, .int .i64 0]).cells (n + 1 - k) ++ Builtin.zeroCells (Value.agg #[.string ⟨#[]⟩, .string ⟨#[]⟩, .int .i64 0]).cells (cp - (k + (n + 1 - k))) = Z at hs0
    have hZl : Z.toList.length = (cp - k) * 3 := by
      rw [← hZ]; simp only [Array.length_toList, Array.size_append, hzl]; omega
    have hC0 : ((xs.take (k * 3)).toArray ++ Builtin.zeroCells (Value.agg #[.string ⟨#[]⟩, .string ⟨#[]⟩, .int .i64 0]).cells (n + 1 - k) ++ Builtin.zeroCells (Value.agg #[.string ⟨#[]⟩, .string ⟨#[]⟩, .int .i64 0]).cells (cp - (k + (n + 1 - k)))) = (xs.take (k * 3) ++ Z.toList).toArray := by
      rw [← hZ]; apply Array.ext'; simp
    rw [hC0] at hs0
    clear hC0 hZ hzl
    have hs0' := hs0
    -- the first copy
    generalize hC0 : xs.take (k * 3) ++ Z.toList = C0 at hs0
    have hC0l : C0.length = cp * 3 := by rw [← hC0, List.length_append, hxk, hZl]; omega
    have hmin1 : Nat.min 1 (n + 1 - k) = 1 := Nat.min_eq_left (by omega)
    have hbv : St w0 (blk bv (.cells vs.toArray 69 (0, 0)) :: blk B (.cells C0.toArray 69 (0, 0)) :: blk g (.cells cur 69 (0, 0)) :: L) W := hs0.pick (.tail (.tail .head))
    have hc1 := run_copy_any (P := Tryz.prog) W 62 62 3 69 i0 B (k * 3) (n + 1 - k) (cp - k) ⟨bv, 0, none⟩ 1 1 C0.toArray 69 vs Tryz.underlying62 hi hs0.look.2
      (by rw [hv, hz1, hmin1, Nat.one_mul]) (hbv.hasCells fun j u hj => by simpa using hj) (by rw [hv]; simp [hC0l]; omega) h1
    have hs1 := hs0.setRow (c' := (C0.take (k * 3) ++ vs ++ C0.drop (k * 3 + vs.length)).toArray)
    rw [hmin1] at hc1
    generalize hC1 : C0.take (k * 3) ++ vs ++ C0.drop (k * 3 + vs.length) = C1 at hc1 hs1
    have hC1l : C1.length = cp * 3 := by rw [← hC1]; simp only [List.length_append, List.length_take, List.length_drop, hC0l, hv]; omega
    generalize hW1 : W.setRow B C1.toArray = W1 at hc1 hs1
    clear hW1
    -- the second
    have hdl : (xs.drop (k * 3)).length = (n - k) * 3 := by rw [List.length_drop, hxl]; omega
    have hmin2 : Nat.min (n - k) (n - k) = n - k := Nat.min_self _
    have hg1 : St w0 (blk g (.cells cur 69 (0, 0)) :: blk B (.cells C1.toArray 69 (0, 0)) :: blk bv (.cells vs.toArray 69 (0, 0)) :: L) W1.drew := (hs1.pick (.tail .head)).drew
    have hc2 := run_copy_any (P := Tryz.prog) W1.drew 62 62 3 69 i0 B ((k + 1) * 3) (n - k) (cp - (k + 1)) ⟨g, k * 3, none⟩ (n - k) (cap - k) C1.toArray 69 (xs.drop (k * 3)) Tryz.underlying62 hi hs1.drew.look.2
      (by rw [hdl, hz1, hmin2]) (hg1.hasCells fun j u hj => by rw [List.getElem?_drop] at hj; exact hcell _ u hj) (by rw [hdl]; simp [hC1l]; omega) (fun u hu => hx1 u (List.mem_of_mem_drop hu))
    have hs2 := hs1.drew.setRow (c' := (C1.take ((k + 1) * 3) ++ xs.drop (k * 3) ++ C1.drop ((k + 1) * 3 + (xs.drop (k * 3)).length)).toArray)
    rw [hmin2] at hc2
    have hfin : ((C1.take ((k + 1) * 3) ++ xs.drop (k * 3) ++ C1.drop ((k + 1) * 3 + (xs.drop (k * 3)).length)).toArray).toList.take ((n + 1) * 3) = xs.take (k * 3) ++ vs ++ xs.drop (k * 3) := by
      have := grow_splice (xs.take (k * 3)) Z.toList vs (xs.drop (k * 3)) (k * 3) 3 ((n - k) * 3) hxk hv hdl
      simp only [hC0] at this
      rw [hv] at hC1
      rw [hC1] at this
      rw [hdl, show (k + 1) * 3 = k * 3 + 3 by omega, show (n + 1) * 3 = k * 3 + 3 + (n - k) * 3 by omega]
      exact this
    have hlen2 : (C1.take ((k + 1) * 3) ++ xs.drop (k * 3) ++ C1.drop ((k + 1) * 3 + (xs.drop (k * 3)).length)).length = cp * 3 := by
      simp only [List.length_append, List.length_take, List.length_drop, hC1l, hxl]; omega
    generalize C1.take ((k + 1) * 3) ++ xs.drop (k * 3) ++ C1.drop ((k + 1) * 3 + (xs.drop (k * 3)).length) = C2 at hc2 hs2 hfin hlen2
    have hout := hs2.osl_mk (n := n + 1) (size := 3) (cap := cp) hge hle (by simpa using hlen2) hfin
    have e9 : ((n + 1 - k : Nat) : Int) = (n : Int) + 1 - k := by omega
    rw [e9] at hr
    clear e9
    have HR := Lib.hid hr
    have HC1 := Lib.hid hc1
    have HC2 := Lib.hid hc2
    have HO := Lib.hid hout
    have hcp2 : cp < 9223372036854775808 := by unfold maxLen at hle; omega
    clear h hblk hcm hi hz0 hz1 hz2 hcs htake hxl hx1 h1 hv hc1 hc2 hout hs0 hs0' hs1 hs2 hfin hlen2 hC0 hC0l hC1 hC1l hr hg1 hbv hdl hxk hcl hcell hZl hmin1 hmin2 hle e1 hcn
    go_enter Tryz.func86, Tryz.ntmps86
    go_wp2_with (first | (at_builtin; refine Lib.wpList_append_run _ rfl _ _ _ _ rfl _ _ rfl rfl _ _ HR.out ?_) | (refine wpL_copy rfl _ _ _ _ rfl (.slice (some ⟨B, k * 3, none⟩) (n + 1 - k) (cp - k)) (.slice (some ⟨bv, 0, none⟩) 1 1) rfl rfl HC1.out ?_; intro K hK; go_simp))
    refine wp_region_ord [.pure, .pure, .pure, .pure, .pure, .pure, .pure, .pure, .write] [0, 1, 2, 3, 4, 5, 6, 7, 8] (by kernel_rfl) (by kernel_rfl) ?_
    simp only [List.map_cons, List.map_nil, item, List.getD_cons_zero, List.getD_cons_succ]
    repeat ((with_reducible refine vcL_pure (v := ?_) (a' := ?_) ?_ ?_ ?_ ?_); rotate_left 2; (rfl); ((intro w'; go_simp; (try (go_bits; (try go_simp); (try (go_bits; (try go_simp))))); (repeat (first | rewrite [if_pos (by omega)] | rewrite [if_neg (by omega)]))) <;> rfl); (go_simp; rfl))
    refine vcL_writeVal (a' := ?_) (v := ?_) (w' := ?_) rfl ?_ ?_ ?_
    rotate_left 3
    · rw [exec_copy2 _ _ _ _ rfl (.slice (some ⟨B, (k + 1) * 3, none⟩) (n - k) (cp - (k + 1))) (.slice (some ⟨g, k * 3, none⟩) (n - k) (cap - k)) rfl rfl HC2.out]
    · go_simp; rfl
    refine vcL_nil ?_
    go_wp2_with fail
    go_ret
    exact ⟨_, rfl, HO.out.pick (.tail .head) |>.drop.pick (.tail .head) |>.drop⟩
end Go.Proofs.YtjhogocabcdjbaaGreatDoor
namespace WB
open Go Go.RowKit

namespace St
variable {w0 w : World} {L R : List HP} {b off : Nat} {c : Array Value} {T : TypeId} {fz : Nat × Nat} {v : Value}
theorem cell (h : St w0 (blk b (.cells c T fz) :: L) w) (hc : c[off]? = some v) : w.cell? ⟨b, off, none⟩ = some v := by
  rw [World.cell?, h.look.2]; exact hc
theorem cellP (h : St w0 L w) (p : Pick L (blk b (.cells c T fz)) R) (hc : c[off]? = some v) : w.cell? ⟨b, off, none⟩ = some v := (h.pick p).cell hc
end St
theorem vcL_keepRun {P : Program} {ops : Array Oper} {Q : Exit → Act → World → Prop} {rest : List (Kd × Oper)} {o : Oper} {a a' : Act} {w w' : World} {v : Value}
    (hw : Region.wanted o (yielded ops a.tmps) = true) (hr : (execOp a.eval o).run P w = .ok (.value v) w') (he : Ext w w') (hp : a.put o.dst v = a')
    (h : vcL P ops Q rest a' w') : vcL P ops Q ((.keep, o) :: rest) a w := vcL_keepVal hw hr he hp h
theorem Ext.alloc (w : World) (o : Obj) : Ext w (w.alloc o) := ⟨by simp, fun k hk => Below.heap_alloc _ _ _ hk⟩
/-- a call inside a region that draws, where what it makes of the state is known -/
theorem vcL_writeCall {P : Program} {ops : Array Oper} {Q : Exit → Act → World → Prop} {rest : List (Kd × Oper)} {o : Oper} {a : Act} {w w' : World} {f : FuncId} {args : Array Value} {R : Ending → World → Prop}
    (hw : Region.wanted o (yielded ops a.tmps) = true) (hr : (execOp a.eval o).run P w = .ok (.enter f args) w') (hc : Calls P f args w' R)
    (h : ∀ e w'', R e w'' → ∃ v, e = .returned v ∧ vcL P ops Q rest (a.put o.dst v) w'') : vcL P ops Q ((.write, o) :: rest) a w := by
  rw [vcL_write hw, Oper.wp, hr]
  refine hc.mono fun e w'' hR => ?_
  obtain ⟨v, rfl, hv⟩ := h e w'' hR
  exact hv
theorem vcL_keepCall {P : Program} {ops : Array Oper} {Q : Exit → Act → World → Prop} {rest : List (Kd × Oper)} {o : Oper} {a : Act} {w w' : World} {f : FuncId} {args : Array Value} {R : Ending → World → Prop}
    (hw : Region.wanted o (yielded ops a.tmps) = true) (hr : (execOp a.eval o).run P w = .ok (.enter f args) w') (hc : Calls P f args w' R)
    (h : ∀ e w'', R e w'' → ∃ v, e = .returned v ∧ Ext w w'' ∧ vcL P ops Q rest (a.put o.dst v) w'') : vcL P ops Q ((.keep, o) :: rest) a w := by
  rw [vcL_keep hw, Oper.wp, hr]
  refine hc.mono fun e w'' hR => ?_
  obtain ⟨v, rfl, hv⟩ := h e w'' hR
  exact hv
theorem exec_store {P : Program} {a : Act} {w w' : World} {d : Option Tmp} {T ty : TypeId} {x y : Operand} {pos : String} {after : Array Edge} {g : Option (Nat × Bool)} {ad : Addr} {v : Value}
    (ha : a.eval x = .pointer (some ad)) (hv : a.eval y = v) (hr : (storeVar T ad v).run P w = .ok () w') : (execOp a.eval ⟨d, .store T x y, ty, pos, after, g⟩).run P w = .ok .skip w' := by
  simp [execOp, ha, hv, Instr.storeAt, Instr.sureAddr, hr]
theorem set_same {c : Array Value} {off : Nat} {v : Value} (h : c[off]? = some v) : c.setIfInBounds off v = c := by
  apply Array.ext
  · simp
  · intro i h1 h2
    rw [Array.getElem_setIfInBounds]
    split
    · rename_i e; subst e; rw [Array.getElem?_eq_getElem h2] at h; exact (Option.some.inj h).symm
    · rfl
theorem setRow_one {c : Array Value} {off : Nat} {v : Value} (h : off < c.size) : (c.toList.take off ++ [v] ++ c.toList.drop (off + 1)).toArray = c.setIfInBounds off v := by
  apply Array.ext'
  simp [List.set_eq_take_append_cons_drop, h]
theorem splice_take {α : Type} (cur ins : List α) (k m n : Nat) (hi : ins.length = m) (h : k + m ≤ n) (hn : n ≤ cur.length) :
    (cur.take k ++ ins ++ cur.drop (k + m)).take n = (cur.take n).take k ++ ins ++ (cur.take n).drop (k + m) := by
  have h1 : (cur.take k ++ ins).length = k + m := by simp [hi]; omega
  rw [List.take_append, h1, List.take_of_length_le (by omega), List.take_take, Nat.min_eq_left (by omega), List.drop_take]
/-! names as a sorted list: plain laws -/
def srchN (l : List Nm) (s : ByteArray) : Nat := (l.takeWhile fun x => decide (cmpN x.name s < 0)).length
theorem takeWhile_len_le {α : Type} (p : α → Bool) : ∀ l : List α, (l.takeWhile p).length ≤ l.length
  | [] => Nat.le_refl _
  | a :: l => by
    by_cases h : p a = true
    · simp only [List.takeWhile_cons, h, if_true, List.length_cons]; have := takeWhile_len_le p l; omega
    · simp [h]
theorem srch_eq : ∀ {l : List Nm} {s : ByteArray} {k : Nat}, Srch l s k → k = srchN l s
  | [], s, k, h => by have := h.le; simp at this; subst this; rfl
  | x :: l, s, k, h => by
    unfold srchN
    by_cases hx : cmpN x.name s < 0
    · simp only [List.takeWhile_cons, hx, decide_true, if_true, List.length_cons]
      cases k with
      | zero => exact absurd hx (Int.not_lt.2 (h.hi 0 (Nat.le_refl _) (by simp)))
      | succ k =>
        have : Srch l s k := ⟨by have := h.le; simp at this; omega, fun p hp => h.lo (p + 1) (by omega), fun p hp hl => h.hi (p + 1) (by omega) (by simp; omega)⟩
        rw [srch_eq this]; rfl
    · simp only [List.takeWhile_cons, hx, decide_false]
      cases k with
      | zero => rfl
      | succ k => exact absurd (h.lo 0 (by omega)) hx
/-- the error's number behind Set (0: none), and the names then -/
def setErr (l : List Nm) (x : Nm) : Int :=
  if rightNm x = false then 1 else if hitB l x.name (srchN l x.name) = true then 0 else if 20 ≤ l.length then 12 else 0
def setNm (l : List Nm) (x : Nm) : List Nm :=
  if rightNm x = false then l else if hitB l x.name (srchN l x.name) = true then l.set (srchN l x.name) x
  else if 20 ≤ l.length then l else l.take (srchN l x.name) ++ x :: l.drop (srchN l x.name)
def errV (T : TypeId) (k : Int) : Value := if k = 0 then .nilIface else .iface T (.int .i64 k)

theorem flat_take {α β : Type} (f : α → List β) (sz : Nat) (hf : ∀ x, (f x).length = sz) : ∀ (l : List α) (k : Nat), k ≤ l.length → (l.flatMap f).take (k * sz) = (l.take k).flatMap f
  | l, 0, _ => by simp
  | [], k + 1, h => by simp at h
  | x :: l, k + 1, h => by
    simp only [List.flatMap_cons, List.take_succ_cons]
    rw [List.take_append, hf, show (k + 1) * sz - sz = k * sz by rw [Nat.succ_mul]; omega, flat_take f sz hf l k (by simpa using h), List.take_of_length_le (by rw [hf, Nat.succ_mul]; omega)]
theorem flat_drop {α β : Type} (f : α → List β) (sz : Nat) (hf : ∀ x, (f x).length = sz) : ∀ (l : List α) (k : Nat), k ≤ l.length → (l.flatMap f).drop (k * sz) = (l.drop k).flatMap f
  | l, 0, _ => by simp
  | [], k + 1, h => by simp at h
  | x :: l, k + 1, h => by
    simp only [List.flatMap_cons, List.drop_succ_cons]
    rw [List.drop_append, hf, show (k + 1) * sz - sz = k * sz by rw [Nat.succ_mul]; omega, flat_drop f sz hf l k (by simpa using h), List.drop_of_length_le (by rw [hf, Nat.succ_mul]; omega), List.nil_append]
theorem nmCells_insert (l : List Nm) (x : Nm) (k : Nat) (hk : k ≤ l.length) : (nmCells l).take (k * 3) ++ x.cells ++ (nmCells l).drop (k * 3) = nmCells (l.take k ++ x :: l.drop k) := by
  unfold nmCells
  rw [flat_take _ 3 (fun _ => rfl) l k hk, flat_drop _ 3 (fun _ => rfl) l k hk]
  simp
theorem nmCells_one (l : List Nm) : ∀ u ∈ nmCells l, u.oneCell' = true := fun u hu => by
  obtain ⟨x, _, hx⟩ := List.mem_flatMap.1 hu
  simp [Nm.cells] at hx
  rcases hx with rfl | rfl | rfl <;> rfl
theorem Nm.cells_one (x : Nm) : ∀ u ∈ x.cells, u.oneCell' = true := fun u hu => by
  simp [Nm.cells] at hu
  rcases hu with rfl | rfl | rfl <;> rfl
/-- what a store of one element makes of the cells -/
theorem nmCells_set (l : List Nm) (x : Nm) (k : Nat) (hk : k < l.length) : (nmCells l).take (k * 3) ++ x.cells ++ (nmCells l).drop (k * 3 + 3) = nmCells (l.set k x) := by
  unfold nmCells
  rw [flat_take _ 3 (fun _ => rfl) l k (by omega), show k * 3 + 3 = (k + 1) * 3 by omega, flat_drop _ 3 (fun _ => rfl) l (k + 1) (by omega), List.set_eq_take_append_cons_drop]
  simp [hk]
theorem setNm_len (l : List Nm) (x : Nm) : (setNm l x).length ≤ max l.length 20 := by
  unfold setNm
  split
  · omega
  · split
    · simp; omega
    · split
      · omega
      · have : srchN l x.name ≤ l.length := takeWhile_len_le _ _
        simp; omega
end WB
/- names.Set. -/
namespace Go.Proofs.YtjhogocabcdjbaaGreatDoor
open Go Go.RowKit WB
theorem ins_any (w w0 : World) (L : List HP) (v : Value) (l : List Nm) (x : Nm) (k bv n : Nat) (hn : n = l.length) (h : St w0 (osl 69 3 v n (nmCells l) :: blk bv (.cells x.cells.toArray 69 (0, 0)) :: L) w)
    (hk : k ≤ l.length) (hn2 : l.length < 1000000) :
    Calls Tryz.prog 86 #[v, .int .i64 k, .slice (some ⟨bv, 0, none⟩) 1 1] w fun e w' => ∃ v', e = .returned v' ∧ St w0 (osl 69 3 v' (l.length + 1) (nmCells (l.take k ++ x :: l.drop k)) :: L) w' := by
  subst hn
  by_cases hkn : k = l.length
  · subst hkn
    have := ins_end w w0 L v l.length (nmCells l) x.cells bv h rfl x.cells_one hn2
    refine this.mono ?_
    rintro e w' ⟨v', he, hs⟩
    refine ⟨v', he, ?_⟩
    rw [show nmCells (l.take l.length ++ x :: l.drop l.length) = nmCells l ++ x.cells by simp [nmCells]]
    exact hs
  · have hlt : k < l.length := by omega
    rcases h.osl_cases with ⟨_, hz, _⟩ | ⟨g, cap, cur, rfl, hnc, _⟩
    · omega
    · rw [← nmCells_insert l x k hk]
      by_cases hr : l.length + 1 ≤ cap
      · exact ins_room w w0 L g l.length cap k (nmCells l) x.cells bv h rfl x.cells_one (nmCells_one l) hn2 hlt hr
      · exact ins_grow w w0 L g l.length k cap (nmCells l) x.cells bv h rfl x.cells_one (nmCells_one l) hn2 hlt (by omega)
theorem right_is (x : Nm) (b : Bool) (w : World) (h1 : x.name.size ≤ maxLen) (h2 : x.tgt.size ≤ maxLen) (hb : rightNm x = b) :
    Calls Tryz.prog 41 #[.agg x.cells.toArray] w fun e w' => e = .returned (.bool b) ∧ Below w.heap.size w w' := by
  rw [← hb]; exact right_any x w h1 h2
set_option maxHeartbeats 1000000 in
/-- what may not be -/
theorem set_bad (b off : Nat) (c : Array Value) (T : TypeId) (v : Value) (l : List Nm) (x : Nm) (w w0 : World) (L : List HP)
    (h : St w0 (blk b (.cells c T (0, 0)) :: osl 69 3 v l.length (nmCells l) :: L) w) (hr : rightNm x = false) (h1 : x.name.size ≤ maxLen) (h2 : x.tgt.size ≤ maxLen) :
    Calls Tryz.prog 33 #[.pointer (some ⟨b, off, none⟩), .agg x.cells.toArray] w fun e w' => e = .returned (.iface 39 (.int .i64 1)) ∧
      St w0 (blk b (.cells c T (0, 0)) :: osl 69 3 v l.length (nmCells l) :: L) w' := by
  have HC := Lib.hid (fun w => right_is x false w h1 h2 hr)
  have hs0 := h.alloc (.cells x.cells.toArray 69)
  have HS := Lib.hid hs0
  clear h h1 h2 hr hs0
  obtain ⟨a, t, n⟩ := x
  simp only [Nm.cells] at HC HS ⊢
  go_enter Tryz.func33, Tryz.ntmps33
  go_wp2_with fail
  refine (HC.out _).mono ?_
  rintro e w1 ⟨rfl, hb1⟩
  have HS1 := Lib.hid (HS.out.below_step hb1)
  clear hb1
  go_wp2_with fail
  go_ret
  exact ⟨rfl, HS1.out.drop⟩
end Go.Proofs.YtjhogocabcdjbaaGreatDoor
/- names.Set, of what may be. -/
namespace Go.Proofs.YtjhogocabcdjbaaGreatDoor
open Go Go.RowKit WB
set_option maxHeartbeats 1000000 in
/-- there are MaxNames -/
theorem set_full (b off : Nat) (c : Array Value) (T : TypeId) (v : Value) (l : List Nm) (x : Nm) (w w0 : World) (L : List HP)
    (h : St w0 (blk b (.cells c T (0, 0)) :: osl 69 3 v l.length (nmCells l) :: L) w) (hc : c[off]? = some v) (hr : rightNm x = true) (h1 : x.name.size ≤ maxLen) (h2 : x.tgt.size ≤ maxLen)
    (hm : Mono l x.name) (hl : 20 ≤ l.length) (hl2 : l.length < 1000000) (hit : hitB l x.name (srchN l x.name) = false) :
    Calls Tryz.prog 33 #[.pointer (some ⟨b, off, none⟩), .agg x.cells.toArray] w fun e w' => e = .returned (.iface 39 (.int .i64 12)) ∧
      St w0 (blk b (.cells c T (0, 0)) :: osl 69 3 v l.length (nmCells l) :: L) w' := by
  have HC := Lib.hid (fun w => right_is x true w h1 h2 hr)
  have hs0 := h.alloc (.cells x.cells.toArray 69)
  have HS := Lib.hid hs0
  have HF := Lib.hid (fun (w : World) (h : St w0 (blk b (.cells c T (0, 0)) :: osl 69 3 v l.length (nmCells l) :: L) w) => find_any b off c T (0, 0) v l x.name w w0 L h hc hl2 hm)
  have HK := Lib.hid (fun k (hk : Srch l x.name k) => srch_eq hk)
  have HI := Lib.hid hit
  have hv : ∃ a cap, v = .slice a l.length cap := by
    rcases h.drop.osl_cases with ⟨hv, hz, _⟩ | ⟨g, cap, _, hv, _⟩
    · exact ⟨none, 0, by rw [hv, hz]⟩
    · exact ⟨_, _, hv⟩
  obtain ⟨a, cap, rfl⟩ := hv
  have HCC := Lib.hid hc
  clear h h1 h2 hr hs0 hm hit hc
  generalize hN : l.length = n at *
  have HN := Lib.hid hN
  clear hN
  obtain ⟨nm, t, hs⟩ := x
  simp only [Nm.cells] at HC HS HF HK HI ⊢
  go_enter Tryz.func33, Tryz.ntmps33
  go_wp2_with fail
  refine (HC.out _).mono ?_
  rintro e w1 ⟨rfl, hb1⟩
  have HS1 := Lib.hid (HS.out.below_step hb1)
  have c0 := HS1.out.cell (off := 0) rfl
  clear hb1
  go_wp2_with fail
  refine (HF.out _ HS1.out.drop).mono ?_
  rintro e w2 ⟨k, hk, rfl, hb2⟩
  have HS2 := Lib.hid (HS1.out.below_step hb2)
  rw [HK.out k hk, HI.out]
  clear hb2 c0 hk
  have c1 : w2.cell? ⟨b, off, none⟩ = some (.slice a n cap) := HS2.out.cellP (.tail .head) HCC.out
  go_wp2_with fail
  go_ret
  exact ⟨rfl, HS2.out.drop⟩
set_option maxHeartbeats 2000000 in
set_option maxRecDepth 100000 in
/-- in the place of one of that name -/
theorem set_hit (b off : Nat) (c : Array Value) (T : TypeId) (v : Value) (l : List Nm) (x : Nm) (w w0 : World) (L : List HP)
    (h : St w0 (blk b (.cells c T (0, 0)) :: osl 69 3 v l.length (nmCells l) :: L) w) (hc : c[off]? = some v) (hr : rightNm x = true) (h1 : x.name.size ≤ maxLen) (h2 : x.tgt.size ≤ maxLen)
    (hm : Mono l x.name) (hl2 : l.length < 1000000) (hit : hitB l x.name (srchN l x.name) = true) :
    Calls Tryz.prog 33 #[.pointer (some ⟨b, off, none⟩), .agg x.cells.toArray] w fun e w' => e = .returned .nilIface ∧
      St w0 (blk b (.cells c T (0, 0)) :: osl 69 3 v l.length (nmCells (l.set (srchN l x.name) x)) :: L) w' := by
  have HC := Lib.hid (fun w => right_is x true w h1 h2 hr)
  have hs0 := h.alloc (.cells x.cells.toArray 69)
  have HS := Lib.hid hs0
  have HF := Lib.hid (fun (w : World) (h : St w0 (blk b (.cells c T (0, 0)) :: osl 69 3 v l.length (nmCells l) :: L) w) => find_any b off c T (0, 0) v l x.name w w0 L h hc hl2 hm)
  have HK := Lib.hid (fun k (hk : Srch l x.name k) => srch_eq hk)
  have HI := Lib.hid hit
  have hklt : srchN l x.name < l.length := by
    unfold hitB at hit
    rw [Bool.and_eq_true] at hit
    simpa using hit.1
  have HSET := Lib.hid (nmCells_set l x (srchN l x.name) hklt)
  have hv : ∃ g cap, v = .slice (some ⟨g, 0, none⟩) l.length cap := by
    rcases h.drop.osl_cases with ⟨hv, hz, _⟩ | ⟨g, cap, _, hv, _⟩
    · omega
    · exact ⟨_, _, hv⟩
  obtain ⟨g, cap, rfl⟩ := hv
  have HCC := Lib.hid hc
  clear h h1 h2 hr hs0 hm hit hc
  generalize hN : l.length = n at *
  have HN := Lib.hid hN
  clear hN
  obtain ⟨nm, t, hs⟩ := x
  simp only [Nm.cells] at HC HS HF HK HI HSET hklt ⊢
  generalize hK : srchN l nm = k0 at *
  clear hK
  go_enter Tryz.func33, Tryz.ntmps33
  go_wp2_with fail
  refine (HC.out _).mono ?_
  rintro e w1 ⟨rfl, hb1⟩
  have HS1 := Lib.hid (HS.out.below_step hb1)
  have c0 := HS1.out.cell (off := 0) rfl
  clear hb1
  go_wp2_with fail
  refine (HF.out _ HS1.out.drop).mono ?_
  rintro e w2 ⟨k, hk, rfl, hb2⟩
  have HS2 := Lib.hid (HS1.out.below_step hb2)
  obtain rfl := HK.out k hk
  rw [HI.out]
  clear hb2 c0 hk
  have c1 : w2.cell? ⟨b, off, none⟩ = some (.slice (some ⟨g, 0, none⟩) n cap) := HS2.out.cellP (.tail .head) HCC.out
  have c2 : HasCells w2 ⟨w.heap.size, 0, none⟩ [.string nm, .string t, .int .i64 hs] := HS2.out.hasCells fun j u hj => by simpa using hj
  -- the store
  obtain ⟨w3, hw3, hs3⟩ : ∃ w3, (storeVar 69 ⟨g, k * 3, none⟩ (.agg #[.string nm, .string t, .int .i64 hs])).run Tryz.prog w2.drew = .ok () w3 ∧
      St w0 (blk b (.cells c T (0, 0)) :: osl 69 3 (.slice (some ⟨g, 0, none⟩) n cap) n (nmCells (l.set k ⟨nm, t, hs⟩)) :: L) w3 := by
    have h4 := (HS2.out.drop.pick (.tail .head)).drew
    rcases h4.osl_cases with ⟨hc, _⟩ | ⟨g', cap', cur, hc, hnc, hcm, hcs, htake, hxl, hblk⟩
    · simp at hc
    · simp only [Value.slice.injEq, Option.some.injEq, Addr.mk.injEq, and_true, true_and] at hc
      obtain ⟨rfl, rfl⟩ := hc
      refine ⟨_, run_store_row hblk (by simp [Value.cells]) (by simp [Value.cells]; omega) (by simp [Value.cells]; exact ⟨rfl, rfl, rfl⟩), ?_⟩
      refine ((hblk.setRow).osl_mk hnc hcm ?_ ?_).swap2
      · simp [Value.cells]; omega
      · rw [← HSET.out, ← htake]
        exact splice_take cur.toList [.string nm, .string t, .int .i64 hs] (k * 3) 3 (n * 3) rfl (by omega) (by simp; omega)
  have HW3 := Lib.hid hw3
  have HS3 := Lib.hid hs3
  clear hw3 hs3
  go_wp2_with fail
  refine wp_region_ord [.pure, .pure, .pure, .read, .pure, .read, .pure, .write] [0, 1, 2, 3, 4, 5, 6, 7] (by kernel_rfl) (by kernel_rfl) ?_
  simp only [List.map_cons, List.map_nil, item, List.getD_cons_zero, List.getD_cons_succ]
  repeat ((with_reducible refine vcL_pure (v := ?_) (a' := ?_) ?_ ?_ ?_ ?_); rotate_left 2; (rfl); ((intro w'; go_simp; (try (go_bits; (try go_simp); (try (go_bits; (try go_simp))))); ((skip))) <;> rfl); (go_simp; rfl))
  refine vcL_ld1 (a' := ?_) (v := .slice (some ⟨g, 0, none⟩) n cap) (ad := ⟨b, off, none⟩) rfl rfl (fun _ => by simp) c1 ?_ ?_
  rotate_left 1
  · go_simp; rfl
  repeat ((with_reducible refine vcL_pure (v := ?_) (a' := ?_) ?_ ?_ ?_ ?_); rotate_left 2; (rfl); ((intro w'; go_simp; (try (go_bits; (try go_simp); (try (go_bits; (try go_simp))))); ((skip))) <;> rfl); (go_simp; rfl))
  refine vcL_ldn (a' := ?_) (cs := [.string nm, .string t, .int .i64 hs]) (ad := ⟨w.heap.size, 0, none⟩) rfl rfl (fun _ => by simp) (fun _ => by simp) c2 ?_ ?_
  rotate_left 1
  · go_simp; rfl
  repeat ((with_reducible refine vcL_pure (v := ?_) (a' := ?_) ?_ ?_ ?_ ?_); rotate_left 2; (rfl); ((intro w'; go_simp; (try (go_bits; (try go_simp); (try (go_bits; (try go_simp))))); ((skip))) <;> rfl); (go_simp; rfl))
  refine vcL_writeSkip (a' := ?_) (w' := w3) rfl ?_ ?_ ?_
  rotate_left 1
  · exact exec_store rfl rfl HW3.out
  · go_simp; rfl
  refine vcL_nil ?_
  clear c1 c2
  go_wp2_with fail
  go_ret
  exact ⟨rfl, HS3.out⟩
end Go.Proofs.YtjhogocabcdjbaaGreatDoor
/- names.Set, of a new name. -/
namespace Go.Proofs.YtjhogocabcdjbaaGreatDoor
open Go Go.RowKit WB
set_option maxHeartbeats 4000000 in
set_option maxRecDepth 100000 in
theorem set_new (b off : Nat) (c : Array Value) (T : TypeId) (v : Value) (l : List Nm) (x : Nm) (w w0 : World) (L : List HP)
    (h : St w0 (blk b (.cells c T (0, 0)) :: osl 69 3 v l.length (nmCells l) :: L) w) (hc : c[off]? = some v) (hr : rightNm x = true) (h1 : x.name.size ≤ maxLen) (h2 : x.tgt.size ≤ maxLen)
    (hm : Mono l x.name) (hl : l.length < 20) (hit : hitB l x.name (srchN l x.name) = false) :
    Calls Tryz.prog 33 #[.pointer (some ⟨b, off, none⟩), .agg x.cells.toArray] w fun e w' => e = .returned .nilIface ∧
      ∃ v', St w0 (blk b (.cells (c.setIfInBounds off v') T (0, 0)) :: osl 69 3 v' (l.length + 1) (nmCells (l.take (srchN l x.name) ++ x :: l.drop (srchN l x.name))) :: L) w' := by
  have HC := Lib.hid (fun w => right_is x true w h1 h2 hr)
  have hs0 := h.alloc (.cells x.cells.toArray 69)
  have HS := Lib.hid hs0
  have HF := Lib.hid (fun (w : World) (h : St w0 (blk b (.cells c T (0, 0)) :: osl 69 3 v l.length (nmCells l) :: L) w) => find_any b off c T (0, 0) v l x.name w w0 L h hc (by omega) hm)
  have HK := Lib.hid (fun k (hk : Srch l x.name k) => srch_eq hk)
  have HI := Lib.hid hit
  have hkle : srchN l x.name ≤ l.length := takeWhile_len_le _ _
  have HINS := Lib.hid (fun (w : World) (bv : Nat) (L' : List HP) (h : St w0 (osl 69 3 v l.length (nmCells l) :: blk bv (.cells x.cells.toArray 69 (0, 0)) :: L') w) => ins_any w w0 L' v l x (srchN l x.name) bv l.length rfl h hkle (by omega))
  have hv : ∃ a cap, v = .slice a l.length cap := by
    rcases h.drop.osl_cases with ⟨hv, hz, _⟩ | ⟨g, cap, _, hv, _⟩
    · exact ⟨none, 0, by rw [hv, hz]⟩
    · exact ⟨_, _, hv⟩
  obtain ⟨sa, cap, rfl⟩ := hv
  have HCC := Lib.hid hc
  have hoff : off < c.size := (Array.getElem?_eq_some_iff.1 hc).1
  clear h h1 h2 hr hs0 hm hit hc
  obtain ⟨nm, t, hs⟩ := x
  simp only [Nm.cells] at HC HS HF HK HI HINS hkle ⊢
  generalize hK : srchN l nm = k0 at *
  generalize hN : l.length = n at HF HINS HS HCC hkle hl ⊢
  clear hK
  go_enter Tryz.func33, Tryz.ntmps33
  go_wp2_with fail
  refine (HC.out _).mono ?_
  rintro e w1 ⟨rfl, hb1⟩
  have HS1 := Lib.hid (HS.out.below_step hb1)
  have c0 := HS1.out.cell (off := 0) rfl
  clear hb1
  go_wp2_with fail
  refine (HF.out _ HS1.out.drop).mono ?_
  rintro e w2 ⟨k, hk, rfl, hb2⟩
  have HS2 := Lib.hid (HS1.out.below_step hb2)
  obtain rfl := HK.out k hk
  rw [HI.out]
  clear hb2 c0 hk
  have c1 : w2.cell? ⟨b, off, none⟩ = some (.slice sa n cap) := HS2.out.cellP (.tail .head) HCC.out
  have c2 : HasCells w2 ⟨w.heap.size, 0, none⟩ [.string nm, .string t, .int .i64 hs] := HS2.out.hasCells fun j u hj => by simpa using hj
  go_wp2_with fail
  refine wp_region_ord [.pure, .pure, .pure, .pure, .read, .pure, .read, .keep, .write, .pure, .pure, .write] [0, 1, 2, 3, 4, 5, 6, 9, 10, 7, 8, 11] (by kernel_rfl) (by kernel_rfl) ?_
  simp only [List.map_cons, List.map_nil, item, List.getD_cons_zero, List.getD_cons_succ]
  repeat ((with_reducible refine vcL_pure (v := ?_) (a' := ?_) ?_ ?_ ?_ ?_); rotate_left 2; (rfl); ((intro w'; go_simp; (try (go_bits; (try go_simp); (try (go_bits; (try go_simp))))); ((skip))) <;> rfl); (go_simp; rfl))
  refine vcL_ld1 (a' := ?_) (v := .slice sa n cap) (ad := ⟨b, off, none⟩) rfl rfl (fun _ => by simp) c1 ?_ ?_
  rotate_left 1
  · go_simp; rfl
  repeat ((with_reducible refine vcL_pure (v := ?_) (a' := ?_) ?_ ?_ ?_ ?_); rotate_left 2; (rfl); ((intro w'; go_simp; (try (go_bits; (try go_simp); (try (go_bits; (try go_simp))))); ((skip))) <;> rfl); (go_simp; rfl))
  refine vcL_ldn (a' := ?_) (cs := [.string nm, .string t, .int .i64 hs]) (ad := ⟨w.heap.size, 0, none⟩) rfl rfl (fun _ => by simp) (fun _ => by simp) c2 ?_ ?_
  rotate_left 1
  · go_simp; rfl
  repeat ((with_reducible refine vcL_pure (v := ?_) (a' := ?_) ?_ ?_ ?_ ?_); rotate_left 2; (rfl); ((intro w'; go_simp; (try (go_bits; (try go_simp); (try (go_bits; (try go_simp))))); ((skip))) <;> rfl); (go_simp; rfl))
  refine vcL_keepRun (a' := ?_) (v := .slice (some ⟨w2.heap.size, 0, none⟩) 1 1) (w' := (w2.alloc (.cells #[.string nm, .string t, .int .i64 hs] 69)).drew) rfl ?_ ?_ ?_ ?_
  rotate_left 1
  · go_simp
  · exact Ext.alloc w2 _
  · go_simp; rfl
  have hs3 := HS2.out.alloc (.cells #[.string nm, .string t, .int .i64 hs] 69)
  have hs4 : St w0 (osl 69 3 (.slice sa n cap) n (nmCells l) :: blk w2.heap.size (.cells [Value.string nm, Value.string t, Value.int .i64 hs].toArray 69 (0, 0)) :: blk w.heap.size (.cells #[.string nm, .string t, .int .i64 hs] 69) :: blk b (.cells c T (0, 0)) :: L)
      (w2.alloc (.cells #[.string nm, .string t, .int .i64 hs] 69)).drew := (hs3.pick (.tail (.tail (.tail .head)))).drew
  refine vcL_writeCall rfl (f := 86) (args := #[.slice sa n cap, .int .i64 k, .slice (some ⟨w2.heap.size, 0, none⟩) 1 1]) (w' := (w2.alloc (.cells #[.string nm, .string t, .int .i64 hs] 69)).drew) ?_ (HINS.out _ _ _ hs4) ?_
  · go_simp
  rintro e w3 ⟨v', rfl, hs5⟩
  refine ⟨v', rfl, ?_⟩
  have hv' : ∃ sa' n' cap', v' = .slice sa' n' cap' := by
    rcases hs5.osl_cases with ⟨hv, _⟩ | ⟨g, cap, _, hv, _⟩
    · exact ⟨_, _, _, hv⟩
    · exact ⟨_, _, _, hv⟩
  obtain ⟨sa', n', cap', rfl⟩ := hv'
  have hb6 : St w0 (blk b (.cells c T (0, 0)) :: osl 69 3 (.slice sa' n' cap') (n + 1) (nmCells (l.take k ++ ⟨nm, t, hs⟩ :: l.drop k)) :: blk w.heap.size (.cells #[.string nm, .string t, .int .i64 hs] 69) :: L) w3 := hs5.pick (.tail (.tail .head))
  have hst := run_store_row (P := Tryz.prog) (T := 62) (off := off) (v := .slice sa' n' cap') hb6 (by simp [Value.cells]) (by simp [Value.cells]; omega) (by simp [Value.cells]; rfl)
  have hs7 := hb6.setRow (c' := (c.toList.take off ++ (Value.slice sa' n' cap').cells.toList ++ c.toList.drop (off + (Value.slice sa' n' cap').cells.toList.length)).toArray)
  have e7 : (c.toList.take off ++ (Value.slice sa' n' cap').cells.toList ++ c.toList.drop (off + (Value.slice sa' n' cap').cells.toList.length)).toArray = c.setIfInBounds off (.slice sa' n' cap') := setRow_one hoff
  rw [e7] at hst hs7
  refine vcL_writeSkip (a' := ?_) (w' := w3.setRow b (c.setIfInBounds off (.slice sa' n' cap'))) rfl ?_ ?_ ?_
  rotate_left 1
  · exact exec_store rfl rfl hst
  · go_simp; rfl
  have HS7 := Lib.hid (hs7.pick (.tail (.tail .head))).drop
  clear hs3 hs4 hs5 hb6 hs7 hst e7 c1 c2
  refine vcL_nil ?_
  go_wp2_with fail
  go_ret
  exact ⟨rfl, _, HS7.out⟩
end Go.Proofs.YtjhogocabcdjbaaGreatDoor
namespace WB
open Go Go.RowKit
def look (l : List Nm) (s : ByteArray) : Option Nm := if hitB l s (srchN l s) = true then some (nmAt l (srchN l s)) else none
def localB (l : List Nm) (s : ByteArray) : Bool := match look l s with | some x => emptyB x.tgt | none => false
/-- what a name stands for: the text, the house, the error's number -/
def resN (l : List Nm) : Nat → ByteArray → ByteArray × Int × Int
  | 0, _ => (⟨#[]⟩, 0, 11)
  | n + 1, s => match look l s with
    | none => (⟨#[]⟩, 0, 7)
    | some x => if emptyB x.tgt = true then (s, -1, 0) else if 0 ≤ x.house then (x.tgt, x.house, 0) else resN l n x.tgt
theorem look_none {l : List Nm} {s : ByteArray} (h : hitB l s (srchN l s) = false) : look l s = none := by simp [look, h]
theorem look_some {l : List Nm} {s : ByteArray} (h : hitB l s (srchN l s) = true) : look l s = some (nmAt l (srchN l s)) := by simp [look, h]
theorem hit_lt {l : List Nm} {s : ByteArray} {k : Nat} (h : hitB l s k = true) : k < l.length := by
  unfold hitB at h; rw [Bool.and_eq_true] at h; simpa using h.1
end WB
/- names: Set, Local. -/
namespace Go.Proofs.YtjhogocabcdjbaaGreatDoor
open Go Go.RowKit WB
theorem set_any (b off : Nat) (c : Array Value) (T : TypeId) (v : Value) (l : List Nm) (x : Nm) (w w0 : World) (L : List HP)
    (h : St w0 (blk b (.cells c T (0, 0)) :: osl 69 3 v l.length (nmCells l) :: L) w) (hc : c[off]? = some v) (h1 : x.name.size ≤ maxLen) (h2 : x.tgt.size ≤ maxLen)
    (hm : Mono l x.name) (hl : l.length ≤ 20) :
    Calls Tryz.prog 33 #[.pointer (some ⟨b, off, none⟩), .agg x.cells.toArray] w fun e w' => e = .returned (errV 39 (setErr l x)) ∧
      ∃ v', St w0 (blk b (.cells (c.setIfInBounds off v') T (0, 0)) :: osl 69 3 v' (setNm l x).length (nmCells (setNm l x)) :: L) w' := by
  cases hr : rightNm x with
  | false =>
    refine (set_bad b off c T v l x w w0 L h hr h1 h2).mono ?_
    rintro e w' ⟨rfl, hs⟩
    refine ⟨by simp [errV, setErr, hr], v, ?_⟩
    rw [set_same hc]; simp only [setNm, hr, if_true]; exact hs
  | true =>
    cases hit : hitB l x.name (srchN l x.name) with
    | true =>
      refine (set_hit b off c T v l x w w0 L h hc hr h1 h2 hm (by omega) hit).mono ?_
      rintro e w' ⟨rfl, hs⟩
      refine ⟨by simp [errV, setErr, hr, hit], v, ?_⟩
      rw [set_same hc]; simp only [setNm, hr, hit, if_true, Bool.true_eq_false, if_false, List.length_set]; exact hs
    | false =>
      by_cases hf : 20 ≤ l.length
      · refine (set_full b off c T v l x w w0 L h hc hr h1 h2 hm hf (by omega) hit).mono ?_
        rintro e w' ⟨rfl, hs⟩
        refine ⟨by simp [errV, setErr, hr, hit, hf], v, ?_⟩
        rw [set_same hc]; simp only [setNm, hr, hit, hf, if_true, Bool.true_eq_false, Bool.false_eq_true, if_false]; exact hs
      · refine (set_new b off c T v l x w w0 L h hc hr h1 h2 hm (by omega) hit).mono ?_
        rintro e w' ⟨rfl, v', hs⟩
        refine ⟨by simp [errV, setErr, hr, hit, hf], v', ?_⟩
        have hk : srchN l x.name ≤ l.length := takeWhile_len_le _ _
        have e1 : setNm l x = l.take (srchN l x.name) ++ x :: l.drop (srchN l x.name) := by simp [setNm, hr, hit, hf]
        rw [e1, show (l.take (srchN l x.name) ++ x :: l.drop (srchN l x.name)).length = l.length + 1 by simp; omega]
        exact hs
set_option maxHeartbeats 1000000 in
theorem local_any (b off : Nat) (c : Array Value) (T : TypeId) (v : Value) (l : List Nm) (s : ByteArray) (w w0 : World) (L : List HP)
    (h : St w0 (blk b (.cells c T (0, 0)) :: osl 69 3 v l.length (nmCells l) :: L) w) (hc : c[off]? = some v) (hm : Mono l s) (hl : l.length < 1000000) :
    Calls Tryz.prog 39 #[.pointer (some ⟨b, off, none⟩), .string s] w fun e w' => e = .returned (.bool (localB l s)) ∧ Below w.heap.size w w' := by
  have HF := Lib.hid (find_any b off c T (0, 0) v l s w w0 L h hc hl hm)
  have HK := Lib.hid (fun k (hk : Srch l s k) => srch_eq hk)
  have HS := Lib.hid h
  have HCC := Lib.hid hc
  cases hit : hitB l s (srchN l s) with
  | false =>
    have HI := Lib.hid hit
    have HE := Lib.hid (show localB l s = false by simp [localB, look_none hit])
    clear h hm hit hc
    go_enter Tryz.func39, Tryz.ntmps39
    go_wp2_with fail
    refine HF.out.mono ?_
    rintro e w2 ⟨k, hk, rfl, hb2⟩
    have HB2 := Lib.hid hb2
    rw [HK.out k hk, HI.out]
    clear hb2 hk
    go_wp2_with fail
    go_ret
    exact ⟨ret_bool HE.out.symm, HB2.out⟩
  | true =>
    have hlt := hit_lt hit
    have hv : ∃ g cap, v = .slice (some ⟨g, 0, none⟩) l.length cap := by
      rcases h.drop.osl_cases with ⟨hv, hz, _⟩ | ⟨g, cap, _, hv, _⟩
      · omega
      · exact ⟨_, _, hv⟩
    obtain ⟨g, cap, rfl⟩ := hv
    have HI := Lib.hid hit
    have HE := Lib.hid (show localB l s = emptyB (nmAt l (srchN l s)).tgt by simp [localB, look_some hit])
    have HN := Lib.hid (show srchN l s < l.length from hlt)
    clear h hm hit hc
    generalize hN : l.length = n at HF hlt hl
    generalize hK : srchN l s = k0 at HI HE HN HK hlt
    clear hK
    cases he : emptyB (nmAt l k0).tgt with
    | false =>
      have he1 : (nmAt l k0).tgt.toList.isEmpty = false := he
      have he2 : ((nmAt l k0).tgt.toList == []) = false := by simpa [emptyB] using he
      have HE2 := Lib.hid he
      have HNN := Lib.hid hN
      clear he hN
      go_enter Tryz.func39, Tryz.ntmps39
      go_wp2_with fail
      refine HF.out.mono ?_
      rintro e w2 ⟨k, hk, rfl, hb2⟩
      have HB2 := Lib.hid hb2
      have HS2 := Lib.hid (HS.out.below_step hb2)
      obtain rfl := HK.out k hk
      rw [HI.out]
      clear hb2 hk
      have c1 : w2.cell? ⟨b, off, none⟩ = some (.slice (some ⟨g, 0, none⟩) n cap) := by rw [← HNN.out]; exact HS2.out.cell HCC.out
      obtain ⟨d0, d1, d2⟩ := nm_cells HS2.out.drop HN.out
      go_wp2_with fail
      go_ret
      exact ⟨ret_bool (by rw [HE.out, HE2.out]), HB2.out⟩
    | true =>
      have he1 : (nmAt l k0).tgt.toList.isEmpty = true := he
      have he2 : (nmAt l k0).tgt.toList = [] := by simpa [emptyB] using he
      have HE2 := Lib.hid he
      have HNN := Lib.hid hN
      clear he hN
      go_enter Tryz.func39, Tryz.ntmps39
      go_wp2_with fail
      refine HF.out.mono ?_
      rintro e w2 ⟨k, hk, rfl, hb2⟩
      have HB2 := Lib.hid hb2
      have HS2 := Lib.hid (HS.out.below_step hb2)
      obtain rfl := HK.out k hk
      rw [HI.out]
      clear hb2 hk
      have c1 : w2.cell? ⟨b, off, none⟩ = some (.slice (some ⟨g, 0, none⟩) n cap) := by rw [← HNN.out]; exact HS2.out.cell HCC.out
      obtain ⟨d0, d1, d2⟩ := nm_cells HS2.out.drop HN.out
      go_wp2_with fail
      go_ret
      exact ⟨ret_bool (by rw [HE.out, HE2.out]), HB2.out⟩
end Go.Proofs.YtjhogocabcdjbaaGreatDoor
/- names.Resolve. -/
namespace Go.Proofs.YtjhogocabcdjbaaGreatDoor
open Go Go.RowKit WB
def ResRel (l : List Nm) (s : ByteArray) (w : World) (x i : Value) (wr : World) : Prop :=
  ∃ (k : Nat) (t : ByteArray), k ≤ l.length + 1 ∧ x = .string t ∧ i = .int .i64 k ∧ resN l (l.length + 1 - k) t = resN l (l.length + 1) s ∧ Below w.heap.size w wr
def ResPost (l : List Nm) (s : ByteArray) (w : World) (e : Ending) (w' : World) : Prop :=
  e = .returned (.tuple #[.string (resN l (l.length + 1) s).1, .int .i64 (resN l (l.length + 1) s).2.1, errV 39 (resN l (l.length + 1) s).2.2]) ∧ Below w.heap.size w w'
theorem ResPost.mk {l : List Nm} {s : ByteArray} {w w' : World} {r : ByteArray × Int × Int} (h : r = resN l (l.length + 1) s) (hb : Below w.heap.size w w') {v : Value} (hv : v = errV 39 r.2.2) :
    ResPost l s w (.returned (.tuple #[.string r.1, .int .i64 r.2.1, v])) w' := by
  subst hv; rw [h]; exact ⟨rfl, hb⟩
set_option maxHeartbeats 4000000 in
set_option maxRecDepth 100000 in
theorem resolve_any (b off : Nat) (c : Array Value) (T : TypeId) (v : Value) (l : List Nm) (s : ByteArray) (w w0 : World) (L : List HP)
    (h : St w0 (blk b (.cells c T (0, 0)) :: osl 69 3 v l.length (nmCells l) :: L) w) (hc : c[off]? = some v) (hm : ∀ s, Mono l s) (hl : l.length < 1000000) :
    Calls Tryz.prog 38 #[.pointer (some ⟨b, off, none⟩), .string s] w (ResPost l s w) := by
  have hv : ∃ sa cap, v = .slice sa l.length cap ∧ (0 < l.length → ∃ g, sa = some ⟨g, 0, none⟩) := by
    rcases h.drop.osl_cases with ⟨hv, hz, _⟩ | ⟨g, cap, _, hv, _⟩
    · exact ⟨none, 0, by rw [hv, hz], fun h => by omega⟩
    · exact ⟨_, _, hv, fun _ => ⟨g, rfl⟩⟩
  obtain ⟨sa, cap, rfl, hsa⟩ := hv
  have HF := Lib.hid (fun (w : World) (t : ByteArray) (h : St w0 (blk b (.cells c T (0, 0)) :: osl 69 3 (.slice sa l.length cap) l.length (nmCells l) :: L) w) => find_any b off c T (0, 0) _ l t w w0 L h hc hl (hm t))
  have HS := Lib.hid h
  have HCC := Lib.hid hc
  have HSA := Lib.hid hsa
  have c0 : w.cell? ⟨b, off, none⟩ = some (.slice sa l.length cap) := h.cell hc
  clear h hm hc hsa
  obtain ⟨n, hN⟩ : ∃ n, l.length = n := ⟨_, rfl⟩
  rw [hN] at c0 hl
  have HN := Lib.hid hN
  clear hN
  go_enter Tryz.func38, Tryz.ntmps38
  go_wp2_with fail
  clear c0
  go_loopw [1, 16] (fun x i wr => ResRel l s w x i wr) (fun _ i _ => (n + 1 - (intOf i).toNat))
  case atStart => exact ⟨0, s, by omega, rfl, rfl, rfl, Below.refl _ _⟩
  case round =>
    obtain ⟨k, t, hk, rfl, rfl, hr, hbel⟩ := hrel
    rw [HN.out] at hk
    have HR := Lib.hid hr
    have HB := Lib.hid hbel
    have HS1 := Lib.hid (HS.out.below_step hbel)
    clear hr hbel
    by_cases hlt : k < n + 1
    · obtain ⟨m, hm⟩ : ∃ m, n + 1 - k = m + 1 := ⟨n - k, by omega⟩
      have HM := Lib.hid (show l.length + 1 - k = m + 1 by rw [HN.out]; exact hm)
      have HM2 := Lib.hid (show l.length + 1 - (k + 1) = m by rw [HN.out]; omega)
      clear hm
      cases hit : hitB l t (srchN l t) with
      | false =>
        have HI := Lib.hid hit
        have HE := Lib.hid (show (⟨#[]⟩, 0, 7) = resN l (l.length + 1) s by rw [← HR.out, HM.out, resN, look_none hit])
        clear hit
        go_wp2_with fail
        refine (HF.out _ _ HS1.out).mono ?_
        rintro e w2 ⟨k', hk', rfl, hb2⟩
        have HB2 := Lib.hid (HB.out.trans (hb2.mono HB.out.size))
        rw [srch_eq hk', HI.out]
        clear hb2 hk'
        go_wp2_with fail
        go_ret3
        exact ResPost.mk HE.out HB2.out rfl
      | true =>
        have hlt2 := hit_lt hit
        obtain ⟨g, rfl⟩ := HSA.out (by omega)
        have HI := Lib.hid hit
        have HL := Lib.hid (look_some hit)
        have HLT := Lib.hid hlt2
        have hlt3 : srchN l t < n := by rw [← HN.out]; exact hlt2
        clear hit hlt2
        cases he : emptyB (nmAt l (srchN l t)).tgt with
        | true =>
          have HE := Lib.hid (show (t, -1, 0) = resN l (l.length + 1) s by rw [← HR.out, HM.out, resN, HL.out]; simp only [he, if_true])
          have he1 : (nmAt l (srchN l t)).tgt.toList.isEmpty = true := he
          have he2 : (nmAt l (srchN l t)).tgt.toList = [] := by simpa [emptyB] using he
          clear he
          generalize hK : srchN l t = k0 at *
          have HK := Lib.hid hK
          clear hK
          go_wp2_with fail
          refine (HF.out _ _ HS1.out).mono ?_
          rintro e w2 ⟨k', hk', rfl, hb2⟩
          have HB2 := Lib.hid (HB.out.trans (hb2.mono HB.out.size))
          have HS2 := Lib.hid (HS1.out.below_step hb2)
          rw [srch_eq hk', HK.out, HI.out]
          clear hb2 hk'
          have c1 : w2.cell? ⟨b, off, none⟩ = some (.slice (some ⟨g, 0, none⟩) n cap) := by rw [← HN.out]; exact HS2.out.cell HCC.out
          obtain ⟨d0, d1, d2⟩ := nm_cells HS2.out.drop HLT.out
          go_wp2_with fail
          go_ret3
          exact ResPost.mk HE.out (HB2.out.alloc HB2.out.size _) rfl
        | false =>
          have he1 : (nmAt l (srchN l t)).tgt.toList.isEmpty = false := he
          have he2 : ((nmAt l (srchN l t)).tgt.toList == []) = false := by simpa [emptyB] using he
          by_cases hh : 0 ≤ (nmAt l (srchN l t)).house
          · have HE := Lib.hid (show ((nmAt l (srchN l t)).tgt, (nmAt l (srchN l t)).house, 0) = resN l (l.length + 1) s by rw [← HR.out, HM.out, resN, HL.out]; simp only [he, hh, if_true, Bool.false_eq_true, if_false])
            have hd : decide (0 ≤ (nmAt l (srchN l t)).house) = true := by simpa using hh
            clear he hh
            generalize hK : srchN l t = k0 at *
            have HK := Lib.hid hK
            clear hK
            go_wp2_with fail
            refine (HF.out _ _ HS1.out).mono ?_
            rintro e w2 ⟨k', hk', rfl, hb2⟩
            have HB2 := Lib.hid (HB.out.trans (hb2.mono HB.out.size))
            have HS2 := Lib.hid (HS1.out.below_step hb2)
            rw [srch_eq hk', HK.out, HI.out]
            clear hb2 hk'
            have c1 : w2.cell? ⟨b, off, none⟩ = some (.slice (some ⟨g, 0, none⟩) n cap) := by rw [← HN.out]; exact HS2.out.cell HCC.out
            obtain ⟨d0, d1, d2⟩ := nm_cells HS2.out.drop HLT.out
            go_wp2_with fail
            refine wp_region_ord [.pure, .read, .pure, .read, .pure, .pure, .pure] [0, 1, 2, 3, 4, 5, 6] (by kernel_rfl) (by kernel_rfl) ?_
            simp only [List.map_cons, List.map_nil, item, List.getD_cons_zero, List.getD_cons_succ]
            repeat ((with_reducible refine vcL_pure (v := ?_) (a' := ?_) ?_ ?_ ?_ ?_); rotate_left 2; (rfl); ((intro w'; go_simp; (try (go_bits; (try go_simp); (try (go_bits; (try go_simp))))); ((skip))) <;> rfl); (go_simp; rfl))
            refine vcL_ld1 (a' := ?_) (v := .string (nmAt l k0).tgt) (ad := ⟨w2.heap.size, 1, none⟩) rfl rfl (fun _ => by simp) (by simp) ?_ ?_
            rotate_left 1
            · go_simp; rfl
            repeat ((with_reducible refine vcL_pure (v := ?_) (a' := ?_) ?_ ?_ ?_ ?_); rotate_left 2; (rfl); ((intro w'; go_simp; (try (go_bits; (try go_simp); (try (go_bits; (try go_simp))))); ((skip))) <;> rfl); (go_simp; rfl))
            refine vcL_ld1 (a' := ?_) (v := .int .i64 (nmAt l k0).house) (ad := ⟨w2.heap.size, 2, none⟩) rfl rfl (fun _ => by simp) (by simp) ?_ ?_
            rotate_left 1
            · go_simp; rfl
            repeat ((with_reducible refine vcL_pure (v := ?_) (a' := ?_) ?_ ?_ ?_ ?_); rotate_left 2; (rfl); ((intro w'; go_simp; (try (go_bits; (try go_simp); (try (go_bits; (try go_simp))))); ((skip))) <;> rfl); (go_simp; rfl))
            refine vcL_nil ?_
            go_wp2_with fail
            go_ret3
            exact ResPost.mk HE.out (HB2.out.alloc HB2.out.size _).drew rfl
          · have HE := Lib.hid (show resN l m (nmAt l (srchN l t)).tgt = resN l (l.length + 1) s by rw [← HR.out, HM.out, resN, HL.out]; simp only [he, hh, Bool.false_eq_true, if_false])
            have hd : decide (0 ≤ (nmAt l (srchN l t)).house) = false := by simpa using hh
            clear he hh
            generalize hK : srchN l t = k0 at *
            have HK := Lib.hid hK
            clear hK
            go_wp2_with fail
            refine (HF.out _ _ HS1.out).mono ?_
            rintro e w2 ⟨k', hk', rfl, hb2⟩
            have HB2 := Lib.hid (HB.out.trans (hb2.mono HB.out.size))
            have HS2 := Lib.hid (HS1.out.below_step hb2)
            rw [srch_eq hk', HK.out, HI.out]
            clear hb2 hk'
            have c1 : w2.cell? ⟨b, off, none⟩ = some (.slice (some ⟨g, 0, none⟩) n cap) := by rw [← HN.out]; exact HS2.out.cell HCC.out
            obtain ⟨d0, d1, d2⟩ := nm_cells HS2.out.drop HLT.out
            go_wp2_with fail
            go_roundw
            case rel => exact ⟨k + 1, (nmAt l k0).tgt, by rw [HN.out]; omega, rfl, by go_num, by rw [HM2.out]; exact HE.out, HB2.out.alloc HB2.out.size _⟩
            case measure => simp [intOf]; omega
    · obtain rfl : k = n + 1 := by omega
      have HE := Lib.hid (show (⟨#[]⟩, 0, 11) = resN l (l.length + 1) s by rw [← HR.out, HN.out, Nat.sub_self]; rfl)
      go_wp2_with fail
      go_ret3
      exact ResPost.mk HE.out HB.out rfl
end Go.Proofs.YtjhogocabcdjbaaGreatDoor
/-! the order of byte strings; names as a sorted list: plain laws -/
namespace WB
open Go Go.RowKit
theorem cmpB_self : ∀ a : List UInt8, Lib.compareBytes a a = 0
  | [] => rfl
  | x :: a => by
    have : ¬ x < x := by rw [UInt8.lt_iff_toNat_lt]; omega
    simp only [Lib.compareBytes, this, if_false]; exact cmpB_self a
theorem cmpB_eq : ∀ {a b : List UInt8}, Lib.compareBytes a b = 0 → a = b
  | [], [], _ => rfl
  | [], _ :: _, h => by simp [Lib.compareBytes] at h
  | _ :: _, [], h => by simp [Lib.compareBytes] at h
  | x :: a, y :: b, h => by
    unfold Lib.compareBytes at h
    split at h
    · simp at h
    · split at h
      · simp at h
      · rename_i h1 h2
        have : x = y := UInt8.toNat_inj.1 (by rw [UInt8.lt_iff_toNat_lt] at h1 h2; omega)
        rw [this, cmpB_eq h]
theorem cmpB_anti : ∀ (a b : List UInt8), Lib.compareBytes a b = - Lib.compareBytes b a
  | [], [] => rfl
  | [], _ :: _ => rfl
  | _ :: _, [] => rfl
  | x :: a, y :: b => by
    unfold Lib.compareBytes
    by_cases h1 : x < y
    · have h2 : ¬ y < x := by rw [UInt8.lt_iff_toNat_lt] at *; omega
      simp [h1, h2]
    · by_cases h2 : y < x
      · simp [h1, h2]
      · simp only [h1, h2, if_false]; exact cmpB_anti a b
theorem cmpB_trans : ∀ {a b c : List UInt8}, Lib.compareBytes a b < 0 → Lib.compareBytes b c < 0 → Lib.compareBytes a c < 0
  | [], _, [], h1, h2 => by cases ‹List UInt8› <;> simp [Lib.compareBytes] at h1 h2
  | [], _, _ :: _, _, _ => by simp [Lib.compareBytes]
  | _ :: _, [], _, h1, _ => by simp [Lib.compareBytes] at h1
  | _ :: _, _ :: _, [], _, h2 => by simp [Lib.compareBytes] at h2
  | x :: a, y :: b, z :: c, h1, h2 => by
    unfold Lib.compareBytes at h1 h2 ⊢
    simp only [UInt8.lt_iff_toNat_lt] at h1 h2 ⊢
    by_cases e1 : x.toNat < y.toNat
    · by_cases e2 : y.toNat < z.toNat
      · have : x.toNat < z.toNat := by omega
        simp [this]
      · by_cases e3 : z.toNat < y.toNat
        · simp [e2, e3] at h2
        · have : x.toNat < z.toNat := by omega
          simp [this]
    · by_cases e1' : y.toNat < x.toNat
      · simp [e1, e1'] at h1
      · simp only [e1, e1', if_false] at h1
        by_cases e2 : y.toNat < z.toNat
        · have : x.toNat < z.toNat := by omega
          simp [this]
        · by_cases e3 : z.toNat < y.toNat
          · simp [e2, e3] at h2
          · simp only [e2, e3, if_false] at h2
            have n1 : ¬ x.toNat < z.toNat := by omega
            have n2 : ¬ z.toNat < x.toNat := by omega
            simp only [n1, n2, if_false]
            exact cmpB_trans h1 h2
theorem cmpN_self (a : ByteArray) : cmpN a a = 0 := cmpB_self _
theorem cmpN_eq {a b : ByteArray} (h : cmpN a b = 0) : a = b := by
  have := cmpB_eq h
  cases a; cases b; rename_i x y; cases x; cases y; simp at this; rw [this]
theorem cmpN_anti (a b : ByteArray) : cmpN a b = - cmpN b a := cmpB_anti _ _
theorem cmpN_trans {a b c : ByteArray} (h1 : cmpN a b < 0) (h2 : cmpN b c < 0) : cmpN a c < 0 := cmpB_trans h1 h2
theorem cmpN_zero {a b : ByteArray} : cmpN a b = 0 ↔ a = b := ⟨cmpN_eq, fun h => h ▸ cmpN_self a⟩

def Sorted (l : List Nm) : Prop := l.Pairwise fun a b => cmpN a.name b.name < 0
theorem Sorted.mono {l : List Nm} (h : Sorted l) (s : ByteArray) : Mono l s := fun p q hpq hq hs => by
  rcases Nat.lt_or_eq_of_le hpq with hlt | rfl
  · have := List.pairwise_iff_getElem.1 h p q (by omega) hq hlt
    rw [show nmAt l p = l[p]'(by omega) by simp [nmAt, List.getD_eq_getElem?_getD, show p < l.length by omega]]
    rw [show nmAt l q = l[q] by simp [nmAt, List.getD_eq_getElem?_getD, hq]] at hs
    exact cmpN_trans this hs
  · exact hs
theorem sorted_nil : Sorted [] := List.Pairwise.nil
/-- the entry with the name s -/
def lk (l : List Nm) (s : ByteArray) : Option Nm := l.find? fun x => decide (x.name = s)
/-- x put where it belongs -/
def insN (x : Nm) : List Nm → List Nm
  | [] => [x]
  | y :: l => if cmpN y.name x.name < 0 then y :: insN x l else if cmpN y.name x.name = 0 then x :: l else x :: y :: l
theorem lk_cons (x : Nm) (l : List Nm) (s : ByteArray) : lk (x :: l) s = if x.name = s then some x else lk l s := by
  unfold lk; rw [List.find?_cons]; by_cases h : x.name = s <;> simp [h]
theorem lk_above {l : List Nm} {s : ByteArray} (h : ∀ y ∈ l, cmpN s y.name < 0) : lk l s = none := by
  unfold lk; rw [List.find?_eq_none]
  intro y hy he
  have := h y hy
  simp at he; rw [he, cmpN_self] at this; omega
theorem look_sorted : ∀ {l : List Nm} (_ : Sorted l) (s : ByteArray), look l s = lk l s
  | [], _, s => rfl
  | x :: l, h, s => by
    obtain ⟨h1, h2⟩ := List.pairwise_cons.1 h
    rw [lk_cons]
    by_cases hx : cmpN x.name s < 0
    · have hs : srchN (x :: l) s = srchN l s + 1 := by simp [srchN, List.takeWhile_cons, hx]
      have hne : x.name ≠ s := fun e => by rw [e, cmpN_self] at hx; omega
      rw [if_neg hne, ← look_sorted h2 s]
      unfold look
      rw [hs]
      have : hitB (x :: l) s (srchN l s + 1) = hitB l s (srchN l s) := by simp [hitB, nmAt]
      rw [this]; rfl
    · have hs : srchN (x :: l) s = 0 := by simp [srchN, List.takeWhile_cons, hx]
      unfold look
      rw [hs]
      by_cases he : x.name = s
      · simp [hitB, nmAt, he, cmpN_self]
      · have h0 : cmpN x.name s ≠ 0 := fun e => he (cmpN_eq e)
        have : hitB (x :: l) s 0 = false := by simp [hitB, nmAt, h0]
        rw [this, if_neg he]
        have hlt : cmpN s x.name < 0 := by rw [cmpN_anti]; omega
        rw [lk_above fun y hy => cmpN_trans hlt (h1 y hy)]; rfl
theorem insN_mem {x y : Nm} : ∀ {l : List Nm}, y ∈ insN x l → y = x ∨ y ∈ l
  | [], h => by simp [insN] at h; exact Or.inl h
  | z :: l, h => by
    unfold insN at h
    split at h
    · rcases List.mem_cons.1 h with h | h
      · exact Or.inr (by simp [h])
      · rcases insN_mem h with h | h
        · exact Or.inl h
        · exact Or.inr (by simp [h])
    · split at h
      · rcases List.mem_cons.1 h with h | h
        · exact Or.inl h
        · exact Or.inr (by simp [h])
      · rcases List.mem_cons.1 h with h | h
        · exact Or.inl h
        · exact Or.inr h
theorem insN_sorted {x : Nm} : ∀ {l : List Nm}, Sorted l → Sorted (insN x l)
  | [], _ => List.pairwise_singleton _ _
  | z :: l, h => by
    obtain ⟨h1, h2⟩ := List.pairwise_cons.1 h
    unfold insN
    split
    · rename_i hz
      refine List.pairwise_cons.2 ⟨fun y hy => ?_, insN_sorted h2⟩
      rcases insN_mem hy with rfl | hy
      · exact hz
      · exact h1 y hy
    · split
      · rename_i he
        have he := cmpN_eq he
        exact List.pairwise_cons.2 ⟨fun y hy => he ▸ h1 y hy, h2⟩
      · rename_i h3 h4
        have hlt : cmpN x.name z.name < 0 := by rw [cmpN_anti]; omega
        refine List.pairwise_cons.2 ⟨fun y hy => ?_, h⟩
        rcases List.mem_cons.1 hy with rfl | hy
        · exact hlt
        · exact cmpN_trans hlt (h1 y hy)
theorem lk_insN {x : Nm} (s : ByteArray) : ∀ {l : List Nm}, lk (insN x l) s = if x.name = s then some x else lk l s
  | [] => by rw [insN, lk_cons]
  | z :: l => by
    unfold insN
    split
    · rename_i hz
      rw [lk_cons, lk_insN s, lk_cons]
      by_cases h1 : z.name = s
      · have : x.name ≠ s := fun e => by rw [h1, e, cmpN_self] at hz; omega
        simp [h1, this]
      · simp [h1]
    · split
      · rename_i he
        have he := cmpN_eq he
        rw [lk_cons, lk_cons]
        by_cases h1 : x.name = s
        · simp [h1]
        · simp [h1, he]
      · rw [lk_cons]
theorem insN_len {x : Nm} : ∀ {l : List Nm}, (insN x l).length ≤ l.length + 1
  | [] => by simp [insN]
  | z :: l => by
    unfold insN
    split
    · have := insN_len (x := x) (l := l); simp; omega
    · split <;> simp
theorem put_insN (x : Nm) : ∀ (l : List Nm), (if hitB l x.name (srchN l x.name) = true then l.set (srchN l x.name) x else l.take (srchN l x.name) ++ x :: l.drop (srchN l x.name)) = insN x l
  | [] => by simp [hitB, srchN, insN]
  | z :: l => by
    unfold insN
    by_cases hz : cmpN z.name x.name < 0
    · have hs : srchN (z :: l) x.name = srchN l x.name + 1 := by simp [srchN, List.takeWhile_cons, hz]
      have hh : hitB (z :: l) x.name (srchN l x.name + 1) = hitB l x.name (srchN l x.name) := by simp [hitB, nmAt]
      rw [if_pos hz, hs, hh, ← put_insN x l]
      split <;> simp
    · have hs : srchN (z :: l) x.name = 0 := by simp [srchN, List.takeWhile_cons, hz]
      rw [if_neg hz, hs]
      by_cases he : cmpN z.name x.name = 0
      · simp [hitB, nmAt, he]
      · simp [hitB, nmAt, he]
theorem setNm_right {l : List Nm} {x : Nm} (hr : rightNm x = true) (hl : l.length < 20) : setNm l x = insN x l ∧ setErr l x = 0 := by
  refine ⟨?_, ?_⟩
  · rw [← put_insN x l]; unfold setNm; simp [hr]; split
    · rfl
    · rw [if_neg (by omega)]
  · unfold setErr; simp [hr]; omega
theorem lk_some {l : List Nm} {s : ByteArray} {x : Nm} (h : lk l s = some x) : x ∈ l ∧ x.name = s := ⟨List.mem_of_find?_eq_some h, by simpa using List.find?_some h⟩
/-- two sorted lists that answer alike are the same -/
theorem sorted_ext : ∀ {l l' : List Nm}, Sorted l → Sorted l' → (∀ s, lk l s = lk l' s) → l = l'
  | [], [], _, _, _ => rfl
  | [], y :: l', _, _, h => by have := h y.name; rw [lk_cons] at this; simp [lk] at this
  | x :: l, [], _, _, h => by have := h x.name; rw [lk_cons] at this; simp [lk] at this
  | x :: l, y :: l', h1, h2, h => by
    obtain ⟨a1, a2⟩ := List.pairwise_cons.1 h1
    obtain ⟨b1, b2⟩ := List.pairwise_cons.1 h2
    have e1 := h x.name
    have e2 := h y.name
    rw [lk_cons, lk_cons, if_pos rfl] at e1
    rw [lk_cons, lk_cons, if_pos rfl] at e2
    have hn : y.name = x.name := by
      rcases Decidable.em (y.name = x.name) with e | e
      · exact e
      · rw [if_neg e] at e1
        rw [if_neg (fun h => e h.symm)] at e2
        have c1 := b1 _ (lk_some e1.symm).1
        have c2 := a1 _ (lk_some e2).1
        rw [cmpN_anti] at c1; omega
    rw [if_pos hn] at e1
    simp at e1
    subst e1
    rw [sorted_ext a2 b2 fun s => ?_]
    have e3 := h s
    rw [lk_cons, lk_cons] at e3
    by_cases hs : x.name = s
    · subst hs
      rw [lk_above a1, lk_above b1]
    · simpa [hs] using e3
end WB
/-! what a name stands for: plain laws -/
namespace WB
open Go Go.RowKit
theorem nodup_len {α : Type} [DecidableEq α] : ∀ {m l : List α}, m.Nodup → (∀ x ∈ m, x ∈ l) → m.length ≤ l.length
  | [], _, _, _ => Nat.zero_le _
  | x :: m, l, h, hs => by
    obtain ⟨h1, h2⟩ := List.nodup_cons.1 h
    have hx : x ∈ l := hs x (by simp)
    have := nodup_len (m := m) (l := l.erase x) h2 fun y hy => (List.mem_erase_of_ne (fun e => by subst e; exact h1 hy)).2 (hs y (by simp [hy]))
    rw [List.length_erase_of_mem hx] at this
    have := List.length_pos_of_mem hx
    simp; omega
theorem pigeon {α : Type} [DecidableEq α] (f : Nat → α) (l : List α) (h : ∀ i, i ≤ l.length → f i ∈ l) : ∃ i j, i < j ∧ j ≤ l.length ∧ f i = f j := by
  rcases Classical.em (∃ i j, i < j ∧ j ≤ l.length ∧ f i = f j) with hp | hp
  · exact hp
  · exfalso
    have hn : ((List.range (l.length + 1)).map f).Nodup := by
      rw [List.nodup_iff_pairwise_ne, List.pairwise_map, List.pairwise_iff_getElem]
      intro i j hi hj hij he
      simp at he hj
      exact hp ⟨i, j, hij, by omega, he⟩
    have := nodup_len (l := l) hn fun x hx => by
      obtain ⟨i, hi, rfl⟩ := List.mem_map.1 hx
      exact h i (by simp at hi; omega)
    simp at this; omega
/-- one step along -/
def nxt (l : List Nm) (s : ByteArray) : Option ByteArray := match look l s with
  | some x => if emptyB x.tgt = true then none else if 0 ≤ x.house then none else some x.tgt
  | none => none
theorem resN_nxt {l : List Nm} {s t : ByteArray} (h : nxt l s = some t) (n : Nat) : resN l (n + 1) s = resN l n t := by
  unfold nxt at h
  rw [resN]
  split at h
  · rename_i x hx
    rw [hx]
    split at h
    · simp at h
    · split at h
      · simp at h
      · rename_i h1 h2
        simp at h; subst h
        simp [h1, h2]
  · simp at h
theorem resN_end {l : List Nm} {s : ByteArray} (h : nxt l s = none) (n m : Nat) : resN l (n + 1) s = resN l (m + 1) s := by
  unfold nxt at h
  rw [resN, resN]
  split at h
  · rename_i x hx
    rw [hx]
    split at h
    · rename_i h1; simp [h1]
    · split at h
      · rename_i h1 h2; simp [h1, h2]
      · simp at h
  · rename_i hx; rw [hx]
/-- the i-th name on the way -/
def way (l : List Nm) (s : ByteArray) : Nat → Option ByteArray
  | 0 => some s
  | i + 1 => (way l s i).bind (nxt l)
theorem way_succ (l : List Nm) (s : ByteArray) : ∀ i, way l s (i + 1) = (nxt l s).bind (fun t => way l t i)
  | 0 => by simp [way]
  | i + 1 => by
    rw [way, way_succ l s i]
    cases h : nxt l s with
    | none => rfl
    | some t => simp [way]
theorem way_none {l : List Nm} {s : ByteArray} {i : Nat} (h : way l s i = none) : ∀ j, i ≤ j → way l s j = none := fun j hj => by
  induction hj with
  | refl => exact h
  | step _ ih => rw [way, ih]; rfl
theorem resN_way {l : List Nm} : ∀ (n : Nat) (s : ByteArray), resN l n s ≠ resN l (n + 1) s → (way l s n).isSome = true ∧ way l s (n + 1) = none
  | 0, s, h => by
    refine ⟨rfl, ?_⟩
    rw [way_succ]
    cases hn : nxt l s with
    | none => rfl
    | some t => rw [resN_nxt hn] at h; simp [resN] at h
  | n + 1, s, h => by
    cases hn : nxt l s with
    | none => exact absurd (resN_end hn n (n + 1)) h
    | some t =>
      rw [resN_nxt hn, resN_nxt hn] at h
      have := resN_way n t h
      rw [way_succ, way_succ l s (n + 1), hn]
      exact this
theorem way_add {l : List Nm} {s t : ByteArray} : ∀ {i j k : Nat}, way l s i = some t → way l s j = some t → way l s (i + k) = way l s (j + k)
  | i, j, 0, h1, h2 => by rw [Nat.add_zero, Nat.add_zero, h1, h2]
  | i, j, k + 1, h1, h2 => by rw [← Nat.add_assoc, ← Nat.add_assoc, way, way, way_add (k := k) h1 h2]
theorem look_mem {l : List Nm} {s : ByteArray} {x : Nm} (h : look l s = some x) : x ∈ l ∧ x.name = s := by
  unfold look at h
  split at h
  · rename_i hh
    simp at h; subst h
    have hl := hit_lt hh
    have he : cmpN (nmAt l (srchN l s)).name s = 0 := by unfold hitB at hh; rw [Bool.and_eq_true] at hh; simpa using hh.2
    refine ⟨?_, cmpN_eq he⟩
    simp [nmAt, List.getD_eq_getElem?_getD, hl]
  · simp at h
theorem nxt_mem {l : List Nm} {s t : ByteArray} (h : nxt l s = some t) : s ∈ l.map Nm.name := by
  unfold nxt at h
  split at h
  · rename_i x hx
    obtain ⟨h1, h2⟩ := look_mem hx
    exact List.mem_map.2 ⟨x, h1, h2⟩
  · simp at h
/-- behind a name that leads on, a round fewer does -/
theorem resN_fewer {l : List Nm} {s t : ByteArray} (h : nxt l s = some t) : resN l l.length t = resN l (l.length + 1) t := by
  rcases Decidable.em (resN l l.length t = resN l (l.length + 1) t) with e | e
  · exact e
  · exfalso
    obtain ⟨h1, h2⟩ := resN_way _ _ e
    have hall : ∀ i, i ≤ l.length → ∃ u, way l s i = some u ∧ u ∈ l.map Nm.name := fun i hi => by
      have hi1 : (way l s (i + 1)).isSome = true := by
        cases hw : way l s (i + 1) with
        | some _ => rfl
        | none =>
          have := way_none hw (l.length + 1) (by omega)
          rw [way_succ, h] at this
          simp at this; rw [this] at h1; simp at h1
      rw [way] at hi1
      cases hw : way l s i with
      | none => rw [hw] at hi1; simp at hi1
      | some u =>
        rw [hw] at hi1
        simp at hi1
        obtain ⟨v, hv⟩ := Option.isSome_iff_exists.1 hi1
        exact ⟨u, rfl, nxt_mem hv⟩
    obtain ⟨i, j, hij, hj, he⟩ := pigeon (fun i => (way l s i).getD default) (l.map Nm.name) fun i hi => by
      obtain ⟨u, hu, hm⟩ := hall i (by simpa using hi)
      simp only [hu]; exact hm
    simp only [List.length_map] at hj
    obtain ⟨u, hu, _⟩ := hall i (by omega)
    obtain ⟨v, hv, _⟩ := hall j hj
    rw [hu, hv] at he
    simp at he; subst he
    have := way_add (k := l.length + 2 - j) hu hv
    rw [show j + (l.length + 2 - j) = (l.length + 1) + 1 by omega, way_succ l s (l.length + 1), h] at this
    simp only [Option.bind_some, h2] at this
    have h3 := way_none this (l.length + 1) (by omega)
    rw [way_succ, h] at h3
    simp at h3; rw [h3] at h1; simp at h1
/-- a name that stands for a place of its own is local -/
theorem resN_local {l : List Nm} : ∀ {n : Nat} {s t : ByteArray} {k : Int}, resN l n s = (t, k, 0) → k < 0 → localB l t = true
  | 0, s, t, k, h, _ => by simp [resN] at h
  | n + 1, s, t, k, h, hk => by
    rw [resN] at h
    unfold localB
    split at h
    · simp at h
    · rename_i x hx
      split at h
      · rename_i h1
        simp at h; obtain ⟨rfl, rfl⟩ := h
        rw [hx]; exact h1
      · split at h
        · simp at h; omega
        · exact resN_local h hk
theorem resN_err {l : List Nm} : ∀ (n : Nat) (s : ByteArray), (resN l n s).2.2 = 0 ∨ (resN l n s).2.2 = 7 ∨ (resN l n s).2.2 = 11
  | 0, s => by simp [resN]
  | n + 1, s => by
    rw [resN]
    split
    · simp
    · split
      · simp
      · split
        · simp
        · exact resN_err n _
theorem resN_none {l : List Nm} {s : ByteArray} (h : look l s = none) (n : Nat) : resN l (n + 1) s = (⟨#[]⟩, 0, 7) := by rw [resN, h]
/-- a strictly rising row of numbers below k has no more than k -/
theorem rising_len : ∀ {l : List Nat} (lo hi : Nat), l.Pairwise (· < ·) → (∀ x ∈ l, lo ≤ x ∧ x < hi) → lo ≤ hi → l.length ≤ hi - lo
  | [], _, _, _, _, _ => Nat.zero_le _
  | x :: l, lo, hi, h, hx, hle => by
    obtain ⟨h1, h2⟩ := List.pairwise_cons.1 h
    obtain ⟨h3, h4⟩ := hx x (by simp)
    have := rising_len (x + 1) hi h2 (fun y hy => ⟨h1 y hy, (hx y (by simp [hy])).2⟩) (by omega)
    simp; omega
theorem sorted_nodup {l : List Nm} (h : Sorted l) : (l.map Nm.name).Nodup := by
  rw [List.nodup_iff_pairwise_ne, List.pairwise_map]
  exact h.imp fun {a b} hab e => by rw [e, cmpN_self] at hab; omega
theorem sorted_len {l : List Nm} (h : Sorted l) (ws : List ByteArray) (hw : ∀ x ∈ l, x.name ∈ ws) : l.length ≤ ws.length := by
  have := nodup_len (sorted_nodup h) (l := ws) fun s hs => by
    obtain ⟨x, hx, rfl⟩ := List.mem_map.1 hs
    exact hw x hx
  simpa using this
end WB
/-! maps keyed by strings that the call has made -/
namespace WB
open Go Go.RowKit Go.ChangeMaps Go.MapKept
def esRead (es : List MapEntry) (m : List (ByteArray × Value)) : Prop := es.map (fun e => (e.key, e.val)) = m.map (fun x => (Value.string x.1, x.2))
def omap (b : Nat) (m : List (ByteArray × Value)) : HP := ex fun es : Array MapEntry => ex fun clk : Nat => sep (pur (esRead es.toList m)) (blk b (.map es clk))
def getA (m : List (ByteArray × Value)) (s : ByteArray) : Option Value := match m with
  | [] => none
  | x :: r => if x.1 = s then some x.2 else getA r s
def putA (m : List (ByteArray × Value)) (s : ByteArray) (v : Value) : List (ByteArray × Value) := match m with
  | [] => [(s, v)]
  | x :: r => if x.1 = s then (x.1, v) :: r else x :: putA r s v
theorem getA_putA (s t : ByteArray) (v : Value) : ∀ m, getA (putA m s v) t = if s = t then some v else getA m t
  | [] => rfl
  | x :: r => by
    unfold putA
    by_cases h : x.1 = s
    · rw [if_pos h, getA, getA, h]; by_cases h2 : s = t <;> simp [h2]
    · rw [if_neg h, getA, getA, getA_putA s t v r]
      by_cases h2 : x.1 = t
      · have : ¬ s = t := fun e => h (h2.trans e.symm)
        simp [h2, this]
      · simp [h2]
/-- where s stands -/
def idxA (m : List (ByteArray × Value)) (s : ByteArray) : Option Nat := match m with
  | [] => none
  | x :: r => if x.1 = s then some 0 else (idxA r s).map (· + 1)
theorem findNow_str (s : ByteArray) : ∀ (es : List MapEntry) (m : List (ByteArray × Value)) (i : Nat), esRead es m →
    (idxA m s = none ∧ getA m s = none ∧ Instr.findNow .string (.string s) es i = some none ∧ ∀ v clk, esRead (es ++ [{ key := .string s, val := v, born := clk }]) (putA m s v)) ∨
    ∃ j e, idxA m s = some j ∧ getA m s = some e.val ∧ es[j]? = some e ∧ e.key = .string s ∧ Instr.findNow .string (.string s) es i = some (some (i + j, e.val)) ∧
      ∀ v, esRead (es.modify j fun e => { e with key := .string s, val := v }) (putA m s v)
  | [], [], i, _ => Or.inl ⟨rfl, rfl, rfl, fun v clk => rfl⟩
  | [], _ :: _, _, h => by simp [esRead] at h
  | _ :: _, [], _, h => by simp [esRead] at h
  | e :: es, x :: m, i, h => by
    unfold esRead at h
    simp only [List.map_cons, List.cons.injEq, Prod.mk.injEq] at h
    obtain ⟨⟨hk, hv⟩, hr⟩ := h
    by_cases hx : x.1 = s
    · refine Or.inr ⟨0, e, by simp [idxA, hx], by simp [getA, hx, hv], rfl, by rw [hk, hx], ?_, fun v => ?_⟩
      · have he : (s == s) = true := (bytes_beq s s).2 rfl
        simp [Instr.findNow, Instr.sameNow, hk, hx, he]
      · unfold esRead
        simp [putA, hx]
        exact hr
    · have hne : (s == x.1) = false := by
        cases he : s == x.1 with
        | false => rfl
        | true => exact absurd ((bytes_beq _ _).1 he).symm hx
      rcases findNow_str s es m (i + 1) hr with ⟨h1, h2, h3, h4⟩ | ⟨j, e0, h1, h2, h3, h4, h5, h6⟩
      · refine Or.inl ⟨by simp [idxA, hx, h1], by simp [getA, hx, h2], by simp [Instr.findNow, Instr.sameNow, hk, hne, h3], fun v clk => ?_⟩
        have := h4 v clk
        unfold esRead at this ⊢
        simp [putA, hx, hk, hv] at this ⊢
        exact this
      · refine Or.inr ⟨j + 1, e0, by simp [idxA, hx, h1], by simp [getA, hx, h2], by simpa using h3, h4, by simp [Instr.findNow, Instr.sameNow, hk, hne, h5]; omega, fun v => ?_⟩
        have := h6 v
        unfold esRead at this ⊢
        simp [putA, hx, hk, hv] at this ⊢
        exact this
variable {w0 w : World} {L : List HP} {P : Program} {b : Nat} {m : List (ByteArray × Value)}
theorem St.omap_make (h : St w0 L w) : St w0 (omap w.heap.size [] :: L) (w.alloc (.map #[] 0)) :=
  St.exi #[] (St.exi 0 (St.join (St.puri (p := esRead (#[] : Array MapEntry).toList []) rfl (h.alloc (.map #[] 0)))))
theorem St.omap_look (h : St w0 (omap b m :: L) w) {t K E : TypeId} (ht : P.underlying t = some (.map K E)) (hK : P.underlying K = some .string) {z : Value} (hz : (zeroValue E).run P w = .ok z w) (s : ByteArray) :
    (Instr.lookup t (.map (some b)) (.string s) true).run P w = .ok (.tuple #[(getA m s).getD z, .bool (getA m s).isSome]) w := by
  obtain ⟨es, h⟩ := h.exs
  obtain ⟨clk, h⟩ := h.exs
  obtain ⟨hr, h⟩ := h.split.purs
  obtain ⟨_, hb⟩ := h.look
  have hk : IsKey .string (.string s) := ⟨⟩
  rcases findNow_str s _ m 0 hr with ⟨_, h2, h3, _⟩ | ⟨j, e, _, h2, h3, h4, h5, _⟩
  · simp [Instr.lookup, run_underlying ht, run_getObj_map hb, run_checkKey hK hk, run_findKey hK h3, Result.andThen, h2, hz]
  · simp [Instr.lookup, run_underlying ht, run_getObj_map hb, run_checkKey hK hk, run_findKey hK h5, Result.andThen, h2]
theorem St.omap_put (h : St w0 (omap b m :: L) w) {t K E : TypeId} (ht : P.underlying t = some (.map K E)) (hK : P.underlying K = some .string) (s : ByteArray) (v : Value) :
    ∃ w', (Instr.mapUpdate t (.map (some b)) (.string s) v).run P w = .ok () w' ∧ St w0 (omap b (putA m s v) :: L) w' ∧ w'.heap.size = w.heap.size := by
  obtain ⟨es, h⟩ := h.exs
  obtain ⟨clk, h⟩ := h.exs
  obtain ⟨hr, h⟩ := h.split.purs
  obtain ⟨_, hb⟩ := h.look
  have hk : IsKey .string (.string s) := ⟨⟩
  have up : ∀ (o : Obj), St w0 (blk b o :: L) { w with heap := w.heap.setIfInBounds b o } := fun o =>
    h.upd rfl rfl rfl (by simp) (by have := h.lt; simp [this]) (fun k hk => by simp [Array.getElem?_setIfInBounds, Ne.symm hk])
  rcases findNow_str s _ m 0 hr with ⟨_, _, h3, h4⟩ | ⟨j, e, _, _, h3, h4, h5, h6⟩
  · refine ⟨_, ?_, St.exi (es.push { key := .string s, val := v, born := clk }) (St.exi (clk + 1) (St.join (St.puri (p := esRead (es.push { key := .string s, val := v, born := clk }).toList (putA m s v)) ?_ (up (.map (es.push { key := .string s, val := v, born := clk }) (clk + 1)))))), by simp⟩
    · simp [Instr.mapUpdate, run_underlying ht, run_getObj_map hb, run_checkKey hK hk, run_findKey hK h3, run_setObj_map _ hb, Result.andThen]
    · simpa using h4 v clk
  · have hj : es[j]? = some e := by simpa using h3
    refine ⟨_, ?_, St.exi (es.modify j fun e => { e with key := .string s, val := v }) (St.exi clk (St.join (St.puri (p := esRead (es.modify j fun e => { e with key := .string s, val := v }).toList (putA m s v)) ?_ (up (.map (es.modify j fun e => { e with key := .string s, val := v }) clk))))), by simp⟩
    · simp [Instr.mapUpdate, run_underlying ht, run_getObj_map hb, run_checkKey hK hk, run_findKey hK h5, hj, h4, run_keyThatStays hk, run_setObj_map _ hb, Result.andThen]
    · simpa using h6 v
theorem wpL_lookup {ops : Array Oper} {rest : List Oper} {o : Oper} {a : Act} {Q : Exit → Act → World → Prop} (hg : o.guard = none) (mo x : Operand) (t : TypeId) (hop : o.op = Op.lookup t mo x true)
    {K E : TypeId} (ht : P.underlying t = some (.map K E)) (hK : P.underlying K = some .string) {z : Value} (hz : (zeroValue E).run P w = .ok z w) (hm : a.eval mo = .map (some b)) (h : St w0 (omap b m :: L) w) (s : ByteArray) (hx : a.eval x = .string s)
    (k : wpList P ops Q rest (a.put o.dst (.tuple #[(getA m s).getD z, .bool (getA m s).isSome])) w) : wpList P ops Q (o :: rest) a w := by
  refine wpList_plain hg fun K' hK' => ?_
  have hrun := h.omap_look (P := P) ht hK hz s
  unfold Oper.wp
  simp [execOp, hop, hm, hx, hrun, Result.andThen]
  exact hK' _ _ k
theorem wpL_mapUpdate {ops : Array Oper} {rest : List Oper} {o : Oper} {a : Act} {Q : Exit → Act → World → Prop} (hg : o.guard = none) (mo x v : Operand) (t : TypeId) (hop : o.op = Op.mapUpdate t mo x v)
    {K E : TypeId} (ht : P.underlying t = some (.map K E)) (hK : P.underlying K = some .string) (hm : a.eval mo = .map (some b)) (h : St w0 (omap b m :: L) w) (s : ByteArray) (u : Value) (hx : a.eval x = .string s) (hv : a.eval v = u)
    (k : ∀ w', St w0 (omap b (putA m s u) :: L) w' → w'.heap.size = w.heap.size → wpList P ops Q rest (a.put o.dst undef) w') : wpList P ops Q (o :: rest) a w := by
  refine wpList_plain hg fun K' hK' => ?_
  obtain ⟨w', hrun, hs, hz⟩ := h.omap_put (P := P) ht hK s u
  unfold Oper.wp
  simp [execOp, hop, hm, hx, hv, hrun, Result.andThen]
  exact hK' _ _ (k w' hs hz)
end WB
/-! a store of a whole block -/
namespace WB
open Go Go.RowKit
variable {w0 w : World} {L : List HP} {P : Program}
theorem St.store_all {b : Nat} {c : Array Value} {T E : TypeId} (h : St w0 (blk b (.cells c E (0, 0)) :: L) w) (cs : Array Value) (hsz : cs.size = c.size) (hn : (Go.sizeOf T).run P w = .ok c.size w) (h1 : ∀ u ∈ cs.toList, u.oneCell' = true) :
    ∃ w', (storeVar T ⟨b, 0, none⟩ (.agg cs)).run P w = .ok () w' ∧ St w0 (blk b (.cells cs E (0, 0)) :: L) w' ∧ w'.heap.size = w.heap.size := by
  have hst := run_store_row (P := P) (T := T) (off := 0) (v := .agg cs) h (by simpa [Value.cells, hsz] using hn) (by simp [Value.cells, hsz]) (by simpa [Value.cells] using h1)
  refine ⟨_, hst, ?_, by simp⟩
  have e : (c.toList.take 0 ++ (Value.agg cs).cells.toList ++ c.toList.drop (0 + (Value.agg cs).cells.toList.length)).toArray = cs := by
    simp only [Value.cells, Array.length_toList, hsz, List.take_zero, List.nil_append, Nat.zero_add]
    rw [List.drop_of_length_le (by simp)]; simp
  rw [e]
  exact h.setRow
theorem wpL_store {ops : Array Oper} {rest : List Oper} {o : Oper} {a : Act} {Q : Exit → Act → World → Prop} (hg : o.guard = none) (x y : Operand) (T : TypeId) (hop : o.op = Op.store T x y)
    {b : Nat} {c : Array Value} {E : TypeId} (h : St w0 (blk b (.cells c E (0, 0)) :: L) w) (ha : a.eval x = .pointer (some ⟨b, 0, none⟩)) (cs : Array Value) (hv : a.eval y = .agg cs) (hsz : cs.size = c.size)
    (hn : (Go.sizeOf T).run P w = .ok c.size w) (h1 : ∀ u ∈ cs.toList, u.oneCell' = true)
    (k : ∀ w', St w0 (blk b (.cells cs E (0, 0)) :: L) w' → w'.heap.size = w.heap.size → wpList P ops Q rest (a.put o.dst undef) w') : wpList P ops Q (o :: rest) a w := by
  refine wpList_plain hg fun K' hK' => ?_
  obtain ⟨w', hrun, hs, hz⟩ := h.store_all (P := P) cs hsz hn h1
  unfold Oper.wp
  simp [execOp, hop, ha, hv, Instr.storeAt, Instr.sureAddr, hrun, Result.andThen]
  exact hK' _ _ (k w' hs hz)
end WB
/- A CALCULUS OF STEPS: 'K c Q n D w0 G L' says: from every frame that knows what G lists, in every world that is as w0 below and has the parts L above, the code c comes to Q. The world itself is never named. -/
namespace WB
open Go Go.RowKit

abbrev Env := List (Nat × Value)
def envAt : Env → Nat → Option Value
  | [], _ => none
  | (s, v) :: r, t => match Nat.beq s t with | true => some v | false => envAt r t
def ev (G : Env) : Operand → Option Value
  | .tmp t => envAt G t
  | .const v => some v
  | .global g => some (.pointer (some ⟨g, 0, none⟩))
  | .func f => some (.func (.func f) #[] #[])
structure Knows (n : Nat) (D : List Deferred) (G : Env) (a : Act) : Prop where
  size : a.tmps.size = n
  defers : a.defers = D
  get : ∀ t v, envAt G t = some v → a.tmps[t]? = some v
theorem envAt_cons (s : Nat) (v : Value) (r : Env) (t : Nat) : envAt ((s, v) :: r) t = if s = t then some v else envAt r t := by
  show (match Nat.beq s t with | true => some v | false => envAt r t) = _
  cases h : Nat.beq s t with
  | true => rw [if_pos (Nat.eq_of_beq_eq_true h)]
  | false => rw [if_neg (fun e => by rw [e, Nat.beq_refl] at h; cases h)]
section
variable {n : Nat} {D : List Deferred} {G G' : Env} {a : Act} {x : Operand} {v : Value}
theorem Knows.eval (h : Knows n D G a) (hx : ev G x = some v) : a.eval x = v := by
  cases x with
  | tmp t =>
    have := h.get t v hx
    simp [Act.eval, Array.getD_eq_getD_getElem?, this]
  | const u => simp only [ev, Option.some.injEq] at hx; exact hx
  | global g => simp only [ev, Option.some.injEq] at hx; exact hx
  | func f => simp only [ev, Option.some.injEq] at hx; exact hx
theorem Knows.put (h : Knows n D G a) (t : Nat) (v : Value) (ht : t < n) : Knows n D ((t, v) :: G) (a.put (some t) v) := by
  refine ⟨by simp [Act.put, h.size], h.defers, fun s u hs => ?_⟩
  rw [envAt_cons] at hs
  by_cases e : t = s
  · subst e
    rw [if_pos rfl] at hs
    have : t < a.tmps.size := by rw [h.size]; exact ht
    simp [Act.put, this]
    simpa using hs
  · rw [if_neg e] at hs
    simp [Act.put, e]
    exact h.get s u hs
def SubL (G : Env) : Env → Prop
  | [] => True
  | (t, v) :: r => envAt G t = some v ∧ SubL G r
theorem SubL.get : ∀ {G' : Env}, SubL G G' → ∀ t v, envAt G' t = some v → envAt G t = some v
  | [], _, t, v, h => by simp [envAt] at h
  | (s, u) :: r, ⟨h1, h2⟩, t, v, h => by
    rw [envAt_cons] at h
    by_cases e : s = t
    · subst e; rw [if_pos rfl] at h; rw [h1]; exact h
    · rw [if_neg e] at h; exact SubL.get h2 t v h
theorem Knows.sub (h : Knows n D G a) (hs : SubL G G') : Knows n D G' a := ⟨h.size, h.defers, fun t v ht => h.get t v (hs.get t v ht)⟩
end
/-- the arguments' frame -/
def argEnv : Nat → List Value → Env
  | _, [] => []
  | i, v :: r => (i, v) :: argEnv (i + 1) r
theorem argEnv_get : ∀ (l : List Value) (i t : Nat) (v : Value), envAt (argEnv i l) t = some v → i ≤ t ∧ l[t - i]? = some v
  | [], i, t, v, h => by simp [argEnv, envAt] at h
  | u :: l, i, t, v, h => by
    rw [argEnv, envAt_cons] at h
    by_cases e : i = t
    · subst e; rw [if_pos rfl] at h; exact ⟨Nat.le_refl _, by simpa using h⟩
    · rw [if_neg e] at h
      obtain ⟨h1, h2⟩ := argEnv_get l (i + 1) t v h
      refine ⟨by omega, ?_⟩
      rw [show t - i = (t - (i + 1)) + 1 by omega]; simpa using h2
theorem Knows.enter {args : Array Value} {n : Nat} (h : args.size ≤ n) : Knows n [] (argEnv 0 args.toList) { tmps := args ++ Array.replicate (n - args.size) undef, defers := [] } := by
  refine ⟨by simp; omega, rfl, fun t v ht => ?_⟩
  have := (argEnv_get _ _ _ _ ht).2
  rw [Nat.sub_zero] at this
  have hlt : t < args.size := by
    have := (List.getElem?_eq_some_iff.1 this).1
    simpa using this
  simp only [Array.getElem?_append, hlt, if_true]
  simpa using this

/-! one list of operations, in one order -/
def vcG (d : Bool) (P : Program) (ops : Array Oper) (Q : Exit → Act → World → Prop) (l : List (Kd × Oper)) (a : Act) (w : World) : Prop :=
  match d with | true => vcL P ops Q l a w | false => wpList P ops Q (l.map (·.2)) a w
def panicQ (d : Bool) (Q : Exit → Act → World → Prop) : Exit → Act → World → Prop := match d with | true => fun _ _ _ => False | false => Q
section
variable {d : Bool} {P : Program} {ops : Array Oper} {Q : Exit → Act → World → Prop} {rest : List (Kd × Oper)} {k : Kd} {o : Oper} {a : Act} {w : World} {v : Value}
theorem vcG_skip (hw : Region.wanted o (yielded ops a.tmps) = false) (h : vcG d P ops Q rest (a.put o.dst undef) w) : vcG d P ops Q ((k, o) :: rest) a w := by
  cases d with
  | true => show vcL _ _ _ _ _ _; rw [vcL_no hw]; exact h
  | false => exact wpList_skip hw h
theorem wpList_go (hw : Region.wanted o (yielded ops a.tmps) = true) {l : List Oper} (h : o.wp P a w (wpList P ops Q l) Q) : wpList P ops Q (o :: l) a w := by
  unfold wpList; rw [if_pos hw]; exact .inl h
theorem vcG_val (hw : Region.wanted o (yielded ops a.tmps) = true) (hv : ∀ w', (execOp a.eval o).run P w' = .ok (.value v) w') (h : vcG d P ops Q rest (a.put o.dst v) w) : vcG d P ops Q ((k, o) :: rest) a w := by
  cases d with
  | true =>
    show vcL _ _ _ _ _ _
    by_cases hl : k.light = true
    · rw [vcL_light hl hw]; exact ⟨v, fun w' _ => .inl (hv w'), h⟩
    · cases k with
      | keep => rw [vcL_keep hw]; unfold Oper.wp; rw [hv]; exact ⟨Ext.refl w, h⟩
      | write => rw [vcL_write hw]; unfold Oper.wp; rw [hv]; exact h
      | _ => exact absurd rfl hl
  | false => exact wpList_go hw (by unfold Oper.wp; rw [hv]; exact h)
theorem vcG_read (hk : (!d || k != .pure) = true) (hw : Region.wanted o (yielded ops a.tmps) = true) (hv : ∀ w', Ext w w' → (execOp a.eval o).run P w' = .ok (.value v) w') (h : vcG d P ops Q rest (a.put o.dst v) w) :
    vcG d P ops Q ((k, o) :: rest) a w := by
  cases d with
  | true =>
    show vcL _ _ _ _ _ _
    cases k with
    | pure => simp at hk
    | read => rw [vcL_light rfl hw]; exact ⟨v, fun w' e => .inl (hv w' e), h⟩
    | same => rw [vcL_light rfl hw]; exact ⟨v, fun w' (e : w' = w) => .inl (by subst e; exact hv _ (Ext.refl _)), h⟩
    | keep => rw [vcL_keep hw]; unfold Oper.wp; rw [hv _ (Ext.refl w)]; exact ⟨Ext.refl w, h⟩
    | write => rw [vcL_write hw]; unfold Oper.wp; rw [hv _ (Ext.refl w)]; exact h
  | false => exact wpList_go hw (by unfold Oper.wp; rw [hv _ (Ext.refl w)]; exact h)
theorem vcG_same (hk : (!d || (k != .pure && k != .read)) = true) (hw : Region.wanted o (yielded ops a.tmps) = true) (hv : Gives P (execOp a.eval o) v w) (h : vcG d P ops Q rest (a.put o.dst v) w) :
    vcG d P ops Q ((k, o) :: rest) a w := by
  have key : ∀ (N : Act → World → Prop) Q', N (a.put o.dst v) w → o.wp P a w N Q' := fun N Q' hN => by
    unfold Oper.wp
    rcases hv with hg | ⟨f, args, hg, hcall⟩
    · rw [hg]; exact hN
    · rw [hg]
      refine hcall.mono ?_
      rintro e w' ⟨rfl, rfl⟩
      exact hN
  cases d with
  | true =>
    show vcL _ _ _ _ _ _
    cases k with
    | pure => simp at hk
    | read => simp at hk
    | same => rw [vcL_light rfl hw]; exact ⟨v, fun w' (e : w' = w) => by subst e; exact hv, h⟩
    | keep => rw [vcL_keep hw]; exact key _ _ ⟨Ext.refl w, h⟩
    | write => rw [vcL_write hw]; exact key _ _ h
  | false => exact wpList_go hw (key _ _ h)
theorem vcG_keep (hk : (!d || (k == .keep || k == .write)) = true) (hw : Region.wanted o (yielded ops a.tmps) = true)
    (h : o.wp P a w (fun a' w' => Ext w w' ∧ vcG d P ops Q rest a' w') (fun _ _ _ => False)) : vcG d P ops Q ((k, o) :: rest) a w := by
  cases d with
  | true =>
    show vcL _ _ _ _ _ _
    cases k with
    | pure => simp at hk
    | read => simp at hk
    | same => simp at hk
    | keep => rw [vcL_keep hw]; exact h
    | write => rw [vcL_write hw]; exact wp_mono_F (fun a w hh => hh.2) h
  | false => exact wpList_go hw (wp_mono_F (fun a w hh => hh.2) h)
theorem vcG_write (hk : (!d || k == .write) = true) (hw : Region.wanted o (yielded ops a.tmps) = true)
    (h : o.wp P a w (fun a' w' => vcG d P ops Q rest a' w') (panicQ d Q)) : vcG d P ops Q ((k, o) :: rest) a w := by
  cases d with
  | true =>
    show vcL _ _ _ _ _ _
    cases k with
    | write => rw [vcL_write hw]; exact h
    | _ => simp at hk
  | false => exact wpList_go hw h
end

/-! the judgements -/
section
variable (P : Program)
def KO (ops : Array Oper) (d : Bool) (Q : Exit → Act → World → Prop) (n : Nat) (D : List Deferred) (w0 : World) (G : Env) (L : List HP) (l : List (Kd × Oper)) : Prop :=
  ∀ a w, Knows n D G a → St w0 L w → vcG d P ops Q l a w
def K (c : Code) (Q : Exit → Act → World → Prop) (n : Nat) (D : List Deferred) (w0 : World) (G : Env) (L : List HP) : Prop :=
  ∀ a w, Knows n D G a → St w0 L w → c.wp P Q a w
end
def KQ (Q : Exit → Act → World → Prop) (e : Exit) (n : Nat) (D : List Deferred) (w0 : World) (G : Env) (L : List HP) : Prop :=
  ∀ a w, Knows n D G a → St w0 L w → Q e a w
section
variable {P : Program} {ops : Array Oper} {d : Bool} {Q : Exit → Act → World → Prop} {n : Nat} {D : List Deferred} {w0 : World} {G G' : Env} {L L' : List HP} {l : List (Kd × Oper)} {c x y : Code} {e : Exit}
/-! structure -/
def wr : List Oper → List (Kd × Oper)
  | [] => []
  | o :: l => (.write, o) :: wr l
theorem wr_map : ∀ l : List Oper, (wr l).map (·.2) = l
  | [] => rfl
  | o :: l => by simp [wr, wr_map l]
theorem K.reg {id : Nat} {l : List Oper} (h : KO P l.toArray false Q n D w0 G L (wr l)) : K P (.region id l.toArray false) Q n D w0 G L := fun a w ha hw => by
  have := h a w ha hw
  simp only [vcG, wr_map] at this
  exact wp_region_lit this
theorem K.draw {id : Nat} (ks : List Kd) (ord : List Nat) (hmix : P.follows .mixedOrders = true) (hok : okR ops ks ord = true)
    (h : KO P ops true Q n D w0 G L (ord.map (item ops ks))) : K P (.region id ops true) Q n D w0 G L := fun a _ ha hw =>
  wp_region_ord ks ord hmix hok (h a _ ha hw.drew)
theorem KO.nil (h : KQ Q .normal n D w0 G L) : KO P ops d Q n D w0 G L [] := fun a w ha hw => by
  cases d with
  | true => exact h a w ha hw
  | false => exact h a w ha hw
theorem K.seq (h : K P x (Exit.then (y.wp P Q) Q) n D w0 G L) : K P (.seq x y) Q n D w0 G L := fun a w ha hw => wp_seq (h a w ha hw)
theorem K.block {id : Nat} (h : K P x (Exit.inBlock id Q) n D w0 G L) : K P (.block id x) Q n D w0 G L := fun a w ha hw => wp_block (h a w ha hw)
theorem K.ret (h : KQ Q .ret n D w0 G L) : K P .ret Q n D w0 G L := fun a w ha hw => wp_ret (h a w ha hw)
theorem K.skip (h : KQ Q .normal n D w0 G L) : K P .skip Q n D w0 G L := fun a w ha hw => wp_skip (h a w ha hw)
theorem K.label {t : Nat} (h : KQ Q .normal n D w0 G L) : K P (.label t) Q n D w0 G L := fun a w ha hw => wp_label (h a w ha hw)
theorem K.exit {id : Nat} (h : KQ Q (.exit id) n D w0 G L) : K P (.exit id) Q n D w0 G L := fun a w ha hw => wp_exit (h a w ha hw)
theorem K.cond {cd : Operand} {b : Bool} (hc : ev G cd = some (.bool b)) (ht : b = true → K P x Q n D w0 G L) (hf : b = false → K P y Q n D w0 G L) : K P (.cond cd x y) Q n D w0 G L := fun a w ha hw =>
  wp_cond_split (ha.eval hc) (fun e => ht e a w ha hw) (fun e => hf e a w ha hw)
theorem K.condD {cd : Operand} {p : Prop} [Decidable p] (hc : ev G cd = some (.bool (decide p))) (ht : p → K P x Q n D w0 G L) (hf : ¬ p → K P y Q n D w0 G L) : K P (.cond cd x y) Q n D w0 G L :=
  K.cond hc (fun e => ht (of_decide_eq_true e)) (fun e => hf (of_decide_eq_false e))
theorem K.condT {cd : Operand} {b : Bool} (hc : ev G cd = some (.bool b)) (hb : b = true) (h : K P x Q n D w0 G L) : K P (.cond cd x y) Q n D w0 G L :=
  K.cond hc (fun _ => h) (fun e => by rw [hb] at e; cases e)
theorem K.condF {cd : Operand} {b : Bool} (hc : ev G cd = some (.bool b)) (hb : b = false) (h : K P y Q n D w0 G L) : K P (.cond cd x y) Q n D w0 G L :=
  K.cond hc (fun e => by rw [hb] at e; cases e) (fun _ => h)
theorem KQ.next (h : K P y Q n D w0 G L) : KQ (Exit.then (y.wp P Q) Q) .normal n D w0 G L := h
theorem KQ.then_exit {N : Act → World → Prop} {i : Nat} (h : KQ Q (.exit i) n D w0 G L) : KQ (Exit.then N Q) (.exit i) n D w0 G L := h
theorem KQ.then_ret {N : Act → World → Prop} (h : KQ Q .ret n D w0 G L) : KQ (Exit.then N Q) .ret n D w0 G L := h
theorem KQ.then_panic {N : Act → World → Prop} {ch : List PanicEntry} (h : KQ Q (.panic ch) n D w0 G L) : KQ (Exit.then N Q) (.panic ch) n D w0 G L := h
theorem KQ.blk_ret {i : Nat} (h : KQ Q .ret n D w0 G L) : KQ (Exit.inBlock i Q) .ret n D w0 G L := h
theorem KQ.blk_normal {i : Nat} (h : KQ Q .normal n D w0 G L) : KQ (Exit.inBlock i Q) .normal n D w0 G L := h
theorem KQ.blk_panic {i : Nat} {ch : List PanicEntry} (h : KQ Q (.panic ch) n D w0 G L) : KQ (Exit.inBlock i Q) (.panic ch) n D w0 G L := h
theorem KQ.blk_exit {i : Nat} (h : KQ Q .normal n D w0 G L) : KQ (Exit.inBlock i Q) (.exit i) n D w0 G L := fun a w ha hw => by
  show if i = i then Q .normal a w else Q (.exit i) a w
  rw [if_pos rfl]; exact h a w ha hw
theorem KQ.blk_pass {i j : Nat} (hne : Nat.beq j i = false) (h : KQ Q (.exit j) n D w0 G L) : KQ (Exit.inBlock i Q) (.exit j) n D w0 G L := fun a w ha hw => by
  show if j = i then Q .normal a w else Q (.exit j) a w
  rw [if_neg (fun e => by rw [e, Nat.beq_refl] at hne; cases hne)]; exact h a w ha hw
/-! forgetting, turning the parts -/
theorem K.weak (hs : SubL G G') (h : K P c Q n D w0 G' L) : K P c Q n D w0 G L := fun a w ha hw => h a w (ha.sub hs) hw
theorem KO.weak (hs : SubL G G') (h : KO P ops d Q n D w0 G' L l) : KO P ops d Q n D w0 G L l := fun a w ha hw => h a w (ha.sub hs) hw
theorem K.conv (hs : ∀ w, St w0 L w → St w0 L' w) (h : K P c Q n D w0 G L') : K P c Q n D w0 G L := fun a w ha hw => h a w ha (hs w hw)
theorem KO.conv (hs : ∀ w, St w0 L w → St w0 L' w) (h : KO P ops d Q n D w0 G L' l) : KO P ops d Q n D w0 G L l := fun a w ha hw => h a w ha (hs w hw)
theorem KQ.conv (hs : ∀ w, St w0 L w → St w0 L' w) (h : KQ Q e n D w0 G L') : KQ Q e n D w0 G L := fun a w ha hw => h a w ha (hs w hw)
theorem K.fact {p : Prop} (hs : ∀ w, St w0 L w → p) (h : p → K P c Q n D w0 G L) : K P c Q n D w0 G L := fun a w ha hw => h (hs w hw) a w ha hw
theorem KO.fact {p : Prop} (hs : ∀ w, St w0 L w → p) (h : p → KO P ops d Q n D w0 G L l) : KO P ops d Q n D w0 G L l := fun a w ha hw => h (hs w hw) a w ha hw
theorem KQ.fact {p : Prop} (hs : ∀ w, St w0 L w → p) (h : p → KQ Q e n D w0 G L) : KQ Q e n D w0 G L := fun a w ha hw => h (hs w hw) a w ha hw
theorem K.open' {α : Sort _} {F : α → List HP} (hs : ∀ w, St w0 L w → ∃ x, St w0 (F x) w) (h : ∀ x, K P c Q n D w0 G (F x)) : K P c Q n D w0 G L := fun a w ha hw => by
  obtain ⟨x, hx⟩ := hs w hw
  exact h x a w ha hx
theorem KO.open' {α : Sort _} {F : α → List HP} (hs : ∀ w, St w0 L w → ∃ x, St w0 (F x) w) (h : ∀ x, KO P ops d Q n D w0 G (F x) l) : KO P ops d Q n D w0 G L l := fun a w ha hw => by
  obtain ⟨x, hx⟩ := hs w hw
  exact h x a w ha hx
theorem KQ.open' {α : Sort _} {F : α → List HP} (hs : ∀ w, St w0 L w → ∃ x, St w0 (F x) w) (h : ∀ x, KQ Q e n D w0 G (F x)) : KQ Q e n D w0 G L := fun a w ha hw => by
  obtain ⟨x, hx⟩ := hs w hw
  exact h x a w ha hx
/-! loops -/
def LoopI {α : Type} (n : Nat) (D : List Deferred) (w0 : World) (E : α → Env) (H : α → List HP) (φ : α → Prop) (m : α → Nat) (x : α) (a : Act) (w : World) : Prop :=
  ∃ y, φ y ∧ m y < m x ∧ Knows n D (E y) a ∧ St w0 (H y) w
theorem K.loop {α : Type} (E : α → Env) (H : α → List HP) (φ : α → Prop) (m : α → Nat) (x0 : α) (h0 : φ x0) (hG : SubL G (E x0)) (hL : ∀ w, St w0 L w → St w0 (H x0) w)
    (round : ∀ x, φ x → K P c (Exit.then (LoopI n D w0 E H φ m x) Q) n D w0 (E x) (H x)) : K P (.loop c) Q n D w0 G L := fun a w ha hw => by
  have key : ∀ (N : Nat) (x : α) (a : Act) (w : World), m x < N → φ x → Knows n D (E x) a → St w0 (H x) w → Code.rounds P c Q N a w := by
    intro N
    induction N with
    | zero => intro x a w h; omega
    | succ N ih =>
      intro x a w hlt hx ha hw
      rw [rounds_succ]
      refine Go.wp_mono (round x hx a w ha hw) fun e a w hq => ?_
      cases e with
      | normal =>
        obtain ⟨y, hy, hlt', ha', hw'⟩ := hq
        exact ih y a w (by omega) hy ha' hw'
      | _ => exact hq
  exact wp_loop_rounds (m x0 + 1) (key _ x0 a w (Nat.lt_succ_self _) h0 (ha.sub hG) (hL w hw))
theorem KQ.round {α : Type} {E : α → Env} {H : α → List HP} {φ : α → Prop} {m : α → Nat} {x : α} (y : α) (hy : φ y) (hm : m y < m x) (hG : SubL G (E y)) (hL : ∀ w, St w0 L w → St w0 (H y) w) :
    KQ (Exit.then (LoopI n D w0 E H φ m x) Q) .normal n D w0 G L := fun _ w ha hw => ⟨y, hy, hm, ha.sub hG, hL w hw⟩
/-- a loop that is gone through fewer than N times is unrolled -/
theorem K.rounds (N : Nat) (h : ∀ a w, Knows n D G a → St w0 L w → Code.rounds P c Q N a w) : K P (.loop c) Q n D w0 G L := fun a w ha hw => wp_loop_rounds N (h a w ha hw)
end
/-! contracts -/
def KC (P : Program) (f : FuncId) (args : Array Value) (w0 : World) (L : List HP) (R : Value → List HP → Prop) : Prop :=
  ∀ w, St w0 L w → Calls P f args w fun e w' => ∃ v L', e = .returned v ∧ R v L' ∧ St w0 L' w'
/-- with what was there kept, and new blocks -/
def KE (P : Program) (f : FuncId) (args : Array Value) (w0 : World) (L : List HP) (R : Value → List HP → Prop) : Prop :=
  ∀ w, St w0 L w → Calls P f args w fun e w' => ∃ v L', e = .returned v ∧ R v L' ∧ St w0 L' w' ∧ Below w.heap.size w w'
/-- any ending -/
def KP (P : Program) (f : FuncId) (args : Array Value) (w0 : World) (L : List HP) (R : Ending → List HP → Prop) : Prop :=
  ∀ w, St w0 L w → Calls P f args w fun e w' => ∃ L', R e L' ∧ St w0 L' w'
def RetR (w0 : World) (R : Value → List HP → Prop) : Ending → World → Prop := fun e w' => ∃ v L', e = .returned v ∧ R v L' ∧ St w0 L' w'
section
variable {P : Program} {f : FuncId} {args : Array Value} {w0 : World} {L : List HP} {R R' : Value → List HP → Prop}
theorem KE.kc (h : KE P f args w0 L R) : KC P f args w0 L R := fun w hw => (h w hw).mono fun _ _ ⟨v, L', a, b, c, _⟩ => ⟨v, L', a, b, c⟩
theorem KC.mono (h : KC P f args w0 L R) (hr : ∀ v L', R v L' → R' v L') : KC P f args w0 L R' := fun w hw => (h w hw).mono fun _ _ ⟨v, L', a, b, c⟩ => ⟨v, L', a, hr _ _ b, c⟩
theorem KE.mono (h : KE P f args w0 L R) (hr : ∀ v L', R v L' → R' v L') : KE P f args w0 L R' := fun w hw => (h w hw).mono fun _ _ ⟨v, L', a, b, c⟩ => ⟨v, L', a, hr _ _ b, c⟩
theorem KC.mk {fn : Func} {c : Code} {n : Nat} (hf : P.funcs[f]? = some fn) (hb : fn.body = some c) (hn : fn.ntmps = n) (hsz : args.size ≤ n)
    (h : K P c (bodyPost P fn (RetR w0 R)) n [] w0 (argEnv 0 args.toList) L) : KC P f args w0 L R := fun w hw => by
  subst hn
  exact calls_of_wp hf hb (h _ w (Knows.enter hsz) hw)
/-- what was there is kept: the base is the world at the call -/
theorem KE.mk {fn : Func} {c : Code} {n : Nat} (hf : P.funcs[f]? = some fn) (hb : fn.body = some c) (hn : fn.ntmps = n) (hsz : args.size ≤ n)
    (h : ∀ w, St w0 L w → K P c (bodyPost P fn fun e w' => ∃ v L', e = .returned v ∧ R v L' ∧ St w0 L' w' ∧ Below w.heap.size w w') n [] w (argEnv 0 args.toList) []) : KE P f args w0 L R := fun w hw => by
  subst hn
  exact calls_of_wp hf hb (h w hw _ w (Knows.enter hsz) (St.init w))
theorem KP.mk {RE : Ending → List HP → Prop} {fn : Func} {c : Code} {n : Nat} (hf : P.funcs[f]? = some fn) (hb : fn.body = some c) (hn : fn.ntmps = n) (hsz : args.size ≤ n)
    (h : K P c (bodyPost P fn fun e w' => ∃ L', RE e L' ∧ St w0 L' w') n [] w0 (argEnv 0 args.toList) L) : KP P f args w0 L RE := fun w hw => by
  subst hn
  exact calls_of_wp hf hb (h _ w (Knows.enter hsz) hw)
end
section
variable {P : Program} {fn : Func} {R : Ending → World → Prop} {n : Nat} {w0 : World} {G : Env} {L : List HP} {v v1 v2 v3 : Value} {t t1 t2 t3 : Nat}
theorem res1 (hr : fn.results = #[.tmp t]) (hv : envAt G t = some v) (a : Act) (w : World) (ha : Knows n [] G a) : (results fn a.tmps).run P w = .ok v w := by
  rw [results_tmp hr]; simp [Array.getD_eq_getD_getElem?, ha.get _ _ hv]
theorem res2 (hr : fn.results = #[.tmp t1, .tmp t2]) (h1 : envAt G t1 = some v1) (h2 : envAt G t2 = some v2) (a : Act) (w : World) (ha : Knows n [] G a) : (results fn a.tmps).run P w = .ok (.tuple #[v1, v2]) w := by
  rw [results_tmp2 hr]; simp [Array.getD_eq_getD_getElem?, ha.get _ _ h1, ha.get _ _ h2]
theorem res3 (hr : fn.results = #[.tmp t1, .tmp t2, .tmp t3]) (h1 : envAt G t1 = some v1) (h2 : envAt G t2 = some v2) (h3 : envAt G t3 = some v3) (a : Act) (w : World) (ha : Knows n [] G a) :
    (results fn a.tmps).run P w = .ok (.tuple #[v1, v2, v3]) w := by
  rw [results_tmp3 hr]; simp [Array.getD_eq_getD_getElem?, ha.get _ _ h1, ha.get _ _ h2, ha.get _ _ h3]
theorem KQ.fin (hr : ∀ a w, Knows n [] G a → St w0 L w → (results fn a.tmps).run P w = .ok v w) (h : ∀ w, St w0 L w → R (.returned v) w) : KQ (bodyPost P fn R) .ret n [] w0 G L := fun a w ha hw => ⟨ha.defers, v, hr a w ha hw, h w hw⟩
theorem KQ.fin' (hr : ∀ a w, Knows n [] G a → St w0 L w → (results fn a.tmps).run P w = .ok v w) (h : ∀ w, St w0 L w → R (.returned v) w) : KQ (bodyPost P fn R) .normal n [] w0 G L := fun a w ha hw => ⟨ha.defers, v, hr a w ha hw, h w hw⟩
theorem KQ.ret1 (hr : fn.results = #[.tmp t]) (hv : envAt G t = some v) (h : ∀ w, St w0 L w → R (.returned v) w) : KQ (bodyPost P fn R) .ret n [] w0 G L :=
  KQ.fin (fun a w ha _ => res1 hr hv a w ha) h
theorem KQ.ret2 (hr : fn.results = #[.tmp t1, .tmp t2]) (h1 : envAt G t1 = some v1) (h2 : envAt G t2 = some v2) (h : ∀ w, St w0 L w → R (.returned (.tuple #[v1, v2])) w) : KQ (bodyPost P fn R) .ret n [] w0 G L :=
  KQ.fin (fun a w ha _ => res2 hr h1 h2 a w ha) h
theorem KQ.ret3 (hr : fn.results = #[.tmp t1, .tmp t2, .tmp t3]) (h1 : envAt G t1 = some v1) (h2 : envAt G t2 = some v2) (h3 : envAt G t3 = some v3) (h : ∀ w, St w0 L w → R (.returned (.tuple #[v1, v2, v3])) w) : KQ (bodyPost P fn R) .ret n [] w0 G L :=
  KQ.fin (fun a w ha _ => res3 hr h1 h2 h3 a w ha) h
theorem KQ.ret0 (hr : fn.results = #[]) (h : ∀ w, St w0 L w → R (.returned (.tuple #[])) w) : KQ (bodyPost P fn R) .ret n [] w0 G L :=
  KQ.fin (fun a w _ _ => results_none hr a.tmps P w) h
theorem KQ.end0 (hr : fn.results = #[]) (h : ∀ w, St w0 L w → R (.returned (.tuple #[])) w) : KQ (bodyPost P fn R) .normal n [] w0 G L :=
  KQ.fin' (fun a w _ _ => results_none hr a.tmps P w) h
end
end WB
/- the steps of the calculus: one law an operation -/
namespace WB
open Go Go.RowKit
section
variable {P : Program} {ops : Array Oper} {d : Bool} {Q : Exit → Act → World → Prop} {n : Nat} {D : List Deferred} {w0 : World} {G : Env} {L R : List HP} {l : List (Kd × Oper)} {k : Kd}
  {t : Nat} {op : Op} {ty T T' E : TypeId} {pos : String} {af : Array Edge} {x y z : Operand} {v u : Value} {b b' : Bool} {i j off : Nat} {a c : Int} {ad : Addr} {g : Option (Nat × Bool)} {dst : Option Nat}

theorem KO.dropGuard (h : ∀ a, Knows n D G a → Region.wanted ⟨dst, op, ty, pos, af, g⟩ (yielded ops a.tmps) = true) (hk : KO P ops d Q n D w0 G L ((k, ⟨dst, op, ty, pos, af, none⟩) :: l)) :
    KO P ops d Q n D w0 G L ((k, ⟨dst, op, ty, pos, af, g⟩) :: l) := fun a w ha hw => by
  have h1 := h a ha
  have h2 := hk a w ha hw
  have h0 : Region.wanted ⟨dst, op, ty, pos, af, none⟩ (yielded ops a.tmps) = true := rfl
  cases d with
  | true =>
    change vcL _ _ _ _ _ _ at h2
    show vcL _ _ _ _ _ _
    by_cases hl : k.light = true
    · rw [vcL_light hl h0] at h2; rw [vcL_light hl h1]; exact h2
    · cases k with
      | keep => rw [vcL_keep h0] at h2; rw [vcL_keep h1]; exact h2
      | write => rw [vcL_write h0] at h2; rw [vcL_write h1]; exact h2
      | _ => exact absurd rfl hl
  | false =>
    simp only [vcG, List.map_cons, wpList, h0, h1, if_true] at h2 ⊢
    exact h2
theorem wanted_known {a : Act} (ha : Knows n D G a) (hj : (ops[j]?).bind (·.dst) = some t) (hb : envAt G t = some (.bool b)) : Region.wanted ⟨dst, op, ty, pos, af, some (j, b')⟩ (yielded ops a.tmps) = (b == b') := by
  simp only [Region.wanted, yielded, hj, Option.bind_some, ha.get _ _ hb]
  cases b <;> cases b' <;> rfl
/-- a guard that holds -/
theorem KO.on (hj : (ops[j]?).bind (·.dst) = some t) (hb : envAt G t = some (.bool b)) (he : b = b') (hk : KO P ops d Q n D w0 G L ((k, ⟨dst, op, ty, pos, af, none⟩) :: l)) :
    KO P ops d Q n D w0 G L ((k, ⟨dst, op, ty, pos, af, some (j, b')⟩) :: l) := KO.dropGuard (fun _ ha => by rw [wanted_known ha hj hb, he]; simp) hk
theorem put_dst {a : Act} (ha : Knows n D G a) (v : Value) (ht : Nat.blt t n = true) : Knows n D ((t, v) :: G) (a.put (some t) v) := ha.put t v (by simpa [Nat.blt_eq] using ht)
/-- one that does not -/
theorem KO.no {s : Nat} (hj : (ops[j]?).bind (·.dst) = some s) (hb : envAt G s = some (.bool b)) (he : b = !b') (ht : Nat.blt t n = true) (hk : KO P ops d Q n D w0 ((t, undef) :: G) L l) :
    KO P ops d Q n D w0 G L ((k, ⟨some t, op, ty, pos, af, some (j, b')⟩) :: l) := fun a w ha hw =>
  vcG_skip (by rw [wanted_known ha hj hb, he]; cases b' <;> rfl) (hk _ w (put_dst ha undef ht) hw)
/-- one that does not, because what it hangs on did not run -/
theorem wanted_undef {a : Act} (ha : Knows n D G a) (hj : (ops[j]?).bind (·.dst) = some t) (hb : envAt G t = some undef) : Region.wanted ⟨dst, op, ty, pos, af, some (j, b')⟩ (yielded ops a.tmps) = false := by
  simp only [Region.wanted, yielded, hj, Option.bind_some, ha.get _ _ hb]
  cases b' <;> rfl
theorem KO.no2 {s : Nat} (hj : (ops[j]?).bind (·.dst) = some s) (hb : envAt G s = some undef) (ht : Nat.blt t n = true) (hk : KO P ops d Q n D w0 ((t, undef) :: G) L l) :
    KO P ops d Q n D w0 G L ((k, ⟨some t, op, ty, pos, af, some (j, b')⟩) :: l) := fun a w ha hw =>
  vcG_skip (wanted_undef ha hj hb) (hk _ w (put_dst ha undef ht) hw)

/-! the general ones -/
theorem KO.val (hv : ∀ a w, Knows n D G a → (execOp a.eval ⟨some t, op, ty, pos, af, none⟩).run P w = .ok (.value v) w) (ht : Nat.blt t n = true) (h : KO P ops d Q n D w0 ((t, v) :: G) L l) :
    KO P ops d Q n D w0 G L ((k, ⟨some t, op, ty, pos, af, none⟩) :: l) := fun a w ha hw => vcG_val rfl (fun w' => hv a w' ha) (h _ w (put_dst ha v ht) hw)
theorem KO.rd (hk : (!d || k != .pure) = true) (hv : ∀ a w w', Knows n D G a → St w0 L w → Ext w w' → (execOp a.eval ⟨some t, op, ty, pos, af, none⟩).run P w' = .ok (.value v) w') (ht : Nat.blt t n = true) (h : KO P ops d Q n D w0 ((t, v) :: G) L l) :
    KO P ops d Q n D w0 G L ((k, ⟨some t, op, ty, pos, af, none⟩) :: l) := fun a w ha hw => vcG_read hk rfl (fun w' e => hv a w w' ha hw e) (h _ w (put_dst ha v ht) hw)
/-- by reckoning: all operands known -/
def evF (G : Env) (x : Operand) : Value := (ev G x).getD undef
theorem KO.pv (hp : plainOp op = true) (hk : op.operands.toList.all (fun x => (ev G x).isSome) = true) (hv : ∀ w, (execOp (evF G) ⟨some t, op, ty, pos, af, none⟩).run P w = .ok (.value v) w) (ht : Nat.blt t n = true)
    (h : KO P ops d Q n D w0 ((t, v) :: G) L l) : KO P ops d Q n D w0 G L ((k, ⟨some t, op, ty, pos, af, none⟩) :: l) := by
  refine KO.val (fun a w ha => ?_) ht h
  rw [execOp_congr (ρ := a.eval) (ρ' := evF G) hp fun x hx => ?_]
  · exact hv w
  · have := List.all_eq_true.1 hk x hx
    obtain ⟨u, hu⟩ := Option.isSome_iff_exists.1 this
    rw [ha.eval hu, evF, hu]; rfl

/-! moves -/
theorem KO.mv (hx : ev G x = some v) (ht : Nat.blt t n = true) (h : KO P ops d Q n D w0 ((t, v) :: G) L l) : KO P ops d Q n D w0 G L ((k, ⟨some t, .move x, ty, pos, af, none⟩) :: l) :=
  KO.val (fun a w ha => by simp [execOp, ha.eval hx]) ht h
theorem KO.as (hx : ev G x = some v) (ht : Nat.blt t n = true) (h : KO P ops d Q n D w0 ((t, v) :: G) L l) : KO P ops d Q n D w0 G L ((k, ⟨some t, .assign x, ty, pos, af, none⟩) :: l) :=
  KO.val (fun a w ha => by simp [execOp, ha.eval hx]) ht h
theorem KO.pick (hx : ev G x = some (.bool b)) (hv : (if b then ev G y else ev G z) = some v) (ht : Nat.blt t n = true) (h : KO P ops d Q n D w0 ((t, v) :: G) L l) : KO P ops d Q n D w0 G L ((k, ⟨some t, .pick x y z, ty, pos, af, none⟩) :: l) :=
  KO.val (fun a w ha => by
    cases b with
    | true => simp only [if_true] at hv; simp [execOp, ha.eval hx, ha.eval hv, asBool]
    | false => simp only [Bool.false_eq_true, if_false] at hv; simp [execOp, ha.eval hx, ha.eval hv, asBool]) ht h
theorem KO.nc (hx : ev G x = some (.pointer (some ad))) (ht : Nat.blt t n = true) (h : KO P ops d Q n D w0 ((t, .pointer (some ad)) :: G) L l) : KO P ops d Q n D w0 G L ((k, ⟨some t, .nilCheck x, ty, pos, af, none⟩) :: l) :=
  KO.val (fun a w ha => by simp [execOp, ha.eval hx]) ht h
theorem KO.ncF {f : FuncId} {c1 c2 : Array Value} (hx : ev G x = some (.func (.func f) c1 c2)) (ht : Nat.blt t n = true) (h : KO P ops d Q n D w0 ((t, .func (.func f) c1 c2) :: G) L l) : KO P ops d Q n D w0 G L ((k, ⟨some t, .nilCheck x, ty, pos, af, none⟩) :: l) :=
  KO.val (fun a w ha => by simp [execOp, ha.eval hx]) ht h
theorem KO.extr {vs : Array Value} (hx : ev G x = some (.tuple vs)) (hv : vs[i]? = some v) (ht : Nat.blt t n = true) (h : KO P ops d Q n D w0 ((t, v) :: G) L l) : KO P ops d Q n D w0 G L ((k, ⟨some t, .extract x i, ty, pos, af, none⟩) :: l) :=
  KO.val (fun a w ha => by simp [execOp, ha.eval hx, Instr.extract, hv]) ht h
theorem KO.extrL {vs : List Value} (hx : ev G x = some (.tuple vs.toArray)) (hv : vs[i]? = some v) (ht : Nat.blt t n = true) (h : KO P ops d Q n D w0 ((t, v) :: G) L l) : KO P ops d Q n D w0 G L ((k, ⟨some t, .extract x i, ty, pos, af, none⟩) :: l) :=
  KO.extr hx (by simpa using hv) ht h
theorem KO.mki (hx : ev G x = some v) (hc : P.concrete T = true) (ht : Nat.blt t n = true) (h : KO P ops d Q n D w0 ((t, .iface T v) :: G) L l) : KO P ops d Q n D w0 G L ((k, ⟨some t, .makeInterface T x, ty, pos, af, none⟩) :: l) :=
  KO.val (fun a w ha => by simp [execOp, ha.eval hx, run_makeInterface _ _ _ hc]) ht h
theorem KO.mkf {f : Fn} {xs ys : Array Operand} {us vs : Array Value} (h1 : xs.toList.map (ev G) = us.toList.map some) (h2 : ys.toList.map (ev G) = vs.toList.map some) (ht : Nat.blt t n = true) (h : KO P ops d Q n D w0 ((t, .func f us vs) :: G) L l) :
    KO P ops d Q n D w0 G L ((k, ⟨some t, .makeFunc f xs ys, ty, pos, af, none⟩) :: l) :=
  KO.val (fun a w ha => by
    have key : ∀ (xs : List Operand) (us : List Value), xs.map (ev G) = us.map some → xs.map a.eval = us := by
      intro xs
      induction xs with
      | nil => intro us h; cases us with | nil => rfl | cons _ _ => simp at h
      | cons x xs ih => intro us h; cases us with
        | nil => simp at h
        | cons u us => simp only [List.map_cons, List.cons.injEq] at h ⊢; exact ⟨ha.eval h.1, ih us h.2⟩
    have e1 : xs.map a.eval = us := by apply Array.ext'; simpa using key _ _ h1
    have e2 : ys.map a.eval = vs := by apply Array.ext'; simpa using key _ _ h2
    simp [execOp, Instr.makeFunc, e1, e2]) ht h
/-! addresses -/
theorem KO.fld {fs : Array Field} {f : Nat} {fd : Field} {sz : Nat} (hx : ev G x = some (.pointer (some ad))) (hu : ∀ w, (underlying T).run P w = .ok (.struct fs) w) (hf : fs[f]? = some fd) (hs : ∀ w, (Go.sizeOf fd.type).run P w = .ok (sz + 1) w) (ht : Nat.blt t n = true)
    (h : KO P ops d Q n D w0 ((t, .pointer (some (ad.add fd.offset))) :: G) L l) : KO P ops d Q n D w0 G L ((k, ⟨some t, .fieldAddr T x f, ty, pos, af, none⟩) :: l) :=
  KO.val (fun a w ha => by simp [execOp, ha.eval hx, Instr.fieldAt, hu w, hf, Instr.sureAddr, fieldPlace, hs w]) ht h
theorem KO.idx {g : Nat} {o len cap sz : Nat} {kk : IntKind} (hx : ev G x = some (.slice (some ⟨g, o, none⟩) len cap)) (hy : ev G y = some (.int kk a)) (hu : ∀ w, (underlying T).run P w = .ok (.slice E) w) (hs : ∀ w, (Go.sizeOf E).run P w = .ok sz w)
    (ha : a = (i : Int)) (hb : i < len) (ht : Nat.blt t n = true) (h : KO P ops d Q n D w0 ((t, .pointer (some ⟨g, o + i * sz, none⟩)) :: G) L l) : KO P ops d Q n D w0 G L ((k, ⟨some t, .indexAddr T x y, ty, pos, af, none⟩) :: l) :=
  KO.val (fun a' w ha' => by
    subst ha
    have : (0 : Int) ≤ (i : Int) ∧ (i : Int) < (len : Int) := ⟨by omega, by omega⟩
    simp [execOp, ha'.eval hx, ha'.eval hy, Instr.indexAt, hu w, asIntOf, hs w, hb, Addr.add_lit]) ht h
/-- an array behind a pointer -/
theorem KO.idxA {len sz : Nat} {kk : IntKind} (hx : ev G x = some (.pointer (some ad))) (hy : ev G y = some (.int kk a)) (hu : ∀ w, (underlying T).run P w = .ok (.array len E) w) (hs : ∀ w, (Go.sizeOf E).run P w = .ok sz w)
    (ha : a = (i : Int)) (hb : i < len) (ht : Nat.blt t n = true) (h : KO P ops d Q n D w0 ((t, .pointer (some (ad.add (i * sz)))) :: G) L l) : KO P ops d Q n D w0 G L ((k, ⟨some t, .indexAddr T x y, ty, pos, af, none⟩) :: l) :=
  KO.val (fun a' w ha' => by
    subst ha
    simp [execOp, ha'.eval hx, ha'.eval hy, Instr.indexAt, hu w, asIntOf, hs w, hb, Instr.sureAddr]) ht h
/-! reading -/
theorem KO.ld {b : Nat} {cs : List Value} {fz : Nat × Nat} (hk : (!d || k != .pure) = true) (hx : ev G x = some (.pointer (some ⟨b, off, none⟩))) (hT : ∀ w, (isAgg T).run P w = .ok false w) (hp : Pick L (blk b (.cells cs.toArray E fz)) R) (hc : cs[off]? = some v) (ht : Nat.blt t n = true)
    (h : KO P ops d Q n D w0 ((t, v) :: G) L l) : KO P ops d Q n D w0 G L ((k, ⟨some t, .load T x, ty, pos, af, none⟩) :: l) :=
  KO.rd hk (fun a w w' ha hw e => by
    have hcell : w.cell? ⟨b, off, none⟩ = some v := by rw [World.cell?, (hw.lookP hp).2]; simpa using hc
    simp [execOp, ha.eval hx, Instr.loadAt, Instr.sureAddr, run_load_one (hT w') (e.cell hcell)]) ht h
/-- a cell that was there at first -/
theorem KO.ld0 (hk : (!d || k != .pure) = true) (hx : ev G x = some (.pointer (some ad))) (hT : ∀ w, (isAgg T).run P w = .ok false w) (hc : w0.cell? ad = some v) (ht : Nat.blt t n = true)
    (h : KO P ops d Q n D w0 ((t, v) :: G) L l) : KO P ops d Q n D w0 G L ((k, ⟨some t, .load T x, ty, pos, af, none⟩) :: l) :=
  KO.rd hk (fun a w w' ha hw e => by
    simp [execOp, ha.eval hx, Instr.loadAt, Instr.sureAddr, run_load_one (hT w') (e.cell ((Ext.of_below hw.below).cell hc))]) ht h
/-- whatever the parts say of it -/
theorem KO.ldS (hk : (!d || k != .pure) = true) (hx : ev G x = some (.pointer (some ad))) (hT : ∀ w, (isAgg T).run P w = .ok false w) (hc : ∀ w, St w0 L w → w.cell? ad = some v) (ht : Nat.blt t n = true)
    (h : KO P ops d Q n D w0 ((t, v) :: G) L l) : KO P ops d Q n D w0 G L ((k, ⟨some t, .load T x, ty, pos, af, none⟩) :: l) :=
  KO.rd hk (fun a w w' ha hw e => by
    simp [execOp, ha.eval hx, Instr.loadAt, Instr.sureAddr, run_load_one (hT w') (e.cell (hc w hw))]) ht h
theorem KO.ldN {cs : Array Value} {sz : Nat} (hk : (!d || k != .pure) = true) (hx : ev G x = some (.pointer (some ad))) (hT : ∀ w, (isAgg T).run P w = .ok true w) (hn : ∀ w, (Go.sizeOf T).run P w = .ok sz w) (hsz : cs.size = sz) (hc : ∀ w, St w0 L w → HasCells w ad cs.toList) (ht : Nat.blt t n = true)
    (h : KO P ops d Q n D w0 ((t, .agg cs) :: G) L l) : KO P ops d Q n D w0 G L ((k, ⟨some t, .load T x, ty, pos, af, none⟩) :: l) :=
  KO.rd hk (fun a w w' ha hw e => by
    have := run_load_agg (P := P) (hT w') (by rw [hn w', ← hsz]; rfl) ((hc w hw).ext e)
    simp [execOp, ha.eval hx, Instr.loadAt, Instr.sureAddr, this]) ht h
/-- a whole struct out of a block -/
theorem KO.ldB {b : Nat} {cs : List Value} {us : List Value} {fz : Nat × Nat} {sz : Nat} (hk : (!d || k != .pure) = true) (hx : ev G x = some (.pointer (some ⟨b, off, none⟩))) (hT : ∀ w, (isAgg T).run P w = .ok true w) (hn : ∀ w, (Go.sizeOf T).run P w = .ok sz w) (hp : Pick L (blk b (.cells cs.toArray E fz)) R)
    (hu : (cs.drop off).take sz = us) (hsz : us.length = sz) (ht : Nat.blt t n = true)
    (h : KO P ops d Q n D w0 ((t, .agg us.toArray) :: G) L l) : KO P ops d Q n D w0 G L ((k, ⟨some t, .load T x, ty, pos, af, none⟩) :: l) :=
  KO.ldN hk hx hT hn (by simpa using hsz) (fun w hw j c hj => by
    have hlk := (hw.lookP hp).2
    rw [show (us.toArray).toList = us from rfl, ← hu, List.getElem?_take] at hj
    split at hj
    · rw [List.getElem?_drop] at hj
      rw [Addr.add_lit, World.cell?, hlk]; simpa using hj
    · simp at hj) ht h
/-! new blocks -/
theorem KO.keepRun (hk : (!d || (k == .keep || k == .write)) = true) {F : Nat → Value} {N : Nat → List HP} (hr : ∀ a w, Knows n D G a → St w0 L w → ∃ bb w', (execOp a.eval ⟨some t, op, ty, pos, af, none⟩).run P w = .ok (.value (F bb)) w' ∧ Ext w w' ∧ St w0 (N bb) w') (ht : Nat.blt t n = true)
    (h : ∀ bb, KO P ops d Q n D w0 ((t, F bb) :: G) (N bb) l) : KO P ops d Q n D w0 G L ((k, ⟨some t, op, ty, pos, af, none⟩) :: l) := fun a w ha hw => by
  obtain ⟨bb, w', hr, he, hs⟩ := hr a w ha hw
  refine vcG_keep hk rfl ?_
  unfold Oper.wp
  rw [hr]
  exact ⟨he, h bb _ w' (put_dst ha _ ht) hs⟩
theorem KO.box (hk : (!d || (k == .keep || k == .write)) = true) {cs : List Value} (hx : ev G x = some v) (hc : v.cells = cs.toArray) (ht : Nat.blt t n = true)
    (h : ∀ bb, KO P ops d Q n D w0 ((t, .pointer (some ⟨bb, 0, none⟩)) :: G) (blk bb (.cells cs.toArray E (0, 0)) :: L) l) : KO P ops d Q n D w0 G L ((k, ⟨some t, .box E x, ty, pos, af, none⟩) :: l) :=
  KO.keepRun hk (F := fun bb => .pointer (some ⟨bb, 0, none⟩)) (N := fun bb => blk bb (.cells cs.toArray E (0, 0)) :: L) (fun a w ha hw => ⟨w.heap.size, w.alloc (.cells cs.toArray E), by simp [execOp, ha.eval hx, Instr.box, newVar, newRow, hc], Ext.alloc w _, hw.alloc _⟩) ht h
theorem KO.alloc (hk : (!d || (k == .keep || k == .write)) = true) {cs : List Value} (hz : ∀ w, (zeroValue E).run P w = .ok v w) (hc : v.cells = cs.toArray) (ht : Nat.blt t n = true)
    (h : ∀ bb, KO P ops d Q n D w0 ((t, .pointer (some ⟨bb, 0, none⟩)) :: G) (blk bb (.cells cs.toArray E (0, 0)) :: L) l) : KO P ops d Q n D w0 G L ((k, ⟨some t, .alloc E, ty, pos, af, none⟩) :: l) :=
  KO.keepRun hk (F := fun bb => .pointer (some ⟨bb, 0, none⟩)) (N := fun bb => blk bb (.cells cs.toArray E (0, 0)) :: L) (fun a w ha hw => ⟨w.heap.size, w.alloc (.cells cs.toArray E), by simp [execOp, Instr.alloc, newVar, newRow, hz w, hc], Ext.alloc w _, hw.alloc _⟩) ht h
/-! writing -/
theorem KO.wrRun (hk : (!d || k == .write) = true) {N : List HP} (hr : ∀ a w, Knows n D G a → St w0 L w → ∃ w', (execOp a.eval ⟨none, op, ty, pos, af, none⟩).run P w = .ok .skip w' ∧ St w0 N w')
    (h : KO P ops d Q n D w0 G N l) : KO P ops d Q n D w0 G L ((k, ⟨none, op, ty, pos, af, none⟩) :: l) := fun a w ha hw => by
  obtain ⟨w', hr, hs⟩ := hr a w ha hw
  refine vcG_write hk rfl ?_
  unfold Oper.wp
  rw [hr]
  exact h _ w' ha hs
theorem KO.st {b : Nat} {cs cs' us : List Value} (hk : (!d || k == .write) = true) (hx : ev G x = some (.pointer (some ⟨b, off, none⟩))) (hy : ev G y = some v) (hv : v.cells = us.toArray) (hn : ∀ w, (Go.sizeOf T).run P w = .ok us.length w) (h1 : ∀ u ∈ us, u.oneCell' = true)
    (hp : Pick L (blk b (.cells cs.toArray E (0, 0))) R) (hfit : off + us.length ≤ cs.length) (hc : cs.take off ++ us ++ cs.drop (off + us.length) = cs') (h : KO P ops d Q n D w0 G (blk b (.cells cs'.toArray E (0, 0)) :: R) l) :
    KO P ops d Q n D w0 G L ((k, ⟨none, .store T x y, ty, pos, af, none⟩) :: l) :=
  KO.wrRun hk (N := blk b (.cells cs'.toArray E (0, 0)) :: R) (fun a w ha hw => by
    have hb := hw.pick hp
    have hst := run_store_row (P := P) (T := T) (off := off) (v := v) hb (by simpa [hv] using hn w) (by simpa [hv] using hfit) (by simpa [hv] using h1)
    refine ⟨_, ?_, hb.setRow (c' := cs'.toArray)⟩
    simp only [hv, hc] at hst
    simp [execOp, ha.eval hx, ha.eval hy, Instr.storeAt, Instr.sureAddr, hst]) h
end
end WB
