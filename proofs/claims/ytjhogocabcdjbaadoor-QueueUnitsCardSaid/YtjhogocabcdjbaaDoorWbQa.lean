/- messages, and messages in line: plain data -/
import Derived.Test.YtjhogocabcdjbaaDoorWbKe
set_option linter.unusedSimpArgs false
set_option linter.unusedVariables false
namespace WB
open Go Go.RowKit
structure Ms where
  id : Int
  pri : Int
  body : ByteArray
  queue : ByteArray
  house : Int
instance : Inhabited Ms := ⟨⟨0, 0, ⟨#[]⟩, ⟨#[]⟩, 0⟩⟩
def msC (m : Ms) : List Value := [.int .i64 m.id, .int .i64 m.pri, .string m.body, .string m.queue, .int .i64 m.house]
structure It where
  m : Ms
  line : Int
  put : Int
  got : Int
instance : Inhabited It := ⟨⟨default, 0, 0, 0⟩⟩
def itC (x : It) : List Value := [.int .i64 x.m.id, .int .i64 x.m.pri, .string x.m.body, .string x.m.queue, .int .i64 x.m.house, .int .i64 x.line, .int .i64 x.put, .int .i64 x.got]
def compI (p q x y : Int) : Int := if p ≠ q then q - p else x - y
/-- numbers that no reckoning with them outgrows -/
def small (a : Int) : Prop := -1152921504606846976 ≤ a ∧ a ≤ 1152921504606846976
end WB
namespace WB
open Go Go.RowKit
def cmpIt (a b : It) : Int := compI a.m.pri b.m.pri a.line b.line
structure Qu where
  l : List It
  next : Int
instance : Inhabited Qu := ⟨⟨[], 0⟩⟩
def smallIt (e : It) : Prop := small e.m.pri ∧ small e.line
/-- what a search wants -/
def MonoIt (l : List It) (x : It) : Prop := ∀ (p q : Nat) (a b : It), p ≤ q → l[p]? = some a → l[q]? = some b → cmpIt b x < 0 → cmpIt a x < 0
structure SrchIt (l : List It) (x : It) (k : Nat) : Prop where
  le : k ≤ l.length
  lo : ∀ (p : Nat) (a : It), p < k → l[p]? = some a → cmpIt a x < 0
  hi : ∀ (p : Nat) (a : It), k ≤ p → l[p]? = some a → 0 ≤ cmpIt a x
def hitIt (l : List It) (x : It) (k : Nat) : Bool := match l[k]? with | some a => decide (cmpIt a x = 0) | none => false
def srchIt (l : List It) (x : It) : Nat := (l.takeWhile fun e => decide (cmpIt e x < 0)).length
theorem srchIt_eq : ∀ {l : List It} {x : It} {k : Nat}, SrchIt l x k → k = srchIt l x
  | [], x, k, h => by have := h.le; simp at this; subst this; rfl
  | a :: l, x, k, h => by
    unfold srchIt
    by_cases hx : cmpIt a x < 0
    · simp only [List.takeWhile_cons, hx, decide_true, if_true, List.length_cons]
      cases k with
      | zero => exact absurd hx (Int.not_lt.2 (h.hi 0 a (Nat.le_refl _) (by simp)))
      | succ k =>
        have : SrchIt l x k := ⟨by have := h.le; simp at this; omega, fun p b hp hb => h.lo (p + 1) b (by omega) (by simpa using hb), fun p b hp hb => h.hi (p + 1) b (by omega) (by simpa using hb)⟩
        rw [srchIt_eq this]; rfl
    · simp only [List.takeWhile_cons, hx, decide_false]
      cases k with
      | zero => rfl
      | succ k => exact absurd (h.lo 0 a (by omega) (by simp)) hx
theorem srchIt_le (l : List It) (x : It) : srchIt l x ≤ l.length := (List.takeWhile_prefix _).length_le
end WB
namespace WB
open Go Go.RowKit
def qitem (q : Qu) (m : Ms) (u : Int) : It := ⟨m, q.next, max u (-1), -1⟩
def qpush (q : Qu) (m : Ms) (u : Int) : Qu := ⟨q.l.take (srchIt q.l (qitem q m u)) ++ qitem q m u :: q.l.drop (srchIt q.l (qitem q m u)), q.next + 1⟩
/-- what the searches in a queue want -/
structure QuOk (q : Qu) : Prop where
  len : q.l.length < 900000
  small : ∀ e ∈ q.l, smallIt e
  next : 0 ≤ q.next ∧ q.next < 1000000
  mono : ∀ m u, MonoIt q.l (qitem q m u)
def availB (e : It) : Bool := decide (e.put < 0) && decide (e.got < 0)
def qthere (q : Qu) : List Ms := (q.l.filter availB).map (·.m)
def qkept (q : Qu) : List Ms := (q.l.filter fun e => decide (e.put < 0)).map (·.m)
def idB (id : Int) (e : It) : Bool := decide (e.m.id = id)
def qhas (q : Qu) (id : Int) : Bool := q.l.any (idB id)
end WB
namespace WB
open Go Go.RowKit
def msRight (m : Ms) : Bool := decide (0 ≤ m.id) && (decide (m.id ≤ 1099511627776) && (decide (0 ≤ m.pri) && (decide (m.pri ≤ 9) && (bodyB m.body && (wordB m.queue && (decide (0 ≤ m.house) && decide (m.house < 4)))))))
theorem msRight_parts {m : Ms} (h : msRight m = true) : 0 ≤ m.id ∧ m.id ≤ 1099511627776 ∧ 0 ≤ m.pri ∧ m.pri ≤ 9 ∧ bodyB m.body = true ∧ wordB m.queue = true ∧ 0 ≤ m.house ∧ m.house < 4 := by
  unfold msRight at h
  simp only [Bool.and_eq_true, decide_eq_true_eq] at h
  exact h
/-- what Put answers: the error's number, and the queue then -/
def qputE (q : Qu) (m : Ms) : Int := if msRight m = false then 1 else if qhas q m.id = true then 9 else if 20 ≤ q.l.length then 12 else 0
def qput (q : Qu) (m : Ms) (u : Int) : Qu := if qputE q m = 0 then qpush q m u else q
def qgetI (q : Qu) : Option Nat := q.l.findIdx? availB
def qtakeI (q : Qu) (id : Int) : Option Nat := q.l.findIdx? (idB id)
def itAt (l : List It) (k : Nat) : It := l.getD k default
def zeroMs : Ms := ⟨0, 0, ⟨#[]⟩, ⟨#[]⟩, 0⟩
def qget (q : Qu) (u : Int) : Qu := match qgetI q with | none => q | some k => if u < 0 then ⟨q.l.eraseIdx k, q.next⟩ else ⟨q.l.set k { itAt q.l k with got := u }, q.next⟩
def qgetM (q : Qu) : Ms := match qgetI q with | none => zeroMs | some k => (itAt q.l k).m
def qgetE (q : Qu) : Int := match qgetI q with | none => 8 | some _ => 0
def qtake (q : Qu) (id : Int) : Qu := match qtakeI q id with | none => q | some k => ⟨q.l.eraseIdx k, q.next⟩
def qtakeM (q : Qu) (id : Int) : Ms := match qtakeI q id with | none => zeroMs | some k => (itAt q.l k).m
def qtakeE (q : Qu) (id : Int) : Int := match qtakeI q id with | none => 7 | some _ => 0
def endB (u : Int) (back : Bool) (x : It) : Bool := (decide (x.put = u) && back) || (decide (x.got = u) && !back)
def freeIt (u : Int) (x : It) : It := { x with put := if x.put = u then -1 else x.put, got := if x.got = u then -1 else x.got }
def qends (q : Qu) (u : Int) (back : Bool) : Qu := if u < 0 then q else ⟨(q.l.filter fun e => !endB u back e).map (freeIt u), q.next⟩
theorem itAt_of {l : List It} {k : Nat} {e : It} (h : l[k]? = some e) : itAt l k = e := by simp [itAt, List.getD_eq_getElem?_getD, h]
end WB
