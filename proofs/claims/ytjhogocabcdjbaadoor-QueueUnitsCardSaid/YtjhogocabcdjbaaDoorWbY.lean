import Derived.Test.YtjhogocabcdjbaaDoorWbX
set_option linter.unusedSimpArgs false
set_option linter.unusedVariables false
namespace WB
open Go Go.RowKit
def look (l : List Nm) (s : ByteArray) : Option Nm := if hitB l s (srchN l s) = true then some (nmAt l (srchN l s)) else none
def localB (l : List Nm) (s : ByteArray) : Bool := match look l s with | some x => emptyB x.to | none => false
/-- what a name stands for: the text, the house, the error's number -/
def resN (l : List Nm) : Nat → ByteArray → ByteArray × Int × Int
  | 0, _ => (⟨#[]⟩, 0, 11)
  | n + 1, s => match look l s with
    | none => (⟨#[]⟩, 0, 7)
    | some x => if emptyB x.to = true then (s, -1, 0) else if 0 ≤ x.house then (x.to, x.house, 0) else resN l n x.to
theorem look_none {l : List Nm} {s : ByteArray} (h : hitB l s (srchN l s) = false) : look l s = none := by simp [look, h]
theorem look_some {l : List Nm} {s : ByteArray} (h : hitB l s (srchN l s) = true) : look l s = some (nmAt l (srchN l s)) := by simp [look, h]
theorem hit_lt {l : List Nm} {s : ByteArray} {k : Nat} (h : hitB l s k = true) : k < l.length := by
  unfold hitB at h; rw [Bool.and_eq_true] at h; simpa using h.1
end WB
