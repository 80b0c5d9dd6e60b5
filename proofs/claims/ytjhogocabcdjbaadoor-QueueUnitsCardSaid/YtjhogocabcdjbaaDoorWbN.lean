import Derived.Test.YtjhogocabcdjbaaDoorWbV
import Derived.Lib.Hide
import Derived.Lib.Bytealg
import Derived.Lib.SlTrimSet
set_option linter.unusedSimpArgs false
set_option linter.unusedVariables false
namespace WB
open Go Go.RowKit

def cmpN (a b : ByteArray) : Int := Lib.compareBytes a.data.toList b.data.toList

theorem flat_get {α β : Type} (f : α → List β) (sz : Nat) (hf : ∀ x, (f x).length = sz) (d : α) : ∀ (l : List α) (i k : Nat), i < l.length → k < sz → (l.flatMap f)[i * sz + k]? = (f (l.getD i d))[k]?
  | [], i, k, h, _ => by simp at h
  | x :: l, 0, k, _, hk => by
    simp only [List.flatMap_cons, Nat.zero_mul, Nat.zero_add, List.getD_cons_zero]
    rw [List.getElem?_append_left (by rw [hf]; exact hk)]
  | x :: l, i + 1, k, h, hk => by
    simp only [List.flatMap_cons, List.getD_cons_succ]
    rw [List.getElem?_append_right (by rw [hf, Nat.succ_mul]; omega), hf, show (i + 1) * sz + k - sz = i * sz + k by rw [Nat.succ_mul]; omega]
    exact flat_get f sz hf d l i k (by simpa using h) hk
theorem flat_len {α β : Type} (f : α → List β) (sz : Nat) (hf : ∀ x, (f x).length = sz) : ∀ (l : List α), (l.flatMap f).length = l.length * sz
  | [] => by simp
  | x :: l => by simp only [List.flatMap_cons, List.length_append, List.length_cons, hf, flat_len f sz hf l, Nat.succ_mul]; omega

/-! names -/
structure Nm where
  name : ByteArray
  to : ByteArray
  house : Int
instance : Inhabited Nm := ⟨⟨⟨#[]⟩, ⟨#[]⟩, 0⟩⟩
def Nm.cells (x : Nm) : List Value := [.string x.name, .string x.to, .int .i64 x.house]
def nmCells (l : List Nm) : List Value := l.flatMap Nm.cells
def nmAt (l : List Nm) (i : Nat) : Nm := l.getD i default
theorem nmCells_len (l : List Nm) : (nmCells l).length = l.length * 3 := flat_len _ 3 (fun _ => rfl) l
theorem nm_cells {w0 w : World} {L : List HP} {E : TypeId} {g cap n : Nat} {l : List Nm} (h : St w0 (osl E 3 (.slice (some ⟨g, 0, none⟩) n cap) n (nmCells l) :: L) w) {i : Nat} (hi : i < l.length) :
    w.cell? ⟨g, i * 3, none⟩ = some (.string (nmAt l i).name) ∧ w.cell? ⟨g, i * 3 + 1, none⟩ = some (.string (nmAt l i).to) ∧ w.cell? ⟨g, i * 3 + 2, none⟩ = some (.int .i64 (nmAt l i).house) := by
  have hl := h.osl_len
  rw [nmCells_len] at hl
  have key : ∀ k, k < 3 → w.cell? ⟨g, i * 3 + k, none⟩ = (nmAt l i).cells[k]? := fun k hk => by
    rw [h.osl_owns.cellAt _ (by omega)]
    exact flat_get _ 3 (fun _ => rfl) default l i k hi hk
  exact ⟨key 0 (by omega), key 1 (by omega), key 2 (by omega)⟩
theorem Below.cells {w w' : World} (h : Below w.heap.size w w') {p : Addr} {v : Value} (hc : w.cell? p = some v) : w'.cell? p = some v := (Ext.of_below h).cell hc

/-- where s stands, or would stand, in l. -/
structure Srch (l : List Nm) (s : ByteArray) (k : Nat) : Prop where
  le : k ≤ l.length
  lo : ∀ p, p < k → cmpN (nmAt l p).name s < 0
  hi : ∀ p, k ≤ p → p < l.length → 0 ≤ cmpN (nmAt l p).name s
def Mono (l : List Nm) (s : ByteArray) : Prop := ∀ p q, p ≤ q → q < l.length → cmpN (nmAt l q).name s < 0 → cmpN (nmAt l p).name s < 0
def hitB (l : List Nm) (s : ByteArray) (k : Nat) : Bool := decide (k < l.length) && (cmpN (nmAt l k).name s == 0)
theorem ret_bool {a b : Bool} (h : a = b) : Ending.returned (.bool a) = .returned (.bool b) := by rw [h]
theorem ret_int {k : IntKind} {a b : Int} (h : a = b) : Ending.returned (.int k a) = .returned (.int k b) := by rw [h]
theorem ret_string {a b : ByteArray} (h : a = b) : Ending.returned (.string a) = .returned (.string b) := by rw [h]
/-! letters -/
def cutset : ByteArray := ⟨#[97, 98, 99, 100, 101, 102, 103, 104, 105, 106, 107, 108, 109, 110, 111, 112, 113, 114, 115, 116, 117, 118, 119, 120, 121, 122, 48, 49, 50, 51, 52, 53, 54, 55, 56, 57]⟩
def isLet (c : UInt8) : Bool := (97 ≤ c && c ≤ 122) || (48 ≤ c && c ≤ 57)
def allLet (s : ByteArray) : Bool := s.data.toList.all isLet
def lettersB (s : ByteArray) (most : Nat) : Bool := decide (1 ≤ s.size) && (decide (s.size ≤ most) && allLet s)
theorem cutset_isLet (c : UInt8) : cutset.data.toList.contains c = isLet c := by
  have h : ∀ n : Fin 256, cutset.data.toList.contains (UInt8.ofNat n.val) = isLet (UInt8.ofNat n.val) := by decide +kernel
  have := h ⟨c.toNat, c.toNat_lt⟩
  simpa using this
theorem dropWhile_nil {α : Type} {p : α → Bool} : ∀ {l : List α}, l.dropWhile p = [] ↔ l.all p = true
  | [] => by simp
  | a :: l => by
    by_cases h : p a = true
    · simp only [List.dropWhile_cons, h, if_true, List.all_cons, Bool.true_and]; exact dropWhile_nil
    · simp [h]
theorem trimS_nil (s : ByteArray) : Lib.trimS s.data.toList cutset.data.toList = [] ↔ allLet s = true := by
  have hp : (fun c => cutset.data.toList.contains c) = isLet := funext cutset_isLet
  have hall : ∀ l : List UInt8, (l.dropWhile isLet).all isLet = true ↔ l.all isLet = true := fun l => by
    induction l with
    | nil => simp
    | cons a l ih =>
      by_cases h : isLet a = true
      · simp [h, ← ih]
      · simp [h]
  unfold Lib.trimS Lib.trimLeftS Lib.trimRightS allLet
  rw [hp, dropWhile_nil, List.all_reverse, hall, List.all_reverse]
def wordB (s : ByteArray) : Bool := lettersB s 8
def bodyB (s : ByteArray) : Bool := lettersB s 12
def emptyB (s : ByteArray) : Bool := s.toList.isEmpty
def rightNm (x : Nm) : Bool := wordB x.name && (decide (-1 ≤ x.house) && (decide (x.house ≤ 3) && (wordB x.to || (emptyB x.to && x.house == -1))))
end WB
