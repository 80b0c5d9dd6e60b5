/- what a law's row wants beside its walk: arguments opened, read again, a witness -/
import Derived.Test.YtjhogocabcdjbaaDoorWbQ
import Derived.ProofKit
import Derived.OpenShut
import Derived.Deep.DeepHandedRow
import Derived.Deep.Slices
import Derived.Lay
import Derived.LaidHandle
set_option linter.unusedSimpArgs false
set_option linter.unusedVariables false
namespace WB
open Go Go.RowKit Go.ChangeShapes Go.WideShapes Go.Deep
section
variable {H : Type} {enc : TypeId × Value → H}
theorem witness_row_sh {C : Checked} {os : Os} {f : FuncId} {fn : Func} {s : OpenSpec} {conds : List PathCond} {apart : Bool} {laid : List (String × DataW Unit)} (modest : Bool) (w0 : World) (args : Array Value) (hos : w0.os = os)
    (hsh : (w0.forCall (fun _ _ => 0) ⟨#[], args, []⟩).Shaped C.prog)
    (hok : Input.okWideB C.prog (w0.forCall (fun _ _ => 0) ⟨#[], args, []⟩) f ⟨#[], args, []⟩ = true)
    (hrow : s.preRow enc C.prog fn conds apart laid (w0.forCall (fun _ _ => 0) ⟨#[], args, []⟩).memory args) :
    ∃ (w : World) (tape : Tape) (i : Input), w.os = os ∧ (w.forCall tape i).Shaped C.prog ∧ i.vars = [] ∧ Input.okWide C.prog (w.forCall tape i) .any w.heap.size f i ∧
      s.preRow enc C.prog fn conds apart laid (w.forCall tape i).memory i.args ∧ ({ modest := modest } : Assume).holds C.prog (lone (Frame.enter C.prog f i.args .normal) [] (w.forCall tape i)) :=
  ⟨w0, fun _ _ => 0, ⟨#[], args, []⟩, hos, hsh, (Input.okWide_of_okWideB (base := 0) hok).1, (Input.okWide_of_okWideB hok).2, hrow, by
    simp only [Assume.holds]
    exact ⟨by simp, by simp, fun _ => Modest.zero, by simp, by simp⟩⟩
variable {P : Program}
/-- the arguments read again as they did -/
theorem law_args (hl : laidOutB P = true) {W W' : World} (hb : Below W.heap.size W W') : ∀ {ts : List TypeId} {vs : List Value} {ds : List (DataW H)} {ps : List MemPlace}, (ts.all fun t => P.readableRec t && decide (t < P.types.size)) = true →
    DataW.TrodAll enc P W 0 (fun _ => true) true ts vs ds ps → (∀ x ∈ ps, x.block < W.heap.size) → DataW.TrodAll enc P W' 0 (fun b => decide (b < W.heap.size)) true ts vs ds ps
  | [], [], [], _, _, h, _ => h
  | t :: ts, v :: vs, d :: ds, ps, hr, ⟨p, q, h1, h2, e⟩, hlt => by
    simp only [List.all_cons, Bool.and_eq_true, decide_eq_true_eq] at hr
    exact ⟨p, q, Below.trod hl hr.1.1 hr.1.2 h1 hb (fun x hx => hlt x (by rw [e]; exact List.mem_append_left _ hx)), law_args hl hb (by simpa using hr.2) h2 (fun x hx => hlt x (by rw [e]; exact List.mem_append_right _ hx)), e⟩
theorem list_of_each {α : Type} {p : Nat → α → Prop} : ∀ (n : Nat), (∀ i, i < n → ∃ x, p i x) → ∃ l : List α, l.length = n ∧ ∀ (i : Nat) (x : α), l[i]? = some x → p i x
  | 0, _ => ⟨[], rfl, fun i x h => by simp at h⟩
  | n + 1, h => by
    obtain ⟨l, hl, hp⟩ := list_of_each n fun i hi => h i (by omega)
    obtain ⟨x, hx⟩ := h n (by omega)
    refine ⟨l ++ [x], by simp [hl], fun i y hy => ?_⟩
    by_cases hi : i < l.length
    · rw [List.getElem?_append_left hi] at hy; exact hp i y hy
    · rw [List.getElem?_append_right (by omega)] at hy
      have : i - l.length = 0 := by
        rcases Nat.eq_zero_or_pos (i - l.length) with h0 | h0
        · exact h0
        · rw [List.getElem?_eq_none (by simp; omega)] at hy; simp at hy
      rw [this] at hy
      simp only [List.getElem?_cons_zero, Option.some.injEq] at hy
      rw [← hy, show i = n by omega]; exact hx
/-- a slice that came in -/
def RdA {α : Type} (W : World) (sz : Nat) (cf : α → List Value) (v : Value) (xs : List α) : Prop :=
  ∃ a cap, v = .slice a xs.length cap ∧ ∀ (i : Nat) (x : α), xs[i]? = some x → ∃ ad, a = some ad ∧ HasCells W (ad.add (i * sz)) (cf x)
theorem open_sl {α : Type} {φ : α → Prop} {cf : α → List Value} {W : World} {t e : TypeId} {v : Value} {d : DataW H} {p : List MemPlace} {r : Reach} {base sz : Nat} (ht : P.underlying t = some (.slice e)) (hv : Value.okWide P W r base t v)
    (h : DataW.Trod enc P W 0 (fun _ => true) true t v d p) (hsz : P.cellsOf e = sz) (rd : ∀ n cs y, DataW.trod enc P W 0 (fun _ => true) true n e cs = some y → ∃ x : α, φ x ∧ cs = cf x) :
    ∃ xs : List α, RdA W sz cf v xs ∧ ∀ x ∈ xs, φ x := by
  obtain ⟨a, len, cap, rfl⟩ := okWide_slice ht hv
  obtain ⟨fuel, hf⟩ := h
  rcases open_slice ht hf with ⟨hcs, _⟩ | ⟨a', len', cap', m, n, D, Pl, hcs, _, hl, _, hm, _, hi⟩
  · simp [Value.cells] at hcs
    obtain ⟨rfl, rfl, rfl⟩ := hcs
    exact ⟨[], ⟨none, 0, rfl, fun i x h => by simp at h⟩, fun x hx => by simp at hx⟩
  · simp [Value.cells] at hcs
    obtain ⟨rfl, rfl, rfl⟩ := hcs
    have key : ∀ i, i < len → ∃ x : α, φ x ∧ HasCells W (a'.add (i * sz)) (cf x) := fun i hlt => by
      obtain ⟨cs', hc, htr⟩ := hi i (by rw [hm]; simp; omega)
      obtain ⟨x, hx, rfl⟩ := rd n cs' _ htr
      obtain ⟨_, hlen, hcell⟩ := World.cells?_some hc
      refine ⟨x, hx, fun j c hj => ?_⟩
      have hlt2 := (List.getElem?_eq_some_iff.1 hj).1
      rw [← hsz]
      rw [hcell j (by omega)]; exact hj
    obtain ⟨l, hll, hp⟩ := list_of_each len key
    refine ⟨l, ⟨some a', cap, by rw [hll], fun i x hx => ⟨a', rfl, (hp i x hx).2⟩⟩, fun x hx => ?_⟩
    obtain ⟨i, hi, rfl⟩ := List.getElem_of_mem hx
    exact (hp i _ (List.getElem?_eq_getElem hi)).1
end
end WB
namespace WB
open Go Go.RowKit Go.ChangeShapes Go.WideShapes Go.Deep
section
variable {H : Type} {enc : TypeId × Value → H} {P : Program} {W : World} {base : Nat} {spare : Nat → Bool} {held : Bool}
theorem trod_len {t : TypeId} {fs : Array Field} {n : Nat} {cs : List Value} {y : DataW H × List MemPlace} (hu : P.underlying t = some (.struct fs)) (h : DataW.trod enc P W base spare held n t cs = some y) {k : Nat} (hk : P.cellsOf t = k) : cs.length = k := by
  obtain ⟨_, _, _, _, hl, _⟩ := DataW.trod_struct hu h
  rw [hl, hk]
theorem trod_field {t : TypeId} {fs : Array Field} {n : Nat} {cs : List Value} {y : DataW H × List MemPlace} (hu : P.underlying t = some (.struct fs)) (h : DataW.trod enc P W base spare held n t cs = some y) (i off : Nat) (ty : TypeId) (sz : Nat)
    (hf : (fs[i]?).map (fun f => (f.offset, f.type)) = some (off, ty)) (hc : P.cellsOf ty = sz) : ∃ m y', DataW.trod enc P W base spare held m ty ((cs.drop off).take sz) = some y' := by
  obtain ⟨xs, m, _, _, _, hx, hall⟩ := DataW.trod_struct hu h
  cases hfi : fs[i]? with
  | none => rw [hfi] at hf; simp at hf
  | some f =>
    rw [hfi] at hf
    simp only [Option.map_some, Option.some.injEq, Prod.mk.injEq] at hf
    obtain ⟨rfl, rfl⟩ := hf
    have h1 := hall i f hfi
    have hlt : i < xs.length := by rw [hx]; exact (Array.getElem?_eq_some_iff.1 hfi).1
    rw [List.getElem?_eq_getElem hlt, hc] at h1
    exact ⟨m, _, h1⟩
theorem trod_str {t : TypeId} {fs : Array Field} {n : Nat} {cs : List Value} {y : DataW H × List MemPlace} (hu : P.underlying t = some (.struct fs)) (h : DataW.trod enc P W base spare held n t cs = some y) (i off : Nat) (ty : TypeId)
    (hf : (fs[i]?).map (fun f => (f.offset, f.type)) = some (off, ty)) (hc : P.cellsOf ty = 1) (hty : P.underlying ty = some .string) : ∃ s : ByteArray, cs[off]? = some (.string s) ∧ s.size ≤ maxLen := by
  obtain ⟨m, y', h1⟩ := trod_field hu h i off ty 1 hf hc
  obtain ⟨s, e, _, hs⟩ := DataW.trod_string hty h1
  refine ⟨s, ?_, hs⟩
  have := congrArg (fun l => l[0]?) e
  simpa using this
theorem trod_i {t : TypeId} {fs : Array Field} {n : Nat} {cs : List Value} {y : DataW H × List MemPlace} (hu : P.underlying t = some (.struct fs)) (h : DataW.trod enc P W base spare held n t cs = some y) (i off : Nat) (ty : TypeId) {k : IntKind}
    (hf : (fs[i]?).map (fun f => (f.offset, f.type)) = some (off, ty)) (hc : P.cellsOf ty = 1) (hty : P.underlying ty = some (.int k)) : ∃ z : Int, cs[off]? = some (.int k z) ∧ (Lit.int k z).wf = true := by
  obtain ⟨m, y', h1⟩ := trod_field hu h i off ty 1 hf hc
  obtain ⟨z, e, _, hz⟩ := DataW.trod_int hty h1
  refine ⟨z, ?_, hz⟩
  have := congrArg (fun l => l[0]?) e
  simpa using this
theorem trod_b {t : TypeId} {fs : Array Field} {n : Nat} {cs : List Value} {y : DataW H × List MemPlace} (hu : P.underlying t = some (.struct fs)) (h : DataW.trod enc P W base spare held n t cs = some y) (i off : Nat) (ty : TypeId)
    (hf : (fs[i]?).map (fun f => (f.offset, f.type)) = some (off, ty)) (hc : P.cellsOf ty = 1) (hty : P.underlying ty = some .bool) : ∃ z : Bool, cs[off]? = some (.bool z) := by
  obtain ⟨m, y', h1⟩ := trod_field hu h i off ty 1 hf hc
  obtain ⟨z, e, _⟩ := DataW.trod_bool hty h1
  refine ⟨z, ?_⟩
  have := congrArg (fun l => l[0]?) e
  simpa using this
end
end WB
