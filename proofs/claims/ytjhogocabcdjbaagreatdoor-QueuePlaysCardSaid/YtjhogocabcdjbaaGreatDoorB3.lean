/- waybilllaw.QueuePlays: for every list of items the law returns true, on every schedule, and the list reads as it did. No condition. -/
import Derived.ProofKit
import Derived.OpenShut
import Derived.Deep.DeepHandedRow
import Derived.Deep.Slices
import Derived.Lay
import Derived.LaidHandle
import Derived.Conc.Holds
import Derived.Leaving
import Derived.SevenTiedAt
import Derived.Test.YtjhogocabcdjbaaGreatDoorCards
import Derived.Test.YtjhogocabcdjbaaGreatDoorTie
import Derived.Test.YtjhogocabcdjbaaGreatDoorB2
set_option linter.unusedSimpArgs false
set_option linter.unusedVariables false
/- what a law's row wants beside its walk: arguments opened, read again, a witness -/
namespace WB
open Go Go.RowKit Go.ChangeShapes Go.WideShapes Go.Deep
section
variable {H : Type} {enc : TypeId × Value → H}
theorem witness_row_sh {C : Checked} {os : Os} {f : FuncId} {fn : Func} {s : OpenSpec} {conds : List PathCond} {apart : Bool} {laid : List (String × DataW Unit)} (modest : Bool) (w0 : World) (args : Array Value) (hos : w0.os = os)
    (hsh : (w0.forCall (fun _ _ => 0) ⟨#[], args, []⟩).Shaped C.prog)
    (hok : Input.okWideB C.prog (w0.forCall (fun _ _ => 0) ⟨#[], args, []⟩) f ⟨#[], args, []⟩ = true)
    (hrow : s.preRow enc C.prog fn conds apart laid (w0.forCall (fun _ _ => 0) ⟨#[], args, []⟩).memory args) :
    ∃ (w : World) (tape : Tape) (i : Input), w.os = os ∧ (w.forCall tape i).Shaped C.prog ∧ i.vars = [] ∧ Input.okWide C.prog (w.forCall tape i) .any w.heap.size f i ∧
      s.preRow enc C.prog fn conds apart laid (w.forCall tape i).memory i.args ∧ ({ modest := modest } : Assume).holds C.prog (lone (Frame.enter C.prog f i.args .normal) [] (w.forCall tape i)) :=
  ⟨w0, fun _ _ => 0, ⟨#[], args, []⟩, hos, hsh, (Input.okWide_of_okWideB (base := 0) hok).1, (Input.okWide_of_okWideB hok).2, hrow, by
    simp only [Assume.holds]
    exact ⟨by simp, by simp, fun _ => Modest.zero, by simp, by simp⟩⟩
variable {P : Program}
/-- the arguments read again as they did -/
theorem law_args (hl : laidOutB P = true) {W W' : World} (hb : Below W.heap.size W W') : ∀ {ts : List TypeId} {vs : List Value} {ds : List (DataW H)} {ps : List MemPlace}, (ts.all fun t => P.readableRec t && decide (t < P.types.size)) = true →
    DataW.TrodAll enc P W 0 (fun _ => true) true ts vs ds ps → (∀ x ∈ ps, x.block < W.heap.size) → DataW.TrodAll enc P W' 0 (fun b => decide (b < W.heap.size)) true ts vs ds ps
  | [], [], [], _, _, h, _ => h
  | t :: ts, v :: vs, d :: ds, ps, hr, ⟨p, q, h1, h2, e⟩, hlt => by
    simp only [List.all_cons, Bool.and_eq_true, decide_eq_true_eq] at hr
    exact ⟨p, q, Below.trod hl hr.1.1 hr.1.2 h1 hb (fun x hx => hlt x (by rw [e]; exact List.mem_append_left _ hx)), law_args hl hb (by simpa using hr.2) h2 (fun x hx => hlt x (by rw [e]; exact List.mem_append_right _ hx)), e⟩
theorem list_of_each {α : Type} {p : Nat → α → Prop} : ∀ (n : Nat), (∀ i, i < n → ∃ x, p i x) → ∃ l : List α, l.length = n ∧ ∀ (i : Nat) (x : α), l[i]? = some x → p i x
  | 0, _ => ⟨[], rfl, fun i x h => by simp at h⟩
  | n + 1, h => by
    obtain ⟨l, hl, hp⟩ := list_of_each n fun i hi => h i (by omega)
    obtain ⟨x, hx⟩ := h n (by omega)
    refine ⟨l ++ [x], by simp [hl], fun i y hy => ?_⟩
    by_cases hi : i < l.length
    · rw [List.getElem?_append_left hi] at hy; exact hp i y hy
    · rw [List.getElem?_append_right (by omega)] at hy
      have : i - l.length = 0 := by
        rcases Nat.eq_zero_or_pos (i - l.length) with h0 | h0
        · exact h0
        · rw [List.getElem?_eq_none (by simp; omega)] at hy; simp at hy
      rw [this] at hy
      simp only [List.getElem?_cons_zero, Option.some.injEq] at hy
      rw [← hy, show i = n by omega]; exact hx
/-- a slice that came in -/
def RdA {α : Type} (W : World) (sz : Nat) (cf : α → List Value) (v : Value) (xs : List α) : Prop :=
  ∃ a cap, v = .slice a xs.length cap ∧ ∀ (i : Nat) (x : α), xs[i]? = some x → ∃ ad, a = some ad ∧ HasCells W (ad.add (i * sz)) (cf x)
theorem open_sl {α : Type} {φ : α → Prop} {cf : α → List Value} {W : World} {t e : TypeId} {v : Value} {d : DataW H} {p : List MemPlace} {r : Reach} {base sz : Nat} (ht : P.underlying t = some (.slice e)) (hv : Value.okWide P W r base t v)
    (h : DataW.Trod enc P W 0 (fun _ => true) true t v d p) (hsz : P.cellsOf e = sz) (rd : ∀ n cs y, DataW.trod enc P W 0 (fun _ => true) true n e cs = some y → ∃ x : α, φ x ∧ cs = cf x) :
    ∃ xs : List α, RdA W sz cf v xs ∧ ∀ x ∈ xs, φ x := by
  obtain ⟨a, len, cap, rfl⟩ := okWide_slice ht hv
  obtain ⟨fuel, hf⟩ := h
  rcases open_slice ht hf with ⟨hcs, _⟩ | ⟨a', len', cap', m, n, D, Pl, hcs, _, hl, _, hm, _, hi⟩
  · simp [Value.cells] at hcs
    obtain ⟨rfl, rfl, rfl⟩ := hcs
    exact ⟨[], ⟨none, 0, rfl, fun i x h => by simp at h⟩, fun x hx => by simp at hx⟩
  · simp [Value.cells] at hcs
    obtain ⟨rfl, rfl, rfl⟩ := hcs
    have key : ∀ i, i < len → ∃ x : α, φ x ∧ HasCells W (a'.add (i * sz)) (cf x) := fun i hlt => by
      obtain ⟨cs', hc, htr⟩ := hi i (by rw [hm]; simp; omega)
      obtain ⟨x, hx, rfl⟩ := rd n cs' _ htr
      obtain ⟨_, hlen, hcell⟩ := World.cells?_some hc
      refine ⟨x, hx, fun j c hj => ?_⟩
      have hlt2 := (List.getElem?_eq_some_iff.1 hj).1
      rw [← hsz]
      rw [hcell j (by omega)]; exact hj
    obtain ⟨l, hll, hp⟩ := list_of_each len key
    refine ⟨l, ⟨some a', cap, by rw [hll], fun i x hx => ⟨a', rfl, (hp i x hx).2⟩⟩, fun x hx => ?_⟩
    obtain ⟨i, hi, rfl⟩ := List.getElem_of_mem hx
    exact (hp i _ (List.getElem?_eq_getElem hi)).1
end
end WB
namespace WB
open Go Go.RowKit Go.ChangeShapes Go.WideShapes Go.Deep
section
variable {H : Type} {enc : TypeId × Value → H} {P : Program} {W : World} {base : Nat} {spare : Nat → Bool} {held : Bool}
theorem trod_len {t : TypeId} {fs : Array Field} {n : Nat} {cs : List Value} {y : DataW H × List MemPlace} (hu : P.underlying t = some (.struct fs)) (h : DataW.trod enc P W base spare held n t cs = some y) {k : Nat} (hk : P.cellsOf t = k) : cs.length = k := by
  obtain ⟨_, _, _, _, hl, _⟩ := DataW.trod_struct hu h
  rw [hl, hk]
theorem trod_field {t : TypeId} {fs : Array Field} {n : Nat} {cs : List Value} {y : DataW H × List MemPlace} (hu : P.underlying t = some (.struct fs)) (h : DataW.trod enc P W base spare held n t cs = some y) (i off : Nat) (ty : TypeId) (sz : Nat)
    (hf : (fs[i]?).map (fun f => (f.offset, f.type)) = some (off, ty)) (hc : P.cellsOf ty = sz) : ∃ m y', DataW.trod enc P W base spare held m ty ((cs.drop off).take sz) = some y' := by
  obtain ⟨xs, m, _, _, _, hx, hall⟩ := DataW.trod_struct hu h
  cases hfi : fs[i]? with
  | none => rw [hfi] at hf; simp at hf
  | some f =>
    rw [hfi] at hf
    simp only [Option.map_some, Option.some.injEq, Prod.mk.injEq] at hf
    obtain ⟨rfl, rfl⟩ := hf
    have h1 := hall i f hfi
    have hlt : i < xs.length := by rw [hx]; exact (Array.getElem?_eq_some_iff.1 hfi).1
    rw [List.getElem?_eq_getElem hlt, hc] at h1
    exact ⟨m, _, h1⟩
theorem trod_str {t : TypeId} {fs : Array Field} {n : Nat} {cs : List Value} {y : DataW H × List MemPlace} (hu : P.underlying t = some (.struct fs)) (h : DataW.trod enc P W base spare held n t cs = some y) (i off : Nat) (ty : TypeId)
    (hf : (fs[i]?).map (fun f => (f.offset, f.type)) = some (off, ty)) (hc : P.cellsOf ty = 1) (hty : P.underlying ty = some .string) : ∃ s : ByteArray, cs[off]? = some (.string s) ∧ s.size ≤ maxLen := by
  obtain ⟨m, y', h1⟩ := trod_field hu h i off ty 1 hf hc
  obtain ⟨s, e, _, hs⟩ := DataW.trod_string hty h1
  refine ⟨s, ?_, hs⟩
  have := congrArg (fun l => l[0]?) e
  simpa using this
theorem trod_i {t : TypeId} {fs : Array Field} {n : Nat} {cs : List Value} {y : DataW H × List MemPlace} (hu : P.underlying t = some (.struct fs)) (h : DataW.trod enc P W base spare held n t cs = some y) (i off : Nat) (ty : TypeId) {k : IntKind}
    (hf : (fs[i]?).map (fun f => (f.offset, f.type)) = some (off, ty)) (hc : P.cellsOf ty = 1) (hty : P.underlying ty = some (.int k)) : ∃ z : Int, cs[off]? = some (.int k z) ∧ (Lit.int k z).wf = true := by
  obtain ⟨m, y', h1⟩ := trod_field hu h i off ty 1 hf hc
  obtain ⟨z, e, _, hz⟩ := DataW.trod_int hty h1
  refine ⟨z, ?_, hz⟩
  have := congrArg (fun l => l[0]?) e
  simpa using this
theorem trod_b {t : TypeId} {fs : Array Field} {n : Nat} {cs : List Value} {y : DataW H × List MemPlace} (hu : P.underlying t = some (.struct fs)) (h : DataW.trod enc P W base spare held n t cs = some y) (i off : Nat) (ty : TypeId)
    (hf : (fs[i]?).map (fun f => (f.offset, f.type)) = some (off, ty)) (hc : P.cellsOf ty = 1) (hty : P.underlying ty = some .bool) : ∃ z : Bool, cs[off]? = some (.bool z) := by
  obtain ⟨m, y', h1⟩ := trod_field hu h i off ty 1 hf hc
  obtain ⟨z, e, _⟩ := DataW.trod_bool hty h1
  refine ⟨z, ?_⟩
  have := congrArg (fun l => l[0]?) e
  simpa using this
end
end WB
/- waybilllaw.QueuePlays: the walk -/
namespace Go.Proofs.YtjhogocabcdjbaaGreatDoor
open Go Go.RowKit WB
structure Qi where
  what : Int
  unit : Int
  m : Ms
def qiC (x : Qi) : List Value := [.int .i64 x.what, .int .i64 x.unit, .int .i64 x.m.id, .int .i64 x.m.pri, .string x.m.body, .string x.m.queue, .int .i64 x.m.house]
theorem qnew {w0 w : World} {b : Nat} {L : List HP} (h : St w0 (blk b (.cells [Value.slice none 0 0, .int .i64 0].toArray 25 (0, 0)) :: L) w) : St w0 (quP b ⟨[], 0⟩ :: L) w :=
  quP_mk (v := .slice none 0 0) ((SL_nil (E := 107) (sz := 8) (cf := itC) h).pick (.tail .head))
theorem rqnew {w0 w : World} {b : Nat} {L : List HP} (h : St w0 (blk b (.cells [Value.slice none 0 0].toArray 29 (0, 0)) :: L) w) : St w0 (rqP b [] :: L) w :=
  rqP_mk (v := .slice none 0 0) ((SL_nil (E := 47) (sz := 7) (cf := riC) h).pick (.tail .head))
set_option maxRecDepth 100000 in
theorem plays_e (w0 : World) (L : List HP) (v : Value) (xs : List Qi) (hin : ∀ w, St w0 L w → RdA w 7 qiC v xs) (hsz : ∀ x ∈ xs, x.m.body.size ≤ maxLen ∧ x.m.queue.size ≤ maxLen) (hg : ErrType w0) :
    KE Tryz.prog 3 #[v] w0 L (fun u M => u = .bool true ∧ M = L) := by
  refine KE.mk (n := 194) Tryz.func3 rfl Tryz.ntmps3 (by simp) ?_
  intro w hw
  have hgw : ErrType w := (Ext.of_below hw.below).cell hg
  obtain ⟨sa, cap, rfl, hc⟩ := hin w hw
  have fin : ∀ (w' : World) (M : List HP), St w M w' → ∃ v L', Ending.returned (.bool true) = Ending.returned v ∧ (v = .bool true ∧ L' = L) ∧ St w0 L' w' ∧ Below w.heap.size w w' := fun w' M hs => ⟨_, _, rfl, ⟨rfl, rfl⟩, hw.below_step hs.below, hs.below⟩
  repeat ((with_reducible refine K.seq ?_))
  refine K.reg ?_
  refine KO.as rfl rfl ?_
  refine KO.nil ?_
  repeat (first | (with_reducible refine K.seq ?_) | (with_reducible refine KQ.next ?_))
  refine K.reg ?_
  refine KO.mv rfl rfl ?_
  refine KO.len rfl Tryz.underlying22 rfl ?_
  refine KO.gtr rfl rfl rfl ?_
  refine KO.nil ?_
  repeat ((with_reducible refine KQ.next ?_))
  refine K.condD rfl (fun h => ?_) (fun h => ?_)
  · repeat ((with_reducible refine K.seq ?_))
    refine K.reg ?_
    refine KO.as rfl rfl ?_
    refine KO.nil ?_
    repeat (first | (with_reducible refine KQ.next ?_) | (with_reducible refine KQ.then_ret ?_) | (with_reducible refine K.ret ?_))
    refine KQ.ret1 rfl rfl (fun w' hs => fin w' _ hs)
  have hlen : xs.length ≤ 100 := by omega
  repeat (first | (with_reducible refine K.seq ?_) | (with_reducible refine KQ.next ?_) | (with_reducible refine K.skip ?_))
  refine K.reg ?_
  refine KO.alloc rfl Tryz.zeroValue25 (by exact rfl) rfl ?_; intro b3
  refine KO.nil ?_
  repeat (first | (with_reducible refine K.seq ?_) | (with_reducible refine KQ.next ?_))
  refine K.reg ?_
  refine KO.bldN (pl := [(0, 1)]) rfl Tryz.zeroValue29 Tryz.runUnderlying29 (by intro w; simp [Tryz.sizeOf27]) (by exact rfl) rfl ?_
  refine KO.box rfl rfl (by exact rfl) rfl ?_; intro b21
  refine KO.as rfl rfl ?_
  refine KO.nil ?_
  repeat (first | (with_reducible refine K.seq ?_) | (with_reducible refine KQ.next ?_))
  refine K.reg ?_
  refine KO.as rfl rfl ?_
  refine KO.nil ?_
  repeat (first | (with_reducible refine KQ.next ?_) | (with_reducible refine K.block ?_))
  refine K.loop (fun s : Nat × Qu × List Ri => [(0, .slice sa xs.length cap), (3, .pointer (some ⟨b3, 0, none⟩)), (4, .pointer (some ⟨b21, 0, none⟩)), (5, .int .i64 (s.1 : Nat))])
    (fun s => [quP b3 s.2.1, rqP b21 s.2.2]) (fun s => s.1 ≤ xs.length ∧ QRel (s.1 : Nat) s.2.1 s.2.2) (fun s => xs.length - s.1) (0, ⟨[], 0⟩, [])
    ⟨Nat.zero_le _, qrel_new⟩ ⟨rfl, rfl, rfl, rfl, trivial⟩ (fun _ h => qnew ((rqnew h).pick (.tail .head))) ?_
  rintro ⟨i, q, l⟩ ⟨hi, hq⟩
  dsimp only at hi hq ⊢
  repeat ((with_reducible refine K.seq ?_))
  refine K.reg ?_
  refine KO.mv rfl rfl ?_
  refine KO.mv rfl rfl ?_
  refine KO.len rfl Tryz.underlying22 rfl ?_
  refine KO.lss rfl rfl rfl ?_
  refine KO.nil ?_
  repeat ((with_reducible refine KQ.next ?_))
  refine K.condD rfl (fun h1 => ?_) (fun h1 => ?_)
  · refine K.skip ?_
    refine KQ.next ?_
    obtain ⟨x, hx⟩ : ∃ e, xs[i]? = some e := ⟨xs[i], List.getElem?_eq_getElem (by omega)⟩
    obtain ⟨ad, rfl, hcell⟩ := hc i x hx
    obtain ⟨hsb, hsq⟩ := hsz x (List.mem_of_getElem? hx)
    have hok := hq.ok (by omega)
    have hll := hq.len
    have hlq := hq.len_eq
    refine K.mid (fun s : Qu × List Ri => [(0, .slice (some ad) xs.length cap), (3, .pointer (some ⟨b3, 0, none⟩)), (4, .pointer (some ⟨b21, 0, none⟩)), (5, .int .i64 (i : Nat))]) (fun s => [quP b3 s.1, rqP b21 s.2]) (fun s => QRel ((i : Nat) + 1) s.1 s.2) ?_ ?_
    · refine K.block ?_
      repeat ((with_reducible refine K.seq ?_))
      refine K.reg ?_
      refine KO.mv rfl rfl ?_
      refine KO.mv rfl rfl ?_
      refine KO.idxH rfl rfl Tryz.runUnderlying22 Tryz.sizeOf33 (by exact rfl) (by omega) rfl ?_
      refine KO.ldN0 (cs := (qiC x).toArray) rfl rfl Tryz.isAgg33 Tryz.sizeOf33 rfl hcell rfl ?_
      refine KO.alloc rfl Tryz.zeroValue33 (by exact rfl) rfl ?_; intro b6
      refine KO.sto0 rfl rfl rfl (by exact rfl) (by exact Tryz.sizeOf33) (by exact rfl) (by with_reducible (repeat (exact Pick.head))) (by exact rfl) ?_
      refine KO.nil ?_
      repeat (first | (with_reducible refine K.seq ?_) | (with_reducible refine KQ.next ?_))
      refine K.reg ?_
      refine KO.fo0 (off := 2) rfl Tryz.runUnderlying33 rfl rfl Tryz.sizeOf31 rfl ?_
      (refine KO.ldB rfl rfl Tryz.isAgg31 Tryz.sizeOf31 (by with_reducible (repeat (exact Pick.head))) (by (try simp only [List.drop_zero, List.drop_succ_cons, List.take_succ_cons, List.take_zero]); (try exact rfl)) (by exact rfl) rfl ?_)
      refine KO.ce (cp := []) rfl rfl rfl Tryz.call9 rfl (small_e w _ x.m) ?_; rintro v' L' ⟨rfl, rfl⟩
      refine KO.not rfl rfl ?_
      refine KO.nil ?_
      repeat ((with_reducible refine KQ.next ?_))
      refine K.cond rfl (fun h2 => ?_) (fun h2 => ?_)
      · repeat (first | (with_reducible refine KQ.then_exit ?_) | (with_reducible refine KQ.blk_exit ?_) | (with_reducible refine K.exit ?_))
        exact KQ.mid (q, l) (hq.le (by omega)) ⟨rfl, rfl, rfl, rfl, trivial⟩ (fun _ h => h.all (by with_reducible repeat (first | exact PAll.nil | refine PAll.cons (by with_reducible repeat (first | exact Pick.head | apply Pick.tail)) ?_)))
      refine K.skip ?_
      refine KQ.next ?_
      refine K.mid (fun s : Qu × List Ri => [(0, .slice (some ad) xs.length cap), (3, .pointer (some ⟨b3, 0, none⟩)), (4, .pointer (some ⟨b21, 0, none⟩)), (5, .int .i64 (i : Nat)), (6, .pointer (some ⟨b6, 0, none⟩))]) (fun s => [quP b3 s.1, rqP b21 s.2, blk b6 (.cells (qiC x).toArray 33 (0, 0))]) (fun s => QRel ((i : Nat) + 1) s.1 s.2) ?_ ?_
      · repeat ((with_reducible refine K.seq ?_))
        refine K.reg ?_
        refine KO.fo0 (off := 0) rfl Tryz.runUnderlying33 rfl rfl Tryz.sizeOf3 rfl ?_
        refine KO.ld rfl rfl Tryz.isAgg3 (by with_reducible (repeat (exact Pick.head))) (by exact rfl) rfl ?_
        refine KO.nil ?_
        repeat (first | (with_reducible refine K.seq ?_) | (with_reducible refine KQ.next ?_) | (with_reducible refine K.block ?_))
        refine K.reg ?_
        refine KO.eqI rfl rfl rfl ?_
        refine KO.as rfl rfl ?_
        refine KO.nil ?_
        repeat ((with_reducible refine KQ.next ?_))
        refine K.condD rfl (fun hw0 => ?_) (fun hw0 => ?_)
        · repeat ((with_reducible refine K.seq ?_))
          refine K.drawX [.pure, .read, .pure, .read, .write, .pure, .pure, .read, .pure, .read, .write, .write, .pure] [(4, 7), (4, 9)] [[0, 1, 2, 3, 5, 6, 8, 4, 7, 9, 10, 11, 12], [0, 1, 2, 3, 5, 6, 8, 9, 4, 7, 10, 11, 12], [0, 1, 2, 3, 5, 6, 7, 8, 4, 9, 10, 11, 12], [0, 1, 2, 3, 5, 6, 7, 8, 9, 4, 10, 11, 12]] (by kernel_rfl) (by kernel_rfl) (by kernel_rfl) ⟨?_, ?_, ?_, ?_, trivial⟩
          focus
            show KO _ _ _ _ _ _ _ _ _ _
            refine KO.fo0 (off := 2) rfl Tryz.runUnderlying33 rfl rfl Tryz.sizeOf31 rfl ?_
            (refine KO.ldB rfl rfl Tryz.isAgg31 Tryz.sizeOf31 (by with_reducible (repeat (exact Pick.head))) (by (try simp only [List.drop_zero, List.drop_succ_cons, List.take_succ_cons, List.take_zero]); (try exact rfl)) (by exact rfl) rfl ?_)
            refine KO.fo0 (off := 1) rfl Tryz.runUnderlying33 rfl rfl Tryz.sizeOf3 rfl ?_
            refine KO.ld rfl rfl Tryz.isAgg3 (by with_reducible (repeat (exact Pick.head))) (by exact rfl) rfl ?_
            refine KO.mv rfl rfl ?_
            refine KO.fo0 (off := 2) rfl Tryz.runUnderlying33 rfl rfl Tryz.sizeOf31 rfl ?_
            refine KO.fo0 (off := 1) rfl Tryz.runUnderlying33 rfl rfl Tryz.sizeOf3 rfl ?_
            refine KO.cl (cp := []) rfl rfl rfl Tryz.call11 rfl (KC.pk1 (by with_reducible (repeat (first | exact Pick.head | apply Pick.tail))) (put_c w _ b3 q x.m x.unit hok hsb hsq)) ?_; rintro v' L' ⟨rfl, rfl⟩
            (refine KO.ldB rfl rfl Tryz.isAgg31 Tryz.sizeOf31 (by with_reducible (repeat (first | exact Pick.head | apply Pick.tail))) (by (try simp only [List.drop_zero, List.drop_succ_cons, List.take_succ_cons, List.take_zero]); (try exact rfl)) (by exact rfl) rfl ?_)
            refine KO.ld rfl rfl Tryz.isAgg3 (by with_reducible (repeat (first | exact Pick.head | apply Pick.tail))) (by exact rfl) rfl ?_
            refine KO.cl (cp := []) rfl rfl rfl Tryz.call12 rfl (KC.pk1 (by with_reducible (repeat (first | exact Pick.head | apply Pick.tail))) (rput_c w _ b21 l x.m x.unit (by omega) hsb hsq)) ?_; rintro v' L' ⟨rfl, rfl⟩; rw [← hq.putE]
            refine KO.ce (cp := []) rfl rfl rfl Tryz.call10 rfl (lbare_e w _ _ _ hgw) ?_; rintro v' L' ⟨rfl, rfl⟩
            refine KO.not rfl rfl ?_
            refine KO.nil ?_
            repeat ((with_reducible refine KQ.next ?_))
          rotate_left
          focus
            show KO _ _ _ _ _ _ _ _ _ _
            refine KO.fo0 (off := 2) rfl Tryz.runUnderlying33 rfl rfl Tryz.sizeOf31 rfl ?_
            (refine KO.ldB rfl rfl Tryz.isAgg31 Tryz.sizeOf31 (by with_reducible (repeat (exact Pick.head))) (by (try simp only [List.drop_zero, List.drop_succ_cons, List.take_succ_cons, List.take_zero]); (try exact rfl)) (by exact rfl) rfl ?_)
            refine KO.fo0 (off := 1) rfl Tryz.runUnderlying33 rfl rfl Tryz.sizeOf3 rfl ?_
            refine KO.ld rfl rfl Tryz.isAgg3 (by with_reducible (repeat (exact Pick.head))) (by exact rfl) rfl ?_
            refine KO.mv rfl rfl ?_
            refine KO.fo0 (off := 2) rfl Tryz.runUnderlying33 rfl rfl Tryz.sizeOf31 rfl ?_
            refine KO.fo0 (off := 1) rfl Tryz.runUnderlying33 rfl rfl Tryz.sizeOf3 rfl ?_
            refine KO.ld rfl rfl Tryz.isAgg3 (by with_reducible (repeat (exact Pick.head))) (by exact rfl) rfl ?_
            refine KO.cl (cp := []) rfl rfl rfl Tryz.call11 rfl (KC.pk1 (by with_reducible (repeat (first | exact Pick.head | apply Pick.tail))) (put_c w _ b3 q x.m x.unit hok hsb hsq)) ?_; rintro v' L' ⟨rfl, rfl⟩
            (refine KO.ldB rfl rfl Tryz.isAgg31 Tryz.sizeOf31 (by with_reducible (repeat (first | exact Pick.head | apply Pick.tail))) (by (try simp only [List.drop_zero, List.drop_succ_cons, List.take_succ_cons, List.take_zero]); (try exact rfl)) (by exact rfl) rfl ?_)
            refine KO.cl (cp := []) rfl rfl rfl Tryz.call12 rfl (KC.pk1 (by with_reducible (repeat (first | exact Pick.head | apply Pick.tail))) (rput_c w _ b21 l x.m x.unit (by omega) hsb hsq)) ?_; rintro v' L' ⟨rfl, rfl⟩; rw [← hq.putE]
            refine KO.ce (cp := []) rfl rfl rfl Tryz.call10 rfl (lbare_e w _ _ _ hgw) ?_; rintro v' L' ⟨rfl, rfl⟩
            refine KO.not rfl rfl ?_
            refine KO.nil ?_
            repeat ((with_reducible refine KQ.next ?_))
          rotate_left
          focus
            show KO _ _ _ _ _ _ _ _ _ _
            refine KO.fo0 (off := 2) rfl Tryz.runUnderlying33 rfl rfl Tryz.sizeOf31 rfl ?_
            (refine KO.ldB rfl rfl Tryz.isAgg31 Tryz.sizeOf31 (by with_reducible (repeat (exact Pick.head))) (by (try simp only [List.drop_zero, List.drop_succ_cons, List.take_succ_cons, List.take_zero]); (try exact rfl)) (by exact rfl) rfl ?_)
            refine KO.fo0 (off := 1) rfl Tryz.runUnderlying33 rfl rfl Tryz.sizeOf3 rfl ?_
            refine KO.ld rfl rfl Tryz.isAgg3 (by with_reducible (repeat (exact Pick.head))) (by exact rfl) rfl ?_
            refine KO.mv rfl rfl ?_
            refine KO.fo0 (off := 2) rfl Tryz.runUnderlying33 rfl rfl Tryz.sizeOf31 rfl ?_
            (refine KO.ldB rfl rfl Tryz.isAgg31 Tryz.sizeOf31 (by with_reducible (repeat (exact Pick.head))) (by (try simp only [List.drop_zero, List.drop_succ_cons, List.take_succ_cons, List.take_zero]); (try exact rfl)) (by exact rfl) rfl ?_)
            refine KO.fo0 (off := 1) rfl Tryz.runUnderlying33 rfl rfl Tryz.sizeOf3 rfl ?_
            refine KO.cl (cp := []) rfl rfl rfl Tryz.call11 rfl (KC.pk1 (by with_reducible (repeat (first | exact Pick.head | apply Pick.tail))) (put_c w _ b3 q x.m x.unit hok hsb hsq)) ?_; rintro v' L' ⟨rfl, rfl⟩
            refine KO.ld rfl rfl Tryz.isAgg3 (by with_reducible (repeat (first | exact Pick.head | apply Pick.tail))) (by exact rfl) rfl ?_
            refine KO.cl (cp := []) rfl rfl rfl Tryz.call12 rfl (KC.pk1 (by with_reducible (repeat (first | exact Pick.head | apply Pick.tail))) (rput_c w _ b21 l x.m x.unit (by omega) hsb hsq)) ?_; rintro v' L' ⟨rfl, rfl⟩; rw [← hq.putE]
            refine KO.ce (cp := []) rfl rfl rfl Tryz.call10 rfl (lbare_e w _ _ _ hgw) ?_; rintro v' L' ⟨rfl, rfl⟩
            refine KO.not rfl rfl ?_
            refine KO.nil ?_
            repeat ((with_reducible refine KQ.next ?_))
          rotate_left
          focus
            show KO _ _ _ _ _ _ _ _ _ _
            refine KO.fo0 (off := 2) rfl Tryz.runUnderlying33 rfl rfl Tryz.sizeOf31 rfl ?_
            (refine KO.ldB rfl rfl Tryz.isAgg31 Tryz.sizeOf31 (by with_reducible (repeat (exact Pick.head))) (by (try simp only [List.drop_zero, List.drop_succ_cons, List.take_succ_cons, List.take_zero]); (try exact rfl)) (by exact rfl) rfl ?_)
            refine KO.fo0 (off := 1) rfl Tryz.runUnderlying33 rfl rfl Tryz.sizeOf3 rfl ?_
            refine KO.ld rfl rfl Tryz.isAgg3 (by with_reducible (repeat (exact Pick.head))) (by exact rfl) rfl ?_
            refine KO.mv rfl rfl ?_
            refine KO.fo0 (off := 2) rfl Tryz.runUnderlying33 rfl rfl Tryz.sizeOf31 rfl ?_
            (refine KO.ldB rfl rfl Tryz.isAgg31 Tryz.sizeOf31 (by with_reducible (repeat (exact Pick.head))) (by (try simp only [List.drop_zero, List.drop_succ_cons, List.take_succ_cons, List.take_zero]); (try exact rfl)) (by exact rfl) rfl ?_)
            refine KO.fo0 (off := 1) rfl Tryz.runUnderlying33 rfl rfl Tryz.sizeOf3 rfl ?_
            refine KO.ld rfl rfl Tryz.isAgg3 (by with_reducible (repeat (exact Pick.head))) (by exact rfl) rfl ?_
            refine KO.cl (cp := []) rfl rfl rfl Tryz.call11 rfl (KC.pk1 (by with_reducible (repeat (first | exact Pick.head | apply Pick.tail))) (put_c w _ b3 q x.m x.unit hok hsb hsq)) ?_; rintro v' L' ⟨rfl, rfl⟩
            refine KO.cl (cp := []) rfl rfl rfl Tryz.call12 rfl (KC.pk1 (by with_reducible (repeat (first | exact Pick.head | apply Pick.tail))) (rput_c w _ b21 l x.m x.unit (by omega) hsb hsq)) ?_; rintro v' L' ⟨rfl, rfl⟩; rw [← hq.putE]
            refine KO.ce (cp := []) rfl rfl rfl Tryz.call10 rfl (lbare_e w _ _ _ hgw) ?_; rintro v' L' ⟨rfl, rfl⟩
            refine KO.not rfl rfl ?_
            refine KO.nil ?_
            repeat ((with_reducible refine KQ.next ?_))
          rotate_left
          all_goals (
            refine K.condF rfl (by simp) ?_
            repeat (first | (with_reducible refine KQ.blk_normal ?_) | (with_reducible refine K.skip ?_))
            exact KQ.mid (qput q x.m x.unit, rput l x.m x.unit) (hq.put _ _) ⟨rfl, rfl, rfl, rfl, rfl, trivial⟩ (fun _ h => h.all (by with_reducible repeat (first | exact PAll.refl | refine PAll.cons (by with_reducible repeat (first | exact Pick.head | apply Pick.tail)) ?_))))
        · repeat ((with_reducible refine K.seq ?_))
          refine K.reg ?_
          refine KO.eqI rfl rfl rfl ?_
          refine KO.as rfl rfl ?_
          refine KO.nil ?_
          repeat ((with_reducible refine KQ.next ?_))
          refine K.condD rfl (fun hw1 => ?_) (fun hw1 => ?_)
          · obtain ⟨hgm, hge, hgq⟩ := hq.get x.unit
            repeat ((with_reducible refine K.seq ?_))
            refine K.reg ?_
            refine KO.mv rfl rfl ?_
            refine KO.fo0 (off := 1) rfl Tryz.runUnderlying33 rfl rfl Tryz.sizeOf3 rfl ?_
            refine KO.ld rfl rfl Tryz.isAgg3 (by with_reducible (repeat (exact Pick.head))) (by exact rfl) rfl ?_
            refine KO.cl (cp := []) rfl rfl rfl Tryz.call13 rfl (KC.pk1 (by with_reducible (repeat (first | exact Pick.head | apply Pick.tail))) (rget_c w _ b21 l x.unit (by omega))) ?_; rintro v' L' ⟨rfl, rfl⟩; rw [← hgm, ← hge]
            refine KO.mv rfl rfl ?_
            refine KO.extrL rfl (by exact rfl) rfl ?_
            refine KO.extrL rfl (by exact rfl) rfl ?_
            refine KO.alloc rfl Tryz.zeroValue31 (by exact rfl) rfl ?_; intro b7
            refine KO.sto0 rfl rfl rfl (by exact rfl) (by exact Tryz.sizeOf31) (by exact rfl) (by with_reducible (repeat (exact Pick.head))) (by exact rfl) ?_
            refine KO.as rfl rfl ?_
            refine KO.nil ?_
            repeat (first | (with_reducible refine K.seq ?_) | (with_reducible refine KQ.next ?_))
            refine K.reg ?_
            refine KO.fo0 (off := 1) rfl Tryz.runUnderlying33 rfl rfl Tryz.sizeOf3 rfl ?_
            refine KO.ld rfl rfl Tryz.isAgg3 (by with_reducible (repeat (first | exact Pick.head | apply Pick.tail))) (by exact rfl) rfl ?_
            refine KO.cl (cp := []) rfl rfl rfl Tryz.call14 rfl (KC.pk1 (by with_reducible (repeat (first | exact Pick.head | apply Pick.tail))) (get_c w _ b3 q x.unit (by omega))) ?_; rintro v' L' ⟨rfl, rfl⟩
            refine KO.mv rfl rfl ?_
            refine KO.extrL rfl (by exact rfl) rfl ?_
            refine KO.extrL rfl (by exact rfl) rfl ?_
            refine KO.alloc rfl Tryz.zeroValue31 (by exact rfl) rfl ?_; intro b9
            refine KO.sto0 rfl rfl rfl (by exact rfl) (by exact Tryz.sizeOf31) (by exact rfl) (by with_reducible (repeat (exact Pick.head))) (by exact rfl) ?_
            refine KO.as rfl rfl ?_
            refine KO.nil ?_
            repeat (first | (with_reducible refine K.seq ?_) | (with_reducible refine KQ.next ?_))
            generalize qgetM q = mg
            generalize qgetE q = eg
            refine K.reg ?_
            refine KO.mv rfl rfl ?_
            refine KO.mv rfl rfl ?_
            refine KO.ce (cp := []) rfl rfl rfl Tryz.call10 rfl (lbare_e w _ _ _ hgw) ?_; rintro v' L' ⟨rfl, rfl⟩
            refine KO.not rfl rfl ?_
            refine KO.mv rfl rfl ?_
            (refine KO.on rfl rfl ?_ ?_; (focus (simp; done)); (refine KO.ldB0 rfl rfl Tryz.isAgg31 Tryz.sizeOf31 (by with_reducible (repeat (exact Pick.head))) (by exact rfl) rfl ?_))
            (refine KO.on rfl rfl ?_ ?_; (focus (simp; done)); (refine KO.ldB0 rfl rfl Tryz.isAgg31 Tryz.sizeOf31 (by with_reducible (repeat (first | exact Pick.head | apply Pick.tail))) (by exact rfl) rfl ?_))
            refine KO.on rfl rfl (by simp) ?_; refine KO.neA rfl rfl (by kernel_rfl) (ms_eq mg mg) rfl ?_
            (refine KO.pickF rfl ?_ rfl rfl ?_; (focus (simp; done)))
            refine KO.nil ?_
            repeat ((with_reducible refine KQ.next ?_))
            refine K.condF rfl (by simp) ?_
            repeat (first | (with_reducible refine KQ.blk_normal ?_) | (with_reducible refine K.skip ?_))
            exact KQ.mid (qget q x.unit, rget l x.unit) (hgq.le (by omega)) ⟨rfl, rfl, rfl, rfl, rfl, trivial⟩ (fun _ h => h.all (by with_reducible repeat (first | exact PAll.nil | refine PAll.cons (by with_reducible repeat (first | exact Pick.head | apply Pick.tail)) ?_)))
          · repeat ((with_reducible refine K.seq ?_))
            refine K.reg ?_
            refine KO.eqI rfl rfl rfl ?_
            refine KO.as rfl rfl ?_
            refine KO.nil ?_
            repeat ((with_reducible refine KQ.next ?_))
            refine K.condD rfl (fun hw2 => ?_) (fun hw2 => ?_)
            · obtain ⟨hgm, hge, hgq⟩ := hq.take x.m.id
              repeat ((with_reducible refine K.seq ?_))
              refine K.reg ?_
              refine KO.mv rfl rfl ?_
              refine KO.fo0 (off := 2) rfl Tryz.runUnderlying33 rfl rfl Tryz.sizeOf31 rfl ?_
              refine KO.fo (off := 0) rfl Tryz.runUnderlying31 rfl rfl Tryz.sizeOf3 rfl ?_
              refine KO.ld rfl rfl Tryz.isAgg3 (by with_reducible (repeat (exact Pick.head))) (by exact rfl) rfl ?_
              refine KO.cl (cp := []) rfl rfl rfl Tryz.call15 rfl (KC.pk1 (by with_reducible (repeat (first | exact Pick.head | apply Pick.tail))) (rtake_c w _ b21 l x.m.id (by omega))) ?_; rintro v' L' ⟨rfl, rfl⟩; rw [← hgm, ← hge]
              refine KO.mv rfl rfl ?_
              refine KO.extrL rfl (by exact rfl) rfl ?_
              refine KO.extrL rfl (by exact rfl) rfl ?_
              refine KO.alloc rfl Tryz.zeroValue31 (by exact rfl) rfl ?_; intro b11
              refine KO.sto0 rfl rfl rfl (by exact rfl) (by exact Tryz.sizeOf31) (by exact rfl) (by with_reducible (repeat (exact Pick.head))) (by exact rfl) ?_
              refine KO.as rfl rfl ?_
              refine KO.nil ?_
              repeat (first | (with_reducible refine K.seq ?_) | (with_reducible refine KQ.next ?_))
              refine K.reg ?_
              refine KO.fo0 (off := 2) rfl Tryz.runUnderlying33 rfl rfl Tryz.sizeOf31 rfl ?_
              refine KO.fo (off := 0) rfl Tryz.runUnderlying31 rfl rfl Tryz.sizeOf3 rfl ?_
              refine KO.ld rfl rfl Tryz.isAgg3 (by with_reducible (repeat (first | exact Pick.head | apply Pick.tail))) (by exact rfl) rfl ?_
              refine KO.cl (cp := []) rfl rfl rfl Tryz.call16 rfl (KC.pk1 (by with_reducible (repeat (first | exact Pick.head | apply Pick.tail))) (take_c w _ b3 q x.m.id (by omega))) ?_; rintro v' L' ⟨rfl, rfl⟩
              refine KO.mv rfl rfl ?_
              refine KO.extrL rfl (by exact rfl) rfl ?_
              refine KO.extrL rfl (by exact rfl) rfl ?_
              refine KO.alloc rfl Tryz.zeroValue31 (by exact rfl) rfl ?_; intro b13
              refine KO.sto0 rfl rfl rfl (by exact rfl) (by exact Tryz.sizeOf31) (by exact rfl) (by with_reducible (repeat (exact Pick.head))) (by exact rfl) ?_
              refine KO.as rfl rfl ?_
              refine KO.nil ?_
              repeat (first | (with_reducible refine K.seq ?_) | (with_reducible refine KQ.next ?_))
              generalize qtakeM q x.m.id = mg
              generalize qtakeE q x.m.id = eg
              refine K.reg ?_
              refine KO.mv rfl rfl ?_
              refine KO.mv rfl rfl ?_
              refine KO.ce (cp := []) rfl rfl rfl Tryz.call10 rfl (lbare_e w _ _ _ hgw) ?_; rintro v' L' ⟨rfl, rfl⟩
              refine KO.not rfl rfl ?_
              refine KO.mv rfl rfl ?_
              (refine KO.on rfl rfl ?_ ?_; (focus (simp; done)); (refine KO.ldB0 rfl rfl Tryz.isAgg31 Tryz.sizeOf31 (by with_reducible (repeat (exact Pick.head))) (by exact rfl) rfl ?_))
              (refine KO.on rfl rfl ?_ ?_; (focus (simp; done)); (refine KO.ldB0 rfl rfl Tryz.isAgg31 Tryz.sizeOf31 (by with_reducible (repeat (first | exact Pick.head | apply Pick.tail))) (by exact rfl) rfl ?_))
              refine KO.on rfl rfl (by simp) ?_; refine KO.neA rfl rfl (by kernel_rfl) (ms_eq mg mg) rfl ?_
              (refine KO.pickF rfl ?_ rfl rfl ?_; (focus (simp; done)))
              refine KO.nil ?_
              repeat ((with_reducible refine KQ.next ?_))
              refine K.condF rfl (by simp) ?_
              repeat (first | (with_reducible refine KQ.blk_normal ?_) | (with_reducible refine K.skip ?_))
              exact KQ.mid (qtake q x.m.id, rtake l x.m.id) (hgq.le (by omega)) ⟨rfl, rfl, rfl, rfl, rfl, trivial⟩ (fun _ h => h.all (by with_reducible repeat (first | exact PAll.nil | refine PAll.cons (by with_reducible repeat (first | exact Pick.head | apply Pick.tail)) ?_)))
            · refine K.mid (fun b : Bool => [(103, .bool b), (37, .int .i64 x.what), (0, .slice (some ad) xs.length cap), (3, .pointer (some ⟨b3, 0, none⟩)), (4, .pointer (some ⟨b21, 0, none⟩)), (5, .int .i64 (i : Nat)), (6, .pointer (some ⟨b6, 0, none⟩))]) (fun _ => [quP b3 q, rqP b21 l, blk b6 (.cells (qiC x).toArray 33 (0, 0))]) (fun _ => True) ?_ ?_
              · repeat ((with_reducible refine K.seq ?_))
                refine K.reg ?_
                refine KO.eqI rfl rfl rfl ?_
                refine KO.as rfl rfl ?_
                refine KO.nil ?_
                repeat ((with_reducible refine KQ.next ?_))
                refine K.condD rfl (fun hw3 => ?_) (fun hw3 => ?_)
                · repeat ((with_reducible refine K.skip ?_))
                  exact KQ.mid _ trivial ⟨rfl, rfl, rfl, rfl, rfl, rfl, rfl, trivial⟩ (fun _ h => h.all (by with_reducible repeat (first | exact PAll.refl | refine PAll.cons (by with_reducible repeat (first | exact Pick.head | apply Pick.tail)) ?_)))
                · refine K.reg ?_
                  refine KO.eqI rfl rfl rfl ?_
                  refine KO.as rfl rfl ?_
                  refine KO.nil ?_
                  exact KQ.mid _ trivial ⟨rfl, rfl, rfl, rfl, rfl, rfl, rfl, trivial⟩ (fun _ h => h.all (by with_reducible repeat (first | exact PAll.refl | refine PAll.cons (by with_reducible repeat (first | exact Pick.head | apply Pick.tail)) ?_)))
              rintro b2 _
              refine K.cond rfl (fun hb2 => ?_) (fun hb2 => ?_)
              · repeat ((with_reducible refine K.seq ?_))
                refine K.reg ?_
                refine KO.fo0 (off := 1) rfl Tryz.runUnderlying33 rfl rfl Tryz.sizeOf3 rfl ?_
                refine KO.ld rfl rfl Tryz.isAgg3 (by with_reducible (repeat (first | exact Pick.head | apply Pick.tail))) (by exact rfl) rfl ?_
                refine KO.fo0 (off := 0) rfl Tryz.runUnderlying33 rfl rfl Tryz.sizeOf3 rfl ?_
                refine KO.ld rfl rfl Tryz.isAgg3 (by with_reducible (repeat (first | exact Pick.head | apply Pick.tail))) (by exact rfl) rfl ?_
                refine KO.eqI rfl rfl rfl ?_
                refine KO.cl (cp := []) rfl rfl rfl Tryz.call17 rfl (KC.pk1 (by with_reducible (repeat (exact Pick.head))) (ends_c w _ b3 q x.unit _ (by omega))) ?_; rintro v' L' ⟨rfl, rfl⟩
                refine KO.nil ?_
                repeat ((with_reducible refine KQ.next ?_))
                refine K.reg ?_
                refine KO.mv rfl rfl ?_
                refine KO.fo0 (off := 1) rfl Tryz.runUnderlying33 rfl rfl Tryz.sizeOf3 rfl ?_
                refine KO.ld rfl rfl Tryz.isAgg3 (by with_reducible (repeat (first | exact Pick.head | apply Pick.tail))) (by exact rfl) rfl ?_
                refine KO.fo0 (off := 0) rfl Tryz.runUnderlying33 rfl rfl Tryz.sizeOf3 rfl ?_
                refine KO.ld rfl rfl Tryz.isAgg3 (by with_reducible (repeat (first | exact Pick.head | apply Pick.tail))) (by exact rfl) rfl ?_
                refine KO.eqI rfl rfl rfl ?_
                refine KO.cl (cp := []) rfl rfl rfl Tryz.call18 rfl (KC.pk1 (by with_reducible (repeat (first | exact Pick.head | apply Pick.tail))) (rends_c w _ b21 l x.unit _ (by omega))) ?_; rintro v' L' ⟨rfl, rfl⟩
                refine KO.nil ?_
                repeat ((with_reducible refine KQ.blk_normal ?_))
                exact KQ.mid (qends q x.unit (decide (x.what = 4)), rends l x.unit (decide (x.what = 4))) ((hq.ends _ _).le (by omega)) ⟨rfl, rfl, rfl, rfl, rfl, trivial⟩ (fun _ h => h.all (by with_reducible repeat (first | exact PAll.refl | refine PAll.cons (by with_reducible repeat (first | exact Pick.head | apply Pick.tail)) ?_)))
              · repeat ((with_reducible refine K.seq ?_))
                refine K.reg ?_
                refine KO.eqI rfl rfl rfl ?_
                refine KO.as rfl rfl ?_
                refine KO.nil ?_
                repeat ((with_reducible refine KQ.next ?_))
                refine K.condD rfl (fun hw5 => ?_) (fun hw5 => ?_)
                · repeat ((with_reducible refine K.seq ?_))
                  refine K.reg ?_
                  refine KO.fo0 (off := 2) rfl Tryz.runUnderlying33 rfl rfl Tryz.sizeOf31 rfl ?_
                  (refine KO.ldB rfl rfl Tryz.isAgg31 Tryz.sizeOf31 (by with_reducible (repeat (first | exact Pick.head | apply Pick.tail))) (by (try simp only [List.drop_zero, List.drop_succ_cons, List.take_succ_cons, List.take_zero]); (try exact rfl)) (by exact rfl) rfl ?_)
                  refine KO.ce (cp := []) rfl rfl rfl Tryz.call19 rfl (rright_e w _ x.m hsb hsq) ?_; rintro v' L' ⟨rfl, rfl⟩
                  refine KO.as rfl rfl ?_
                  refine KO.nil ?_
                  repeat (first | (with_reducible refine K.seq ?_) | (with_reducible refine KQ.next ?_))
                  refine K.reg ?_
                  refine KO.as rfl rfl ?_
                  refine KO.nil ?_
                  repeat (first | (with_reducible refine KQ.next ?_) | (with_reducible refine K.block ?_))
                  refine K.conv (fun w hw => hw.pick (A := rqP b21 l) (by with_reducible (repeat (first | exact Pick.head | apply Pick.tail)))) ?_
                  refine K.open' (fun _ h => rqP_open h) fun v => ?_
                  refine K.fact (fun w hw => SL_form (hw.pick (A := riS v l) (by with_reducible (repeat (first | exact Pick.head | apply Pick.tail))))) ?_
                  rintro ⟨aq, cq, rfl, haq⟩
                  refine K.loop (fun s : Nat × Bool => [(15, .bool s.2), (16, .int .i64 (s.1 : Nat)), (0, .slice (some ad) xs.length cap), (3, .pointer (some ⟨b3, 0, none⟩)), (4, .pointer (some ⟨b21, 0, none⟩)), (5, .int .i64 (i : Nat)), (6, .pointer (some ⟨b6, 0, none⟩))]) (fun _ => [rqB b21 (.slice aq l.length cq), riS (.slice aq l.length cq) l, quP b3 q, blk b6 (.cells (qiC x).toArray 33 (0, 0))]) (fun s => s.1 ≤ l.length ∧ (s.2 = true ↔ msRight x.m = true ∧ ∀ j e, j < s.1 → l[j]? = some e → e.m.id ≠ x.m.id)) (fun s => l.length - s.1) (0, msRight x.m)
                    ⟨Nat.zero_le _, ⟨fun h => ⟨h, fun j e h => by omega⟩, fun h => h.1⟩⟩ ⟨rfl, rfl, rfl, rfl, rfl, rfl, rfl, trivial⟩ (fun _ h => h.all (by with_reducible repeat (exact PAll.refl))) ?_
                  rintro ⟨k, f⟩ ⟨hk, hf⟩
                  dsimp only at hk hf ⊢
                  repeat ((with_reducible refine K.seq ?_))
                  refine K.reg ?_
                  refine KO.mv rfl rfl ?_
                  refine KO.mv rfl rfl ?_
                  refine KO.nc rfl rfl ?_
                  refine KO.fo0 (off := 0) rfl Tryz.runUnderlying29 rfl rfl Tryz.sizeOf27 rfl ?_
                  refine KO.ld rfl rfl Tryz.isAgg27 (by with_reducible (repeat (exact Pick.head))) (by exact rfl) rfl ?_
                  refine KO.len rfl Tryz.underlying27 rfl ?_
                  refine KO.lss rfl rfl rfl ?_
                  refine KO.nil ?_
                  repeat ((with_reducible refine KQ.next ?_))
                  refine K.condD rfl (fun h5 => ?_) (fun h5 => ?_)
                  · obtain ⟨gq, rfl⟩ := haq (by omega)
                    obtain ⟨e, he⟩ : ∃ e, l[k]? = some e := ⟨l[k], List.getElem?_eq_getElem (by omega)⟩
                    repeat (first | (with_reducible refine K.seq ?_) | (with_reducible refine KQ.next ?_) | (with_reducible refine K.skip ?_) | (with_reducible refine K.block ?_))
                    cases f
                    · refine K.draw [.pure, .pure, .pure, .pure, .pure, .read, .pure, .pure, .pure, .pure, .read, .pure, .pure, .read, .pure, .pure, .pure] [0, 1, 2, 3, 4, 5, 6, 7, 8, 9, 10, 11, 12, 13, 14, 15, 16] (by kernel_rfl) (by kernel_rfl) ?_
                      refine KO.mv rfl rfl ?_
                      refine KO.mv rfl rfl ?_
                      (refine KO.no rfl rfl ?_ rfl ?_; (focus rfl))
                      (refine KO.no rfl rfl ?_ rfl ?_; (focus rfl))
                      (refine KO.no rfl rfl ?_ rfl ?_; (focus rfl))
                      (refine KO.no rfl rfl ?_ rfl ?_; (focus rfl))
                      (refine KO.no rfl rfl ?_ rfl ?_; (focus rfl))
                      (refine KO.no rfl rfl ?_ rfl ?_; (focus rfl))
                      (refine KO.no rfl rfl ?_ rfl ?_; (focus rfl))
                      (refine KO.no rfl rfl ?_ rfl ?_; (focus rfl))
                      (refine KO.no rfl rfl ?_ rfl ?_; (focus rfl))
                      (refine KO.no rfl rfl ?_ rfl ?_; (focus rfl))
                      (refine KO.no rfl rfl ?_ rfl ?_; (focus rfl))
                      (refine KO.no rfl rfl ?_ rfl ?_; (focus rfl))
                      (refine KO.no rfl rfl ?_ rfl ?_; (focus rfl))
                      (refine KO.pickF rfl ?_ rfl rfl ?_; (focus rfl))
                      refine KO.as rfl rfl ?_
                      refine KO.nil ?_
                      repeat (first | (with_reducible refine KQ.next ?_) | (with_reducible refine KQ.blk_normal ?_))
                      refine K.reg ?_
                      refine KO.mv rfl rfl ?_
                      refine KO.add rfl rfl rfl (by omega) rfl ?_
                      refine KO.as rfl rfl ?_
                      refine KO.nil ?_
                      refine KQ.round (k + 1, false) ⟨by dsimp only; omega, ?_⟩ (by dsimp only; omega) ⟨rfl, rfl, rfl, rfl, rfl, rfl, rfl, trivial⟩ (fun _ h => h)
                      refine ⟨(fun h => by cases h), fun h => hf.2 ⟨h.1, fun j e hj he => h.2 j e (by dsimp only; omega) he⟩⟩
                    · refine K.draw [.pure, .pure, .pure, .pure, .pure, .read, .pure, .pure, .pure, .pure, .read, .pure, .pure, .read, .pure, .pure, .pure] [0, 1, 2, 3, 4, 5, 6, 7, 8, 9, 10, 11, 12, 13, 14, 15, 16] (by kernel_rfl) (by kernel_rfl) ?_
                      refine KO.mv rfl rfl ?_
                      refine KO.mv rfl rfl ?_
                      (refine KO.on rfl rfl ?_ ?_; (focus rfl); (refine KO.mv rfl rfl ?_))
                      (refine KO.on rfl rfl ?_ ?_; (focus rfl); (refine KO.nc rfl rfl ?_))
                      (refine KO.on rfl rfl ?_ ?_; (focus rfl); (refine KO.fo0 (off := 0) rfl Tryz.runUnderlying29 rfl rfl Tryz.sizeOf27 rfl ?_))
                      (refine KO.on rfl rfl ?_ ?_; (focus rfl); (refine KO.ld rfl rfl Tryz.isAgg27 (by with_reducible (repeat (exact Pick.head))) (by exact rfl) rfl ?_))
                      (refine KO.on rfl rfl ?_ ?_; (focus rfl); (refine KO.mv rfl rfl ?_))
                      (refine KO.on rfl rfl ?_ ?_; (focus rfl); (refine KO.idx0 rfl rfl Tryz.runUnderlying27 Tryz.sizeOf47 (by exact rfl) (by omega) rfl ?_))
                      (refine KO.on rfl rfl ?_ ?_; (focus rfl); (refine KO.fo (off := 0) rfl Tryz.runUnderlying47 rfl rfl Tryz.sizeOf31 rfl ?_))
                      (refine KO.on rfl rfl ?_ ?_; (focus rfl); (refine KO.fo (off := 0) rfl Tryz.runUnderlying31 rfl rfl Tryz.sizeOf3 rfl ?_))
                      (refine KO.on rfl rfl ?_ ?_; (focus rfl); (refine KO.ldE rfl rfl Tryz.isAgg3 (by with_reducible (repeat (first | exact Pick.head | apply Pick.tail))) (fun _ => rfl) (by assumption) (by exact rfl) (by exact rfl) rfl ?_))
                      (refine KO.on rfl rfl ?_ ?_; (focus rfl); (refine KO.fo0 (off := 2) rfl Tryz.runUnderlying33 rfl rfl Tryz.sizeOf31 rfl ?_))
                      (refine KO.on rfl rfl ?_ ?_; (focus rfl); (refine KO.fo (off := 0) rfl Tryz.runUnderlying31 rfl rfl Tryz.sizeOf3 rfl ?_))
                      (refine KO.on rfl rfl ?_ ?_; (focus rfl); (refine KO.ld rfl rfl Tryz.isAgg3 (by with_reducible (repeat (first | exact Pick.head | apply Pick.tail))) (by exact rfl) rfl ?_))
                      (refine KO.on rfl rfl ?_ ?_; (focus rfl); (refine KO.neI rfl rfl rfl ?_))
                      (refine KO.pickT rfl ?_ rfl rfl ?_; (focus rfl))
                      refine KO.as rfl rfl ?_
                      refine KO.nil ?_
                      repeat (first | (with_reducible refine KQ.next ?_) | (with_reducible refine KQ.blk_normal ?_))
                      refine K.reg ?_
                      refine KO.mv rfl rfl ?_
                      refine KO.add rfl rfl rfl (by omega) rfl ?_
                      refine KO.as rfl rfl ?_
                      refine KO.nil ?_
                      obtain ⟨hr1, hr2⟩ := hf.1 rfl
                      refine KQ.round (k + 1, decide (e.m.id ≠ x.m.id)) ⟨by dsimp only; omega, ?_⟩ (by dsimp only; omega) ⟨rfl, rfl, rfl, rfl, rfl, rfl, rfl, trivial⟩ (fun _ h => h)
                      dsimp only
                      rw [decide_eq_true_iff]
                      refine ⟨fun h => ⟨hr1, fun j e' hj he' => ?_⟩, fun h => h.2 k e (by omega) he⟩
                      by_cases hjk : j = k
                      · subst hjk; rw [he] at he'; cases he'; exact h
                      · exact hr2 j e' (by omega) he'
                  · have hkl : k = l.length := by omega
                    refine K.conv (L' := [rqP b21 l, quP b3 q, blk b6 (.cells (qiC x).toArray 33 (0, 0))]) (fun w hw => rqP_mk hw) ?_
                    repeat (first | (with_reducible refine K.seq ?_) | (with_reducible refine KQ.next ?_) | (with_reducible refine KQ.then_exit ?_) | (with_reducible refine KQ.blk_exit ?_) | (with_reducible refine K.exit ?_))
                    refine K.reg ?_
                    refine KO.mv rfl rfl ?_
                    refine KO.nil ?_
                    repeat ((with_reducible refine KQ.next ?_))
                    refine K.cond rfl (fun h6 => ?_) (fun h6 => ?_)
                    · obtain ⟨hr1, hr2⟩ := hf.1 h6
                      have hrp := msRight_parts hr1
                      have hfr : ∀ e ∈ l, e.m.id ≠ x.m.id := fun e he => by
                        obtain ⟨j, hj, rfl⟩ := List.getElem_of_mem he
                        exact hr2 j _ (by omega) (List.getElem?_eq_getElem hj)
                      repeat ((with_reducible refine K.seq ?_))
                      refine K.reg ?_
                      refine KO.fo0 (off := 2) rfl Tryz.runUnderlying33 rfl rfl Tryz.sizeOf31 rfl ?_
                      (refine KO.ldB rfl rfl Tryz.isAgg31 Tryz.sizeOf31 (by with_reducible (repeat (first | exact Pick.head | apply Pick.tail))) (by (try simp only [List.drop_zero, List.drop_succ_cons, List.take_succ_cons, List.take_zero]); (try exact rfl)) (by exact rfl) rfl ?_)
                      refine KO.fo0 (off := 1) rfl Tryz.runUnderlying33 rfl rfl Tryz.sizeOf3 rfl ?_
                      refine KO.ld rfl rfl Tryz.isAgg3 (by with_reducible (repeat (first | exact Pick.head | apply Pick.tail))) (by exact rfl) rfl ?_
                      refine KO.cl (cp := []) rfl rfl rfl Tryz.call20 rfl (KC.pk1 (by with_reducible (repeat (first | exact Pick.head | apply Pick.tail))) (push_c w _ b3 q x.m x.unit hok (by unfold small; omega))) ?_; rintro v' L' ⟨rfl, rfl⟩
                      refine KO.nil ?_
                      repeat ((with_reducible refine KQ.next ?_))
                      refine K.reg ?_
                      refine KO.mv rfl rfl ?_
                      refine KO.fo0 (off := 2) rfl Tryz.runUnderlying33 rfl rfl Tryz.sizeOf31 rfl ?_
                      (refine KO.ldB rfl rfl Tryz.isAgg31 Tryz.sizeOf31 (by with_reducible (repeat (first | exact Pick.head | apply Pick.tail))) (by (try simp only [List.drop_zero, List.drop_succ_cons, List.take_succ_cons, List.take_zero]); (try exact rfl)) (by exact rfl) rfl ?_)
                      refine KO.fo0 (off := 1) rfl Tryz.runUnderlying33 rfl rfl Tryz.sizeOf3 rfl ?_
                      refine KO.ld rfl rfl Tryz.isAgg3 (by with_reducible (repeat (first | exact Pick.head | apply Pick.tail))) (by exact rfl) rfl ?_
                      refine KO.cl (cp := []) rfl rfl rfl Tryz.call21 rfl (KC.pk1 (by with_reducible (repeat (first | exact Pick.head | apply Pick.tail))) (rpush_c w _ b21 l x.m x.unit (by omega))) ?_; rintro v' L' ⟨rfl, rfl⟩
                      refine KO.nil ?_
                      repeat ((with_reducible refine KQ.blk_normal ?_))
                      exact KQ.mid (qpush q x.m x.unit, rpush l x.m x.unit) (hq.pushed ⟨hrp.2.2.1, hrp.2.2.2.1⟩ hfr _) ⟨rfl, rfl, rfl, rfl, rfl, trivial⟩ (fun _ h => h.all (by with_reducible repeat (first | exact PAll.refl | refine PAll.cons (by with_reducible repeat (first | exact Pick.head | apply Pick.tail)) ?_)))
                    · repeat (first | (with_reducible refine KQ.blk_normal ?_) | (with_reducible refine K.skip ?_))
                      exact KQ.mid (q, l) (hq.le (by omega)) ⟨rfl, rfl, rfl, rfl, rfl, trivial⟩ (fun _ h => h.all (by with_reducible repeat (first | exact PAll.refl | refine PAll.cons (by with_reducible repeat (first | exact Pick.head | apply Pick.tail)) ?_)))
                · repeat (first | (with_reducible refine KQ.blk_normal ?_) | (with_reducible refine K.skip ?_))
                  exact KQ.mid (q, l) (hq.le (by omega)) ⟨rfl, rfl, rfl, rfl, rfl, trivial⟩ (fun _ h => h.all (by with_reducible repeat (exact PAll.refl)))
      · rintro ⟨q2, l2⟩ hq2
        dsimp only at hq2 ⊢
        have hth := hq2.there
        have hkp := hq2.kept
        have hhs := hq2.has x.m.id
        have hll2 := hq2.len
        have hlq2 := hq2.len_eq
        have hl1 : (qthere q2).length ≤ 200 := by unfold qthere; rw [List.length_map]; exact Nat.le_trans (List.length_filter_le _ _) (by omega)
        have hl2 : (qkept q2).length ≤ 200 := by unfold qkept; rw [List.length_map]; exact Nat.le_trans (List.length_filter_le _ _) (by omega)
        repeat ((with_reducible refine K.seq ?_))
        refine K.draw [.write, .pure, .write, .write, .pure, .pure, .write, .pure, .write, .write, .pure, .pure, .pure, .keep, .pure, .pure, .pure, .read, .pure, .pure, .pure, .pure, .pure, .pure, .read, .keep, .pure, .pure, .pure, .read, .write, .pure, .pure] [1, 0, 2, 3, 4, 5, 7, 6, 8, 9, 10, 11, 12, 14, 15, 16, 17, 18, 13, 19, 20, 21, 22, 23, 24, 26, 27, 28, 29, 25, 30, 31, 32] (by kernel_rfl) (by kernel_rfl) ?_
        refine KO.mv rfl rfl ?_
        refine KO.ce (cp := []) rfl rfl rfl Tryz.call23 rfl (there_e w _ _ b3 q2 (by with_reducible (repeat (exact Pick.head))) (by omega)) ?_; rintro va L' rfl
        refine KO.cl (cp := []) rfl rfl rfl Tryz.call24 rfl (KC.pk1 (by with_reducible (repeat (first | exact Pick.head | apply Pick.tail))) (rthere_c w _ b21 l2 (by omega))) ?_; rintro vb L' rfl; rw [← hth]
        refine KO.ce (cp := []) rfl rfl rfl Tryz.call22 rfl (same_e w _ va vb (qthere q2) (qthere q2) (RdS.of (fun _ => rfl) (by with_reducible (repeat (first | exact Pick.head | apply Pick.tail)))) (RdS.of (fun _ => rfl) (by with_reducible (repeat (exact Pick.head)))) (by omega) (by omega)) ?_; rintro v' L' ⟨rfl, rfl⟩; rw [show decide (qthere q2 = qthere q2) = true from decide_eq_true rfl]
        refine KO.not rfl rfl ?_
        refine KO.mv rfl rfl ?_
        (refine KO.on rfl rfl ?_ ?_; (focus rfl); (refine KO.mv rfl rfl ?_))
        refine KO.on rfl rfl rfl ?_; refine KO.ce (cp := []) rfl rfl rfl Tryz.call25 rfl (kept_e w _ _ b3 q2 (by with_reducible (repeat (first | exact Pick.head | apply Pick.tail))) (by omega)) ?_; rintro vc L' rfl
        refine KO.on rfl rfl rfl ?_; refine KO.cl (cp := []) rfl rfl rfl Tryz.call26 rfl (KC.pk1 (by with_reducible (repeat (first | exact Pick.head | apply Pick.tail))) (rkept_c w _ b21 l2 (by omega))) ?_; rintro vd L' rfl; rw [← hkp]
        refine KO.on rfl rfl rfl ?_; refine KO.ce (cp := []) rfl rfl rfl Tryz.call22 rfl (same_e w _ vc vd (qkept q2) (qkept q2) (RdS.of (fun _ => rfl) (by with_reducible (repeat (first | exact Pick.head | apply Pick.tail)))) (RdS.of (fun _ => rfl) (by with_reducible (repeat (exact Pick.head)))) (by omega) (by omega)) ?_; rintro v' L' ⟨rfl, rfl⟩; rw [show decide (qkept q2 = qkept q2) = true from decide_eq_true rfl]
        (refine KO.on rfl rfl ?_ ?_; (focus rfl); (refine KO.not rfl rfl ?_))
        (refine KO.pickF rfl ?_ rfl rfl ?_; (focus rfl))
        refine KO.mv rfl rfl ?_
        (refine KO.on rfl rfl ?_ ?_; (focus rfl); (refine KO.mv rfl rfl ?_))
        (refine KO.on rfl rfl ?_ ?_; (focus rfl); (refine KO.nc rfl rfl ?_))
        (refine KO.on rfl rfl ?_ ?_; (focus rfl); (refine KO.fo0 (off := 0) rfl Tryz.runUnderlying29 rfl rfl Tryz.sizeOf27 rfl ?_))
        refine KO.on rfl rfl rfl ?_; refine KO.conv (fun w hw => hw.pick (A := rqP b21 l2) (by with_reducible (repeat (first | exact Pick.head | apply Pick.tail)))) ?_; refine KO.open' (fun _ h => rqP_open h) fun vq => ?_; refine KO.fact (fun w hw => SL_form (hw.pick (A := riS vq l2) (by with_reducible (repeat (first | exact Pick.head | apply Pick.tail))))) ?_; rintro ⟨aq, cq, rfl, -⟩; refine KO.ld rfl rfl Tryz.isAgg27 (by with_reducible (repeat (exact Pick.head))) (by exact rfl) rfl ?_; refine KO.conv (fun w hw => rqP_mk hw) ?_
        (refine KO.on rfl rfl ?_ ?_; (focus rfl); (refine KO.len rfl Tryz.underlying27 rfl ?_))
        refine KO.on rfl rfl rfl ?_; refine KO.ce (cp := []) rfl rfl rfl Tryz.call27 rfl (many_e w _ _ b3 q2 (by with_reducible (repeat (first | exact Pick.head | apply Pick.tail)))) ?_; rintro v' L' ⟨rfl, rfl⟩; rw [hlq2]
        (refine KO.on rfl rfl ?_ ?_; (focus rfl); (refine KO.neI rfl rfl rfl ?_))
        (refine KO.pickF rfl ?_ rfl rfl ?_; (focus rfl))
        refine KO.mv rfl rfl ?_
        (refine KO.on rfl rfl ?_ ?_; (focus (simp; done)); (refine KO.fo0 (off := 2) rfl Tryz.runUnderlying33 rfl rfl Tryz.sizeOf31 rfl ?_))
        (refine KO.on rfl rfl ?_ ?_; (focus (simp; done)); (refine KO.fo (off := 0) rfl Tryz.runUnderlying31 rfl rfl Tryz.sizeOf3 rfl ?_))
        (refine KO.on rfl rfl ?_ ?_; (focus (simp; done)); (refine KO.ld rfl rfl Tryz.isAgg3 (by with_reducible (repeat (first | exact Pick.head | apply Pick.tail))) (by exact rfl) rfl ?_))
        (refine KO.on rfl rfl ?_ ?_; (focus (simp; done)); (refine KO.mv rfl rfl ?_))
        (refine KO.on rfl rfl ?_ ?_; (focus (simp; done)); (refine KO.fo0 (off := 2) rfl Tryz.runUnderlying33 rfl rfl Tryz.sizeOf31 rfl ?_))
        (refine KO.on rfl rfl ?_ ?_; (focus (simp; done)); (refine KO.fo (off := 0) rfl Tryz.runUnderlying31 rfl rfl Tryz.sizeOf3 rfl ?_))
        (refine KO.on rfl rfl ?_ ?_; (focus (simp; done)); (refine KO.ld rfl rfl Tryz.isAgg3 (by with_reducible (repeat (first | exact Pick.head | apply Pick.tail))) (by exact rfl) rfl ?_))
        refine KO.on rfl rfl (by simp) ?_; refine KO.ce (cp := []) rfl rfl rfl Tryz.call28 rfl (has_e w _ _ b3 q2 x.m.id (by with_reducible (repeat (first | exact Pick.head | apply Pick.tail))) (by omega)) ?_; rintro v' L' ⟨rfl, rfl⟩; rw [hhs]
        refine KO.on rfl rfl (by simp) ?_; refine KO.ce (cp := []) rfl rfl rfl Tryz.call29 rfl (rhas_e w _ _ b21 l2 x.m.id (by with_reducible (repeat (exact Pick.head))) (by omega)) ?_; rintro v' L' ⟨rfl, rfl⟩
        (refine KO.on rfl rfl ?_ ?_; (focus (simp; done)); (refine KO.neB rfl rfl Tryz.underlying4 rfl ?_))
        (refine KO.pickF rfl ?_ rfl rfl ?_; (focus (simp; done)))
        refine KO.nil ?_
        repeat ((with_reducible refine KQ.next ?_))
        refine K.condF rfl (by simp) ?_
        repeat (first | (with_reducible refine KQ.blk_normal ?_) | (with_reducible refine K.skip ?_))
        exact KQ.mid (q2, l2) hq2 ⟨rfl, rfl, rfl, rfl, trivial⟩ (fun _ h => h.all (by with_reducible repeat (first | exact PAll.nil | refine PAll.cons (by with_reducible repeat (first | exact Pick.head | apply Pick.tail)) ?_)))
    · rintro ⟨q2, l2⟩ hq2
      dsimp only at hq2 ⊢
      refine K.reg ?_
      refine KO.mv rfl rfl ?_
      refine KO.add rfl rfl rfl (by omega) rfl ?_
      refine KO.as rfl rfl ?_
      refine KO.nil ?_
      exact KQ.round (i + 1, q2, l2) ⟨by dsimp only; omega, by dsimp only; exact hq2⟩ (by dsimp only; omega) ⟨rfl, rfl, rfl, rfl, trivial⟩ (fun _ h => h)
  · repeat (first | (with_reducible refine K.seq ?_) | (with_reducible refine KQ.next ?_) | (with_reducible refine KQ.then_exit ?_) | (with_reducible refine KQ.blk_exit ?_) | (with_reducible refine K.exit ?_))
    refine K.reg ?_
    refine KO.as rfl rfl ?_
    refine KO.nil ?_
    repeat (first | (with_reducible refine KQ.next ?_) | (with_reducible refine K.ret ?_))
    refine KQ.ret1 rfl rfl (fun w' hs => fin w' _ hs)
end Go.Proofs.YtjhogocabcdjbaaGreatDoor
/- rows that say 'leaving', of calls in which one goroutine runs from the first step to the last -/
namespace WB
open Go
theorem leaving_of_handed {a : Assume} {C : Checked} {os : Os} {f : FuncId} {r : Reach} {Pre : World → Array Value → Prop} {Post : World → Array Value → Value → World → Prop}
    (h : ReturnsInHanded a C os f r Pre Post) : ReturnsInLeavingWide a C os f r Pre Post := fun enter => by
  obtain ⟨h1, h2, h3, h4, h5⟩ := h enter
  refine ⟨h1, h2, h3, h4, fun w tape i hf => ?_⟩
  obtain ⟨n, v, w', k1, k2, k3, k4, ⟨j, last, k5, k6, k7⟩, k8⟩ := h5 w tape i hf
  exact ⟨n, v, w', k1, k2, k3, k4, ⟨j, last, k5, k6, k7.2.1, onlyLeaving_of_quiet k7.1, k7.2.2⟩, k8⟩
theorem holds_tied_goes (Lk : Looks) {p : Pinned} {s : OpenSpec} {c : OpenClaim} (kinds : List LaidKind) (tests : Bool) (har : Bool × String) (lk : Bool)
    (hc : c.holds p s) (hw : c.wfByText s = true) (htie : c.laidByTextAt Lk p kinds tests)
    (hst : c.start = .entering) (hnb : c.noBlocks = false ∧ c.again = false) (hm : p.checked.prog.mainIs = some (har.1, har.2.toList)) (hn : (!har.1 && har.2.isEmpty && !lk) = false)
    (hl : ∀ f fn, p.checked.prog.funcNamed c.func = some f → p.checked.prog.funcs[f]? = some fn → lk = p.checked.prog.looks [] ∧ ∀ (j : Nat) t, fn.params[j]? = some t → p.checked.prog.wantsStandIn t = false)
    (hg : true = c.goesBy p.checked.prog) :
    Claim7.holds p (.plain s) { stood := { row := c, standIns := [], harness := har, looks := lk }, kinds := [], alts := [], goes := true, laidByText := true, laidKinds := kinds, laidTests := tests, laidLooks := Lk } := by
  have h6 : Claim7.isSixth { stood := { row := c, standIns := [], harness := har, looks := lk }, kinds := [] } = false := by simpa [Claim7.isSixth] using hn
  exact ⟨Claim7.tied_new_at Lk kinds tests (Claim7.new_of_sixth hc har lk hst hnb hm h6 hl) hw, (fun D hD => by cases hD), htie, (fun h => by cases h), hg⟩
/-- the row's closed facts, reckoned apart -/
theorem joined_of {P : Program} {f : FuncId} {fn : Func} {s : ChangeSpec} {c : OpenClaim}
    (a1 : (c.wf (OpenSpec.ofChange s) && laidOutB P && mapsRowed P) = true)
    (a2 : (fn.params.all (P.readableRec ·) && namedTie P c.named s.vars && (c.stops == []) && (P.stops == []) && (c.knobs == []) && (P.stopKnobs == [])) = true)
    (a3 : (c.inPlace == P.inPlace f) = true) (a4 : (c.unfollowed == P.unfollowed f) = true) (a5 : (c.recurses == P.recurses f) = true) (a6 : (c.named == P.varsNamed f) = true)
    (a7 : ((c.maps == (fn.params.toList ++ s.plain.varTypes P).any (P.mapsRec ·)) && (c.ifaces == (fn.params.toList ++ s.plain.varTypes P).any (P.ifacesRec ·)) && (c.mapsOut == P.mapsAmong fn.resultTypes.toList) &&
      (c.loops == (fn.params.toList ++ s.plain.varTypes P).any (P.loopsFrom ·)) && (c.wideKeys == (fn.params.toList ++ s.plain.varTypes P ++ fn.resultTypes.toList).any (P.wideKeysFrom ·)) &&
      s.vars.all (P.varReadable ·) && fn.resultTypes.all (fun t => P.readableRec t && decide (t < P.types.size)) && (c.ifacesOut == fn.resultTypes.toList.any (P.ifacesRec ·)) && (c.loopsOut == fn.resultTypes.toList.any (P.loopsFrom ·)) && (c.plainKeys == P.plainKeys) && c.shortTexts.isNone) = true)
    (a8 : (P.stopsHeard && P.mayEnter && (c.lifted == P.liftsFinal) && (P.make == some c.make)) = true)
    (a9 : ((c.kinds == (if c.domain.isEmpty then [] else fn.params.toList.map fun t => match P.underlying t with | some (.int k) => some k | _ => none)) && (c.pinned == c.pinnedBy) &&
      (c.veiled == (fn.params.toList ++ s.plain.varTypes P ++ fn.resultTypes.toList).any (P.veiledRec ·)) && c.veiledFits P fn.params.toList (fn.params.toList ++ s.plain.varTypes P ++ fn.resultTypes.toList)) = true) :
    joinedFacts P f fn s c = true := by
  unfold joinedFacts
  simp only [Bool.and_eq_true] at a1 a2 a7 a8 a9 ⊢
  grind
end WB
/- waybilllaw.QueuePlays: for every list of items the law returns true, on every schedule, and the list reads as it did. No condition. -/
namespace Go.Proofs.YtjhogocabcdjbaaGreatDoor.qplays
open Go Go.RowKit Go.ChangeShapes Go.WideShapes Go.ChangeAt Go.Deep WB
theorem own : ownKnob Tryz.prog.godebug = none := by kernel_rfl
theorem laidOut : laidOutB Tryz.prog = true := by kernel_rfl
theorem et : Tryz.prog.globalNamed "errors.errorType" = some 4 := by kernel_rfl
theorem rt : (Tryz.prog.cutTypes.find? (·.1 == "internal/reflectlite.rtype")).map (·.2) = some 300 := by kernel_rfl
theorem oneRow : ((List.range 482).filter fun t => Tryz.prog.rowNamed t [101, 114, 114, 111, 114]) = [37] := by kernel_rfl
theorem tsize : Tryz.prog.types.size = 482 := by kernel_rfl
theorem handle_of {W : World} (h : handlesMet Tryz.prog [("errors.errorType", Rows.laid_errors_errorType)] W) : ErrType W := by
  obtain ⟨name, u, ty, e1, e2, e3, e4, e5⟩ := h _ (List.mem_singleton.2 rfl)
  have en : name = [101, 114, 114, 111, 114] := (Option.some.inj e1).symm
  subst en
  obtain rfl := Option.some.inj (rt.symm.trans e2)
  have hm : ty ∈ (List.range 482).filter fun t => Tryz.prog.rowNamed t [101, 114, 114, 111, 114] := List.mem_filter.2 ⟨List.mem_range.2 (by rw [← tsize]; exact e3), e4⟩
  rw [oneRow] at hm
  obtain rfl := List.mem_singleton.1 hm
  have hh : typeHandle Tryz.prog 37 = .pointer (some ⟨10, 37, none⟩) := by kernel_rfl
  rw [hh] at e5
  have h1 := World.var?_cell et e5 0
  unfold ErrType
  simpa using h1
theorem handle_of_laid {W : World} (h : laidMetH Tryz.prog Rows.queuePlaysRow.laid W) : ErrType W := handle_of h.2
/-- a world in which the listed variables lie -/
noncomputable def hold (os : Os) : World :=
  let w0 := World.holding Tryz.prog os ⟨#[], #[], []⟩
  { w0 with heap := w0.heap.modify 4 fun
      | .cells _ t frozen => .cells #[.iface 300 (.agg #[.pointer (some ⟨10, 37, none⟩)])] t frozen
      | o => o }
def data : List (String × DataW Unit) := [("unicode/utf8.acceptRanges", Rows.laid_unicode_utf8_acceptRanges), ("unicode/utf8.first", Rows.laid_unicode_utf8_first)]
noncomputable def laidWorld (os : Os) : World := (hold os).layVars Tryz.prog data
theorem laidWorld_os (os : Os) : (laidWorld os).os = os := World.layVars_os _ _ _
set_option maxRecDepth 100000 in
theorem data_met (os : Os) (args : Array Value) : laidMet Tryz.prog data ((laidWorld os).forCall (fun _ _ => 0) ⟨#[], args, []⟩).memory := by
  have h : laidMet Tryz.prog data (laidWorld os) := laidMet_layVars (w0 := hold os) (data.map (·.1)) [] rfl (by kernel_rfl) (by kernel_rfl) LaidIn.none
  exact h.of_heap (by simp [World.memory, World.forCall, Input.heap])
set_option maxRecDepth 100000 in
theorem laid_met (os : Os) (args : Array Value) : laidMetH Tryz.prog Rows.queuePlaysRow.laid ((laidWorld os).forCall (fun _ _ => 0) ⟨#[], args, []⟩).memory :=
  laidMetH_of_parts (data_met os args) (by kernel_rfl)
set_option maxRecDepth 100000 in
theorem rd_item {H : Type} {enc : TypeId × Value → H} {W : World} {n : Nat} {cs : List Value} {y : DataW H × List MemPlace} (h : DataW.trod enc Tryz.prog W 0 (fun _ => true) true n 33 cs = some y) : ∃ x : Qi, (x.m.body.size ≤ maxLen ∧ x.m.queue.size ≤ maxLen) ∧ cs = qiC x := by
  have hci : Tryz.prog.cellsOf 3 = 1 := by kernel_rfl
  have hcs : Tryz.prog.cellsOf 9 = 1 := by kernel_rfl
  have hcm : Tryz.prog.cellsOf 31 = 5 := by kernel_rfl
  have hlen := trod_len Tryz.underlying33 h (show Tryz.prog.cellsOf 33 = 7 by kernel_rfl)
  obtain ⟨s0, e0, _⟩ := trod_i Tryz.underlying33 h 0 0 3 rfl hci Tryz.underlying3
  obtain ⟨s1, e1, _⟩ := trod_i Tryz.underlying33 h 1 1 3 rfl hci Tryz.underlying3
  obtain ⟨m, y', hm⟩ := trod_field Tryz.underlying33 h 2 2 31 5 rfl hcm
  match cs, hlen, e0, e1, hm with
  | [c0, c1, c2, c3, c4, c5, c6], _, e0, e1, hm =>
    simp only [List.drop_succ_cons, List.drop_zero, List.take_succ_cons, List.take_zero] at hm
    obtain ⟨s2, e2, _⟩ := trod_i Tryz.underlying31 hm 0 0 3 rfl hci Tryz.underlying3
    obtain ⟨s3, e3, _⟩ := trod_i Tryz.underlying31 hm 1 1 3 rfl hci Tryz.underlying3
    obtain ⟨s4, e4, w4⟩ := trod_str Tryz.underlying31 hm 2 2 9 rfl hcs Tryz.underlying9
    obtain ⟨s5, e5, w5⟩ := trod_str Tryz.underlying31 hm 3 3 9 rfl hcs Tryz.underlying9
    obtain ⟨s6, e6, _⟩ := trod_i Tryz.underlying31 hm 4 4 3 rfl hci Tryz.underlying3
    simp only [List.getElem?_cons_zero, List.getElem?_cons_succ, Option.some.injEq] at e0 e1 e2 e3 e4 e5 e6
    exact ⟨⟨s0, s1, ⟨s2, s3, s4, s5, s6⟩⟩, ⟨w4, w5⟩, by rw [e0, e1, e2, e3, e4, e5, e6]; rfl⟩
theorem rdA_ext {W W' : World} {v : Value} {xs : List Qi} (h : RdA W 7 qiC v xs) (e : Ext W W') : RdA W' 7 qiC v xs := by
  obtain ⟨a, cap, rfl, hc⟩ := h
  exact ⟨a, cap, rfl, fun i x hx => by obtain ⟨ad, rfl, hh⟩ := hc i x hx; exact ⟨ad, rfl, hh.ext e⟩⟩
set_option maxRecDepth 100000 in
theorem contract (H : Type) (enc : TypeId × Value → H) (W : World) (base : Nat) (args : Array Value) (ds gs : List (DataW H)) (before : List MemPlace)
    (hval : ∀ (j : Nat) t v, Tryz.f3.params[j]? = some t → args[j]? = some v → Value.okWide Tryz.prog W .any base t v)
    (hW : DataW.Whole enc Tryz.prog Tryz.f3.params.toList Rows.queuePlaysSpec.vars false W args.toList ds gs before) (hL : laidMetH Tryz.prog Rows.queuePlaysRow.laid W) :
    Calls Tryz.prog 3 args W fun e W' => ∃ v, e = .returned v ∧ Rows.queuePlaysSpec.post enc Tryz.prog Tryz.f3 false true false false W args v W' := by
  have hW' := hW
  obtain ⟨p, q, hA0, hV, rfl, hfz, hnd⟩ := hW
  have hA : DataW.TrodAll enc Tryz.prog W 0 (fun _ => true) true Tryz.f3.params.toList args.toList ds p := hA0
  have hA2 := hA
  rw [Tryz.params3] at hA hval
  obtain ⟨v0, d0, rfl, rfl, h0⟩ := trodAll_one hA
  obtain ⟨rfl, rfl⟩ := trodVars_none hV
  have hET := handle_of_laid hL
  obtain ⟨xs, hx, hsz⟩ := open_sl (φ := fun x : Qi => x.m.body.size ≤ maxLen ∧ x.m.queue.size ≤ maxLen) (cf := qiC) Tryz.underlying22 (hval 0 22 v0 rfl rfl) h0 (show Tryz.prog.cellsOf 33 = 7 by kernel_rfl) (fun n cs y h => rd_item h)
  have hlt : ∀ x ∈ p, x.block < W.heap.size := fun x hx => by
    have := hW'.lt x (List.mem_append_left _ hx)
    simpa using this
  have hwalk : Calls Tryz.prog 3 #[v0] W fun e W' => e = .returned (.bool true) ∧ Below W.heap.size W W' := by
    refine (plays_e W [] v0 xs (fun w hw => rdA_ext hx (Ext.of_below hw.below)) hsz hET W (St.init W)).mono ?_
    rintro e W' ⟨v, L', rfl, ⟨rfl, _⟩, _, hb⟩
    exact ⟨rfl, hb⟩
  refine hwalk.mono fun e W' ⟨he, hb⟩ => ?_
  subst he
  simp only [List.append_nil] at hW'
  exact ⟨_, rfl, _, _, _, [], p, [], hW', trodAll_mk1 (shut_bool Tryz.underlying4 _), law_args laidOut hb (by kernel_rfl) hA2 hlt, rfl, hb.frame _, fun h => by cases h⟩
set_option maxRecDepth 100000 in
theorem reads (os : Os) {H : Type} (enc : TypeId × Value → H) : ∃ places, DataW.whole enc Tryz.prog ((laidWorld os).forCall (fun _ _ => 0) ⟨#[], #[.slice none 0 0], []⟩).memory Tryz.f3.params.toList Rows.queuePlaysSpec.vars false (#[.slice none 0 0] : Array Value).toList 8 = some ([.nil], [], places) :=
  ⟨[], by kernel_rfl⟩
set_option maxRecDepth 100000 in
theorem lifted (os : Os) (started : os.Started) (H : Type) (enc : TypeId × Value → H) (F : Stop.Interp) :
    ReturnsInHanded {} Tryz.checked os 3 .any ((OpenSpec.ofChange Rows.queuePlaysSpec).preRow enc Tryz.prog Tryz.f3 Rows.queuePlaysRow.domain false Rows.queuePlaysRow.laid) (((OpenSpec.ofChange Rows.queuePlaysSpec).at F).post enc Tryz.prog Tryz.f3 false true false false) := by
  obtain ⟨places, hx⟩ := reads os enc
  refine returnsInHanded_of_row (C := Tryz.checked) (s := OpenSpec.ofChange Rows.queuePlaysSpec) own started (by kernel_rfl) Tryz.func3
    (witness_row_sh (enc := enc) (C := Tryz.checked) false (laidWorld os) #[.slice none 0 0] (laidWorld_os os) (World.shaped_of_ZipB (by kernel_rfl) (by kernel_rfl)) (by kernel_rfl)
      (OpenSpec.preRow_of_cond 8 hx (by kernel_rfl) (fun k hk => by cases hk) (by kernel_rfl) (laid_met os _))) ?_
  intro W base args ds gs before hval hW _ _ _ hL _ _
  exact contract H enc W base args ds gs before hval hW hL
theorem j1 : (Rows.queuePlaysRow.wf (OpenSpec.ofChange Rows.queuePlaysSpec) && laidOutB Tryz.prog && mapsRowed Tryz.prog) = true := by kernel_rfl
theorem j2 : (Tryz.f3.params.all (Tryz.prog.readableRec ·) && namedTie Tryz.prog Rows.queuePlaysRow.named Rows.queuePlaysSpec.vars && (Rows.queuePlaysRow.stops == []) && (Tryz.prog.stops == []) && (Rows.queuePlaysRow.knobs == []) && (Tryz.prog.stopKnobs == [])) = true := by kernel_rfl
theorem j3 : (Rows.queuePlaysRow.inPlace == Tryz.prog.inPlace 3) = true := by kernel_rfl
theorem j4 : (Rows.queuePlaysRow.unfollowed == Tryz.prog.unfollowed 3) = true := by kernel_rfl
theorem j5 : (Rows.queuePlaysRow.recurses == Tryz.prog.recurses 3) = true := by kernel_rfl
theorem j6 : (Rows.queuePlaysRow.named == Tryz.prog.varsNamed 3) = true := by kernel_rfl
theorem j8 : (Tryz.prog.stopsHeard && Tryz.prog.mayEnter && (Rows.queuePlaysRow.lifted == Tryz.prog.liftsFinal) && (Tryz.prog.make == some Rows.queuePlaysRow.make)) = true := by kernel_rfl
theorem closed : joinedFacts Tryz.prog 3 Tryz.f3 Rows.queuePlaysSpec Rows.queuePlaysRow = true := joined_of j1 j2 j3 j4 j5 j6 (by as_aux_lemma => kernel_rfl) j8 (by as_aux_lemma => kernel_rfl)
theorem said : Rows.QueuePlaysSaid :=
  OpenClaim.holds_of_wide_leaving 3 Tryz.f3 rfl rfl rfl rfl rfl rfl rfl ⟨rfl, rfl, rfl, rfl, rfl⟩ rfl rfl rfl rfl rfl (by kernel_rfl) Tryz.func3 closed
    (of_decide_eq_true (by kernel_rfl)) (by unfold Func.isWrapper; first | (rw [if_pos (by decide +kernel)]; kernel_rfl) | (rw [if_neg (by decide +kernel)]; exact ⟨rfl, rfl⟩))
    (fun os started H enc _ => by rw [OpenClaim.pre_eq_preRow]; exact leaving_of_handed (lifted os started H enc (fun _ _ _ => 0)))
set_option maxRecDepth 100000 in
theorem plain (f : FuncId) (fn : Func) (hf : Tryz.pinned.checked.prog.funcNamed "waybill/waybilllaw.QueuePlays" = some f) (hfn : Tryz.pinned.checked.prog.funcs[f]? = some fn) :
    true = Tryz.pinned.checked.prog.looks [] ∧ ∀ (j : Nat) t, fn.params[j]? = some t → Tryz.pinned.checked.prog.wantsStandIn t = false := by
  obtain rfl : f = 3 := Option.some.inj ((show Tryz.prog.funcNamed "waybill/waybilllaw.QueuePlays" = some 3 by kernel_rfl).symm.trans hf) |>.symm
  obtain rfl : fn = Tryz.f3 := (Option.some.inj (Tryz.func3.symm.trans hfn)).symm
  refine ⟨by kernel_rfl, fun j t ht => ?_⟩
  rw [Tryz.params3] at ht
  have hm : t ∈ [22] := by simpa using Array.mem_of_getElem? ht
  have hall : ([22].all fun u => !Tryz.prog.wantsStandIn u) = true := by kernel_rfl
  exact (show Tryz.prog.wantsStandIn t = false by simpa using List.all_eq_true.1 hall t hm)
set_option maxRecDepth 100000 in
/-- the card -/
theorem card : Rows.QueuePlaysCardSaid :=
  holds_tied_goes .later _ _ _ _ said (by kernel_rfl) queuePlays_row_tie rfl ⟨rfl, rfl⟩ (by kernel_rfl) rfl plain (by kernel_rfl)
end Go.Proofs.YtjhogocabcdjbaaGreatDoor.qplays
