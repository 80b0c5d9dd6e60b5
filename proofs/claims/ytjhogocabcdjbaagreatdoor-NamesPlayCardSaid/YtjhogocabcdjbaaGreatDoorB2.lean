import Derived.RangeFuncRecord
import Derived.RangeFuncCalls
import Derived.RangeFuncBound
import Derived.OrdersIn
import Derived.Lib.ItoaLen
import Derived.Lib.Join
import Derived.Lib.SplitLaws
import Derived.Lib.AtoiAll
import Derived.Lib.IndexLaws
import Derived.Lib.IndexBytes
import Derived.Lib.ItoaMem
import Derived.Laws.Strings3
import Derived.Laws.Slices
import Derived.Test.YtjhogocabcdjbaaGreatDoorB1
set_option linter.unusedSimpArgs false
set_option linter.unusedVariables false
/- queue: where a message goes. -/
namespace Go.Proofs.YtjhogocabcdjbaaGreatDoor
open Go Go.RowKit WB
theorem push1_e (w0 : World) (L : List HP) (a b : It) (ha : smallIt a) (hb : smallIt b) :
    KE Tryz.prog 66 #[.agg (itC a).toArray, .agg (itC b).toArray] w0 L (fun v L' => v = .int .i64 (cmpIt a b) ∧ L' = L) := by
  refine KE.mk (n := 14) Tryz.func66 rfl Tryz.ntmps66 (by simp) ?_
  intro w hw
  repeat ((with_reducible refine K.seq ?_))
  refine K.reg ?_
  refine KO.box rfl rfl (by exact rfl) rfl ?_; intro b2
  refine KO.box rfl rfl (by exact rfl) rfl ?_; intro b3
  refine KO.as rfl rfl ?_
  refine KO.nil ?_
  repeat (first | (with_reducible refine K.seq ?_) | (with_reducible refine KQ.next ?_))
  refine K.reg ?_
  refine KO.fo0 (off := 0) rfl Tryz.runUnderlying107 rfl rfl Tryz.sizeOf31 rfl ?_
  (refine KO.ldB rfl rfl Tryz.isAgg31 Tryz.sizeOf31 (by with_reducible (repeat (first | exact Pick.head | apply Pick.tail))) (by (try simp only [List.drop_zero, List.drop_succ_cons, List.take_succ_cons, List.take_zero]); (try exact rfl)) (by exact rfl) rfl ?_)
  refine KO.fo0 (off := 0) rfl Tryz.runUnderlying107 rfl rfl Tryz.sizeOf31 rfl ?_
  (refine KO.ldB rfl rfl Tryz.isAgg31 Tryz.sizeOf31 (by with_reducible (repeat (exact Pick.head))) (by (try simp only [List.drop_zero, List.drop_succ_cons, List.take_succ_cons, List.take_zero]); (try exact rfl)) (by exact rfl) rfl ?_)
  refine KO.fo0 (off := 5) rfl Tryz.runUnderlying107 rfl rfl Tryz.sizeOf3 rfl ?_
  refine KO.ld rfl rfl Tryz.isAgg3 (by with_reducible (repeat (first | exact Pick.head | apply Pick.tail))) (by exact rfl) rfl ?_
  refine KO.fo0 (off := 5) rfl Tryz.runUnderlying107 rfl rfl Tryz.sizeOf3 rfl ?_
  refine KO.ld rfl rfl Tryz.isAgg3 (by with_reducible (repeat (exact Pick.head))) (by exact rfl) rfl ?_
  refine KO.ce rfl rfl rfl Tryz.call67 rfl (cmp_e w _ a.m b.m a.line b.line ha.1 hb.1 ha.2 hb.2) ?_; rintro v L' ⟨rfl, rfl⟩
  refine KO.as rfl rfl ?_
  refine KO.nil ?_
  repeat (first | (with_reducible refine KQ.next ?_) | (with_reducible refine K.ret ?_))
  refine KQ.ret1 rfl rfl (fun w' hs => ⟨_, _, rfl, ⟨rfl, rfl⟩, hw.below_step hs.below, hs.below⟩)
theorem bsf_it (w0 : World) (L : List HP) (v : Value) (xs : List It) (x : It) (hr : ∀ w, St w0 L w → RdS w 8 itC v xs) (hlen : xs.length < 1000000) (hm : MonoIt xs x) (hx : smallIt x) (hxs : ∀ e ∈ xs, smallIt e) :
    KE Tryz.prog 65 #[v, .agg (itC x).toArray, .func (.func 66) #[] #[]] w0 L (fun v L' => ∃ k, SrchIt xs x k ∧ v = .tuple #[.int .i64 (k : Nat), .bool (hitIt xs x k)] ∧ L' = L) := by
  refine KE.mk (n := 49) Tryz.func65 rfl Tryz.ntmps65 (by simp) ?_
  intro w hw
  obtain ⟨sa, cap, rfl, hsa, hc⟩ := hr w hw
  repeat ((with_reducible refine K.seq ?_))
  refine K.reg ?_
  refine KO.box rfl rfl (by exact rfl) rfl ?_; intro b4
  refine KO.as rfl rfl ?_
  refine KO.as rfl rfl ?_
  refine KO.nil ?_
  repeat (first | (with_reducible refine K.seq ?_) | (with_reducible refine KQ.next ?_))
  refine K.reg ?_
  refine KO.mv rfl rfl ?_
  refine KO.len rfl Tryz.underlying23 rfl ?_
  refine KO.as rfl rfl ?_
  refine KO.nil ?_
  repeat (first | (with_reducible refine K.seq ?_) | (with_reducible refine KQ.next ?_))
  refine K.reg ?_
  refine KO.mv rfl rfl ?_
  refine KO.as rfl rfl ?_
  refine KO.as rfl rfl ?_
  refine KO.nil ?_
  repeat (first | (with_reducible refine K.seq ?_) | (with_reducible refine KQ.next ?_) | (with_reducible refine K.block ?_))
  refine K.loop (fun k : Nat × Nat => [(0, .slice sa xs.length cap), (2, .func (.func 66) #[] #[]), (4, .pointer (some ⟨b4, 0, none⟩)), (8, .int .i64 (xs.length : Nat)), (9, .int .i64 (k.1 : Nat)), (10, .int .i64 (k.2 : Nat))]) (fun _ => [blk b4 (.cells (itC x).toArray 107 (0, 0))])
    (fun k => k.1 ≤ k.2 ∧ k.2 ≤ xs.length ∧ (∀ (p : Nat) (a : It), p < k.1 → xs[p]? = some a → cmpIt a x < 0) ∧ (∀ (p : Nat) (a : It), k.2 ≤ p → xs[p]? = some a → 0 ≤ cmpIt a x)) (fun k => k.2 - k.1) (0, xs.length)
    ⟨Nat.zero_le _, Nat.le_refl _, fun p a h => absurd h (Nat.not_lt_zero _), fun p a h ha => by have := (List.getElem?_eq_some_iff.1 ha).1; omega⟩ ⟨rfl, rfl, rfl, rfl, rfl, rfl, trivial⟩ (fun _ h => h) ?_
  rintro ⟨p, q⟩ ⟨hpq, hq, h1, h2⟩
  dsimp only at hpq hq h1 h2 ⊢
  repeat ((with_reducible refine K.seq ?_))
  refine K.reg ?_
  refine KO.mv rfl rfl ?_
  refine KO.mv rfl rfl ?_
  refine KO.lss rfl rfl rfl ?_
  refine KO.nil ?_
  repeat ((with_reducible refine KQ.next ?_))
  refine K.condD rfl (fun h => ?_) (fun h => ?_)
  · obtain ⟨g, rfl⟩ := hsa (by omega)
    have hmid : ((p : Int) + (q : Int)) / 2 = (((p + q) / 2 : Nat) : Int) := by omega
    obtain ⟨e, he⟩ : ∃ e, xs[(p + q) / 2]? = some e := ⟨xs[(p + q) / 2], List.getElem?_eq_getElem (by omega)⟩
    repeat (first | (with_reducible refine K.seq ?_) | (with_reducible refine KQ.next ?_) | (with_reducible refine K.skip ?_) | (with_reducible refine K.block ?_))
    refine K.reg ?_
    refine KO.mv rfl rfl ?_
    refine KO.mv rfl rfl ?_
    refine KO.add rfl rfl rfl (by omega) rfl ?_
    refine KO.i2u rfl (by rw [Tryz.underlying3]; rfl) Tryz.underlying176 (by omega) rfl ?_
    refine KO.shr1 rfl rfl rfl rfl ?_
    refine KO.u2i rfl (by rw [Tryz.underlying176]; rfl) Tryz.underlying3 (by omega) rfl ?_
    refine KO.as rfl rfl ?_
    refine KO.nil ?_
    repeat (first | (with_reducible refine K.seq ?_) | (with_reducible refine KQ.next ?_))
    rw [hmid]
    refine K.draw [.pure, .pure, .pure, .pure, .read, .read, .write, .pure] [0, 1, 2, 3, 4, 5, 6, 7] (by kernel_rfl) (by kernel_rfl) ?_
    refine KO.mv rfl rfl ?_
    refine KO.mv rfl rfl ?_
    refine KO.mv rfl rfl ?_
    refine KO.idx0 rfl rfl Tryz.runUnderlying23 Tryz.sizeOf107 (by exact rfl) (by omega) rfl ?_
    refine KO.ldN0 (cs := (itC e).toArray) rfl rfl Tryz.isAgg107 Tryz.sizeOf107 rfl (hc g rfl _ e he) rfl ?_
    refine KO.ldB0 rfl rfl Tryz.isAgg107 Tryz.sizeOf107 (by with_reducible (repeat (exact Pick.head))) (by exact rfl) rfl ?_
    refine KO.ce rfl rfl rfl Tryz.call66 rfl (push1_e w _ e x (hxs e (List.mem_of_getElem? he)) hx) ?_; rintro v L' ⟨rfl, rfl⟩
    refine KO.lss rfl rfl rfl ?_
    refine KO.nil ?_
    repeat ((with_reducible refine KQ.next ?_))
    refine K.condD rfl (fun h3 => ?_) (fun h3 => ?_)
    · (skip)
      refine K.reg ?_
      refine KO.mv rfl rfl ?_
      refine KO.add rfl rfl rfl (by omega) rfl ?_
      refine KO.as rfl rfl ?_
      refine KO.nil ?_
      repeat ((with_reducible refine KQ.blk_normal ?_))
      refine KQ.round ((p + q) / 2 + 1, q) ⟨by dsimp only; omega, hq, fun r a hr ha => hm r _ a e (by omega) ha he h3, h2⟩ (by dsimp only; omega) ⟨rfl, rfl, rfl, rfl, rfl, rfl, trivial⟩ (fun _ h => h)
    · (skip)
      refine K.reg ?_
      refine KO.mv rfl rfl ?_
      refine KO.as rfl rfl ?_
      refine KO.nil ?_
      repeat ((with_reducible refine KQ.blk_normal ?_))
      refine KQ.round (p, (p + q) / 2) ⟨by dsimp only; omega, by dsimp only; omega, h1, fun r a hr ha => Int.not_lt.1 fun hl => h3 (hm _ r e a hr he ha hl)⟩ (by dsimp only; omega) ⟨rfl, rfl, rfl, rfl, rfl, rfl, trivial⟩ (fun _ h => h)
  · obtain rfl : p = q := by omega
    by_cases hlt : p < xs.length
    · obtain ⟨g, rfl⟩ := hsa (by omega)
      obtain ⟨e, he⟩ : ∃ e, xs[p]? = some e := ⟨xs[p], List.getElem?_eq_getElem (by omega)⟩
      repeat (first | (with_reducible refine K.seq ?_) | (with_reducible refine KQ.next ?_) | (with_reducible refine KQ.then_exit ?_) | (with_reducible refine KQ.blk_exit ?_) | (with_reducible refine K.exit ?_))
      refine K.draw [.pure, .pure, .pure, .pure, .pure, .pure, .pure, .pure, .pure, .read, .read, .write, .pure, .pure, .pure, .pure] [0, 1, 2, 3, 4, 5, 6, 7, 8, 9, 10, 11, 12, 13, 14, 15] (by kernel_rfl) (by kernel_rfl) ?_
      refine KO.mv rfl rfl ?_
      refine KO.mv rfl rfl ?_
      refine KO.mv rfl rfl ?_
      refine KO.lss rfl rfl rfl ?_
      refine KO.mv rfl rfl ?_
      (refine KO.on rfl rfl ?_ ?_; (focus (simp only [decide_eq_true_eq, decide_eq_false_iff_not, Bool.not_eq_true, Bool.not_true, Bool.not_false, ne_eq]; omega)); (refine KO.mv rfl rfl ?_))
      (refine KO.on rfl rfl ?_ ?_; (focus (simp only [decide_eq_true_eq, decide_eq_false_iff_not, Bool.not_eq_true, Bool.not_true, Bool.not_false, ne_eq]; omega)); (refine KO.mv rfl rfl ?_))
      (refine KO.on rfl rfl ?_ ?_; (focus (simp only [decide_eq_true_eq, decide_eq_false_iff_not, Bool.not_eq_true, Bool.not_true, Bool.not_false, ne_eq]; omega)); (refine KO.mv rfl rfl ?_))
      (refine KO.on rfl rfl ?_ ?_; (focus (simp only [decide_eq_true_eq, decide_eq_false_iff_not, Bool.not_eq_true, Bool.not_true, Bool.not_false, ne_eq]; omega)); (refine KO.idx0 rfl rfl Tryz.runUnderlying23 Tryz.sizeOf107 (by exact rfl) (by omega) rfl ?_))
      refine KO.on rfl rfl (by simp; omega) ?_; refine KO.ldN0 (cs := (itC e).toArray) rfl rfl Tryz.isAgg107 Tryz.sizeOf107 rfl (hc g rfl _ e he) rfl ?_
      (refine KO.on rfl rfl ?_ ?_; (focus (simp only [decide_eq_true_eq, decide_eq_false_iff_not, Bool.not_eq_true, Bool.not_true, Bool.not_false, ne_eq]; omega)); (refine KO.ldB0 rfl rfl Tryz.isAgg107 Tryz.sizeOf107 (by with_reducible (repeat (exact Pick.head))) (by exact rfl) rfl ?_))
      refine KO.on rfl rfl (by simp; omega) ?_; refine KO.ce rfl rfl rfl Tryz.call66 rfl (push1_e w _ e x (hxs e (List.mem_of_getElem? he)) hx) ?_; rintro v L' ⟨rfl, rfl⟩
      (refine KO.on rfl rfl ?_ ?_; (focus (simp only [decide_eq_true_eq, decide_eq_false_iff_not, Bool.not_eq_true, Bool.not_true, Bool.not_false, ne_eq]; omega)); (refine KO.eqI rfl rfl rfl ?_))
      (refine KO.pickT rfl ?_ rfl rfl ?_; (focus (simp only [decide_eq_true_eq, decide_eq_false_iff_not, Bool.not_eq_true, Bool.not_true, Bool.not_false, ne_eq]; omega)))
      refine KO.as rfl rfl ?_
      refine KO.as rfl rfl ?_
      refine KO.nil ?_
      repeat (first | (with_reducible refine KQ.next ?_) | (with_reducible refine K.ret ?_))
      refine KQ.ret2 rfl rfl rfl (fun w' hs => ⟨_, _, rfl, ⟨p, ⟨hq, h1, h2⟩, ?_, rfl⟩, hw.below_step hs.below, hs.below⟩)
      simp [hitIt, he]
    · repeat (first | (with_reducible refine K.seq ?_) | (with_reducible refine KQ.next ?_) | (with_reducible refine KQ.then_exit ?_) | (with_reducible refine KQ.blk_exit ?_) | (with_reducible refine K.exit ?_))
      refine K.draw [.pure, .pure, .pure, .pure, .pure, .pure, .pure, .pure, .pure, .read, .read, .write, .pure, .pure, .pure, .pure] [0, 1, 2, 3, 4, 5, 6, 7, 8, 9, 10, 11, 12, 13, 14, 15] (by kernel_rfl) (by kernel_rfl) ?_
      refine KO.mv rfl rfl ?_
      refine KO.mv rfl rfl ?_
      refine KO.mv rfl rfl ?_
      refine KO.lss rfl rfl rfl ?_
      refine KO.mv rfl rfl ?_
      (refine KO.no rfl rfl ?_ rfl ?_; (focus (simp only [decide_eq_true_eq, decide_eq_false_iff_not, Bool.not_eq_true, Bool.not_true, Bool.not_false, ne_eq]; omega)))
      (refine KO.no rfl rfl ?_ rfl ?_; (focus (simp only [decide_eq_true_eq, decide_eq_false_iff_not, Bool.not_eq_true, Bool.not_true, Bool.not_false, ne_eq]; omega)))
      (refine KO.no rfl rfl ?_ rfl ?_; (focus (simp only [decide_eq_true_eq, decide_eq_false_iff_not, Bool.not_eq_true, Bool.not_true, Bool.not_false, ne_eq]; omega)))
      (refine KO.no rfl rfl ?_ rfl ?_; (focus (simp only [decide_eq_true_eq, decide_eq_false_iff_not, Bool.not_eq_true, Bool.not_true, Bool.not_false, ne_eq]; omega)))
      (refine KO.no rfl rfl ?_ rfl ?_; (focus (simp only [decide_eq_true_eq, decide_eq_false_iff_not, Bool.not_eq_true, Bool.not_true, Bool.not_false, ne_eq]; omega)))
      (refine KO.no rfl rfl ?_ rfl ?_; (focus (simp only [decide_eq_true_eq, decide_eq_false_iff_not, Bool.not_eq_true, Bool.not_true, Bool.not_false, ne_eq]; omega)))
      (refine KO.no rfl rfl ?_ rfl ?_; (focus (simp only [decide_eq_true_eq, decide_eq_false_iff_not, Bool.not_eq_true, Bool.not_true, Bool.not_false, ne_eq]; omega)))
      (refine KO.no rfl rfl ?_ rfl ?_; (focus (simp only [decide_eq_true_eq, decide_eq_false_iff_not, Bool.not_eq_true, Bool.not_true, Bool.not_false, ne_eq]; omega)))
      (refine KO.pickF rfl ?_ rfl rfl ?_; (focus (simp only [decide_eq_true_eq, decide_eq_false_iff_not, Bool.not_eq_true, Bool.not_true, Bool.not_false, ne_eq]; omega)))
      refine KO.as rfl rfl ?_
      refine KO.as rfl rfl ?_
      refine KO.nil ?_
      repeat (first | (with_reducible refine KQ.next ?_) | (with_reducible refine K.ret ?_))
      refine KQ.ret2 rfl rfl rfl (fun w' hs => ⟨_, _, rfl, ⟨p, ⟨hq, h1, h2⟩, ?_, rfl⟩, hw.below_step hs.below, hs.below⟩)
      have : xs[p]? = none := List.getElem?_eq_none (by omega)
      simp [hitIt, this, hlt]
end Go.Proofs.YtjhogocabcdjbaaGreatDoor
/- queue: Push. -/
namespace Go.Proofs.YtjhogocabcdjbaaGreatDoor
open Go Go.RowKit WB
abbrev quB (b : Nat) (v : Value) (next : Int) : HP := blk b (.cells [v, .int .i64 next].toArray 25 (0, 0))
def quP (b : Nat) (q : Qu) : HP := ex fun v => sep (quB b v q.next) (itS v q.l)
theorem quP_open {w0 w : World} {b : Nat} {q : Qu} {L : List HP} (h : St w0 (quP b q :: L) w) : ∃ v, St w0 (quB b v q.next :: itS v q.l :: L) w := by
  obtain ⟨v, h⟩ := h.exs
  exact ⟨v, h.split⟩
theorem quP_mk {w0 w : World} {b : Nat} {l : List It} {next : Int} {v : Value} {L : List HP} (h : St w0 (quB b v next :: itS v l :: L) w) : St w0 (quP b ⟨l, next⟩ :: L) w := St.exi (F := fun v => sep (quB b v next) (itS v l)) v h.join
set_option maxRecDepth 100000 in
theorem push_c (w0 : World) (L : List HP) (b : Nat) (q : Qu) (m : Ms) (u : Int) (hq : QuOk q) (hm : small m.pri) :
    KC Tryz.prog 20 #[.pointer (some ⟨b, 0, none⟩), .agg (msC m).toArray, .int .i64 u] w0 (quP b q :: L) (fun v L' => v = .tuple #[] ∧ L' = quP b (qpush q m u) :: L) := by
  have hx : smallIt (qitem q m u) := ⟨hm, by have := hq.next; unfold qitem small; dsimp only; omega⟩
  have hk := srchIt_le q.l (qitem q m u)
  have h1 := hq.next
  have h2 := hq.len
  refine KC.mk (n := 44) Tryz.func20 rfl Tryz.ntmps20 (by simp) ?_
  repeat ((with_reducible refine K.seq ?_))
  refine K.open' (fun _ h => quP_open h) fun v => ?_
  refine K.reg ?_
  refine KO.box rfl rfl (by exact rfl) rfl ?_; intro b4
  refine KO.nil ?_
  repeat (first | (with_reducible refine K.seq ?_) | (with_reducible refine KQ.next ?_))
  refine K.draw [.read, .pure, .pure, .pure, .read, .pure, .pure, .pure, .keep, .write] [0, 1, 2, 3, 4, 5, 6, 7, 8, 9] (by kernel_rfl) (by kernel_rfl) ?_
  refine KO.ldB0 rfl rfl Tryz.isAgg31 Tryz.sizeOf31 (by with_reducible (repeat (exact Pick.head))) (by exact rfl) rfl ?_
  refine KO.mv rfl rfl ?_
  refine KO.nc rfl rfl ?_
  refine KO.fo0 (off := 1) rfl Tryz.runUnderlying25 rfl rfl Tryz.sizeOf3 rfl ?_
  refine KO.ld rfl rfl Tryz.isAgg3 (by with_reducible (repeat (first | exact Pick.head | apply Pick.tail))) (by exact rfl) rfl ?_
  refine KO.mv rfl rfl ?_
  refine KO.max2 rfl rfl rfl rfl ?_
  refine KO.bldS (pl := [(0, 5), (5, 1), (6, 1), (7, 1)]) (itC (qitem q m u)) rfl Tryz.zeroValue107 Tryz.runUnderlying107 (by intro w; simp [Tryz.sizeOf3, Tryz.sizeOf31]) rfl rfl ?_
  refine KO.alloc rfl Tryz.zeroValue107 (by exact rfl) rfl ?_; intro b6
  refine KO.sto0 rfl rfl rfl (by exact rfl) (by exact Tryz.sizeOf107) (by exact rfl) (by with_reducible (repeat (exact Pick.head))) (by exact rfl) ?_
  refine KO.nil ?_
  repeat (first | (with_reducible refine K.seq ?_) | (with_reducible refine KQ.next ?_))
  refine K.reg ?_
  refine KO.mv rfl rfl ?_
  refine KO.nc rfl rfl ?_
  refine KO.fo0 (off := 1) rfl Tryz.runUnderlying25 rfl rfl Tryz.sizeOf3 rfl ?_
  refine KO.ld rfl rfl Tryz.isAgg3 (by with_reducible (repeat (first | exact Pick.head | apply Pick.tail))) (by exact rfl) rfl ?_
  refine KO.add rfl rfl rfl (by omega) rfl ?_
  refine KO.nc rfl rfl ?_
  refine KO.fo0 (off := 1) rfl Tryz.runUnderlying25 rfl rfl Tryz.sizeOf3 rfl ?_
  (refine KO.sto rfl rfl rfl (by exact rfl) (by exact Tryz.sizeOf3) (by exact rfl) (by with_reducible (repeat (first | exact Pick.head | apply Pick.tail))) (by exact rfl) (by (try simp only [putL, List.drop_succ_cons, List.drop_zero, List.drop_nil, List.cons_append, List.nil_append, List.length_cons, List.length_nil, Nat.zero_add, Nat.reduceAdd]); (try exact rfl)) ?_)
  refine KO.nil ?_
  repeat (first | (with_reducible refine K.seq ?_) | (with_reducible refine KQ.next ?_))
  refine K.draw [.pure, .pure, .pure, .read, .read, .write, .pure, .pure, .pure, .pure, .pure] [0, 1, 2, 3, 4, 5, 6, 7, 8, 9, 10] (by kernel_rfl) (by kernel_rfl) ?_
  refine KO.mv rfl rfl ?_
  refine KO.nc rfl rfl ?_
  refine KO.fo0 (off := 0) rfl Tryz.runUnderlying25 rfl rfl Tryz.sizeOf23 rfl ?_
  refine KO.ld rfl rfl Tryz.isAgg23 (by with_reducible (repeat (exact Pick.head))) (by exact rfl) rfl ?_
  refine KO.ldB0 rfl rfl Tryz.isAgg107 Tryz.sizeOf107 (by with_reducible (repeat (first | exact Pick.head | apply Pick.tail))) (by exact rfl) rfl ?_
  refine KO.ce rfl rfl rfl Tryz.call65 rfl (bsf_it w0 _ v q.l (qitem q m u) (RdS.of (fun _ => rfl) (by with_reducible (repeat (first | exact Pick.head | apply Pick.tail)))) (by omega) (hq.mono m u) hx hq.small) ?_; rintro v30 L' ⟨k, hsr, rfl, rfl⟩; obtain rfl := srchIt_eq hsr
  refine KO.mv rfl rfl ?_
  refine KO.extrL rfl (by exact rfl) rfl ?_
  refine KO.extrL rfl (by exact rfl) rfl ?_
  refine KO.as rfl rfl ?_
  refine KO.as rfl rfl ?_
  refine KO.nil ?_
  repeat ((with_reducible refine KQ.next ?_))
  refine K.draw [.pure, .pure, .pure, .pure, .read, .pure, .read, .keep, .write, .pure, .pure, .write] [0, 1, 2, 3, 4, 5, 6, 7, 8, 9, 10, 11] (by kernel_rfl) (by kernel_rfl) ?_
  refine KO.mv rfl rfl ?_
  refine KO.mv rfl rfl ?_
  refine KO.nc rfl rfl ?_
  refine KO.fo0 (off := 0) rfl Tryz.runUnderlying25 rfl rfl Tryz.sizeOf23 rfl ?_
  refine KO.ld rfl rfl Tryz.isAgg23 (by with_reducible (repeat (exact Pick.head))) (by exact rfl) rfl ?_
  refine KO.mv rfl rfl ?_
  refine KO.ldB0 rfl rfl Tryz.isAgg107 Tryz.sizeOf107 (by with_reducible (repeat (first | exact Pick.head | apply Pick.tail))) (by exact rfl) rfl ?_
  refine KO.bs1 (z := (Value.agg #[.int .i64 0, .int .i64 0, .string ⟨#[]⟩, .string ⟨#[]⟩, .int .i64 0, .int .i64 0, .int .i64 0, .int .i64 0])) (sz := 8) (by' := 80) rfl rfl Tryz.underlying23 (by kernel_rfl) (by exact rfl) (by exact rfl) (by decide) (by decide) rfl ?_; intro b40
  refine KO.cl rfl rfl rfl Tryz.call68 rfl (KC.pk2 (by with_reducible (repeat (first | exact Pick.head | apply Pick.tail))) (by with_reducible (repeat (exact Pick.head))) (itIns_c w0 _ v q.l (qitem q m u) _ _ hk (by omega))) ?_; rintro v' L' rfl; refine KO.fact (fun _ hs => SL_form hs) ?_; rintro ⟨a', c', rfl, -⟩
  refine KO.nc rfl rfl ?_
  refine KO.fo0 (off := 0) rfl Tryz.runUnderlying25 rfl rfl Tryz.sizeOf23 rfl ?_
  (refine KO.sto rfl rfl rfl (by exact rfl) (by exact Tryz.sizeOf23) (by exact rfl) (by with_reducible (repeat (first | exact Pick.head | apply Pick.tail))) (by exact rfl) (by (try simp only [putL, List.drop_succ_cons, List.drop_zero, List.drop_nil, List.cons_append, List.nil_append, List.length_cons, List.length_nil, Nat.zero_add, Nat.reduceAdd]); (try exact rfl)) ?_)
  refine KO.nil ?_
  refine KQ.end0 rfl (fun w' hs => ⟨_, _, rfl, ⟨rfl, rfl⟩, ?_⟩)
  exact quP_mk ((hs.pick2 (by with_reducible (repeat (exact Pick.head))) (by with_reducible (repeat (exact Pick.head)))).gc2 (by with_reducible repeat (first | exact LSub.refl | apply LSub.drop)))
end Go.Proofs.YtjhogocabcdjbaaGreatDoor
/- queue: what is asked of it; Get, Take. -/
namespace Go.Proofs.YtjhogocabcdjbaaGreatDoor
open Go Go.RowKit WB
theorem many_e (w0 : World) (L R : List HP) (b : Nat) (q : Qu) (hp : Pick L (quP b q) R) :
    KE Tryz.prog 27 #[.pointer (some ⟨b, 0, none⟩)] w0 L (fun v L' => v = .int .i64 (q.l.length : Nat) ∧ L' = L) := by
  refine KE.mk (n := 8) Tryz.func27 rfl Tryz.ntmps27 (by simp) ?_
  intro w hw0
  obtain ⟨v, hw⟩ := quP_open (hw0.pick hp)
  obtain ⟨sa, cap, rfl, hsa⟩ := SL_form hw.drop
  repeat ((with_reducible refine K.seq ?_))
  refine K.reg ?_
  refine KO.as rfl rfl ?_
  refine KO.nil ?_
  repeat (first | (with_reducible refine K.seq ?_) | (with_reducible refine KQ.next ?_))
  refine K.reg ?_
  refine KO.mv rfl rfl ?_
  refine KO.nc rfl rfl ?_
  refine KO.fo0 (off := 0) rfl Tryz.runUnderlying25 rfl rfl Tryz.sizeOf23 rfl ?_
  refine KO.ldb hw rfl rfl Tryz.isAgg23 (by with_reducible (repeat (exact Pick.head))) (by exact rfl) rfl ?_
  refine KO.len rfl Tryz.underlying23 rfl ?_
  refine KO.as rfl rfl ?_
  refine KO.nil ?_
  repeat (first | (with_reducible refine KQ.next ?_) | (with_reducible refine K.ret ?_))
  refine KQ.ret1 rfl rfl (fun w' hs => ⟨_, _, rfl, ⟨rfl, rfl⟩, hw0.below_step hs.below, hs.below⟩)
theorem has1_e (w0 : World) (L R : List HP) (e : It) (b : Nat) (id : Int) (E : TypeId) (hp : Pick L (blk b (.cells [Value.int .i64 id].toArray E (0, 0))) R) :
    KE Tryz.prog 70 #[.agg (itC e).toArray, .pointer (some ⟨b, 0, none⟩)] w0 L (fun v L' => v = .bool (idB id e) ∧ L' = L) := by
  refine KE.mk (n := 9) Tryz.func70 rfl Tryz.ntmps70 (by simp) ?_
  intro w hw
  have hw := hw.pick hp
  repeat ((with_reducible refine K.seq ?_))
  refine K.reg ?_
  refine KO.box rfl rfl (by exact rfl) rfl ?_; intro b2
  refine KO.as rfl rfl ?_
  refine KO.nil ?_
  repeat (first | (with_reducible refine K.seq ?_) | (with_reducible refine KQ.next ?_))
  refine K.reg ?_
  refine KO.fo0 (off := 0) rfl Tryz.runUnderlying107 rfl rfl Tryz.sizeOf31 rfl ?_
  refine KO.fo0 (off := 0) rfl Tryz.runUnderlying31 rfl rfl Tryz.sizeOf3 rfl ?_
  refine KO.ld rfl rfl Tryz.isAgg3 (by with_reducible (repeat (exact Pick.head))) (by exact rfl) rfl ?_
  refine KO.ldb hw rfl rfl Tryz.isAgg3 (by with_reducible (repeat (exact Pick.head))) (by exact rfl) rfl ?_
  refine KO.eqI rfl rfl rfl ?_
  refine KO.as rfl rfl ?_
  refine KO.nil ?_
  repeat (first | (with_reducible refine KQ.next ?_) | (with_reducible refine K.ret ?_))
  refine KQ.ret1 rfl rfl (fun w' hs => ⟨_, _, rfl, ⟨rfl, rfl⟩, (hw.unpick hp).below_step hs.below, hs.below⟩)
theorem has_e (w0 : World) (L R : List HP) (b : Nat) (q : Qu) (id : Int) (hp : Pick L (quP b q) R) (hq : q.l.length < 900000) :
    KE Tryz.prog 28 #[.pointer (some ⟨b, 0, none⟩), .int .i64 id] w0 L (fun v L' => v = .bool (qhas q id) ∧ L' = L) := by
  refine KE.mk (n := 11) Tryz.func28 rfl Tryz.ntmps28 (by simp) ?_
  intro w hw0
  obtain ⟨v, hw⟩ := quP_open (hw0.pick hp)
  repeat ((with_reducible refine K.seq ?_))
  refine K.reg ?_
  refine KO.box rfl rfl (by exact rfl) rfl ?_; intro b3
  refine KO.as rfl rfl ?_
  refine KO.nil ?_
  repeat (first | (with_reducible refine K.seq ?_) | (with_reducible refine KQ.next ?_))
  refine K.reg ?_
  refine KO.mv rfl rfl ?_
  refine KO.nc rfl rfl ?_
  refine KO.fo0 (off := 0) rfl Tryz.runUnderlying25 rfl rfl Tryz.sizeOf23 rfl ?_
  refine KO.ldb hw rfl rfl Tryz.isAgg23 (by with_reducible (repeat (exact Pick.head))) (by exact rfl) rfl ?_
  refine KO.mkc rfl rfl rfl ?_
  refine KO.ce rfl rfl rfl Tryz.call69 rfl (conf_e w _ v q.l 70 [.pointer (some ⟨b3, 0, none⟩)] (idB id) (RdS.of (E := 107) (sz := 8) (cf := itC) (fun _ => rfl) Pick.head w hw.drop).base (by omega) Tryz.call70 (fun e _ => has1_e _ _ _ e b3 id _ (by with_reducible (repeat (exact Pick.head))))) ?_; rintro v L' ⟨rfl, rfl⟩
  refine KO.as rfl rfl ?_
  refine KO.nil ?_
  repeat (first | (with_reducible refine KQ.next ?_) | (with_reducible refine K.ret ?_))
  refine KQ.ret1 rfl rfl (fun w' hs => ⟨_, _, rfl, ⟨rfl, rfl⟩, hw0.below_step hs.below, hs.below⟩)
end Go.Proofs.YtjhogocabcdjbaaGreatDoor
/- queue: Get, Take. -/
namespace Go.Proofs.YtjhogocabcdjbaaGreatDoor
open Go Go.RowKit WB
theorem it_msC (e : It) : ((itC e).drop 0).take 5 = msC e.m := rfl
theorem take_c (w0 : World) (L : List HP) (b : Nat) (q : Qu) (id : Int) (hq : q.l.length < 900000) :
    KC Tryz.prog 16 #[.pointer (some ⟨b, 0, none⟩), .int .i64 id] w0 (quP b q :: L) (fun v L' => v = .tuple #[.agg (msC (qtakeM q id)).toArray, errV 39 (qtakeE q id)] ∧ L' = quP b (qtake q id) :: L) := by
  refine KC.mk (n := 38) Tryz.func16 rfl Tryz.ntmps16 (by simp) ?_
  repeat ((with_reducible refine K.seq ?_))
  refine K.open' (fun _ h => quP_open h) fun v => ?_
  refine K.reg ?_
  refine KO.box rfl rfl (by exact rfl) rfl ?_; intro b3
  refine KO.alloc rfl Tryz.zeroValue31 (by exact rfl) rfl ?_; intro b4
  refine KO.as rfl rfl ?_
  refine KO.nil ?_
  repeat (first | (with_reducible refine K.seq ?_) | (with_reducible refine KQ.next ?_))
  refine K.reg ?_
  refine KO.mv rfl rfl ?_
  refine KO.nc rfl rfl ?_
  refine KO.fo0 (off := 0) rfl Tryz.runUnderlying25 rfl rfl Tryz.sizeOf23 rfl ?_
  refine KO.ld rfl rfl Tryz.isAgg23 (by with_reducible (repeat (first | exact Pick.head | apply Pick.tail))) (by exact rfl) rfl ?_
  refine KO.mkc rfl rfl rfl ?_
  refine KO.ce rfl rfl rfl Tryz.call56 rfl (idxf_e w0 _ v q.l 59 [.pointer (some ⟨b3, 0, none⟩)] (idB id) (RdS.of (fun _ => rfl) (by with_reducible (repeat (first | exact Pick.head | apply Pick.tail)))) (by omega) Tryz.call59 (fun e _ => take1_e w0 _ _ e b3 id _ (by with_reducible (repeat (first | exact Pick.head | apply Pick.tail))))) ?_; rintro v12 L' ⟨rfl, rfl⟩
  refine KO.as rfl rfl ?_
  refine KO.nil ?_
  repeat (first | (with_reducible refine K.seq ?_) | (with_reducible refine KQ.next ?_))
  refine K.reg ?_
  refine KO.mv rfl rfl ?_
  refine KO.lss rfl rfl rfl ?_
  refine KO.nil ?_
  repeat ((with_reducible refine KQ.next ?_))
  refine K.condD rfl (fun h => ?_) (fun h => ?_)
  · have hn : qtakeI q id = none := fidx_neg h
    repeat ((with_reducible refine K.seq ?_))
    refine K.reg ?_
    refine KO.bldN (pl := [(0, 1), (1, 1), (2, 1), (3, 1), (4, 1)]) rfl Tryz.zeroValue31 Tryz.runUnderlying31 (by intro w; simp [Tryz.sizeOf3, Tryz.sizeOf9]) (by exact rfl) rfl ?_
    refine KO.mki rfl (by kernel_rfl) rfl ?_
    refine KO.sto0 rfl rfl rfl (by exact rfl) (by exact Tryz.sizeOf31) (by exact rfl) (by with_reducible (repeat (exact Pick.head))) (by exact rfl) ?_
    refine KO.as rfl rfl ?_
    refine KO.nil ?_
    repeat (first | (with_reducible refine KQ.next ?_) | (with_reducible refine KQ.then_ret ?_) | (with_reducible refine K.ret ?_))
    refine KQ.retCT rfl rfl Tryz.isAgg31 (by with_reducible (repeat (exact Pick.head))) (by exact Tryz.sizeOf31) rfl (fun w' hs => ⟨_, _, rfl, ⟨?_, rfl⟩, ?_⟩)
    · simp only [qtakeM, qtakeE, hn]; rfl
    · rw [show qtake q id = q by simp only [qtake, hn]]
      exact quP_mk ((hs.pick2 (by with_reducible (repeat (first | exact Pick.head | apply Pick.tail))) (by with_reducible (repeat (first | exact Pick.head | apply Pick.tail)))).gc2 (by with_reducible repeat (first | exact LSub.refl | apply LSub.drop)))
  · obtain ⟨i0, e0, hi0, he0, hp0, hlt0, hfi⟩ := fidx_nonneg (Int.not_lt.1 h)
    have hn : qtakeI q id = some i0 := hfi
    refine K.fact (fun w hw => SL_some (hw.pick (by with_reducible (repeat (first | exact Pick.head | apply Pick.tail)))) hlt0) ?_
    rintro ⟨g, cap, rfl⟩
    rw [hi0]
    repeat (first | (with_reducible refine K.seq ?_) | (with_reducible refine KQ.next ?_) | (with_reducible refine K.skip ?_))
    refine K.reg ?_
    refine KO.mv rfl rfl ?_
    refine KO.nc rfl rfl ?_
    refine KO.fo0 (off := 0) rfl Tryz.runUnderlying25 rfl rfl Tryz.sizeOf23 rfl ?_
    refine KO.ld rfl rfl Tryz.isAgg23 (by with_reducible (repeat (first | exact Pick.head | apply Pick.tail))) (by exact rfl) rfl ?_
    refine KO.mv rfl rfl ?_
    refine KO.idx0 rfl rfl Tryz.runUnderlying23 Tryz.sizeOf107 (by exact rfl) (by omega) rfl ?_
    refine KO.fo (off := 0) rfl Tryz.runUnderlying107 rfl rfl Tryz.sizeOf31 rfl ?_
    (refine KO.ldEP rfl rfl Tryz.isAgg31 Tryz.sizeOf31 (by with_reducible (repeat (first | exact Pick.head | apply Pick.tail))) (fun _ => rfl) (by assumption) (by (try simp only [List.drop_zero, List.drop_succ_cons, List.take_succ_cons, List.take_zero]); (try exact rfl)) (by exact rfl) rfl ?_)
    refine KO.alloc rfl Tryz.zeroValue31 (by exact rfl) rfl ?_; intro b7
    refine KO.sto0 rfl rfl rfl (by exact rfl) (by exact Tryz.sizeOf31) (by exact rfl) (by with_reducible (repeat (exact Pick.head))) (by exact rfl) ?_
    refine KO.nil ?_
    repeat (first | (with_reducible refine K.seq ?_) | (with_reducible refine KQ.next ?_))
    refine K.reg ?_
    refine KO.mv rfl rfl ?_
    refine KO.mv rfl rfl ?_
    refine KO.nc rfl rfl ?_
    refine KO.fo0 (off := 0) rfl Tryz.runUnderlying25 rfl rfl Tryz.sizeOf23 rfl ?_
    refine KO.ld rfl rfl Tryz.isAgg23 (by with_reducible (repeat (first | exact Pick.head | apply Pick.tail))) (by exact rfl) rfl ?_
    refine KO.mv rfl rfl ?_
    refine KO.mv rfl rfl ?_
    refine KO.add rfl rfl rfl (by omega) rfl ?_
    refine KO.cl rfl rfl rfl Tryz.call58 rfl (KC.pk1 (by with_reducible (repeat (first | exact Pick.head | apply Pick.tail))) (del_c w0 _ _ q.l i0 hlt0 (by omega))) ?_; rintro v' L' rfl; refine KO.fact (fun _ hs => SL_form hs) ?_; rintro ⟨a', c', rfl, -⟩
    refine KO.nc rfl rfl ?_
    refine KO.fo0 (off := 0) rfl Tryz.runUnderlying25 rfl rfl Tryz.sizeOf23 rfl ?_
    (refine KO.sto rfl rfl rfl (by exact rfl) (by exact Tryz.sizeOf23) (by exact rfl) (by with_reducible (repeat (first | exact Pick.head | apply Pick.tail))) (by exact rfl) (by (try simp only [putL, List.drop_succ_cons, List.drop_zero, List.drop_nil, List.cons_append, List.nil_append, List.length_cons, List.length_nil, Nat.zero_add, Nat.reduceAdd]); (try exact rfl)) ?_)
    refine KO.nil ?_
    repeat (first | (with_reducible refine K.seq ?_) | (with_reducible refine KQ.next ?_))
    refine K.reg ?_
    refine KO.ldB0 rfl rfl Tryz.isAgg31 Tryz.sizeOf31 (by with_reducible (repeat (first | exact Pick.head | apply Pick.tail))) (by exact rfl) rfl ?_
    refine KO.sto0 rfl rfl rfl (by exact rfl) (by exact Tryz.sizeOf31) (by exact rfl) (by with_reducible (repeat (first | exact Pick.head | apply Pick.tail))) (by exact rfl) ?_
    refine KO.as rfl rfl ?_
    refine KO.nil ?_
    repeat (first | (with_reducible refine KQ.next ?_) | (with_reducible refine K.ret ?_))
    refine KQ.retCT rfl rfl Tryz.isAgg31 (by with_reducible (repeat (exact Pick.head))) (by exact Tryz.sizeOf31) rfl (fun w' hs => ⟨_, _, rfl, ⟨?_, rfl⟩, ?_⟩)
    · simp only [qtakeM, qtakeE, hn, itAt_of he0]; rfl
    · rw [show qtake q id = ⟨q.l.eraseIdx i0, q.next⟩ by simp only [qtake, hn]]
      exact quP_mk ((hs.pick2 (by with_reducible (repeat (first | exact Pick.head | apply Pick.tail))) (by with_reducible (repeat (first | exact Pick.head | apply Pick.tail)))).gc2 (by with_reducible repeat (first | exact LSub.refl | apply LSub.drop)))
theorem get_c (w0 : World) (L : List HP) (b : Nat) (q : Qu) (u : Int) (hq : q.l.length < 900000) :
    KC Tryz.prog 14 #[.pointer (some ⟨b, 0, none⟩), .int .i64 u] w0 (quP b q :: L) (fun v L' => v = .tuple #[.agg (msC (qgetM q)).toArray, errV 39 (qgetE q)] ∧ L' = quP b (qget q u) :: L) := by
  refine KC.mk (n := 47) Tryz.func14 rfl Tryz.ntmps14 (by simp) ?_
  repeat ((with_reducible refine K.seq ?_))
  refine K.open' (fun _ h => quP_open h) fun v => ?_
  refine K.reg ?_
  refine KO.alloc rfl Tryz.zeroValue31 (by exact rfl) rfl ?_; intro b4
  refine KO.as rfl rfl ?_
  refine KO.nil ?_
  repeat (first | (with_reducible refine K.seq ?_) | (with_reducible refine KQ.next ?_))
  refine K.reg ?_
  refine KO.mv rfl rfl ?_
  refine KO.nc rfl rfl ?_
  refine KO.fo0 (off := 0) rfl Tryz.runUnderlying25 rfl rfl Tryz.sizeOf23 rfl ?_
  refine KO.ld rfl rfl Tryz.isAgg23 (by with_reducible (repeat (first | exact Pick.head | apply Pick.tail))) (by exact rfl) rfl ?_
  refine KO.ce (cp := []) rfl rfl rfl Tryz.call56 rfl (idxf_e w0 _ v q.l 57 [] availB (RdS.of (fun _ => rfl) (by with_reducible (repeat (first | exact Pick.head | apply Pick.tail)))) (by omega) Tryz.call57 (fun e _ => get1_e w0 _ e)) ?_; rintro v12 L' ⟨rfl, rfl⟩
  refine KO.as rfl rfl ?_
  refine KO.nil ?_
  repeat (first | (with_reducible refine K.seq ?_) | (with_reducible refine KQ.next ?_))
  refine K.reg ?_
  refine KO.mv rfl rfl ?_
  refine KO.lss rfl rfl rfl ?_
  refine KO.nil ?_
  repeat ((with_reducible refine KQ.next ?_))
  refine K.condD rfl (fun h => ?_) (fun h => ?_)
  · have hn : qgetI q = none := fidx_neg h
    repeat ((with_reducible refine K.seq ?_))
    refine K.reg ?_
    refine KO.bldN (pl := [(0, 1), (1, 1), (2, 1), (3, 1), (4, 1)]) rfl Tryz.zeroValue31 Tryz.runUnderlying31 (by intro w; simp [Tryz.sizeOf3, Tryz.sizeOf9]) (by exact rfl) rfl ?_
    refine KO.mki rfl (by kernel_rfl) rfl ?_
    refine KO.sto0 rfl rfl rfl (by exact rfl) (by exact Tryz.sizeOf31) (by exact rfl) (by with_reducible (repeat (exact Pick.head))) (by exact rfl) ?_
    refine KO.as rfl rfl ?_
    refine KO.nil ?_
    repeat (first | (with_reducible refine KQ.next ?_) | (with_reducible refine KQ.then_ret ?_) | (with_reducible refine K.ret ?_))
    refine KQ.retCT rfl rfl Tryz.isAgg31 (by with_reducible (repeat (exact Pick.head))) (by exact Tryz.sizeOf31) rfl (fun w' hs => ⟨_, _, rfl, ⟨?_, rfl⟩, ?_⟩)
    · simp only [qgetM, qgetE, hn]; rfl
    · rw [show qget q u = q by simp only [qget, hn]]
      exact quP_mk ((hs.pick2 (by with_reducible (repeat (first | exact Pick.head | apply Pick.tail))) (by with_reducible (repeat (first | exact Pick.head | apply Pick.tail)))).gc2 (by with_reducible repeat (first | exact LSub.refl | apply LSub.drop)))
  · obtain ⟨i0, e0, hi0, he0, hp0, hlt0, hfi⟩ := fidx_nonneg (Int.not_lt.1 h)
    have hn : qgetI q = some i0 := hfi
    refine K.fact (fun w hw => SL_some (hw.pick (by with_reducible (repeat (first | exact Pick.head | apply Pick.tail)))) hlt0) ?_
    rintro ⟨g, cap, rfl⟩
    rw [hi0]
    repeat (first | (with_reducible refine K.seq ?_) | (with_reducible refine KQ.next ?_) | (with_reducible refine K.skip ?_))
    refine K.reg ?_
    refine KO.mv rfl rfl ?_
    refine KO.nc rfl rfl ?_
    refine KO.fo0 (off := 0) rfl Tryz.runUnderlying25 rfl rfl Tryz.sizeOf23 rfl ?_
    refine KO.ld rfl rfl Tryz.isAgg23 (by with_reducible (repeat (first | exact Pick.head | apply Pick.tail))) (by exact rfl) rfl ?_
    refine KO.mv rfl rfl ?_
    refine KO.idx0 rfl rfl Tryz.runUnderlying23 Tryz.sizeOf107 (by exact rfl) (by omega) rfl ?_
    refine KO.fo (off := 0) rfl Tryz.runUnderlying107 rfl rfl Tryz.sizeOf31 rfl ?_
    (refine KO.ldEP rfl rfl Tryz.isAgg31 Tryz.sizeOf31 (by with_reducible (repeat (first | exact Pick.head | apply Pick.tail))) (fun _ => rfl) (by assumption) (by (try simp only [List.drop_zero, List.drop_succ_cons, List.take_succ_cons, List.take_zero]); (try exact rfl)) (by exact rfl) rfl ?_)
    refine KO.alloc rfl Tryz.zeroValue31 (by exact rfl) rfl ?_; intro b7
    refine KO.sto0 rfl rfl rfl (by exact rfl) (by exact Tryz.sizeOf31) (by exact rfl) (by with_reducible (repeat (exact Pick.head))) (by exact rfl) ?_
    refine KO.nil ?_
    repeat (first | (with_reducible refine K.seq ?_) | (with_reducible refine KQ.next ?_))
    refine K.reg ?_
    refine KO.mv rfl rfl ?_
    refine KO.lss rfl rfl rfl ?_
    refine KO.nil ?_
    repeat ((with_reducible refine KQ.next ?_))
    refine K.condD rfl (fun h2 => ?_) (fun h2 => ?_)
    · (skip)
      refine K.reg ?_
      refine KO.mv rfl rfl ?_
      refine KO.mv rfl rfl ?_
      refine KO.nc rfl rfl ?_
      refine KO.fo0 (off := 0) rfl Tryz.runUnderlying25 rfl rfl Tryz.sizeOf23 rfl ?_
      refine KO.ld rfl rfl Tryz.isAgg23 (by with_reducible (repeat (first | exact Pick.head | apply Pick.tail))) (by exact rfl) rfl ?_
      refine KO.mv rfl rfl ?_
      refine KO.mv rfl rfl ?_
      refine KO.add rfl rfl rfl (by omega) rfl ?_
      refine KO.cl rfl rfl rfl Tryz.call58 rfl (KC.pk1 (by with_reducible (repeat (first | exact Pick.head | apply Pick.tail))) (del_c w0 _ _ q.l i0 hlt0 (by omega))) ?_; rintro v' L' rfl; refine KO.fact (fun _ hs => SL_form hs) ?_; rintro ⟨a', c', rfl, -⟩
      refine KO.nc rfl rfl ?_
      refine KO.fo0 (off := 0) rfl Tryz.runUnderlying25 rfl rfl Tryz.sizeOf23 rfl ?_
      (refine KO.sto rfl rfl rfl (by exact rfl) (by exact Tryz.sizeOf23) (by exact rfl) (by with_reducible (repeat (first | exact Pick.head | apply Pick.tail))) (by exact rfl) (by (try simp only [putL, List.drop_succ_cons, List.drop_zero, List.drop_nil, List.cons_append, List.nil_append, List.length_cons, List.length_nil, Nat.zero_add, Nat.reduceAdd]); (try exact rfl)) ?_)
      refine KO.nil ?_
      repeat (first | (with_reducible refine K.seq ?_) | (with_reducible refine KQ.next ?_))
      refine K.reg ?_
      refine KO.ldB0 rfl rfl Tryz.isAgg31 Tryz.sizeOf31 (by with_reducible (repeat (first | exact Pick.head | apply Pick.tail))) (by exact rfl) rfl ?_
      refine KO.sto0 rfl rfl rfl (by exact rfl) (by exact Tryz.sizeOf31) (by exact rfl) (by with_reducible (repeat (first | exact Pick.head | apply Pick.tail))) (by exact rfl) ?_
      refine KO.as rfl rfl ?_
      refine KO.nil ?_
      repeat (first | (with_reducible refine KQ.next ?_) | (with_reducible refine K.ret ?_))
      refine KQ.retCT rfl rfl Tryz.isAgg31 (by with_reducible (repeat (exact Pick.head))) (by exact Tryz.sizeOf31) rfl (fun w' hs => ⟨_, _, rfl, ⟨?_, rfl⟩, ?_⟩)
      · simp only [qgetM, qgetE, hn, itAt_of he0]; rfl
      · rw [show qget q u = ⟨q.l.eraseIdx i0, q.next⟩ by simp only [qget, hn, h2, if_true]]
        exact quP_mk ((hs.pick2 (by with_reducible (repeat (first | exact Pick.head | apply Pick.tail))) (by with_reducible (repeat (first | exact Pick.head | apply Pick.tail)))).gc2 (by with_reducible repeat (first | exact LSub.refl | apply LSub.drop)))
    · (skip)
      refine K.reg ?_
      refine KO.mv rfl rfl ?_
      refine KO.nc rfl rfl ?_
      refine KO.fo0 (off := 0) rfl Tryz.runUnderlying25 rfl rfl Tryz.sizeOf23 rfl ?_
      refine KO.ld rfl rfl Tryz.isAgg23 (by with_reducible (repeat (first | exact Pick.head | apply Pick.tail))) (by exact rfl) rfl ?_
      refine KO.mv rfl rfl ?_
      refine KO.mv rfl rfl ?_
      refine KO.idx0 rfl rfl Tryz.runUnderlying23 Tryz.sizeOf107 (by exact rfl) (by omega) rfl ?_
      refine KO.fo (off := 7) rfl Tryz.runUnderlying107 rfl rfl Tryz.sizeOf3 rfl ?_
      refine KO.stE rfl rfl rfl (by exact rfl) (by exact Tryz.sizeOf3) (by exact rfl) (by with_reducible (repeat (first | exact Pick.head | apply Pick.tail))) (fun _ => rfl) he0 rfl { e0 with got := u } rfl ?_
      refine KO.nil ?_
      repeat (first | (with_reducible refine K.seq ?_) | (with_reducible refine KQ.next ?_))
      refine K.reg ?_
      refine KO.ldB0 rfl rfl Tryz.isAgg31 Tryz.sizeOf31 (by with_reducible (repeat (first | exact Pick.head | apply Pick.tail))) (by exact rfl) rfl ?_
      refine KO.sto0 rfl rfl rfl (by exact rfl) (by exact Tryz.sizeOf31) (by exact rfl) (by with_reducible (repeat (first | exact Pick.head | apply Pick.tail))) (by exact rfl) ?_
      refine KO.as rfl rfl ?_
      refine KO.nil ?_
      repeat (first | (with_reducible refine KQ.next ?_) | (with_reducible refine K.ret ?_))
      refine KQ.retCT rfl rfl Tryz.isAgg31 (by with_reducible (repeat (exact Pick.head))) (by exact Tryz.sizeOf31) rfl (fun w' hs => ⟨_, _, rfl, ⟨?_, rfl⟩, ?_⟩)
      · simp only [qgetM, qgetE, hn, itAt_of he0]; rfl
      · rw [show qget q u = ⟨q.l.set i0 { e0 with got := u }, q.next⟩ by simp only [qget, hn, h2, if_false, itAt_of he0]]
        exact quP_mk ((hs.pick2 (by with_reducible (repeat (first | exact Pick.head | apply Pick.tail))) (by with_reducible (repeat (first | exact Pick.head | apply Pick.tail)))).gc2 (by with_reducible repeat (first | exact LSub.refl | apply LSub.drop)))
end Go.Proofs.YtjhogocabcdjbaaGreatDoor
/- queue: There, Kept. -/
namespace Go.Proofs.YtjhogocabcdjbaaGreatDoor
open Go Go.RowKit WB
abbrev msS (v : Value) (xs : List Ms) : HP := SL 31 5 msC v xs
theorem ms_info : (Tryz.prog.info? 31).map (fun i => (i.zero, i.size, i.bytes)) = some (some (Value.agg #[.int .i64 0, .int .i64 0, .string ⟨#[]⟩, .string ⟨#[]⟩, .int .i64 0]), 5, 56) := by kernel_rfl
theorem itC_drop (e : It) : List.take 5 (List.drop 0 (itC e)) = msC e.m := rfl
theorem there_e (w0 : World) (L R : List HP) (b : Nat) (q : Qu) (hp : Pick L (quP b q) R) (hq : q.l.length < 900000) :
    KE Tryz.prog 23 #[.pointer (some ⟨b, 0, none⟩)] w0 L (fun v L' => L' = msS v (qthere q) :: L) := by
  refine KE.mk (n := 30) Tryz.func23 rfl Tryz.ntmps23 (by simp) ?_
  intro w hw0
  obtain ⟨v, hw⟩ := quP_open (hw0.pick hp)
  obtain ⟨sa, cap, rfl, hsa, hc⟩ := RdS.of (E := 107) (sz := 8) (cf := itC) (fun _ => rfl) Pick.head w hw.drop
  repeat ((with_reducible refine K.seq ?_))
  refine K.reg ?_
  refine KO.as rfl rfl ?_
  refine KO.nil ?_
  repeat (first | (with_reducible refine K.seq ?_) | (with_reducible refine KQ.next ?_))
  refine K.reg ?_
  refine KO.as rfl rfl ?_
  refine KO.nil ?_
  repeat (first | (with_reducible refine K.seq ?_) | (with_reducible refine KQ.next ?_))
  refine K.reg ?_
  refine KO.mv rfl rfl ?_
  refine KO.nc rfl rfl ?_
  refine KO.fo0 (off := 0) rfl Tryz.runUnderlying25 rfl rfl Tryz.sizeOf23 rfl ?_
  refine KO.ldb hw rfl rfl Tryz.isAgg23 (by with_reducible (repeat (exact Pick.head))) (by exact rfl) rfl ?_
  refine KO.len rfl Tryz.underlying23 rfl ?_
  refine KO.mv rfl rfl ?_
  refine KO.nil ?_
  repeat (first | (with_reducible refine KQ.next ?_) | (with_reducible refine K.block ?_))
  refine K.loop (fun k : Nat × Value => [(3, k.2), (9, .slice sa q.l.length cap), (10, .int .i64 (q.l.length : Nat)), (11, .int .i64 (k.1 : Nat))]) (fun k => [msS k.2 (((q.l.take k.1).filter availB).map (·.m))]) (fun k => k.1 ≤ q.l.length) (fun k => q.l.length - k.1) (0, .slice none 0 0)
    (Nat.zero_le _) ⟨rfl, rfl, rfl, rfl, trivial⟩ (fun _ h => SL_nil h) ?_
  rintro ⟨k, vo⟩ hk
  dsimp only at hk ⊢
  repeat ((with_reducible refine K.seq ?_))
  refine K.reg ?_
  refine KO.lss rfl rfl rfl ?_
  refine KO.nil ?_
  repeat (first | (with_reducible refine K.seq ?_) | (with_reducible refine KQ.next ?_))
  refine K.condD rfl (fun h => ?_) (fun h => ?_)
  · obtain ⟨g, rfl⟩ := hsa (by omega)
    obtain ⟨e, he⟩ : ∃ e, q.l[k]? = some e := ⟨q.l[k], List.getElem?_eq_getElem (by omega)⟩
    have hlen : (((q.l.take k).filter availB).map (·.m)).length < 900000 := by
      have := List.length_filter_le availB (q.l.take k); simp at this ⊢; omega
    have hstep : ((q.l.take (k + 1)).filter availB).map (·.m) = ((q.l.take k).filter availB).map (·.m) ++ (if availB e = true then [e.m] else []) := by
      rw [take_succ_some he, List.filter_append]
      by_cases ha : availB e = true <;> simp [ha]
    repeat (first | (with_reducible refine K.seq ?_) | (with_reducible refine KQ.next ?_) | (with_reducible refine K.skip ?_) | (with_reducible refine K.block ?_))
    refine K.reg ?_
    refine KO.idx0 rfl rfl Tryz.runUnderlying23 Tryz.sizeOf107 (by exact rfl) (by omega) rfl ?_
    refine KO.ldN0 (cs := (itC e).toArray) rfl rfl Tryz.isAgg107 Tryz.sizeOf107 rfl (hc g rfl k e he) rfl ?_
    refine KO.alloc rfl Tryz.zeroValue107 (by exact rfl) rfl ?_; intro b5
    refine KO.sto0 rfl rfl rfl (by exact rfl) (by exact Tryz.sizeOf107) (by exact rfl) (by with_reducible (repeat (exact Pick.head))) (by exact rfl) ?_
    refine KO.nil ?_
    repeat (first | (with_reducible refine K.seq ?_) | (with_reducible refine KQ.next ?_))
    by_cases h1 : e.put < 0
    · refine K.reg ?_
      refine KO.fo0 (off := 6) rfl Tryz.runUnderlying107 rfl rfl Tryz.sizeOf3 rfl ?_
      refine KO.ld rfl rfl Tryz.isAgg3 (by with_reducible (repeat (exact Pick.head))) (by exact rfl) rfl ?_
      refine KO.lss rfl rfl rfl ?_
      refine KO.mv rfl rfl ?_
      (refine KO.on rfl rfl ?_ ?_; (focus (simp only [decide_eq_true_eq, decide_eq_false_iff_not, Bool.not_eq_true, Bool.not_true, Bool.not_false, ne_eq]; omega)); (refine KO.fo0 (off := 7) rfl Tryz.runUnderlying107 rfl rfl Tryz.sizeOf3 rfl ?_))
      (refine KO.on rfl rfl ?_ ?_; (focus (simp only [decide_eq_true_eq, decide_eq_false_iff_not, Bool.not_eq_true, Bool.not_true, Bool.not_false, ne_eq]; omega)); (refine KO.ld rfl rfl Tryz.isAgg3 (by with_reducible (repeat (exact Pick.head))) (by exact rfl) rfl ?_))
      (refine KO.on rfl rfl ?_ ?_; (focus (simp only [decide_eq_true_eq, decide_eq_false_iff_not, Bool.not_eq_true, Bool.not_true, Bool.not_false, ne_eq]; omega)); (refine KO.lss rfl rfl rfl ?_))
      (refine KO.pickT rfl ?_ rfl rfl ?_; (focus (simp only [decide_eq_true_eq, decide_eq_false_iff_not, Bool.not_eq_true, Bool.not_true, Bool.not_false, ne_eq]; omega)))
      refine KO.nil ?_
      repeat ((with_reducible refine KQ.next ?_))
      refine K.condD rfl (fun h2 => ?_) (fun h2 => ?_)
      · rw [if_pos (by simp [availB, h1, h2])] at hstep
        refine K.reg ?_
        refine KO.mv rfl rfl ?_
        refine KO.fo0 (off := 0) rfl Tryz.runUnderlying107 rfl rfl Tryz.sizeOf31 rfl ?_
        (refine KO.ldB rfl rfl Tryz.isAgg31 Tryz.sizeOf31 (by with_reducible (repeat (exact Pick.head))) (by (try simp only [List.drop_zero, List.drop_succ_cons, List.take_succ_cons, List.take_zero]); (try exact rfl)) (by exact rfl) rfl ?_)
        refine KO.bs1 (z := (Value.agg #[.int .i64 0, .int .i64 0, .string ⟨#[]⟩, .string ⟨#[]⟩, .int .i64 0])) (sz := 5) (by' := 56) rfl rfl Tryz.underlying50 (by kernel_rfl) (by exact rfl) (by exact rfl) (by decide) (by decide) rfl ?_; intro b26
        refine KO.app (z := Value.agg #[.int .i64 0, .int .i64 0, .string ⟨#[]⟩, .string ⟨#[]⟩, .int .i64 0]) (sz := 5) (by' := 56) rfl rfl rfl (by with_reducible (repeat (first | exact Pick.head | apply Pick.tail))) (by with_reducible (repeat (exact Pick.head))) Tryz.underlying50 ms_info rfl e.m (by exact rfl) (by exact rfl) (by exact rfl) (by omega) (by decide) rfl ?_; intro v'
        refine KO.as rfl rfl ?_
        refine KO.nil ?_
        repeat (first | (with_reducible refine KQ.next ?_) | (with_reducible refine KQ.blk_normal ?_))
        refine K.reg ?_
        refine KO.add rfl rfl rfl (by omega) rfl ?_
        refine KO.mv rfl rfl ?_
        refine KO.nil ?_
        refine KQ.round (k + 1, v') (by dsimp only; omega) (by dsimp only; omega) ⟨rfl, rfl, rfl, rfl, trivial⟩ (fun _ h => ?_)
        dsimp only
        rw [hstep]
        exact (h.pick (by with_reducible (repeat (exact Pick.head)))).gc1 (by with_reducible repeat (first | exact LSub.refl | apply LSub.drop))
      · rw [if_neg (by simp [availB, h2]), List.append_nil] at hstep
        repeat (first | (with_reducible refine KQ.next ?_) | (with_reducible refine KQ.blk_normal ?_) | (with_reducible refine K.skip ?_))
        refine K.reg ?_
        refine KO.add rfl rfl rfl (by omega) rfl ?_
        refine KO.mv rfl rfl ?_
        refine KO.nil ?_
        refine KQ.round (k + 1, vo) (by dsimp only; omega) (by dsimp only; omega) ⟨rfl, rfl, rfl, rfl, trivial⟩ (fun _ h => ?_)
        dsimp only
        rw [hstep]
        exact (h.pick (by with_reducible (repeat (first | exact Pick.head | apply Pick.tail)))).gc1 (by with_reducible repeat (first | exact LSub.refl | apply LSub.drop))
    · rw [if_neg (by simp [availB, h1]), List.append_nil] at hstep
      refine K.reg ?_
      refine KO.fo0 (off := 6) rfl Tryz.runUnderlying107 rfl rfl Tryz.sizeOf3 rfl ?_
      refine KO.ld rfl rfl Tryz.isAgg3 (by with_reducible (repeat (exact Pick.head))) (by exact rfl) rfl ?_
      refine KO.lss rfl rfl rfl ?_
      refine KO.mv rfl rfl ?_
      (refine KO.no rfl rfl ?_ rfl ?_; (focus (simp only [decide_eq_true_eq, decide_eq_false_iff_not, Bool.not_eq_true, Bool.not_true, Bool.not_false, ne_eq]; omega)))
      (refine KO.no rfl rfl ?_ rfl ?_; (focus (simp only [decide_eq_true_eq, decide_eq_false_iff_not, Bool.not_eq_true, Bool.not_true, Bool.not_false, ne_eq]; omega)))
      (refine KO.no rfl rfl ?_ rfl ?_; (focus (simp only [decide_eq_true_eq, decide_eq_false_iff_not, Bool.not_eq_true, Bool.not_true, Bool.not_false, ne_eq]; omega)))
      (refine KO.pickF rfl ?_ rfl rfl ?_; (focus (simp only [decide_eq_true_eq, decide_eq_false_iff_not, Bool.not_eq_true, Bool.not_true, Bool.not_false, ne_eq]; omega)))
      refine KO.nil ?_
      repeat ((with_reducible refine KQ.next ?_))
      refine K.condF rfl rfl ?_
      repeat (first | (with_reducible refine KQ.next ?_) | (with_reducible refine KQ.blk_normal ?_) | (with_reducible refine K.skip ?_))
      refine K.reg ?_
      refine KO.add rfl rfl rfl (by omega) rfl ?_
      refine KO.mv rfl rfl ?_
      refine KO.nil ?_
      refine KQ.round (k + 1, vo) (by dsimp only; omega) (by dsimp only; omega) ⟨rfl, rfl, rfl, rfl, trivial⟩ (fun _ h => ?_)
      dsimp only
      rw [hstep]
      exact (h.pick (by with_reducible (repeat (first | exact Pick.head | apply Pick.tail)))).gc1 (by with_reducible repeat (first | exact LSub.refl | apply LSub.drop))
  · have hkl : k = q.l.length := by omega
    repeat (first | (with_reducible refine K.seq ?_) | (with_reducible refine KQ.next ?_) | (with_reducible refine KQ.then_exit ?_) | (with_reducible refine KQ.blk_exit ?_) | (with_reducible refine K.exit ?_))
    refine K.reg ?_
    refine KO.mv rfl rfl ?_
    refine KO.as rfl rfl ?_
    refine KO.nil ?_
    repeat (first | (with_reducible refine KQ.next ?_) | (with_reducible refine K.ret ?_))
    refine KQ.ret1 rfl rfl (fun w' hs => ⟨_, _, rfl, rfl, ?_, hs.below⟩)
    rw [hkl, List.take_length] at hs
    exact hw0.stack hs
theorem kept_e (w0 : World) (L R : List HP) (b : Nat) (q : Qu) (hp : Pick L (quP b q) R) (hq : q.l.length < 900000) :
    KE Tryz.prog 25 #[.pointer (some ⟨b, 0, none⟩)] w0 L (fun v L' => L' = msS v (qkept q) :: L) := by
  refine KE.mk (n := 25) Tryz.func25 rfl Tryz.ntmps25 (by simp) ?_
  intro w hw0
  obtain ⟨v, hw⟩ := quP_open (hw0.pick hp)
  obtain ⟨sa, cap, rfl, hsa, hc⟩ := RdS.of (E := 107) (sz := 8) (cf := itC) (fun _ => rfl) Pick.head w hw.drop
  repeat ((with_reducible refine K.seq ?_))
  refine K.reg ?_
  refine KO.as rfl rfl ?_
  refine KO.nil ?_
  repeat (first | (with_reducible refine K.seq ?_) | (with_reducible refine KQ.next ?_))
  refine K.reg ?_
  refine KO.as rfl rfl ?_
  refine KO.nil ?_
  repeat (first | (with_reducible refine K.seq ?_) | (with_reducible refine KQ.next ?_))
  refine K.reg ?_
  refine KO.mv rfl rfl ?_
  refine KO.nc rfl rfl ?_
  refine KO.fo0 (off := 0) rfl Tryz.runUnderlying25 rfl rfl Tryz.sizeOf23 rfl ?_
  refine KO.ldb hw rfl rfl Tryz.isAgg23 (by with_reducible (repeat (exact Pick.head))) (by exact rfl) rfl ?_
  refine KO.len rfl Tryz.underlying23 rfl ?_
  refine KO.mv rfl rfl ?_
  refine KO.nil ?_
  repeat (first | (with_reducible refine KQ.next ?_) | (with_reducible refine K.block ?_))
  refine K.loop (fun k : Nat × Value => [(3, k.2), (9, .slice sa q.l.length cap), (10, .int .i64 (q.l.length : Nat)), (11, .int .i64 (k.1 : Nat))]) (fun k => [msS k.2 (((q.l.take k.1).filter fun e => decide (e.put < 0)).map (·.m))]) (fun k => k.1 ≤ q.l.length) (fun k => q.l.length - k.1) (0, .slice none 0 0)
    (Nat.zero_le _) ⟨rfl, rfl, rfl, rfl, trivial⟩ (fun _ h => SL_nil h) ?_
  rintro ⟨k, vo⟩ hk
  dsimp only at hk ⊢
  repeat ((with_reducible refine K.seq ?_))
  refine K.reg ?_
  refine KO.lss rfl rfl rfl ?_
  refine KO.nil ?_
  repeat (first | (with_reducible refine K.seq ?_) | (with_reducible refine KQ.next ?_))
  refine K.condD rfl (fun h => ?_) (fun h => ?_)
  · obtain ⟨g, rfl⟩ := hsa (by omega)
    obtain ⟨e, he⟩ : ∃ e, q.l[k]? = some e := ⟨q.l[k], List.getElem?_eq_getElem (by omega)⟩
    have hlen : (((q.l.take k).filter fun e => decide (e.put < 0)).map (·.m)).length < 900000 := by
      have := List.length_filter_le (fun e : It => decide (e.put < 0)) (q.l.take k); simp at this ⊢; omega
    have hstep : ((q.l.take (k + 1)).filter fun e => decide (e.put < 0)).map (·.m) = ((q.l.take k).filter fun e => decide (e.put < 0)).map (·.m) ++ (if e.put < 0 then [e.m] else []) := by
      rw [take_succ_some he, List.filter_append]
      by_cases ha : e.put < 0 <;> simp [ha]
    repeat (first | (with_reducible refine K.seq ?_) | (with_reducible refine KQ.next ?_) | (with_reducible refine K.skip ?_) | (with_reducible refine K.block ?_))
    refine K.reg ?_
    refine KO.idx0 rfl rfl Tryz.runUnderlying23 Tryz.sizeOf107 (by exact rfl) (by omega) rfl ?_
    refine KO.ldN0 (cs := (itC e).toArray) rfl rfl Tryz.isAgg107 Tryz.sizeOf107 rfl (hc g rfl k e he) rfl ?_
    refine KO.alloc rfl Tryz.zeroValue107 (by exact rfl) rfl ?_; intro b5
    refine KO.sto0 rfl rfl rfl (by exact rfl) (by exact Tryz.sizeOf107) (by exact rfl) (by with_reducible (repeat (exact Pick.head))) (by exact rfl) ?_
    refine KO.nil ?_
    repeat (first | (with_reducible refine K.seq ?_) | (with_reducible refine KQ.next ?_))
    refine K.reg ?_
    refine KO.fo0 (off := 6) rfl Tryz.runUnderlying107 rfl rfl Tryz.sizeOf3 rfl ?_
    refine KO.ld rfl rfl Tryz.isAgg3 (by with_reducible (repeat (exact Pick.head))) (by exact rfl) rfl ?_
    refine KO.lss rfl rfl rfl ?_
    refine KO.nil ?_
    repeat ((with_reducible refine KQ.next ?_))
    refine K.condD rfl (fun h2 => ?_) (fun h2 => ?_)
    · rw [if_pos h2] at hstep
      refine K.reg ?_
      refine KO.mv rfl rfl ?_
      refine KO.fo0 (off := 0) rfl Tryz.runUnderlying107 rfl rfl Tryz.sizeOf31 rfl ?_
      (refine KO.ldB rfl rfl Tryz.isAgg31 Tryz.sizeOf31 (by with_reducible (repeat (exact Pick.head))) (by (try simp only [List.drop_zero, List.drop_succ_cons, List.take_succ_cons, List.take_zero]); (try exact rfl)) (by exact rfl) rfl ?_)
      refine KO.bs1 (z := (Value.agg #[.int .i64 0, .int .i64 0, .string ⟨#[]⟩, .string ⟨#[]⟩, .int .i64 0])) (sz := 5) (by' := 56) rfl rfl Tryz.underlying50 (by kernel_rfl) (by exact rfl) (by exact rfl) (by decide) (by decide) rfl ?_; intro b21
      refine KO.app (z := Value.agg #[.int .i64 0, .int .i64 0, .string ⟨#[]⟩, .string ⟨#[]⟩, .int .i64 0]) (sz := 5) (by' := 56) rfl rfl rfl (by with_reducible (repeat (first | exact Pick.head | apply Pick.tail))) (by with_reducible (repeat (exact Pick.head))) Tryz.underlying50 ms_info rfl e.m (by exact rfl) (by exact rfl) (by exact rfl) (by omega) (by decide) rfl ?_; intro v'
      refine KO.as rfl rfl ?_
      refine KO.nil ?_
      repeat (first | (with_reducible refine KQ.next ?_) | (with_reducible refine KQ.blk_normal ?_))
      refine K.reg ?_
      refine KO.add rfl rfl rfl (by omega) rfl ?_
      refine KO.mv rfl rfl ?_
      refine KO.nil ?_
      refine KQ.round (k + 1, v') (by dsimp only; omega) (by dsimp only; omega) ⟨rfl, rfl, rfl, rfl, trivial⟩ (fun _ h => ?_)
      dsimp only
      rw [hstep]
      exact (h.pick (by with_reducible (repeat (exact Pick.head)))).gc1 (by with_reducible repeat (first | exact LSub.refl | apply LSub.drop))
    · rw [if_neg h2, List.append_nil] at hstep
      repeat (first | (with_reducible refine KQ.next ?_) | (with_reducible refine KQ.blk_normal ?_) | (with_reducible refine K.skip ?_))
      refine K.reg ?_
      refine KO.add rfl rfl rfl (by omega) rfl ?_
      refine KO.mv rfl rfl ?_
      refine KO.nil ?_
      refine KQ.round (k + 1, vo) (by dsimp only; omega) (by dsimp only; omega) ⟨rfl, rfl, rfl, rfl, trivial⟩ (fun _ h => ?_)
      dsimp only
      rw [hstep]
      exact (h.pick (by with_reducible (repeat (first | exact Pick.head | apply Pick.tail)))).gc1 (by with_reducible repeat (first | exact LSub.refl | apply LSub.drop))
  · have hkl : k = q.l.length := by omega
    repeat (first | (with_reducible refine K.seq ?_) | (with_reducible refine KQ.next ?_) | (with_reducible refine KQ.then_exit ?_) | (with_reducible refine KQ.blk_exit ?_) | (with_reducible refine K.exit ?_))
    refine K.reg ?_
    refine KO.mv rfl rfl ?_
    refine KO.as rfl rfl ?_
    refine KO.nil ?_
    repeat (first | (with_reducible refine KQ.next ?_) | (with_reducible refine K.ret ?_))
    refine KQ.ret1 rfl rfl (fun w' hs => ⟨_, _, rfl, rfl, ?_, hs.below⟩)
    rw [hkl, List.take_length] at hs
    exact hw0.stack hs
end Go.Proofs.YtjhogocabcdjbaaGreatDoor
/- queue: Ends. -/
namespace Go.Proofs.YtjhogocabcdjbaaGreatDoor
open Go Go.RowKit WB
theorem ends1_e (w0 : World) (L R1 R2 : List HP) (e : It) (b1 b2 : Nat) (u : Int) (back : Bool) (E1 E2 : TypeId) (hp1 : Pick L (blk b1 (.cells [Value.int .i64 u].toArray E1 (0, 0))) R1) (hp2 : Pick L (blk b2 (.cells [Value.bool back].toArray E2 (0, 0))) R2) :
    KE Tryz.prog 61 #[.agg (itC e).toArray, .pointer (some ⟨b1, 0, none⟩), .pointer (some ⟨b2, 0, none⟩)] w0 L (fun v L' => v = .bool (endB u back e) ∧ L' = L) := by
  refine KE.mk (n := 22) Tryz.func61 rfl Tryz.ntmps61 (by simp) ?_
  intro w hw0
  have c1 : w.cell? ⟨b1, 0, none⟩ = some (.int .i64 u) := by rw [World.cell?, (hw0.lookP hp1).2]; rfl
  have c2 : w.cell? ⟨b2, 0, none⟩ = some (.bool back) := by rw [World.cell?, (hw0.lookP hp2).2]; rfl
  repeat ((with_reducible refine K.seq ?_))
  refine K.reg ?_
  refine KO.box rfl rfl (by exact rfl) rfl ?_; intro b3
  refine KO.as rfl rfl ?_
  refine KO.nil ?_
  repeat (first | (with_reducible refine K.seq ?_) | (with_reducible refine KQ.next ?_))
  by_cases h1 : e.put = u
  all_goals cases back
  all_goals by_cases h2 : e.got = u
  · refine K.reg ?_
    refine KO.fo0 (off := 6) rfl Tryz.runUnderlying107 rfl rfl Tryz.sizeOf3 rfl ?_
    refine KO.ld rfl rfl Tryz.isAgg3 (by with_reducible (repeat (exact Pick.head))) (by exact rfl) rfl ?_
    refine KO.ld0 rfl rfl Tryz.isAgg3 c1 rfl ?_
    refine KO.eqI rfl rfl rfl ?_
    refine KO.mv rfl rfl ?_
    refine KO.on rfl rfl (by simp [h1]) ?_; refine KO.ld0 rfl rfl Tryz.isAgg4 c2 rfl ?_
    (refine KO.pickT rfl ?_ rfl rfl ?_; (focus (simp only [decide_eq_true_eq, decide_eq_false_iff_not, Bool.not_eq_true, Bool.not_true, Bool.not_false, ne_eq]; omega)))
    refine KO.mv rfl rfl ?_
    (refine KO.on rfl rfl ?_ ?_; (focus rfl); (refine KO.fo0 (off := 7) rfl Tryz.runUnderlying107 rfl rfl Tryz.sizeOf3 rfl ?_))
    (refine KO.on rfl rfl ?_ ?_; (focus rfl); (refine KO.ld rfl rfl Tryz.isAgg3 (by with_reducible (repeat (exact Pick.head))) (by exact rfl) rfl ?_))
    refine KO.on rfl rfl rfl ?_; refine KO.ld0 rfl rfl Tryz.isAgg3 c1 rfl ?_
    (refine KO.on rfl rfl ?_ ?_; (focus rfl); (refine KO.eqI rfl rfl rfl ?_))
    (refine KO.on rfl rfl ?_ ?_; (focus rfl); (refine KO.mv rfl rfl ?_))
    refine KO.on rfl rfl (by simp [h2]) ?_; refine KO.ld0 rfl rfl Tryz.isAgg4 c2 rfl ?_
    (refine KO.on rfl rfl ?_ ?_; (focus (simp only [decide_eq_true_eq, decide_eq_false_iff_not, Bool.not_eq_true, Bool.not_true, Bool.not_false, ne_eq]; omega)); (refine KO.not rfl rfl ?_))
    (refine KO.on rfl rfl ?_ ?_; (focus rfl); ((refine KO.pickT rfl ?_ rfl rfl ?_; (focus (simp only [decide_eq_true_eq, decide_eq_false_iff_not, Bool.not_eq_true, Bool.not_true, Bool.not_false, ne_eq]; omega)))))
    (refine KO.pickF rfl ?_ rfl rfl ?_; (focus rfl))
    refine KO.as rfl rfl ?_
    refine KO.nil ?_
    repeat (first | (with_reducible refine KQ.next ?_) | (with_reducible refine K.ret ?_))
    refine KQ.ret1 rfl rfl (fun w' hs => ⟨_, _, rfl, ⟨?_, rfl⟩, hw0.below_step hs.below, hs.below⟩)
    simp [endB, h1, h2]
  · refine K.reg ?_
    refine KO.fo0 (off := 6) rfl Tryz.runUnderlying107 rfl rfl Tryz.sizeOf3 rfl ?_
    refine KO.ld rfl rfl Tryz.isAgg3 (by with_reducible (repeat (exact Pick.head))) (by exact rfl) rfl ?_
    refine KO.ld0 rfl rfl Tryz.isAgg3 c1 rfl ?_
    refine KO.eqI rfl rfl rfl ?_
    refine KO.mv rfl rfl ?_
    refine KO.on rfl rfl (by simp [h1]) ?_; refine KO.ld0 rfl rfl Tryz.isAgg4 c2 rfl ?_
    (refine KO.pickT rfl ?_ rfl rfl ?_; (focus (simp only [decide_eq_true_eq, decide_eq_false_iff_not, Bool.not_eq_true, Bool.not_true, Bool.not_false, ne_eq]; omega)))
    refine KO.mv rfl rfl ?_
    (refine KO.on rfl rfl ?_ ?_; (focus rfl); (refine KO.fo0 (off := 7) rfl Tryz.runUnderlying107 rfl rfl Tryz.sizeOf3 rfl ?_))
    (refine KO.on rfl rfl ?_ ?_; (focus rfl); (refine KO.ld rfl rfl Tryz.isAgg3 (by with_reducible (repeat (exact Pick.head))) (by exact rfl) rfl ?_))
    refine KO.on rfl rfl rfl ?_; refine KO.ld0 rfl rfl Tryz.isAgg3 c1 rfl ?_
    (refine KO.on rfl rfl ?_ ?_; (focus rfl); (refine KO.eqI rfl rfl rfl ?_))
    (refine KO.on rfl rfl ?_ ?_; (focus rfl); (refine KO.mv rfl rfl ?_))
    (refine KO.no rfl rfl ?_ rfl ?_; (focus (simp only [decide_eq_true_eq, decide_eq_false_iff_not, Bool.not_eq_true, Bool.not_true, Bool.not_false, ne_eq]; omega)))
    (refine KO.no rfl rfl ?_ rfl ?_; (focus (simp only [decide_eq_true_eq, decide_eq_false_iff_not, Bool.not_eq_true, Bool.not_true, Bool.not_false, ne_eq]; omega)))
    (refine KO.on rfl rfl ?_ ?_; (focus rfl); ((refine KO.pickF rfl ?_ rfl rfl ?_; (focus (simp only [decide_eq_true_eq, decide_eq_false_iff_not, Bool.not_eq_true, Bool.not_true, Bool.not_false, ne_eq]; omega)))))
    (refine KO.pickF rfl ?_ rfl rfl ?_; (focus rfl))
    refine KO.as rfl rfl ?_
    refine KO.nil ?_
    repeat (first | (with_reducible refine KQ.next ?_) | (with_reducible refine K.ret ?_))
    refine KQ.ret1 rfl rfl (fun w' hs => ⟨_, _, rfl, ⟨?_, rfl⟩, hw0.below_step hs.below, hs.below⟩)
    simp [endB, h1, h2]
  · refine K.reg ?_
    refine KO.fo0 (off := 6) rfl Tryz.runUnderlying107 rfl rfl Tryz.sizeOf3 rfl ?_
    refine KO.ld rfl rfl Tryz.isAgg3 (by with_reducible (repeat (exact Pick.head))) (by exact rfl) rfl ?_
    refine KO.ld0 rfl rfl Tryz.isAgg3 c1 rfl ?_
    refine KO.eqI rfl rfl rfl ?_
    refine KO.mv rfl rfl ?_
    refine KO.on rfl rfl (by simp [h1]) ?_; refine KO.ld0 rfl rfl Tryz.isAgg4 c2 rfl ?_
    (refine KO.pickT rfl ?_ rfl rfl ?_; (focus (simp only [decide_eq_true_eq, decide_eq_false_iff_not, Bool.not_eq_true, Bool.not_true, Bool.not_false, ne_eq]; omega)))
    refine KO.mv rfl rfl ?_
    (refine KO.no rfl rfl ?_ rfl ?_; (focus rfl))
    (refine KO.no rfl rfl ?_ rfl ?_; (focus rfl))
    (refine KO.no rfl rfl ?_ rfl ?_; (focus rfl))
    (refine KO.no rfl rfl ?_ rfl ?_; (focus rfl))
    (refine KO.no rfl rfl ?_ rfl ?_; (focus rfl))
    refine KO.no2 rfl rfl rfl ?_
    refine KO.no2 rfl rfl rfl ?_
    (refine KO.no rfl rfl ?_ rfl ?_; (focus rfl))
    (refine KO.pickT rfl ?_ rfl rfl ?_; (focus rfl))
    refine KO.as rfl rfl ?_
    refine KO.nil ?_
    repeat (first | (with_reducible refine KQ.next ?_) | (with_reducible refine K.ret ?_))
    refine KQ.ret1 rfl rfl (fun w' hs => ⟨_, _, rfl, ⟨?_, rfl⟩, hw0.below_step hs.below, hs.below⟩)
    simp [endB, h1]
  · refine K.reg ?_
    refine KO.fo0 (off := 6) rfl Tryz.runUnderlying107 rfl rfl Tryz.sizeOf3 rfl ?_
    refine KO.ld rfl rfl Tryz.isAgg3 (by with_reducible (repeat (exact Pick.head))) (by exact rfl) rfl ?_
    refine KO.ld0 rfl rfl Tryz.isAgg3 c1 rfl ?_
    refine KO.eqI rfl rfl rfl ?_
    refine KO.mv rfl rfl ?_
    refine KO.on rfl rfl (by simp [h1]) ?_; refine KO.ld0 rfl rfl Tryz.isAgg4 c2 rfl ?_
    (refine KO.pickT rfl ?_ rfl rfl ?_; (focus (simp only [decide_eq_true_eq, decide_eq_false_iff_not, Bool.not_eq_true, Bool.not_true, Bool.not_false, ne_eq]; omega)))
    refine KO.mv rfl rfl ?_
    (refine KO.no rfl rfl ?_ rfl ?_; (focus rfl))
    (refine KO.no rfl rfl ?_ rfl ?_; (focus rfl))
    (refine KO.no rfl rfl ?_ rfl ?_; (focus rfl))
    (refine KO.no rfl rfl ?_ rfl ?_; (focus rfl))
    (refine KO.no rfl rfl ?_ rfl ?_; (focus rfl))
    refine KO.no2 rfl rfl rfl ?_
    refine KO.no2 rfl rfl rfl ?_
    (refine KO.no rfl rfl ?_ rfl ?_; (focus rfl))
    (refine KO.pickT rfl ?_ rfl rfl ?_; (focus rfl))
    refine KO.as rfl rfl ?_
    refine KO.nil ?_
    repeat (first | (with_reducible refine KQ.next ?_) | (with_reducible refine K.ret ?_))
    refine KQ.ret1 rfl rfl (fun w' hs => ⟨_, _, rfl, ⟨?_, rfl⟩, hw0.below_step hs.below, hs.below⟩)
    simp [endB, h1]
  · refine K.reg ?_
    refine KO.fo0 (off := 6) rfl Tryz.runUnderlying107 rfl rfl Tryz.sizeOf3 rfl ?_
    refine KO.ld rfl rfl Tryz.isAgg3 (by with_reducible (repeat (exact Pick.head))) (by exact rfl) rfl ?_
    refine KO.ld0 rfl rfl Tryz.isAgg3 c1 rfl ?_
    refine KO.eqI rfl rfl rfl ?_
    refine KO.mv rfl rfl ?_
    (refine KO.no rfl rfl ?_ rfl ?_; (focus (simp only [decide_eq_true_eq, decide_eq_false_iff_not, Bool.not_eq_true, Bool.not_true, Bool.not_false, ne_eq]; omega)))
    (refine KO.pickF rfl ?_ rfl rfl ?_; (focus (simp only [decide_eq_true_eq, decide_eq_false_iff_not, Bool.not_eq_true, Bool.not_true, Bool.not_false, ne_eq]; omega)))
    refine KO.mv rfl rfl ?_
    (refine KO.on rfl rfl ?_ ?_; (focus rfl); (refine KO.fo0 (off := 7) rfl Tryz.runUnderlying107 rfl rfl Tryz.sizeOf3 rfl ?_))
    (refine KO.on rfl rfl ?_ ?_; (focus rfl); (refine KO.ld rfl rfl Tryz.isAgg3 (by with_reducible (repeat (exact Pick.head))) (by exact rfl) rfl ?_))
    refine KO.on rfl rfl rfl ?_; refine KO.ld0 rfl rfl Tryz.isAgg3 c1 rfl ?_
    (refine KO.on rfl rfl ?_ ?_; (focus rfl); (refine KO.eqI rfl rfl rfl ?_))
    (refine KO.on rfl rfl ?_ ?_; (focus rfl); (refine KO.mv rfl rfl ?_))
    refine KO.on rfl rfl (by simp [h2]) ?_; refine KO.ld0 rfl rfl Tryz.isAgg4 c2 rfl ?_
    (refine KO.on rfl rfl ?_ ?_; (focus (simp only [decide_eq_true_eq, decide_eq_false_iff_not, Bool.not_eq_true, Bool.not_true, Bool.not_false, ne_eq]; omega)); (refine KO.not rfl rfl ?_))
    (refine KO.on rfl rfl ?_ ?_; (focus rfl); ((refine KO.pickT rfl ?_ rfl rfl ?_; (focus (simp only [decide_eq_true_eq, decide_eq_false_iff_not, Bool.not_eq_true, Bool.not_true, Bool.not_false, ne_eq]; omega)))))
    (refine KO.pickF rfl ?_ rfl rfl ?_; (focus rfl))
    refine KO.as rfl rfl ?_
    refine KO.nil ?_
    repeat (first | (with_reducible refine KQ.next ?_) | (with_reducible refine K.ret ?_))
    refine KQ.ret1 rfl rfl (fun w' hs => ⟨_, _, rfl, ⟨?_, rfl⟩, hw0.below_step hs.below, hs.below⟩)
    simp [endB, h1, h2]
  · refine K.reg ?_
    refine KO.fo0 (off := 6) rfl Tryz.runUnderlying107 rfl rfl Tryz.sizeOf3 rfl ?_
    refine KO.ld rfl rfl Tryz.isAgg3 (by with_reducible (repeat (exact Pick.head))) (by exact rfl) rfl ?_
    refine KO.ld0 rfl rfl Tryz.isAgg3 c1 rfl ?_
    refine KO.eqI rfl rfl rfl ?_
    refine KO.mv rfl rfl ?_
    (refine KO.no rfl rfl ?_ rfl ?_; (focus (simp only [decide_eq_true_eq, decide_eq_false_iff_not, Bool.not_eq_true, Bool.not_true, Bool.not_false, ne_eq]; omega)))
    (refine KO.pickF rfl ?_ rfl rfl ?_; (focus (simp only [decide_eq_true_eq, decide_eq_false_iff_not, Bool.not_eq_true, Bool.not_true, Bool.not_false, ne_eq]; omega)))
    refine KO.mv rfl rfl ?_
    (refine KO.on rfl rfl ?_ ?_; (focus rfl); (refine KO.fo0 (off := 7) rfl Tryz.runUnderlying107 rfl rfl Tryz.sizeOf3 rfl ?_))
    (refine KO.on rfl rfl ?_ ?_; (focus rfl); (refine KO.ld rfl rfl Tryz.isAgg3 (by with_reducible (repeat (exact Pick.head))) (by exact rfl) rfl ?_))
    refine KO.on rfl rfl rfl ?_; refine KO.ld0 rfl rfl Tryz.isAgg3 c1 rfl ?_
    (refine KO.on rfl rfl ?_ ?_; (focus rfl); (refine KO.eqI rfl rfl rfl ?_))
    (refine KO.on rfl rfl ?_ ?_; (focus rfl); (refine KO.mv rfl rfl ?_))
    (refine KO.no rfl rfl ?_ rfl ?_; (focus (simp only [decide_eq_true_eq, decide_eq_false_iff_not, Bool.not_eq_true, Bool.not_true, Bool.not_false, ne_eq]; omega)))
    (refine KO.no rfl rfl ?_ rfl ?_; (focus (simp only [decide_eq_true_eq, decide_eq_false_iff_not, Bool.not_eq_true, Bool.not_true, Bool.not_false, ne_eq]; omega)))
    (refine KO.on rfl rfl ?_ ?_; (focus rfl); ((refine KO.pickF rfl ?_ rfl rfl ?_; (focus (simp only [decide_eq_true_eq, decide_eq_false_iff_not, Bool.not_eq_true, Bool.not_true, Bool.not_false, ne_eq]; omega)))))
    (refine KO.pickF rfl ?_ rfl rfl ?_; (focus rfl))
    refine KO.as rfl rfl ?_
    refine KO.nil ?_
    repeat (first | (with_reducible refine KQ.next ?_) | (with_reducible refine K.ret ?_))
    refine KQ.ret1 rfl rfl (fun w' hs => ⟨_, _, rfl, ⟨?_, rfl⟩, hw0.below_step hs.below, hs.below⟩)
    simp [endB, h1, h2]
  · refine K.reg ?_
    refine KO.fo0 (off := 6) rfl Tryz.runUnderlying107 rfl rfl Tryz.sizeOf3 rfl ?_
    refine KO.ld rfl rfl Tryz.isAgg3 (by with_reducible (repeat (exact Pick.head))) (by exact rfl) rfl ?_
    refine KO.ld0 rfl rfl Tryz.isAgg3 c1 rfl ?_
    refine KO.eqI rfl rfl rfl ?_
    refine KO.mv rfl rfl ?_
    (refine KO.no rfl rfl ?_ rfl ?_; (focus (simp only [decide_eq_true_eq, decide_eq_false_iff_not, Bool.not_eq_true, Bool.not_true, Bool.not_false, ne_eq]; omega)))
    (refine KO.pickF rfl ?_ rfl rfl ?_; (focus (simp only [decide_eq_true_eq, decide_eq_false_iff_not, Bool.not_eq_true, Bool.not_true, Bool.not_false, ne_eq]; omega)))
    refine KO.mv rfl rfl ?_
    (refine KO.on rfl rfl ?_ ?_; (focus rfl); (refine KO.fo0 (off := 7) rfl Tryz.runUnderlying107 rfl rfl Tryz.sizeOf3 rfl ?_))
    (refine KO.on rfl rfl ?_ ?_; (focus rfl); (refine KO.ld rfl rfl Tryz.isAgg3 (by with_reducible (repeat (exact Pick.head))) (by exact rfl) rfl ?_))
    refine KO.on rfl rfl rfl ?_; refine KO.ld0 rfl rfl Tryz.isAgg3 c1 rfl ?_
    (refine KO.on rfl rfl ?_ ?_; (focus rfl); (refine KO.eqI rfl rfl rfl ?_))
    (refine KO.on rfl rfl ?_ ?_; (focus rfl); (refine KO.mv rfl rfl ?_))
    refine KO.on rfl rfl (by simp [h2]) ?_; refine KO.ld0 rfl rfl Tryz.isAgg4 c2 rfl ?_
    (refine KO.on rfl rfl ?_ ?_; (focus (simp only [decide_eq_true_eq, decide_eq_false_iff_not, Bool.not_eq_true, Bool.not_true, Bool.not_false, ne_eq]; omega)); (refine KO.not rfl rfl ?_))
    (refine KO.on rfl rfl ?_ ?_; (focus rfl); ((refine KO.pickT rfl ?_ rfl rfl ?_; (focus (simp only [decide_eq_true_eq, decide_eq_false_iff_not, Bool.not_eq_true, Bool.not_true, Bool.not_false, ne_eq]; omega)))))
    (refine KO.pickF rfl ?_ rfl rfl ?_; (focus rfl))
    refine KO.as rfl rfl ?_
    refine KO.nil ?_
    repeat (first | (with_reducible refine KQ.next ?_) | (with_reducible refine K.ret ?_))
    refine KQ.ret1 rfl rfl (fun w' hs => ⟨_, _, rfl, ⟨?_, rfl⟩, hw0.below_step hs.below, hs.below⟩)
    simp [endB, h1, h2]
  · refine K.reg ?_
    refine KO.fo0 (off := 6) rfl Tryz.runUnderlying107 rfl rfl Tryz.sizeOf3 rfl ?_
    refine KO.ld rfl rfl Tryz.isAgg3 (by with_reducible (repeat (exact Pick.head))) (by exact rfl) rfl ?_
    refine KO.ld0 rfl rfl Tryz.isAgg3 c1 rfl ?_
    refine KO.eqI rfl rfl rfl ?_
    refine KO.mv rfl rfl ?_
    (refine KO.no rfl rfl ?_ rfl ?_; (focus (simp only [decide_eq_true_eq, decide_eq_false_iff_not, Bool.not_eq_true, Bool.not_true, Bool.not_false, ne_eq]; omega)))
    (refine KO.pickF rfl ?_ rfl rfl ?_; (focus (simp only [decide_eq_true_eq, decide_eq_false_iff_not, Bool.not_eq_true, Bool.not_true, Bool.not_false, ne_eq]; omega)))
    refine KO.mv rfl rfl ?_
    (refine KO.on rfl rfl ?_ ?_; (focus rfl); (refine KO.fo0 (off := 7) rfl Tryz.runUnderlying107 rfl rfl Tryz.sizeOf3 rfl ?_))
    (refine KO.on rfl rfl ?_ ?_; (focus rfl); (refine KO.ld rfl rfl Tryz.isAgg3 (by with_reducible (repeat (exact Pick.head))) (by exact rfl) rfl ?_))
    refine KO.on rfl rfl rfl ?_; refine KO.ld0 rfl rfl Tryz.isAgg3 c1 rfl ?_
    (refine KO.on rfl rfl ?_ ?_; (focus rfl); (refine KO.eqI rfl rfl rfl ?_))
    (refine KO.on rfl rfl ?_ ?_; (focus rfl); (refine KO.mv rfl rfl ?_))
    (refine KO.no rfl rfl ?_ rfl ?_; (focus (simp only [decide_eq_true_eq, decide_eq_false_iff_not, Bool.not_eq_true, Bool.not_true, Bool.not_false, ne_eq]; omega)))
    (refine KO.no rfl rfl ?_ rfl ?_; (focus (simp only [decide_eq_true_eq, decide_eq_false_iff_not, Bool.not_eq_true, Bool.not_true, Bool.not_false, ne_eq]; omega)))
    (refine KO.on rfl rfl ?_ ?_; (focus rfl); ((refine KO.pickF rfl ?_ rfl rfl ?_; (focus (simp only [decide_eq_true_eq, decide_eq_false_iff_not, Bool.not_eq_true, Bool.not_true, Bool.not_false, ne_eq]; omega)))))
    (refine KO.pickF rfl ?_ rfl rfl ?_; (focus rfl))
    refine KO.as rfl rfl ?_
    refine KO.nil ?_
    repeat (first | (with_reducible refine KQ.next ?_) | (with_reducible refine K.ret ?_))
    refine KQ.ret1 rfl rfl (fun w' hs => ⟨_, _, rfl, ⟨?_, rfl⟩, hw0.below_step hs.below, hs.below⟩)
    simp [endB, h1, h2]
def ysAt (u : Int) (l : List It) (k : Nat) : List It := (l.take k).map (freeIt u) ++ l.drop k
theorem ysAt_len (u : Int) (l : List It) (k : Nat) : (ysAt u l k).length = l.length := by simp [ysAt]; omega
theorem ysAt_get {u : Int} {l : List It} {k : Nat} {e : It} (he : l[k]? = some e) : (ysAt u l k)[k]? = some e := by
  have hk := (List.getElem?_eq_some_iff.1 he).1
  unfold ysAt
  rw [List.getElem?_append_right (by simp; omega)]
  simp [show k - min k l.length = 0 by omega, he]
theorem ysAt_step {u : Int} {l : List It} {k : Nat} {e : It} (he : l[k]? = some e) : (ysAt u l k).set k (freeIt u e) = ysAt u l (k + 1) := by
  have hk := (List.getElem?_eq_some_iff.1 he).1
  have hd : l.drop k = e :: l.drop (k + 1) := by rw [← (List.getElem?_eq_some_iff.1 he).2, List.getElem_cons_drop]
  unfold ysAt
  rw [take_succ_some he, List.map_append, hd, List.set_append_right _ _ (by simp; omega)]
  simp [show k - min k l.length = 0 by omega]
theorem set_same {l : List It} {k : Nat} {e : It} (he : l[k]? = some e) : l.set k e = l := by
  obtain ⟨hk, h⟩ := List.getElem?_eq_some_iff.1 he
  rw [← h]; exact List.set_getElem_self hk
theorem ends_c (w0 : World) (L : List HP) (b : Nat) (q : Qu) (u : Int) (back : Bool) (hq : q.l.length < 900000) :
    KC Tryz.prog 17 #[.pointer (some ⟨b, 0, none⟩), .int .i64 u, .bool back] w0 (quP b q :: L) (fun v L' => v = .tuple #[] ∧ L' = quP b (qends q u back) :: L) := by
  refine KC.mk (n := 52) Tryz.func17 rfl Tryz.ntmps17 (by simp) ?_
  repeat ((with_reducible refine K.seq ?_))
  refine K.open' (fun _ h => quP_open h) fun v => ?_
  refine K.reg ?_
  refine KO.box rfl rfl (by exact rfl) rfl ?_; intro b4
  refine KO.box rfl rfl (by exact rfl) rfl ?_; intro b5
  refine KO.nil ?_
  repeat (first | (with_reducible refine K.seq ?_) | (with_reducible refine KQ.next ?_))
  refine K.reg ?_
  refine KO.ld rfl rfl Tryz.isAgg3 (by with_reducible (repeat (first | exact Pick.head | apply Pick.tail))) (by exact rfl) rfl ?_
  refine KO.lss rfl rfl rfl ?_
  refine KO.nil ?_
  repeat ((with_reducible refine KQ.next ?_))
  refine K.condD rfl (fun h => ?_) (fun h => ?_)
  · repeat (first | (with_reducible refine KQ.then_ret ?_) | (with_reducible refine K.ret ?_))
    refine KQ.ret0 rfl (fun w' hs => ⟨_, _, rfl, ⟨rfl, rfl⟩, ?_⟩)
    rw [show qends q u back = q by simp only [qends, h, if_true]]
    exact quP_mk ((hs.pick2 (by with_reducible (repeat (first | exact Pick.head | apply Pick.tail))) (by with_reducible (repeat (first | exact Pick.head | apply Pick.tail)))).gc2 (by with_reducible repeat (first | exact LSub.refl | apply LSub.drop)))
  · rw [show qends q u back = ⟨(q.l.filter fun e => !endB u back e).map (freeIt u), q.next⟩ by simp only [qends, h, if_false]]
    have hfl : (q.l.filter fun e => !endB u back e).length < 900000 := Nat.lt_of_le_of_lt (List.length_filter_le _ _) hq
    repeat (first | (with_reducible refine K.seq ?_) | (with_reducible refine KQ.next ?_) | (with_reducible refine K.skip ?_))
    refine K.reg ?_
    refine KO.mv rfl rfl ?_
    refine KO.mv rfl rfl ?_
    refine KO.nc rfl rfl ?_
    refine KO.fo0 (off := 0) rfl Tryz.runUnderlying25 rfl rfl Tryz.sizeOf23 rfl ?_
    refine KO.ld rfl rfl Tryz.isAgg23 (by with_reducible (repeat (first | exact Pick.head | apply Pick.tail))) (by exact rfl) rfl ?_
    refine KO.mkc rfl rfl rfl ?_
    refine KO.cl rfl rfl rfl Tryz.call60 rfl (KC.pk1 (by with_reducible (repeat (first | exact Pick.head | apply Pick.tail))) (delf_c w0 _ v q.l 61 [.pointer (some ⟨b4, 0, none⟩), .pointer (some ⟨b5, 0, none⟩)] (endB u back) (by omega) Tryz.call61 (fun e v ys _ => ends1_e w0 _ _ _ e b4 b5 u back _ _ (by with_reducible (repeat (first | exact Pick.head | apply Pick.tail))) (by with_reducible (repeat (first | exact Pick.head | apply Pick.tail)))))) ?_; rintro v' L' rfl; refine KO.fact (fun _ hs => SL_form hs) ?_; rintro ⟨a', c', rfl, ha'⟩
    refine KO.nc rfl rfl ?_
    refine KO.fo0 (off := 0) rfl Tryz.runUnderlying25 rfl rfl Tryz.sizeOf23 rfl ?_
    (refine KO.sto rfl rfl rfl (by exact rfl) (by exact Tryz.sizeOf23) (by exact rfl) (by with_reducible (repeat (first | exact Pick.head | apply Pick.tail))) (by exact rfl) (by (try simp only [putL, List.drop_succ_cons, List.drop_zero, List.drop_nil, List.cons_append, List.nil_append, List.length_cons, List.length_nil, Nat.zero_add, Nat.reduceAdd]); (try exact rfl)) ?_)
    refine KO.nil ?_
    repeat (first | (with_reducible refine K.seq ?_) | (with_reducible refine KQ.next ?_))
    generalize q.l.filter (fun e => !endB u back e) = l at *
    refine K.reg ?_
    refine KO.mv rfl rfl ?_
    refine KO.nc rfl rfl ?_
    refine KO.fo0 (off := 0) rfl Tryz.runUnderlying25 rfl rfl Tryz.sizeOf23 rfl ?_
    refine KO.ld rfl rfl Tryz.isAgg23 (by with_reducible (repeat (exact Pick.head))) (by exact rfl) rfl ?_
    refine KO.len rfl Tryz.underlying23 rfl ?_
    refine KO.mv rfl rfl ?_
    refine KO.nil ?_
    repeat (first | (with_reducible refine KQ.next ?_) | (with_reducible refine K.block ?_))
    refine K.loop (fun k : Nat => [(0, .pointer (some ⟨b, 0, none⟩)), (4, .pointer (some ⟨b4, 0, none⟩)), (23, .int .i64 (l.length : Nat)), (24, .int .i64 (k : Nat))]) (fun k => itS (.slice a' l.length c') (ysAt u l k) :: quB b (.slice a' l.length c') q.next :: blk b4 (.cells [Value.int .i64 u].toArray 3 (0, 0)) :: L) (fun k => k ≤ l.length) (fun k => l.length - k) 0
      (Nat.zero_le _) ⟨rfl, rfl, rfl, rfl, trivial⟩ (fun _ h => by rw [show ysAt u l 0 = l by simp [ysAt]]; exact (h.pick3 (by with_reducible (repeat (first | exact Pick.head | apply Pick.tail))) (by with_reducible (repeat (exact Pick.head))) (by with_reducible (repeat (first | exact Pick.head | apply Pick.tail)))).gc3 (by with_reducible repeat (first | exact LSub.refl | apply LSub.drop))) ?_
    intro k hk
    repeat ((with_reducible refine K.seq ?_))
    refine K.reg ?_
    refine KO.lss rfl rfl rfl ?_
    refine KO.nil ?_
    repeat (first | (with_reducible refine K.seq ?_) | (with_reducible refine KQ.next ?_))
    refine K.condD rfl (fun h1 => ?_) (fun h1 => ?_)
    · obtain ⟨g, rfl⟩ := ha' (by omega)
      obtain ⟨e, he⟩ : ∃ e, l[k]? = some e := ⟨l[k], List.getElem?_eq_getElem (by omega)⟩
      have hye := ysAt_get (u := u) he
      have hstep := ysAt_step (u := u) he
      have hfree : freeIt u e = { e with put := if e.put = u then -1 else e.put, got := if e.got = u then -1 else e.got } := rfl
      generalize ysAt u l k = ys at *
      have hyk := (List.getElem?_eq_some_iff.1 hye).1
      repeat (first | (with_reducible refine K.seq ?_) | (with_reducible refine KQ.next ?_) | (with_reducible refine K.skip ?_) | (with_reducible refine K.block ?_))
      refine K.reg ?_
      refine KO.mv rfl rfl ?_
      refine KO.as rfl rfl ?_
      refine KO.nil ?_
      repeat (first | (with_reducible refine K.seq ?_) | (with_reducible refine KQ.next ?_))
      refine K.reg ?_
      refine KO.mv rfl rfl ?_
      refine KO.nc rfl rfl ?_
      refine KO.fo0 (off := 0) rfl Tryz.runUnderlying25 rfl rfl Tryz.sizeOf23 rfl ?_
      refine KO.ld rfl rfl Tryz.isAgg23 (by with_reducible (repeat (first | exact Pick.head | apply Pick.tail))) (by exact rfl) rfl ?_
      refine KO.mv rfl rfl ?_
      refine KO.idx0 rfl rfl Tryz.runUnderlying23 Tryz.sizeOf107 (by exact rfl) (by omega) rfl ?_
      refine KO.as rfl rfl ?_
      refine KO.nil ?_
      repeat (first | (with_reducible refine K.seq ?_) | (with_reducible refine KQ.next ?_))
      refine K.draw [.pure, .pure, .pure, .read, .read, .pure] [0, 1, 2, 3, 4, 5] (by kernel_rfl) (by kernel_rfl) ?_
      refine KO.mv rfl rfl ?_
      refine KO.nc rfl rfl ?_
      refine KO.fo (off := 6) rfl Tryz.runUnderlying107 rfl rfl Tryz.sizeOf3 rfl ?_
      refine KO.ldE rfl rfl Tryz.isAgg3 (by with_reducible (repeat (exact Pick.head))) (fun _ => rfl) (by assumption) (by exact rfl) (by exact rfl) rfl ?_
      refine KO.ld rfl rfl Tryz.isAgg3 (by with_reducible (repeat (first | exact Pick.head | apply Pick.tail))) (by exact rfl) rfl ?_
      refine KO.eqI rfl rfl rfl ?_
      refine KO.nil ?_
      repeat ((with_reducible refine KQ.next ?_))
      refine K.condD rfl (fun h2 => ?_) (fun h2 => ?_)
      · have hye2 : (ys.set k { e with put := -1 })[k]? = some { e with put := -1 } := by rw [List.getElem?_set_self hyk]
        refine K.reg ?_
        refine KO.mv rfl rfl ?_
        refine KO.nc rfl rfl ?_
        refine KO.fo (off := 6) rfl Tryz.runUnderlying107 rfl rfl Tryz.sizeOf3 rfl ?_
        refine KO.stE rfl rfl rfl (by exact rfl) (by exact Tryz.sizeOf3) (by exact rfl) (by with_reducible (repeat (exact Pick.head))) (fun _ => rfl) hye rfl { e with put := -1 } rfl ?_
        refine KO.nil ?_
        repeat (first | (with_reducible refine K.seq ?_) | (with_reducible refine KQ.next ?_))
        refine K.draw [.pure, .pure, .pure, .read, .read, .pure] [0, 1, 2, 3, 4, 5] (by kernel_rfl) (by kernel_rfl) ?_
        refine KO.mv rfl rfl ?_
        refine KO.nc rfl rfl ?_
        refine KO.fo (off := 7) rfl Tryz.runUnderlying107 rfl rfl Tryz.sizeOf3 rfl ?_
        refine KO.ldE rfl rfl Tryz.isAgg3 (by with_reducible (repeat (exact Pick.head))) (fun _ => rfl) (by assumption) (by exact rfl) (by exact rfl) rfl ?_
        refine KO.ld rfl rfl Tryz.isAgg3 (by with_reducible (repeat (first | exact Pick.head | apply Pick.tail))) (by exact rfl) rfl ?_
        refine KO.eqI rfl rfl rfl ?_
        refine KO.nil ?_
        repeat ((with_reducible refine KQ.next ?_))
        refine K.condD rfl (fun h3 => ?_) (fun h3 => ?_)
        · (skip)
          refine K.reg ?_
          refine KO.mv rfl rfl ?_
          refine KO.nc rfl rfl ?_
          refine KO.fo (off := 7) rfl Tryz.runUnderlying107 rfl rfl Tryz.sizeOf3 rfl ?_
          refine KO.stE rfl rfl rfl (by exact rfl) (by exact Tryz.sizeOf3) (by exact rfl) (by with_reducible (repeat (exact Pick.head))) (fun _ => rfl) hye2 rfl { e with put := -1, got := -1 } rfl ?_
          refine KO.nil ?_
          repeat (first | (with_reducible refine KQ.next ?_) | (with_reducible refine KQ.blk_normal ?_))
          refine K.reg ?_
          refine KO.add rfl rfl rfl (by omega) rfl ?_
          refine KO.mv rfl rfl ?_
          refine KO.nil ?_
          refine KQ.round (k + 1) (by omega) (by omega) ⟨rfl, rfl, rfl, rfl, trivial⟩ (fun _ hs => ?_)
          rw [← hstep, hfree, if_pos h2, if_pos h3]
          rw [List.set_set] at hs
          exact hs
        · repeat (first | (with_reducible refine KQ.next ?_) | (with_reducible refine KQ.blk_normal ?_) | (with_reducible refine K.skip ?_))
          refine K.reg ?_
          refine KO.add rfl rfl rfl (by omega) rfl ?_
          refine KO.mv rfl rfl ?_
          refine KO.nil ?_
          refine KQ.round (k + 1) (by omega) (by omega) ⟨rfl, rfl, rfl, rfl, trivial⟩ (fun _ hs => ?_)
          rw [← hstep, hfree, if_pos h2, if_neg h3]
          exact hs
      · repeat (first | (with_reducible refine K.seq ?_) | (with_reducible refine KQ.next ?_) | (with_reducible refine K.skip ?_))
        refine K.draw [.pure, .pure, .pure, .read, .read, .pure] [0, 1, 2, 3, 4, 5] (by kernel_rfl) (by kernel_rfl) ?_
        refine KO.mv rfl rfl ?_
        refine KO.nc rfl rfl ?_
        refine KO.fo (off := 7) rfl Tryz.runUnderlying107 rfl rfl Tryz.sizeOf3 rfl ?_
        refine KO.ldE rfl rfl Tryz.isAgg3 (by with_reducible (repeat (exact Pick.head))) (fun _ => rfl) (by assumption) (by exact rfl) (by exact rfl) rfl ?_
        refine KO.ld rfl rfl Tryz.isAgg3 (by with_reducible (repeat (first | exact Pick.head | apply Pick.tail))) (by exact rfl) rfl ?_
        refine KO.eqI rfl rfl rfl ?_
        refine KO.nil ?_
        repeat ((with_reducible refine KQ.next ?_))
        refine K.condD rfl (fun h3 => ?_) (fun h3 => ?_)
        · (skip)
          refine K.reg ?_
          refine KO.mv rfl rfl ?_
          refine KO.nc rfl rfl ?_
          refine KO.fo (off := 7) rfl Tryz.runUnderlying107 rfl rfl Tryz.sizeOf3 rfl ?_
          refine KO.stE rfl rfl rfl (by exact rfl) (by exact Tryz.sizeOf3) (by exact rfl) (by with_reducible (repeat (exact Pick.head))) (fun _ => rfl) hye rfl { e with got := -1 } rfl ?_
          refine KO.nil ?_
          repeat (first | (with_reducible refine KQ.next ?_) | (with_reducible refine KQ.blk_normal ?_))
          refine K.reg ?_
          refine KO.add rfl rfl rfl (by omega) rfl ?_
          refine KO.mv rfl rfl ?_
          refine KO.nil ?_
          refine KQ.round (k + 1) (by omega) (by omega) ⟨rfl, rfl, rfl, rfl, trivial⟩ (fun _ hs => ?_)
          rw [← hstep, hfree, if_neg h2, if_pos h3]
          exact hs
        · repeat (first | (with_reducible refine KQ.next ?_) | (with_reducible refine KQ.blk_normal ?_) | (with_reducible refine K.skip ?_))
          refine K.reg ?_
          refine KO.add rfl rfl rfl (by omega) rfl ?_
          refine KO.mv rfl rfl ?_
          refine KO.nil ?_
          refine KQ.round (k + 1) (by omega) (by omega) ⟨rfl, rfl, rfl, rfl, trivial⟩ (fun _ hs => ?_)
          rw [← hstep, hfree, if_neg h2, if_neg h3, show ({ e with put := e.put, got := e.got } : It) = e from rfl, set_same hye]
          exact hs
    · have hkl : k = l.length := by omega
      repeat (first | (with_reducible refine KQ.then_exit ?_) | (with_reducible refine KQ.blk_exit ?_) | (with_reducible refine K.exit ?_))
      refine KQ.end0 rfl (fun w' hs => ⟨_, _, rfl, ⟨rfl, rfl⟩, ?_⟩)
      rw [hkl, show ysAt u l l.length = l.map (freeIt u) by simp [ysAt]] at hs
      exact quP_mk ((hs.pick2 (by with_reducible (repeat (first | exact Pick.head | apply Pick.tail))) (by with_reducible (repeat (exact Pick.head)))).gc2 (by with_reducible repeat (first | exact LSub.refl | apply LSub.drop)))
end Go.Proofs.YtjhogocabcdjbaaGreatDoor
/- msg.Right; queue.Put. -/
namespace Go.Proofs.YtjhogocabcdjbaaGreatDoor
open Go Go.RowKit WB
theorem body_e (w0 : World) (L : List HP) (s : ByteArray) (hs : s.size ≤ maxLen) : KE Tryz.prog 102 #[.string s] w0 L (fun u L' => u = .bool (bodyB s) ∧ L' = L) := KE.of_below fun w _ => body_is s _ w hs rfl
theorem word_e (w0 : World) (L : List HP) (s : ByteArray) (hs : s.size ≤ maxLen) : KE Tryz.prog 90 #[.string s] w0 L (fun u L' => u = .bool (wordB s) ∧ L' = L) := KE.of_below fun w _ => word_is s _ w hs rfl
set_option maxHeartbeats 1000000 in
theorem right_e (w0 : World) (L : List HP) (m : Ms) (hb : m.body.size ≤ maxLen) (hq : m.queue.size ≤ maxLen) :
    KE Tryz.prog 52 #[.agg (msC m).toArray] w0 L (fun v L' => v = .bool (msRight m) ∧ L' = L) := by
  refine KE.mk (n := 41) Tryz.func52 rfl Tryz.ntmps52 (by simp) ?_
  intro w hw
  repeat ((with_reducible refine K.seq ?_))
  refine K.reg ?_
  refine KO.box rfl rfl (by exact rfl) rfl ?_; intro b1
  refine KO.as rfl rfl ?_
  refine KO.nil ?_
  repeat (first | (with_reducible refine K.seq ?_) | (with_reducible refine KQ.next ?_))
  have hcase : ¬ 0 ≤ m.id ∨ (0 ≤ m.id ∧ ¬ m.id ≤ 1099511627776) ∨ (0 ≤ m.id ∧ m.id ≤ 1099511627776 ∧ ¬ 0 ≤ m.pri) ∨ (0 ≤ m.id ∧ m.id ≤ 1099511627776 ∧ 0 ≤ m.pri ∧ ¬ m.pri ≤ 9) ∨ (0 ≤ m.id ∧ m.id ≤ 1099511627776 ∧ 0 ≤ m.pri ∧ m.pri ≤ 9 ∧ bodyB m.body = false) ∨
      (0 ≤ m.id ∧ m.id ≤ 1099511627776 ∧ 0 ≤ m.pri ∧ m.pri ≤ 9 ∧ bodyB m.body = true ∧ wordB m.queue = false) ∨ (0 ≤ m.id ∧ m.id ≤ 1099511627776 ∧ 0 ≤ m.pri ∧ m.pri ≤ 9 ∧ bodyB m.body = true ∧ wordB m.queue = true ∧ ¬ 0 ≤ m.house) ∨
      (0 ≤ m.id ∧ m.id ≤ 1099511627776 ∧ 0 ≤ m.pri ∧ m.pri ≤ 9 ∧ bodyB m.body = true ∧ wordB m.queue = true ∧ 0 ≤ m.house) := by
    cases bodyB m.body <;> cases wordB m.queue <;> simp <;> omega
  have fin : ∀ (b : Bool) (w' : World) (M : List HP), b = msRight m → St w M w' → ∃ v L', Ending.returned (.bool b) = Ending.returned v ∧ (v = .bool (msRight m) ∧ L' = L) ∧ St w0 L' w' ∧ Below w.heap.size w w' := fun b w' M e hs => ⟨_, _, rfl, ⟨by rw [e], rfl⟩, hw.below_step hs.below, hs.below⟩
  rcases hcase with h1 | ⟨h1, h2⟩ | ⟨h1, h2, h3⟩ | ⟨h1, h2, h3, h4⟩ | ⟨h1, h2, h3, h4, h5⟩ | ⟨h1, h2, h3, h4, h5, h6⟩ | ⟨h1, h2, h3, h4, h5, h6, h7⟩ | ⟨h1, h2, h3, h4, h5, h6, h7⟩
  · refine K.reg ?_
    refine KO.fo0 (off := 0) rfl Tryz.runUnderlying31 rfl rfl Tryz.sizeOf3 rfl ?_
    refine KO.ld rfl rfl Tryz.isAgg3 (by with_reducible (repeat (exact Pick.head))) (by exact rfl) rfl ?_
    refine KO.geq rfl rfl rfl ?_
    refine KO.mv rfl rfl ?_
    (refine KO.no rfl rfl ?_ rfl ?_; (focus (simp only [decide_eq_true_eq, decide_eq_false_iff_not, Bool.not_eq_true, Bool.not_true, Bool.not_false, ne_eq]; omega)))
    (refine KO.no rfl rfl ?_ rfl ?_; (focus (simp only [decide_eq_true_eq, decide_eq_false_iff_not, Bool.not_eq_true, Bool.not_true, Bool.not_false, ne_eq]; omega)))
    (refine KO.no rfl rfl ?_ rfl ?_; (focus (simp only [decide_eq_true_eq, decide_eq_false_iff_not, Bool.not_eq_true, Bool.not_true, Bool.not_false, ne_eq]; omega)))
    (refine KO.pickF rfl ?_ rfl rfl ?_; (focus (simp only [decide_eq_true_eq, decide_eq_false_iff_not, Bool.not_eq_true, Bool.not_true, Bool.not_false, ne_eq]; omega)))
    refine KO.mv rfl rfl ?_
    (refine KO.no rfl rfl ?_ rfl ?_; (focus rfl))
    (refine KO.no rfl rfl ?_ rfl ?_; (focus rfl))
    (refine KO.no rfl rfl ?_ rfl ?_; (focus rfl))
    (refine KO.pickF rfl ?_ rfl rfl ?_; (focus rfl))
    refine KO.mv rfl rfl ?_
    (refine KO.no rfl rfl ?_ rfl ?_; (focus rfl))
    (refine KO.no rfl rfl ?_ rfl ?_; (focus rfl))
    (refine KO.no rfl rfl ?_ rfl ?_; (focus rfl))
    (refine KO.pickF rfl ?_ rfl rfl ?_; (focus rfl))
    refine KO.mv rfl rfl ?_
    (refine KO.no rfl rfl ?_ rfl ?_; (focus rfl))
    (refine KO.no rfl rfl ?_ rfl ?_; (focus rfl))
    (refine KO.no rfl rfl ?_ rfl ?_; (rfl))
    (refine KO.pickF rfl ?_ rfl rfl ?_; (focus rfl))
    refine KO.mv rfl rfl ?_
    (refine KO.no rfl rfl ?_ rfl ?_; (focus rfl))
    (refine KO.no rfl rfl ?_ rfl ?_; (focus rfl))
    (refine KO.no rfl rfl ?_ rfl ?_; (rfl))
    (refine KO.pickF rfl ?_ rfl rfl ?_; (focus rfl))
    refine KO.mv rfl rfl ?_
    (refine KO.no rfl rfl ?_ rfl ?_; (focus rfl))
    (refine KO.no rfl rfl ?_ rfl ?_; (focus rfl))
    (refine KO.no rfl rfl ?_ rfl ?_; (focus rfl))
    (refine KO.pickF rfl ?_ rfl rfl ?_; (focus rfl))
    refine KO.mv rfl rfl ?_
    (refine KO.no rfl rfl ?_ rfl ?_; (focus rfl))
    (refine KO.no rfl rfl ?_ rfl ?_; (focus rfl))
    (refine KO.no rfl rfl ?_ rfl ?_; (focus rfl))
    (refine KO.pickF rfl ?_ rfl rfl ?_; (focus rfl))
    refine KO.as rfl rfl ?_
    refine KO.nil ?_
    repeat (first | (with_reducible refine KQ.next ?_) | (with_reducible refine K.ret ?_))
    exact KQ.ret1 rfl rfl (fun w' hs => fin _ w' _ (by simp [msRight, *]) hs)
  · refine K.reg ?_
    refine KO.fo0 (off := 0) rfl Tryz.runUnderlying31 rfl rfl Tryz.sizeOf3 rfl ?_
    refine KO.ld rfl rfl Tryz.isAgg3 (by with_reducible (repeat (exact Pick.head))) (by exact rfl) rfl ?_
    refine KO.geq rfl rfl rfl ?_
    refine KO.mv rfl rfl ?_
    (refine KO.on rfl rfl ?_ ?_; (focus (simp only [decide_eq_true_eq, decide_eq_false_iff_not, Bool.not_eq_true, Bool.not_true, Bool.not_false, ne_eq]; omega)); (refine KO.fo0 (off := 0) rfl Tryz.runUnderlying31 rfl rfl Tryz.sizeOf3 rfl ?_))
    (refine KO.on rfl rfl ?_ ?_; (focus (simp only [decide_eq_true_eq, decide_eq_false_iff_not, Bool.not_eq_true, Bool.not_true, Bool.not_false, ne_eq]; omega)); (refine KO.ld rfl rfl Tryz.isAgg3 (by with_reducible (repeat (exact Pick.head))) (by exact rfl) rfl ?_))
    (refine KO.on rfl rfl ?_ ?_; (focus (simp only [decide_eq_true_eq, decide_eq_false_iff_not, Bool.not_eq_true, Bool.not_true, Bool.not_false, ne_eq]; omega)); (refine KO.leq rfl rfl rfl ?_))
    (refine KO.pickT rfl ?_ rfl rfl ?_; (focus (simp only [decide_eq_true_eq, decide_eq_false_iff_not, Bool.not_eq_true, Bool.not_true, Bool.not_false, ne_eq]; omega)))
    refine KO.mv rfl rfl ?_
    (refine KO.no rfl rfl ?_ rfl ?_; (focus (simp only [decide_eq_true_eq, decide_eq_false_iff_not, Bool.not_eq_true, Bool.not_true, Bool.not_false, ne_eq]; omega)))
    (refine KO.no rfl rfl ?_ rfl ?_; (focus (simp only [decide_eq_true_eq, decide_eq_false_iff_not, Bool.not_eq_true, Bool.not_true, Bool.not_false, ne_eq]; omega)))
    (refine KO.no rfl rfl ?_ rfl ?_; (focus (simp only [decide_eq_true_eq, decide_eq_false_iff_not, Bool.not_eq_true, Bool.not_true, Bool.not_false, ne_eq]; omega)))
    (refine KO.pickF rfl ?_ rfl rfl ?_; (focus (simp only [decide_eq_true_eq, decide_eq_false_iff_not, Bool.not_eq_true, Bool.not_true, Bool.not_false, ne_eq]; omega)))
    refine KO.mv rfl rfl ?_
    (refine KO.no rfl rfl ?_ rfl ?_; (focus rfl))
    (refine KO.no rfl rfl ?_ rfl ?_; (focus rfl))
    (refine KO.no rfl rfl ?_ rfl ?_; (focus rfl))
    (refine KO.pickF rfl ?_ rfl rfl ?_; (focus rfl))
    refine KO.mv rfl rfl ?_
    (refine KO.no rfl rfl ?_ rfl ?_; (focus rfl))
    (refine KO.no rfl rfl ?_ rfl ?_; (focus rfl))
    (refine KO.no rfl rfl ?_ rfl ?_; (rfl))
    (refine KO.pickF rfl ?_ rfl rfl ?_; (focus rfl))
    refine KO.mv rfl rfl ?_
    (refine KO.no rfl rfl ?_ rfl ?_; (focus rfl))
    (refine KO.no rfl rfl ?_ rfl ?_; (focus rfl))
    (refine KO.no rfl rfl ?_ rfl ?_; (rfl))
    (refine KO.pickF rfl ?_ rfl rfl ?_; (focus rfl))
    refine KO.mv rfl rfl ?_
    (refine KO.no rfl rfl ?_ rfl ?_; (focus rfl))
    (refine KO.no rfl rfl ?_ rfl ?_; (focus rfl))
    (refine KO.no rfl rfl ?_ rfl ?_; (focus rfl))
    (refine KO.pickF rfl ?_ rfl rfl ?_; (focus rfl))
    refine KO.mv rfl rfl ?_
    (refine KO.no rfl rfl ?_ rfl ?_; (focus rfl))
    (refine KO.no rfl rfl ?_ rfl ?_; (focus rfl))
    (refine KO.no rfl rfl ?_ rfl ?_; (focus rfl))
    (refine KO.pickF rfl ?_ rfl rfl ?_; (focus rfl))
    refine KO.as rfl rfl ?_
    refine KO.nil ?_
    repeat (first | (with_reducible refine KQ.next ?_) | (with_reducible refine K.ret ?_))
    exact KQ.ret1 rfl rfl (fun w' hs => fin _ w' _ (by simp [msRight, *]) hs)
  · refine K.reg ?_
    refine KO.fo0 (off := 0) rfl Tryz.runUnderlying31 rfl rfl Tryz.sizeOf3 rfl ?_
    refine KO.ld rfl rfl Tryz.isAgg3 (by with_reducible (repeat (exact Pick.head))) (by exact rfl) rfl ?_
    refine KO.geq rfl rfl rfl ?_
    refine KO.mv rfl rfl ?_
    (refine KO.on rfl rfl ?_ ?_; (focus (simp only [decide_eq_true_eq, decide_eq_false_iff_not, Bool.not_eq_true, Bool.not_true, Bool.not_false, ne_eq]; omega)); (refine KO.fo0 (off := 0) rfl Tryz.runUnderlying31 rfl rfl Tryz.sizeOf3 rfl ?_))
    (refine KO.on rfl rfl ?_ ?_; (focus (simp only [decide_eq_true_eq, decide_eq_false_iff_not, Bool.not_eq_true, Bool.not_true, Bool.not_false, ne_eq]; omega)); (refine KO.ld rfl rfl Tryz.isAgg3 (by with_reducible (repeat (exact Pick.head))) (by exact rfl) rfl ?_))
    (refine KO.on rfl rfl ?_ ?_; (focus (simp only [decide_eq_true_eq, decide_eq_false_iff_not, Bool.not_eq_true, Bool.not_true, Bool.not_false, ne_eq]; omega)); (refine KO.leq rfl rfl rfl ?_))
    (refine KO.pickT rfl ?_ rfl rfl ?_; (focus (simp only [decide_eq_true_eq, decide_eq_false_iff_not, Bool.not_eq_true, Bool.not_true, Bool.not_false, ne_eq]; omega)))
    refine KO.mv rfl rfl ?_
    (refine KO.on rfl rfl ?_ ?_; (focus (simp only [decide_eq_true_eq, decide_eq_false_iff_not, Bool.not_eq_true, Bool.not_true, Bool.not_false, ne_eq]; omega)); (refine KO.fo0 (off := 1) rfl Tryz.runUnderlying31 rfl rfl Tryz.sizeOf3 rfl ?_))
    (refine KO.on rfl rfl ?_ ?_; (focus (simp only [decide_eq_true_eq, decide_eq_false_iff_not, Bool.not_eq_true, Bool.not_true, Bool.not_false, ne_eq]; omega)); (refine KO.ld rfl rfl Tryz.isAgg3 (by with_reducible (repeat (exact Pick.head))) (by exact rfl) rfl ?_))
    (refine KO.on rfl rfl ?_ ?_; (focus (simp only [decide_eq_true_eq, decide_eq_false_iff_not, Bool.not_eq_true, Bool.not_true, Bool.not_false, ne_eq]; omega)); (refine KO.geq rfl rfl rfl ?_))
    (refine KO.pickT rfl ?_ rfl rfl ?_; (focus (simp only [decide_eq_true_eq, decide_eq_false_iff_not, Bool.not_eq_true, Bool.not_true, Bool.not_false, ne_eq]; omega)))
    refine KO.mv rfl rfl ?_
    (refine KO.no rfl rfl ?_ rfl ?_; (focus (simp only [decide_eq_true_eq, decide_eq_false_iff_not, Bool.not_eq_true, Bool.not_true, Bool.not_false, ne_eq]; omega)))
    (refine KO.no rfl rfl ?_ rfl ?_; (focus (simp only [decide_eq_true_eq, decide_eq_false_iff_not, Bool.not_eq_true, Bool.not_true, Bool.not_false, ne_eq]; omega)))
    (refine KO.no rfl rfl ?_ rfl ?_; (focus (simp only [decide_eq_true_eq, decide_eq_false_iff_not, Bool.not_eq_true, Bool.not_true, Bool.not_false, ne_eq]; omega)))
    (refine KO.pickF rfl ?_ rfl rfl ?_; (focus (simp only [decide_eq_true_eq, decide_eq_false_iff_not, Bool.not_eq_true, Bool.not_true, Bool.not_false, ne_eq]; omega)))
    refine KO.mv rfl rfl ?_
    (refine KO.no rfl rfl ?_ rfl ?_; (focus rfl))
    (refine KO.no rfl rfl ?_ rfl ?_; (focus rfl))
    (refine KO.no rfl rfl ?_ rfl ?_; (rfl))
    (refine KO.pickF rfl ?_ rfl rfl ?_; (focus rfl))
    refine KO.mv rfl rfl ?_
    (refine KO.no rfl rfl ?_ rfl ?_; (focus rfl))
    (refine KO.no rfl rfl ?_ rfl ?_; (focus rfl))
    (refine KO.no rfl rfl ?_ rfl ?_; (rfl))
    (refine KO.pickF rfl ?_ rfl rfl ?_; (focus rfl))
    refine KO.mv rfl rfl ?_
    (refine KO.no rfl rfl ?_ rfl ?_; (focus rfl))
    (refine KO.no rfl rfl ?_ rfl ?_; (focus rfl))
    (refine KO.no rfl rfl ?_ rfl ?_; (focus rfl))
    (refine KO.pickF rfl ?_ rfl rfl ?_; (focus rfl))
    refine KO.mv rfl rfl ?_
    (refine KO.no rfl rfl ?_ rfl ?_; (focus rfl))
    (refine KO.no rfl rfl ?_ rfl ?_; (focus rfl))
    (refine KO.no rfl rfl ?_ rfl ?_; (focus rfl))
    (refine KO.pickF rfl ?_ rfl rfl ?_; (focus rfl))
    refine KO.as rfl rfl ?_
    refine KO.nil ?_
    repeat (first | (with_reducible refine KQ.next ?_) | (with_reducible refine K.ret ?_))
    exact KQ.ret1 rfl rfl (fun w' hs => fin _ w' _ (by simp [msRight, *]) hs)
  · refine K.reg ?_
    refine KO.fo0 (off := 0) rfl Tryz.runUnderlying31 rfl rfl Tryz.sizeOf3 rfl ?_
    refine KO.ld rfl rfl Tryz.isAgg3 (by with_reducible (repeat (exact Pick.head))) (by exact rfl) rfl ?_
    refine KO.geq rfl rfl rfl ?_
    refine KO.mv rfl rfl ?_
    (refine KO.on rfl rfl ?_ ?_; (focus (simp only [decide_eq_true_eq, decide_eq_false_iff_not, Bool.not_eq_true, Bool.not_true, Bool.not_false, ne_eq]; omega)); (refine KO.fo0 (off := 0) rfl Tryz.runUnderlying31 rfl rfl Tryz.sizeOf3 rfl ?_))
    (refine KO.on rfl rfl ?_ ?_; (focus (simp only [decide_eq_true_eq, decide_eq_false_iff_not, Bool.not_eq_true, Bool.not_true, Bool.not_false, ne_eq]; omega)); (refine KO.ld rfl rfl Tryz.isAgg3 (by with_reducible (repeat (exact Pick.head))) (by exact rfl) rfl ?_))
    (refine KO.on rfl rfl ?_ ?_; (focus (simp only [decide_eq_true_eq, decide_eq_false_iff_not, Bool.not_eq_true, Bool.not_true, Bool.not_false, ne_eq]; omega)); (refine KO.leq rfl rfl rfl ?_))
    (refine KO.pickT rfl ?_ rfl rfl ?_; (focus (simp only [decide_eq_true_eq, decide_eq_false_iff_not, Bool.not_eq_true, Bool.not_true, Bool.not_false, ne_eq]; omega)))
    refine KO.mv rfl rfl ?_
    (refine KO.on rfl rfl ?_ ?_; (focus (simp only [decide_eq_true_eq, decide_eq_false_iff_not, Bool.not_eq_true, Bool.not_true, Bool.not_false, ne_eq]; omega)); (refine KO.fo0 (off := 1) rfl Tryz.runUnderlying31 rfl rfl Tryz.sizeOf3 rfl ?_))
    (refine KO.on rfl rfl ?_ ?_; (focus (simp only [decide_eq_true_eq, decide_eq_false_iff_not, Bool.not_eq_true, Bool.not_true, Bool.not_false, ne_eq]; omega)); (refine KO.ld rfl rfl Tryz.isAgg3 (by with_reducible (repeat (exact Pick.head))) (by exact rfl) rfl ?_))
    (refine KO.on rfl rfl ?_ ?_; (focus (simp only [decide_eq_true_eq, decide_eq_false_iff_not, Bool.not_eq_true, Bool.not_true, Bool.not_false, ne_eq]; omega)); (refine KO.geq rfl rfl rfl ?_))
    (refine KO.pickT rfl ?_ rfl rfl ?_; (focus (simp only [decide_eq_true_eq, decide_eq_false_iff_not, Bool.not_eq_true, Bool.not_true, Bool.not_false, ne_eq]; omega)))
    refine KO.mv rfl rfl ?_
    (refine KO.on rfl rfl ?_ ?_; (focus (simp only [decide_eq_true_eq, decide_eq_false_iff_not, Bool.not_eq_true, Bool.not_true, Bool.not_false, ne_eq]; omega)); (refine KO.fo0 (off := 1) rfl Tryz.runUnderlying31 rfl rfl Tryz.sizeOf3 rfl ?_))
    (refine KO.on rfl rfl ?_ ?_; (focus (simp only [decide_eq_true_eq, decide_eq_false_iff_not, Bool.not_eq_true, Bool.not_true, Bool.not_false, ne_eq]; omega)); (refine KO.ld rfl rfl Tryz.isAgg3 (by with_reducible (repeat (exact Pick.head))) (by exact rfl) rfl ?_))
    (refine KO.on rfl rfl ?_ ?_; (focus (simp only [decide_eq_true_eq, decide_eq_false_iff_not, Bool.not_eq_true, Bool.not_true, Bool.not_false, ne_eq]; omega)); (refine KO.leq rfl rfl rfl ?_))
    (refine KO.pickT rfl ?_ rfl rfl ?_; (focus (simp only [decide_eq_true_eq, decide_eq_false_iff_not, Bool.not_eq_true, Bool.not_true, Bool.not_false, ne_eq]; omega)))
    refine KO.mv rfl rfl ?_
    (refine KO.no rfl rfl ?_ rfl ?_; (focus (simp only [decide_eq_true_eq, decide_eq_false_iff_not, Bool.not_eq_true, Bool.not_true, Bool.not_false, ne_eq]; omega)))
    (refine KO.no rfl rfl ?_ rfl ?_; (focus (simp only [decide_eq_true_eq, decide_eq_false_iff_not, Bool.not_eq_true, Bool.not_true, Bool.not_false, ne_eq]; omega)))
    (refine KO.no rfl rfl ?_ rfl ?_; ((simp; omega)))
    (refine KO.pickF rfl ?_ rfl rfl ?_; (focus (simp only [decide_eq_true_eq, decide_eq_false_iff_not, Bool.not_eq_true, Bool.not_true, Bool.not_false, ne_eq]; omega)))
    refine KO.mv rfl rfl ?_
    (refine KO.no rfl rfl ?_ rfl ?_; (focus rfl))
    (refine KO.no rfl rfl ?_ rfl ?_; (focus rfl))
    (refine KO.no rfl rfl ?_ rfl ?_; (rfl))
    (refine KO.pickF rfl ?_ rfl rfl ?_; (focus rfl))
    refine KO.mv rfl rfl ?_
    (refine KO.no rfl rfl ?_ rfl ?_; (focus rfl))
    (refine KO.no rfl rfl ?_ rfl ?_; (focus rfl))
    (refine KO.no rfl rfl ?_ rfl ?_; (focus rfl))
    (refine KO.pickF rfl ?_ rfl rfl ?_; (focus rfl))
    refine KO.mv rfl rfl ?_
    (refine KO.no rfl rfl ?_ rfl ?_; (focus rfl))
    (refine KO.no rfl rfl ?_ rfl ?_; (focus rfl))
    (refine KO.no rfl rfl ?_ rfl ?_; (focus rfl))
    (refine KO.pickF rfl ?_ rfl rfl ?_; (focus rfl))
    refine KO.as rfl rfl ?_
    refine KO.nil ?_
    repeat (first | (with_reducible refine KQ.next ?_) | (with_reducible refine K.ret ?_))
    exact KQ.ret1 rfl rfl (fun w' hs => fin _ w' _ (by simp [msRight, *]) hs)
  · refine K.reg ?_
    refine KO.fo0 (off := 0) rfl Tryz.runUnderlying31 rfl rfl Tryz.sizeOf3 rfl ?_
    refine KO.ld rfl rfl Tryz.isAgg3 (by with_reducible (repeat (exact Pick.head))) (by exact rfl) rfl ?_
    refine KO.geq rfl rfl rfl ?_
    refine KO.mv rfl rfl ?_
    (refine KO.on rfl rfl ?_ ?_; (focus (simp only [decide_eq_true_eq, decide_eq_false_iff_not, Bool.not_eq_true, Bool.not_true, Bool.not_false, ne_eq]; omega)); (refine KO.fo0 (off := 0) rfl Tryz.runUnderlying31 rfl rfl Tryz.sizeOf3 rfl ?_))
    (refine KO.on rfl rfl ?_ ?_; (focus (simp only [decide_eq_true_eq, decide_eq_false_iff_not, Bool.not_eq_true, Bool.not_true, Bool.not_false, ne_eq]; omega)); (refine KO.ld rfl rfl Tryz.isAgg3 (by with_reducible (repeat (exact Pick.head))) (by exact rfl) rfl ?_))
    (refine KO.on rfl rfl ?_ ?_; (focus (simp only [decide_eq_true_eq, decide_eq_false_iff_not, Bool.not_eq_true, Bool.not_true, Bool.not_false, ne_eq]; omega)); (refine KO.leq rfl rfl rfl ?_))
    (refine KO.pickT rfl ?_ rfl rfl ?_; (focus (simp only [decide_eq_true_eq, decide_eq_false_iff_not, Bool.not_eq_true, Bool.not_true, Bool.not_false, ne_eq]; omega)))
    refine KO.mv rfl rfl ?_
    (refine KO.on rfl rfl ?_ ?_; (focus (simp only [decide_eq_true_eq, decide_eq_false_iff_not, Bool.not_eq_true, Bool.not_true, Bool.not_false, ne_eq]; omega)); (refine KO.fo0 (off := 1) rfl Tryz.runUnderlying31 rfl rfl Tryz.sizeOf3 rfl ?_))
    (refine KO.on rfl rfl ?_ ?_; (focus (simp only [decide_eq_true_eq, decide_eq_false_iff_not, Bool.not_eq_true, Bool.not_true, Bool.not_false, ne_eq]; omega)); (refine KO.ld rfl rfl Tryz.isAgg3 (by with_reducible (repeat (exact Pick.head))) (by exact rfl) rfl ?_))
    (refine KO.on rfl rfl ?_ ?_; (focus (simp only [decide_eq_true_eq, decide_eq_false_iff_not, Bool.not_eq_true, Bool.not_true, Bool.not_false, ne_eq]; omega)); (refine KO.geq rfl rfl rfl ?_))
    (refine KO.pickT rfl ?_ rfl rfl ?_; (focus (simp only [decide_eq_true_eq, decide_eq_false_iff_not, Bool.not_eq_true, Bool.not_true, Bool.not_false, ne_eq]; omega)))
    refine KO.mv rfl rfl ?_
    (refine KO.on rfl rfl ?_ ?_; (focus (simp only [decide_eq_true_eq, decide_eq_false_iff_not, Bool.not_eq_true, Bool.not_true, Bool.not_false, ne_eq]; omega)); (refine KO.fo0 (off := 1) rfl Tryz.runUnderlying31 rfl rfl Tryz.sizeOf3 rfl ?_))
    (refine KO.on rfl rfl ?_ ?_; (focus (simp only [decide_eq_true_eq, decide_eq_false_iff_not, Bool.not_eq_true, Bool.not_true, Bool.not_false, ne_eq]; omega)); (refine KO.ld rfl rfl Tryz.isAgg3 (by with_reducible (repeat (exact Pick.head))) (by exact rfl) rfl ?_))
    (refine KO.on rfl rfl ?_ ?_; (focus (simp only [decide_eq_true_eq, decide_eq_false_iff_not, Bool.not_eq_true, Bool.not_true, Bool.not_false, ne_eq]; omega)); (refine KO.leq rfl rfl rfl ?_))
    (refine KO.pickT rfl ?_ rfl rfl ?_; (focus (simp only [decide_eq_true_eq, decide_eq_false_iff_not, Bool.not_eq_true, Bool.not_true, Bool.not_false, ne_eq]; omega)))
    refine KO.mv rfl rfl ?_
    (refine KO.on rfl rfl ?_ ?_; (focus (simp only [decide_eq_true_eq, decide_eq_false_iff_not, Bool.not_eq_true, Bool.not_true, Bool.not_false, ne_eq]; omega)); (refine KO.fo0 (off := 2) rfl Tryz.runUnderlying31 rfl rfl Tryz.sizeOf9 rfl ?_))
    (refine KO.on rfl rfl ?_ ?_; (focus (simp only [decide_eq_true_eq, decide_eq_false_iff_not, Bool.not_eq_true, Bool.not_true, Bool.not_false, ne_eq]; omega)); (refine KO.ld rfl rfl Tryz.isAgg9 (by with_reducible (repeat (exact Pick.head))) (by exact rfl) rfl ?_))
    (refine KO.on rfl rfl ?_ ?_; (simp; omega); refine KO.ce (cp := []) rfl rfl rfl Tryz.call102 rfl (body_e w _ _ hb) ?_; rintro v L' ⟨rfl, rfl⟩)
    (refine KO.pickT rfl ?_ rfl rfl ?_; (focus (simp only [decide_eq_true_eq, decide_eq_false_iff_not, Bool.not_eq_true, Bool.not_true, Bool.not_false, ne_eq]; omega)))
    refine KO.mv rfl rfl ?_
    (refine KO.no rfl rfl ?_ rfl ?_; (focus assumption))
    (refine KO.no rfl rfl ?_ rfl ?_; (focus assumption))
    (refine KO.no rfl rfl ?_ rfl ?_; (assumption))
    (refine KO.pickF rfl ?_ rfl rfl ?_; (focus assumption))
    refine KO.mv rfl rfl ?_
    (refine KO.no rfl rfl ?_ rfl ?_; (focus rfl))
    (refine KO.no rfl rfl ?_ rfl ?_; (focus rfl))
    (refine KO.no rfl rfl ?_ rfl ?_; (focus rfl))
    (refine KO.pickF rfl ?_ rfl rfl ?_; (focus rfl))
    refine KO.mv rfl rfl ?_
    (refine KO.no rfl rfl ?_ rfl ?_; (focus rfl))
    (refine KO.no rfl rfl ?_ rfl ?_; (focus rfl))
    (refine KO.no rfl rfl ?_ rfl ?_; (focus rfl))
    (refine KO.pickF rfl ?_ rfl rfl ?_; (focus rfl))
    refine KO.as rfl rfl ?_
    refine KO.nil ?_
    repeat (first | (with_reducible refine KQ.next ?_) | (with_reducible refine K.ret ?_))
    exact KQ.ret1 rfl rfl (fun w' hs => fin _ w' _ (by simp [msRight, *]) hs)
  · refine K.reg ?_
    refine KO.fo0 (off := 0) rfl Tryz.runUnderlying31 rfl rfl Tryz.sizeOf3 rfl ?_
    refine KO.ld rfl rfl Tryz.isAgg3 (by with_reducible (repeat (exact Pick.head))) (by exact rfl) rfl ?_
    refine KO.geq rfl rfl rfl ?_
    refine KO.mv rfl rfl ?_
    (refine KO.on rfl rfl ?_ ?_; (focus (simp only [decide_eq_true_eq, decide_eq_false_iff_not, Bool.not_eq_true, Bool.not_true, Bool.not_false, ne_eq]; omega)); (refine KO.fo0 (off := 0) rfl Tryz.runUnderlying31 rfl rfl Tryz.sizeOf3 rfl ?_))
    (refine KO.on rfl rfl ?_ ?_; (focus (simp only [decide_eq_true_eq, decide_eq_false_iff_not, Bool.not_eq_true, Bool.not_true, Bool.not_false, ne_eq]; omega)); (refine KO.ld rfl rfl Tryz.isAgg3 (by with_reducible (repeat (exact Pick.head))) (by exact rfl) rfl ?_))
    (refine KO.on rfl rfl ?_ ?_; (focus (simp only [decide_eq_true_eq, decide_eq_false_iff_not, Bool.not_eq_true, Bool.not_true, Bool.not_false, ne_eq]; omega)); (refine KO.leq rfl rfl rfl ?_))
    (refine KO.pickT rfl ?_ rfl rfl ?_; (focus (simp only [decide_eq_true_eq, decide_eq_false_iff_not, Bool.not_eq_true, Bool.not_true, Bool.not_false, ne_eq]; omega)))
    refine KO.mv rfl rfl ?_
    (refine KO.on rfl rfl ?_ ?_; (focus (simp only [decide_eq_true_eq, decide_eq_false_iff_not, Bool.not_eq_true, Bool.not_true, Bool.not_false, ne_eq]; omega)); (refine KO.fo0 (off := 1) rfl Tryz.runUnderlying31 rfl rfl Tryz.sizeOf3 rfl ?_))
    (refine KO.on rfl rfl ?_ ?_; (focus (simp only [decide_eq_true_eq, decide_eq_false_iff_not, Bool.not_eq_true, Bool.not_true, Bool.not_false, ne_eq]; omega)); (refine KO.ld rfl rfl Tryz.isAgg3 (by with_reducible (repeat (exact Pick.head))) (by exact rfl) rfl ?_))
    (refine KO.on rfl rfl ?_ ?_; (focus (simp only [decide_eq_true_eq, decide_eq_false_iff_not, Bool.not_eq_true, Bool.not_true, Bool.not_false, ne_eq]; omega)); (refine KO.geq rfl rfl rfl ?_))
    (refine KO.pickT rfl ?_ rfl rfl ?_; (focus (simp only [decide_eq_true_eq, decide_eq_false_iff_not, Bool.not_eq_true, Bool.not_true, Bool.not_false, ne_eq]; omega)))
    refine KO.mv rfl rfl ?_
    (refine KO.on rfl rfl ?_ ?_; (focus (simp only [decide_eq_true_eq, decide_eq_false_iff_not, Bool.not_eq_true, Bool.not_true, Bool.not_false, ne_eq]; omega)); (refine KO.fo0 (off := 1) rfl Tryz.runUnderlying31 rfl rfl Tryz.sizeOf3 rfl ?_))
    (refine KO.on rfl rfl ?_ ?_; (focus (simp only [decide_eq_true_eq, decide_eq_false_iff_not, Bool.not_eq_true, Bool.not_true, Bool.not_false, ne_eq]; omega)); (refine KO.ld rfl rfl Tryz.isAgg3 (by with_reducible (repeat (exact Pick.head))) (by exact rfl) rfl ?_))
    (refine KO.on rfl rfl ?_ ?_; (focus (simp only [decide_eq_true_eq, decide_eq_false_iff_not, Bool.not_eq_true, Bool.not_true, Bool.not_false, ne_eq]; omega)); (refine KO.leq rfl rfl rfl ?_))
    (refine KO.pickT rfl ?_ rfl rfl ?_; (focus (simp only [decide_eq_true_eq, decide_eq_false_iff_not, Bool.not_eq_true, Bool.not_true, Bool.not_false, ne_eq]; omega)))
    refine KO.mv rfl rfl ?_
    (refine KO.on rfl rfl ?_ ?_; (focus (simp only [decide_eq_true_eq, decide_eq_false_iff_not, Bool.not_eq_true, Bool.not_true, Bool.not_false, ne_eq]; omega)); (refine KO.fo0 (off := 2) rfl Tryz.runUnderlying31 rfl rfl Tryz.sizeOf9 rfl ?_))
    (refine KO.on rfl rfl ?_ ?_; (focus (simp only [decide_eq_true_eq, decide_eq_false_iff_not, Bool.not_eq_true, Bool.not_true, Bool.not_false, ne_eq]; omega)); (refine KO.ld rfl rfl Tryz.isAgg9 (by with_reducible (repeat (exact Pick.head))) (by exact rfl) rfl ?_))
    (refine KO.on rfl rfl ?_ ?_; (simp; omega); refine KO.ce (cp := []) rfl rfl rfl Tryz.call102 rfl (body_e w _ _ hb) ?_; rintro v L' ⟨rfl, rfl⟩)
    (refine KO.pickT rfl ?_ rfl rfl ?_; (focus (simp only [decide_eq_true_eq, decide_eq_false_iff_not, Bool.not_eq_true, Bool.not_true, Bool.not_false, ne_eq]; omega)))
    refine KO.mv rfl rfl ?_
    (refine KO.on rfl rfl ?_ ?_; (focus assumption); (refine KO.fo0 (off := 3) rfl Tryz.runUnderlying31 rfl rfl Tryz.sizeOf9 rfl ?_))
    (refine KO.on rfl rfl ?_ ?_; (focus assumption); (refine KO.ld rfl rfl Tryz.isAgg9 (by with_reducible (repeat (exact Pick.head))) (by exact rfl) rfl ?_))
    (refine KO.on rfl rfl ?_ ?_; (assumption); refine KO.ce (cp := []) rfl rfl rfl Tryz.call90 rfl (word_e w _ _ hq) ?_; rintro v L' ⟨rfl, rfl⟩)
    (refine KO.pickT rfl ?_ rfl rfl ?_; (focus assumption))
    refine KO.mv rfl rfl ?_
    (refine KO.no rfl rfl ?_ rfl ?_; (focus assumption))
    (refine KO.no rfl rfl ?_ rfl ?_; (focus assumption))
    (refine KO.no rfl rfl ?_ rfl ?_; (focus assumption))
    (refine KO.pickF rfl ?_ rfl rfl ?_; (focus assumption))
    refine KO.mv rfl rfl ?_
    (refine KO.no rfl rfl ?_ rfl ?_; (focus rfl))
    (refine KO.no rfl rfl ?_ rfl ?_; (focus rfl))
    (refine KO.no rfl rfl ?_ rfl ?_; (focus rfl))
    (refine KO.pickF rfl ?_ rfl rfl ?_; (focus rfl))
    refine KO.as rfl rfl ?_
    refine KO.nil ?_
    repeat (first | (with_reducible refine KQ.next ?_) | (with_reducible refine K.ret ?_))
    exact KQ.ret1 rfl rfl (fun w' hs => fin _ w' _ (by simp [msRight, *]) hs)
  · refine K.reg ?_
    refine KO.fo0 (off := 0) rfl Tryz.runUnderlying31 rfl rfl Tryz.sizeOf3 rfl ?_
    refine KO.ld rfl rfl Tryz.isAgg3 (by with_reducible (repeat (exact Pick.head))) (by exact rfl) rfl ?_
    refine KO.geq rfl rfl rfl ?_
    refine KO.mv rfl rfl ?_
    (refine KO.on rfl rfl ?_ ?_; (focus (simp only [decide_eq_true_eq, decide_eq_false_iff_not, Bool.not_eq_true, Bool.not_true, Bool.not_false, ne_eq]; omega)); (refine KO.fo0 (off := 0) rfl Tryz.runUnderlying31 rfl rfl Tryz.sizeOf3 rfl ?_))
    (refine KO.on rfl rfl ?_ ?_; (focus (simp only [decide_eq_true_eq, decide_eq_false_iff_not, Bool.not_eq_true, Bool.not_true, Bool.not_false, ne_eq]; omega)); (refine KO.ld rfl rfl Tryz.isAgg3 (by with_reducible (repeat (exact Pick.head))) (by exact rfl) rfl ?_))
    (refine KO.on rfl rfl ?_ ?_; (focus (simp only [decide_eq_true_eq, decide_eq_false_iff_not, Bool.not_eq_true, Bool.not_true, Bool.not_false, ne_eq]; omega)); (refine KO.leq rfl rfl rfl ?_))
    (refine KO.pickT rfl ?_ rfl rfl ?_; (focus (simp only [decide_eq_true_eq, decide_eq_false_iff_not, Bool.not_eq_true, Bool.not_true, Bool.not_false, ne_eq]; omega)))
    refine KO.mv rfl rfl ?_
    (refine KO.on rfl rfl ?_ ?_; (focus (simp only [decide_eq_true_eq, decide_eq_false_iff_not, Bool.not_eq_true, Bool.not_true, Bool.not_false, ne_eq]; omega)); (refine KO.fo0 (off := 1) rfl Tryz.runUnderlying31 rfl rfl Tryz.sizeOf3 rfl ?_))
    (refine KO.on rfl rfl ?_ ?_; (focus (simp only [decide_eq_true_eq, decide_eq_false_iff_not, Bool.not_eq_true, Bool.not_true, Bool.not_false, ne_eq]; omega)); (refine KO.ld rfl rfl Tryz.isAgg3 (by with_reducible (repeat (exact Pick.head))) (by exact rfl) rfl ?_))
    (refine KO.on rfl rfl ?_ ?_; (focus (simp only [decide_eq_true_eq, decide_eq_false_iff_not, Bool.not_eq_true, Bool.not_true, Bool.not_false, ne_eq]; omega)); (refine KO.geq rfl rfl rfl ?_))
    (refine KO.pickT rfl ?_ rfl rfl ?_; (focus (simp only [decide_eq_true_eq, decide_eq_false_iff_not, Bool.not_eq_true, Bool.not_true, Bool.not_false, ne_eq]; omega)))
    refine KO.mv rfl rfl ?_
    (refine KO.on rfl rfl ?_ ?_; (focus (simp only [decide_eq_true_eq, decide_eq_false_iff_not, Bool.not_eq_true, Bool.not_true, Bool.not_false, ne_eq]; omega)); (refine KO.fo0 (off := 1) rfl Tryz.runUnderlying31 rfl rfl Tryz.sizeOf3 rfl ?_))
    (refine KO.on rfl rfl ?_ ?_; (focus (simp only [decide_eq_true_eq, decide_eq_false_iff_not, Bool.not_eq_true, Bool.not_true, Bool.not_false, ne_eq]; omega)); (refine KO.ld rfl rfl Tryz.isAgg3 (by with_reducible (repeat (exact Pick.head))) (by exact rfl) rfl ?_))
    (refine KO.on rfl rfl ?_ ?_; (focus (simp only [decide_eq_true_eq, decide_eq_false_iff_not, Bool.not_eq_true, Bool.not_true, Bool.not_false, ne_eq]; omega)); (refine KO.leq rfl rfl rfl ?_))
    (refine KO.pickT rfl ?_ rfl rfl ?_; (focus (simp only [decide_eq_true_eq, decide_eq_false_iff_not, Bool.not_eq_true, Bool.not_true, Bool.not_false, ne_eq]; omega)))
    refine KO.mv rfl rfl ?_
    (refine KO.on rfl rfl ?_ ?_; (focus (simp only [decide_eq_true_eq, decide_eq_false_iff_not, Bool.not_eq_true, Bool.not_true, Bool.not_false, ne_eq]; omega)); (refine KO.fo0 (off := 2) rfl Tryz.runUnderlying31 rfl rfl Tryz.sizeOf9 rfl ?_))
    (refine KO.on rfl rfl ?_ ?_; (focus (simp only [decide_eq_true_eq, decide_eq_false_iff_not, Bool.not_eq_true, Bool.not_true, Bool.not_false, ne_eq]; omega)); (refine KO.ld rfl rfl Tryz.isAgg9 (by with_reducible (repeat (exact Pick.head))) (by exact rfl) rfl ?_))
    (refine KO.on rfl rfl ?_ ?_; (simp; omega); refine KO.ce (cp := []) rfl rfl rfl Tryz.call102 rfl (body_e w _ _ hb) ?_; rintro v L' ⟨rfl, rfl⟩)
    (refine KO.pickT rfl ?_ rfl rfl ?_; (focus (simp only [decide_eq_true_eq, decide_eq_false_iff_not, Bool.not_eq_true, Bool.not_true, Bool.not_false, ne_eq]; omega)))
    refine KO.mv rfl rfl ?_
    (refine KO.on rfl rfl ?_ ?_; (focus assumption); (refine KO.fo0 (off := 3) rfl Tryz.runUnderlying31 rfl rfl Tryz.sizeOf9 rfl ?_))
    (refine KO.on rfl rfl ?_ ?_; (focus assumption); (refine KO.ld rfl rfl Tryz.isAgg9 (by with_reducible (repeat (exact Pick.head))) (by exact rfl) rfl ?_))
    (refine KO.on rfl rfl ?_ ?_; (assumption); refine KO.ce (cp := []) rfl rfl rfl Tryz.call90 rfl (word_e w _ _ hq) ?_; rintro v L' ⟨rfl, rfl⟩)
    (refine KO.pickT rfl ?_ rfl rfl ?_; (focus assumption))
    refine KO.mv rfl rfl ?_
    (refine KO.on rfl rfl ?_ ?_; (focus assumption); (refine KO.fo0 (off := 4) rfl Tryz.runUnderlying31 rfl rfl Tryz.sizeOf3 rfl ?_))
    (refine KO.on rfl rfl ?_ ?_; (focus assumption); (refine KO.ld rfl rfl Tryz.isAgg3 (by with_reducible (repeat (exact Pick.head))) (by exact rfl) rfl ?_))
    (refine KO.on rfl rfl ?_ ?_; (focus assumption); (refine KO.geq rfl rfl rfl ?_))
    (refine KO.pickT rfl ?_ rfl rfl ?_; (focus assumption))
    refine KO.mv rfl rfl ?_
    (refine KO.no rfl rfl ?_ rfl ?_; (focus (simp only [decide_eq_true_eq, decide_eq_false_iff_not, Bool.not_eq_true, Bool.not_true, Bool.not_false, ne_eq]; omega)))
    (refine KO.no rfl rfl ?_ rfl ?_; (focus (simp only [decide_eq_true_eq, decide_eq_false_iff_not, Bool.not_eq_true, Bool.not_true, Bool.not_false, ne_eq]; omega)))
    (refine KO.no rfl rfl ?_ rfl ?_; (focus (simp only [decide_eq_true_eq, decide_eq_false_iff_not, Bool.not_eq_true, Bool.not_true, Bool.not_false, ne_eq]; omega)))
    (refine KO.pickF rfl ?_ rfl rfl ?_; (focus (simp only [decide_eq_true_eq, decide_eq_false_iff_not, Bool.not_eq_true, Bool.not_true, Bool.not_false, ne_eq]; omega)))
    refine KO.as rfl rfl ?_
    refine KO.nil ?_
    repeat (first | (with_reducible refine KQ.next ?_) | (with_reducible refine K.ret ?_))
    exact KQ.ret1 rfl rfl (fun w' hs => fin _ w' _ (by simp [msRight, *]) hs)
  · refine K.reg ?_
    refine KO.fo0 (off := 0) rfl Tryz.runUnderlying31 rfl rfl Tryz.sizeOf3 rfl ?_
    refine KO.ld rfl rfl Tryz.isAgg3 (by with_reducible (repeat (exact Pick.head))) (by exact rfl) rfl ?_
    refine KO.geq rfl rfl rfl ?_
    refine KO.mv rfl rfl ?_
    (refine KO.on rfl rfl ?_ ?_; (focus (simp only [decide_eq_true_eq, decide_eq_false_iff_not, Bool.not_eq_true, Bool.not_true, Bool.not_false, ne_eq]; omega)); (refine KO.fo0 (off := 0) rfl Tryz.runUnderlying31 rfl rfl Tryz.sizeOf3 rfl ?_))
    (refine KO.on rfl rfl ?_ ?_; (focus (simp only [decide_eq_true_eq, decide_eq_false_iff_not, Bool.not_eq_true, Bool.not_true, Bool.not_false, ne_eq]; omega)); (refine KO.ld rfl rfl Tryz.isAgg3 (by with_reducible (repeat (exact Pick.head))) (by exact rfl) rfl ?_))
    (refine KO.on rfl rfl ?_ ?_; (focus (simp only [decide_eq_true_eq, decide_eq_false_iff_not, Bool.not_eq_true, Bool.not_true, Bool.not_false, ne_eq]; omega)); (refine KO.leq rfl rfl rfl ?_))
    (refine KO.pickT rfl ?_ rfl rfl ?_; (focus (simp only [decide_eq_true_eq, decide_eq_false_iff_not, Bool.not_eq_true, Bool.not_true, Bool.not_false, ne_eq]; omega)))
    refine KO.mv rfl rfl ?_
    (refine KO.on rfl rfl ?_ ?_; (focus (simp only [decide_eq_true_eq, decide_eq_false_iff_not, Bool.not_eq_true, Bool.not_true, Bool.not_false, ne_eq]; omega)); (refine KO.fo0 (off := 1) rfl Tryz.runUnderlying31 rfl rfl Tryz.sizeOf3 rfl ?_))
    (refine KO.on rfl rfl ?_ ?_; (focus (simp only [decide_eq_true_eq, decide_eq_false_iff_not, Bool.not_eq_true, Bool.not_true, Bool.not_false, ne_eq]; omega)); (refine KO.ld rfl rfl Tryz.isAgg3 (by with_reducible (repeat (exact Pick.head))) (by exact rfl) rfl ?_))
    (refine KO.on rfl rfl ?_ ?_; (focus (simp only [decide_eq_true_eq, decide_eq_false_iff_not, Bool.not_eq_true, Bool.not_true, Bool.not_false, ne_eq]; omega)); (refine KO.geq rfl rfl rfl ?_))
    (refine KO.pickT rfl ?_ rfl rfl ?_; (focus (simp only [decide_eq_true_eq, decide_eq_false_iff_not, Bool.not_eq_true, Bool.not_true, Bool.not_false, ne_eq]; omega)))
    refine KO.mv rfl rfl ?_
    (refine KO.on rfl rfl ?_ ?_; (focus (simp only [decide_eq_true_eq, decide_eq_false_iff_not, Bool.not_eq_true, Bool.not_true, Bool.not_false, ne_eq]; omega)); (refine KO.fo0 (off := 1) rfl Tryz.runUnderlying31 rfl rfl Tryz.sizeOf3 rfl ?_))
    (refine KO.on rfl rfl ?_ ?_; (focus (simp only [decide_eq_true_eq, decide_eq_false_iff_not, Bool.not_eq_true, Bool.not_true, Bool.not_false, ne_eq]; omega)); (refine KO.ld rfl rfl Tryz.isAgg3 (by with_reducible (repeat (exact Pick.head))) (by exact rfl) rfl ?_))
    (refine KO.on rfl rfl ?_ ?_; (focus (simp only [decide_eq_true_eq, decide_eq_false_iff_not, Bool.not_eq_true, Bool.not_true, Bool.not_false, ne_eq]; omega)); (refine KO.leq rfl rfl rfl ?_))
    (refine KO.pickT rfl ?_ rfl rfl ?_; (focus (simp only [decide_eq_true_eq, decide_eq_false_iff_not, Bool.not_eq_true, Bool.not_true, Bool.not_false, ne_eq]; omega)))
    refine KO.mv rfl rfl ?_
    (refine KO.on rfl rfl ?_ ?_; (focus (simp only [decide_eq_true_eq, decide_eq_false_iff_not, Bool.not_eq_true, Bool.not_true, Bool.not_false, ne_eq]; omega)); (refine KO.fo0 (off := 2) rfl Tryz.runUnderlying31 rfl rfl Tryz.sizeOf9 rfl ?_))
    (refine KO.on rfl rfl ?_ ?_; (focus (simp only [decide_eq_true_eq, decide_eq_false_iff_not, Bool.not_eq_true, Bool.not_true, Bool.not_false, ne_eq]; omega)); (refine KO.ld rfl rfl Tryz.isAgg9 (by with_reducible (repeat (exact Pick.head))) (by exact rfl) rfl ?_))
    (refine KO.on rfl rfl ?_ ?_; (simp; omega); refine KO.ce (cp := []) rfl rfl rfl Tryz.call102 rfl (body_e w _ _ hb) ?_; rintro v L' ⟨rfl, rfl⟩)
    (refine KO.pickT rfl ?_ rfl rfl ?_; (focus (simp only [decide_eq_true_eq, decide_eq_false_iff_not, Bool.not_eq_true, Bool.not_true, Bool.not_false, ne_eq]; omega)))
    refine KO.mv rfl rfl ?_
    (refine KO.on rfl rfl ?_ ?_; (focus assumption); (refine KO.fo0 (off := 3) rfl Tryz.runUnderlying31 rfl rfl Tryz.sizeOf9 rfl ?_))
    (refine KO.on rfl rfl ?_ ?_; (focus assumption); (refine KO.ld rfl rfl Tryz.isAgg9 (by with_reducible (repeat (exact Pick.head))) (by exact rfl) rfl ?_))
    (refine KO.on rfl rfl ?_ ?_; (assumption); refine KO.ce (cp := []) rfl rfl rfl Tryz.call90 rfl (word_e w _ _ hq) ?_; rintro v L' ⟨rfl, rfl⟩)
    (refine KO.pickT rfl ?_ rfl rfl ?_; (focus assumption))
    refine KO.mv rfl rfl ?_
    (refine KO.on rfl rfl ?_ ?_; (focus assumption); (refine KO.fo0 (off := 4) rfl Tryz.runUnderlying31 rfl rfl Tryz.sizeOf3 rfl ?_))
    (refine KO.on rfl rfl ?_ ?_; (focus assumption); (refine KO.ld rfl rfl Tryz.isAgg3 (by with_reducible (repeat (exact Pick.head))) (by exact rfl) rfl ?_))
    (refine KO.on rfl rfl ?_ ?_; (focus assumption); (refine KO.geq rfl rfl rfl ?_))
    (refine KO.pickT rfl ?_ rfl rfl ?_; (focus assumption))
    refine KO.mv rfl rfl ?_
    (refine KO.on rfl rfl ?_ ?_; (focus (simp only [decide_eq_true_eq, decide_eq_false_iff_not, Bool.not_eq_true, Bool.not_true, Bool.not_false, ne_eq]; omega)); (refine KO.fo0 (off := 4) rfl Tryz.runUnderlying31 rfl rfl Tryz.sizeOf3 rfl ?_))
    (refine KO.on rfl rfl ?_ ?_; (focus (simp only [decide_eq_true_eq, decide_eq_false_iff_not, Bool.not_eq_true, Bool.not_true, Bool.not_false, ne_eq]; omega)); (refine KO.ld rfl rfl Tryz.isAgg3 (by with_reducible (repeat (exact Pick.head))) (by exact rfl) rfl ?_))
    (refine KO.on rfl rfl ?_ ?_; (focus (simp only [decide_eq_true_eq, decide_eq_false_iff_not, Bool.not_eq_true, Bool.not_true, Bool.not_false, ne_eq]; omega)); (refine KO.lss rfl rfl rfl ?_))
    (refine KO.pickT rfl ?_ rfl rfl ?_; (focus (simp only [decide_eq_true_eq, decide_eq_false_iff_not, Bool.not_eq_true, Bool.not_true, Bool.not_false, ne_eq]; omega)))
    refine KO.as rfl rfl ?_
    refine KO.nil ?_
    repeat (first | (with_reducible refine KQ.next ?_) | (with_reducible refine K.ret ?_))
    exact KQ.ret1 rfl rfl (fun w' hs => fin _ w' _ (by simp [msRight, *]) hs)
theorem put_c (w0 : World) (L : List HP) (b : Nat) (q : Qu) (m : Ms) (u : Int) (hq : QuOk q) (hb : m.body.size ≤ maxLen) (hs : m.queue.size ≤ maxLen) :
    KC Tryz.prog 11 #[.pointer (some ⟨b, 0, none⟩), .agg (msC m).toArray, .int .i64 u] w0 (quP b q :: L) (fun v L' => v = errV 39 (qputE q m) ∧ L' = quP b (qput q m u) :: L) := by
  have hl := hq.len
  refine KC.mk (n := 30) Tryz.func11 rfl Tryz.ntmps11 (by simp) ?_
  repeat ((with_reducible refine K.seq ?_))
  refine K.reg ?_
  refine KO.box rfl rfl (by exact rfl) rfl ?_; intro b4
  refine KO.as rfl rfl ?_
  refine KO.nil ?_
  repeat (first | (with_reducible refine K.seq ?_) | (with_reducible refine KQ.next ?_) | (with_reducible refine K.block ?_))
  refine K.reg ?_
  refine KO.ldB0 rfl rfl Tryz.isAgg31 Tryz.sizeOf31 (by with_reducible (repeat (exact Pick.head))) (by exact rfl) rfl ?_
  refine KO.ce (cp := []) rfl rfl rfl Tryz.call52 rfl (right_e w0 _ m hb hs) ?_; rintro v L' ⟨rfl, rfl⟩
  refine KO.not rfl rfl ?_
  refine KO.as rfl rfl ?_
  refine KO.nil ?_
  repeat ((with_reducible refine KQ.next ?_))
  refine K.cond rfl (fun h => ?_) (fun h => ?_)
  · have hr : msRight m = false := by simpa using h
    repeat ((with_reducible refine K.seq ?_))
    refine K.reg ?_
    refine KO.mki rfl (by kernel_rfl) rfl ?_
    refine KO.as rfl rfl ?_
    refine KO.nil ?_
    repeat (first | (with_reducible refine KQ.next ?_) | (with_reducible refine KQ.then_ret ?_) | (with_reducible refine KQ.blk_ret ?_) | (with_reducible refine K.ret ?_))
    refine KQ.ret1 rfl rfl (fun w' hs => ⟨_, _, rfl, ⟨by simp only [qputE, hr, if_true]; rfl, rfl⟩, ?_⟩)
    rw [show qput q m u = q by simp [qput, qputE, hr]]
    exact (hs.pick (by with_reducible (repeat (first | exact Pick.head | apply Pick.tail)))).gc1 (by with_reducible repeat (first | exact LSub.refl | apply LSub.drop))
  · have hr : msRight m = true := by simpa using h
    have hp := msRight_parts hr
    repeat ((with_reducible refine K.seq ?_))
    refine K.reg ?_
    refine KO.mv rfl rfl ?_
    refine KO.fo0 (off := 0) rfl Tryz.runUnderlying31 rfl rfl Tryz.sizeOf3 rfl ?_
    refine KO.ld rfl rfl Tryz.isAgg3 (by with_reducible (repeat (exact Pick.head))) (by exact rfl) rfl ?_
    refine KO.ce (cp := []) rfl rfl rfl Tryz.call28 rfl (has_e w0 _ _ b q m.id (by with_reducible (repeat (first | exact Pick.head | apply Pick.tail))) (by omega)) ?_; rintro v L' ⟨rfl, rfl⟩
    refine KO.as rfl rfl ?_
    refine KO.nil ?_
    repeat ((with_reducible refine KQ.next ?_))
    refine K.cond rfl (fun h1 => ?_) (fun h1 => ?_)
    · repeat ((with_reducible refine K.seq ?_))
      refine K.reg ?_
      refine KO.mki rfl (by kernel_rfl) rfl ?_
      refine KO.as rfl rfl ?_
      refine KO.nil ?_
      repeat (first | (with_reducible refine KQ.next ?_) | (with_reducible refine KQ.then_ret ?_) | (with_reducible refine KQ.blk_ret ?_) | (with_reducible refine K.ret ?_))
      refine KQ.ret1 rfl rfl (fun w' hs => ⟨_, _, rfl, ⟨by simp only [qputE, hr, h1, if_true, Bool.true_eq_false, if_false]; rfl, rfl⟩, ?_⟩)
      rw [show qput q m u = q by simp [qput, qputE, hr, h1]]
      exact (hs.pick (by with_reducible (repeat (first | exact Pick.head | apply Pick.tail)))).gc1 (by with_reducible repeat (first | exact LSub.refl | apply LSub.drop))
    · refine K.pk (A := quP b q) (by with_reducible (repeat (first | exact Pick.head | apply Pick.tail))) ?_
      refine K.open' (fun _ h => quP_open h) fun v => ?_
      refine K.fact (fun _ h => SL_form h.drop) ?_
      rintro ⟨sa, cap, rfl, hsa⟩
      repeat ((with_reducible refine K.seq ?_))
      refine K.reg ?_
      refine KO.mv rfl rfl ?_
      refine KO.nc rfl rfl ?_
      refine KO.fo0 (off := 0) rfl Tryz.runUnderlying25 rfl rfl Tryz.sizeOf23 rfl ?_
      refine KO.ld rfl rfl Tryz.isAgg23 (by with_reducible (repeat (exact Pick.head))) (by exact rfl) rfl ?_
      refine KO.len rfl Tryz.underlying23 rfl ?_
      refine KO.geq rfl rfl rfl ?_
      refine KO.as rfl rfl ?_
      refine KO.nil ?_
      repeat ((with_reducible refine KQ.next ?_))
      refine K.condD rfl (fun h2 => ?_) (fun h2 => ?_)
      · have h3 : 20 ≤ q.l.length := by omega
        repeat ((with_reducible refine K.seq ?_))
        refine K.reg ?_
        refine KO.mki rfl (by kernel_rfl) rfl ?_
        refine KO.as rfl rfl ?_
        refine KO.nil ?_
        repeat (first | (with_reducible refine KQ.next ?_) | (with_reducible refine KQ.then_ret ?_) | (with_reducible refine KQ.blk_ret ?_) | (with_reducible refine K.ret ?_))
        refine KQ.ret1 rfl rfl (fun w' hs => ⟨_, _, rfl, ⟨by simp only [qputE, hr, h1, h3, if_true, Bool.true_eq_false, Bool.false_eq_true, if_false]; rfl, rfl⟩, ?_⟩)
        rw [show qput q m u = q by simp [qput, qputE, hr, h1, h3]]
        exact quP_mk ((hs.pick2 (by with_reducible (repeat (exact Pick.head))) (by with_reducible (repeat (exact Pick.head)))).gc2 (by with_reducible repeat (first | exact LSub.refl | apply LSub.drop)))
      · have h3 : ¬ 20 ≤ q.l.length := by omega
        refine K.conv (fun _ h => quP_mk h) ?_
        repeat (first | (with_reducible refine K.seq ?_) | (with_reducible refine KQ.next ?_) | (with_reducible refine KQ.blk_normal ?_) | (with_reducible refine K.skip ?_))
        refine K.reg ?_
        refine KO.mv rfl rfl ?_
        refine KO.ldB0 rfl rfl Tryz.isAgg31 Tryz.sizeOf31 (by with_reducible (repeat (first | exact Pick.head | apply Pick.tail))) (by exact rfl) rfl ?_
        refine KO.mv rfl rfl ?_
        refine KO.cl (cp := []) rfl rfl rfl Tryz.call20 rfl (KC.pk1 (by with_reducible (repeat (exact Pick.head))) (push_c w0 _ b q m u hq (by unfold small; omega))) ?_; rintro v L' ⟨rfl, rfl⟩
        refine KO.nil ?_
        repeat (first | (with_reducible refine K.seq ?_) | (with_reducible refine KQ.next ?_))
        refine K.reg ?_
        refine KO.as rfl rfl ?_
        refine KO.nil ?_
        repeat (first | (with_reducible refine KQ.next ?_) | (with_reducible refine K.ret ?_))
        refine KQ.ret1 rfl rfl (fun w' hs => ⟨_, _, rfl, ⟨by simp only [qputE, hr, h1, h3, Bool.true_eq_false, Bool.false_eq_true, if_false]; rfl, rfl⟩, ?_⟩)
        rw [show qput q m u = qpush q m u by simp [qput, qputE, hr, h1, h3]]
        exact hs.gc1 (by with_reducible repeat (first | exact LSub.refl | apply LSub.drop))
end Go.Proofs.YtjhogocabcdjbaaGreatDoor
/- what the laws ask: pick, plain.Same, api.Tell; lined. -/
namespace Go.Proofs.YtjhogocabcdjbaaGreatDoor
open Go Go.RowKit WB
theorem tell_e (w0 : World) (L : List HP) (k : Int) (hg : ErrType w0) : KE Tryz.prog 177 #[errV 39 k] w0 L (fun u L' => u = .int .i64 k ∧ L' = L) := KE.of_below fun w hw => by
  unfold errV
  split
  · next h => subst h; exact tell_nil w
  · exact tell_errno k w ((Ext.of_below hw.below).cell hg)
theorem ms_eq (a b : Ms) (w : World) : (Op.equalIn 10000 31 (.agg (msC a).toArray) (.agg (msC b).toArray)).run Tryz.prog w = .ok (decide (a = b)) w := by
  rw [run_equalIn_agg w 9999 31 _ _ (by kernel_rfl) (by kernel_rfl), ← ms_bools]
  simp only [Program.fieldsOf, Tryz.underlying31]
  refine eqF_int (by decide) Tryz.underlying3 (Tryz.isAgg3 w) rfl rfl (eqF_int (by decide) Tryz.underlying3 (Tryz.isAgg3 w) rfl rfl (eqF_str (by decide) Tryz.underlying9 (Tryz.isAgg9 w) rfl rfl (eqF_str (by decide) Tryz.underlying9 (Tryz.isAgg9 w) rfl rfl (eqF_int (by decide) Tryz.underlying3 (Tryz.isAgg3 w) rfl rfl eqF_nil))))
theorem same_e (w0 : World) (L : List HP) (v1 v2 : Value) (xs ys : List Ms) (h1 : ∀ w, St w0 L w → RdS w 5 msC v1 xs) (h2 : ∀ w, St w0 L w → RdS w 5 msC v2 ys) (hx : xs.length < 1000000) (hy : ys.length < 1000000) :
    KE Tryz.prog 22 #[v1, v2] w0 L (fun u M => u = .bool (decide (xs = ys)) ∧ M = L) := by
  refine KE.mk (n := 26) Tryz.func22 rfl Tryz.ntmps22 (by simp) ?_
  intro w hw
  obtain ⟨a1, c1, rfl, ha1, hc1⟩ := h1 w hw
  obtain ⟨a2, c2, rfl, ha2, hc2⟩ := h2 w hw
  have fin : ∀ (b : Bool) (w' : World) (M : List HP), b = decide (xs = ys) → St w M w' → ∃ v L', Ending.returned (.bool b) = Ending.returned v ∧ (v = .bool (decide (xs = ys)) ∧ L' = L) ∧ St w0 L' w' ∧ Below w.heap.size w w' := fun b w' M e hs => ⟨_, _, rfl, ⟨by rw [e], rfl⟩, hw.below_step hs.below, hs.below⟩
  repeat ((with_reducible refine K.seq ?_))
  refine K.reg ?_
  refine KO.as rfl rfl ?_
  refine KO.nil ?_
  repeat (first | (with_reducible refine K.seq ?_) | (with_reducible refine KQ.next ?_))
  refine K.reg ?_
  refine KO.mv rfl rfl ?_
  refine KO.len rfl Tryz.underlying50 rfl ?_
  refine KO.mv rfl rfl ?_
  refine KO.len rfl Tryz.underlying50 rfl ?_
  refine KO.neI rfl rfl rfl ?_
  refine KO.nil ?_
  repeat ((with_reducible refine KQ.next ?_))
  refine K.condD rfl (fun h => ?_) (fun h => ?_)
  · repeat ((with_reducible refine K.seq ?_))
    refine K.reg ?_
    refine KO.as rfl rfl ?_
    refine KO.nil ?_
    repeat (first | (with_reducible refine KQ.next ?_) | (with_reducible refine KQ.then_ret ?_) | (with_reducible refine K.ret ?_))
    refine KQ.ret1 rfl rfl (fun w' hs => fin _ w' _ (by rw [eq_comm, decide_eq_false_iff_not]; rintro rfl; exact h rfl) hs)
  · have hlen : xs.length = ys.length := by omega
    repeat (first | (with_reducible refine K.seq ?_) | (with_reducible refine KQ.next ?_) | (with_reducible refine K.skip ?_))
    refine K.reg ?_
    refine KO.mv rfl rfl ?_
    refine KO.len rfl Tryz.underlying50 rfl ?_
    refine KO.mv rfl rfl ?_
    refine KO.nil ?_
    repeat (first | (with_reducible refine KQ.next ?_) | (with_reducible refine K.block ?_))
    refine K.loop (fun k : Nat => [(0, .slice a1 xs.length c1), (1, .slice a2 ys.length c2), (4, .bool false), (12, .int .i64 (xs.length : Nat)), (13, .int .i64 (k : Nat))]) (fun _ => []) (fun k => k ≤ xs.length ∧ xs.take k = ys.take k) (fun k => xs.length - k) 0
      ⟨Nat.zero_le _, rfl⟩ ⟨rfl, rfl, rfl, rfl, rfl, trivial⟩ (fun _ h => h) ?_
    rintro k ⟨hk, hkk⟩
    repeat ((with_reducible refine K.seq ?_))
    refine K.reg ?_
    refine KO.lss rfl rfl rfl ?_
    refine KO.nil ?_
    repeat (first | (with_reducible refine K.seq ?_) | (with_reducible refine KQ.next ?_))
    refine K.condD rfl (fun h3 => ?_) (fun h3 => ?_)
    · obtain ⟨g1, rfl⟩ := ha1 (by omega)
      obtain ⟨g2, rfl⟩ := ha2 (by omega)
      obtain ⟨e1, he1⟩ : ∃ e, xs[k]? = some e := ⟨xs[k], List.getElem?_eq_getElem (by omega)⟩
      obtain ⟨e2, he2⟩ : ∃ e, ys[k]? = some e := ⟨ys[k], List.getElem?_eq_getElem (by omega)⟩
      repeat (first | (with_reducible refine K.seq ?_) | (with_reducible refine KQ.next ?_) | (with_reducible refine K.skip ?_) | (with_reducible refine K.block ?_))
      refine K.reg ?_
      refine KO.mv rfl rfl ?_
      refine KO.as rfl rfl ?_
      refine KO.nil ?_
      repeat (first | (with_reducible refine K.seq ?_) | (with_reducible refine KQ.next ?_))
      refine K.draw [.pure, .pure, .pure, .read, .pure, .pure, .pure, .read, .pure] [0, 1, 2, 3, 4, 5, 6, 7, 8] (by kernel_rfl) (by kernel_rfl) ?_
      refine KO.mv rfl rfl ?_
      refine KO.mv rfl rfl ?_
      refine KO.idx0 rfl rfl Tryz.runUnderlying50 Tryz.sizeOf31 (by exact rfl) (by omega) rfl ?_
      refine KO.ldN0 (cs := (msC e1).toArray) rfl rfl Tryz.isAgg31 Tryz.sizeOf31 rfl (hc1 g1 rfl k e1 he1) rfl ?_
      refine KO.mv rfl rfl ?_
      refine KO.mv rfl rfl ?_
      refine KO.idx0 rfl rfl Tryz.runUnderlying50 Tryz.sizeOf31 (by exact rfl) (by omega) rfl ?_
      refine KO.ldN0 (cs := (msC e2).toArray) rfl rfl Tryz.isAgg31 Tryz.sizeOf31 rfl (hc2 g2 rfl k e2 he2) rfl ?_
      refine KO.neA rfl rfl (by kernel_rfl) (ms_eq e1 e2) rfl ?_
      refine KO.nil ?_
      repeat ((with_reducible refine KQ.next ?_))
      refine K.cond rfl (fun h4 => ?_) (fun h4 => ?_)
      · repeat ((with_reducible refine K.seq ?_))
        refine K.reg ?_
        refine KO.as rfl rfl ?_
        refine KO.nil ?_
        repeat (first | (with_reducible refine KQ.next ?_) | (with_reducible refine KQ.then_ret ?_) | (with_reducible refine KQ.blk_ret ?_) | (with_reducible refine K.ret ?_))
        refine KQ.ret1 rfl rfl (fun w' hs => fin _ w' _ ?_ hs)
        rw [eq_comm, decide_eq_false_iff_not]
        rintro rfl
        rw [he1] at he2
        simp only [Option.some.injEq] at he2
        simp [he2] at h4
      · have e12 : e1 = e2 := by simpa using h4
        repeat (first | (with_reducible refine KQ.next ?_) | (with_reducible refine KQ.blk_normal ?_) | (with_reducible refine K.skip ?_))
        refine K.reg ?_
        refine KO.add rfl rfl rfl (by omega) rfl ?_
        refine KO.mv rfl rfl ?_
        refine KO.nil ?_
        refine KQ.round (k + 1) ⟨by omega, by rw [take_succ_some he1, take_succ_some he2, hkk, e12]⟩ (by omega) ⟨rfl, rfl, rfl, rfl, rfl, trivial⟩ (fun _ hs => hs)
    · have hkl : k = xs.length := by omega
      repeat (first | (with_reducible refine K.seq ?_) | (with_reducible refine KQ.next ?_) | (with_reducible refine KQ.then_exit ?_) | (with_reducible refine KQ.blk_exit ?_) | (with_reducible refine K.exit ?_))
      refine K.reg ?_
      refine KO.as rfl rfl ?_
      refine KO.nil ?_
      repeat (first | (with_reducible refine KQ.next ?_) | (with_reducible refine K.ret ?_))
      refine KQ.ret1 rfl rfl (fun w' hs => fin _ w' _ ?_ hs)
      rw [eq_comm, decide_eq_true_eq]
      rw [hkl, List.take_length, hlen, List.take_length] at hkk
      exact hkk
end Go.Proofs.YtjhogocabcdjbaaGreatDoor
/- the document's words: what may be; errors held beside it. -/
namespace Go.Proofs.YtjhogocabcdjbaaGreatDoor
open Go Go.RowKit WB
theorem in_e (w0 : World) (L : List HP) (n a b : Int) : KE Tryz.prog 62 #[.int .i64 n, .int .i64 a, .int .i64 b] w0 L (fun u M => u = .bool (decide (a ≤ n) && decide (n ≤ b)) ∧ M = L) := by
  refine KE.mk (n := 15) Tryz.func62 rfl Tryz.ntmps62 (by simp) ?_
  intro w hw
  repeat ((with_reducible refine K.seq ?_))
  refine K.reg ?_
  refine KO.as rfl rfl ?_
  refine KO.nil ?_
  repeat (first | (with_reducible refine K.seq ?_) | (with_reducible refine KQ.next ?_))
  by_cases h : a ≤ n
  · refine K.reg ?_
    refine KO.mv rfl rfl ?_
    refine KO.mv rfl rfl ?_
    refine KO.leq rfl rfl rfl ?_
    refine KO.mv rfl rfl ?_
    (refine KO.on rfl rfl ?_ ?_; (focus (simp only [decide_eq_true_eq, decide_eq_false_iff_not, Bool.not_eq_true, Bool.not_true, Bool.not_false, ne_eq]; omega)); (refine KO.mv rfl rfl ?_))
    (refine KO.on rfl rfl ?_ ?_; (focus (simp only [decide_eq_true_eq, decide_eq_false_iff_not, Bool.not_eq_true, Bool.not_true, Bool.not_false, ne_eq]; omega)); (refine KO.mv rfl rfl ?_))
    (refine KO.on rfl rfl ?_ ?_; (focus (simp only [decide_eq_true_eq, decide_eq_false_iff_not, Bool.not_eq_true, Bool.not_true, Bool.not_false, ne_eq]; omega)); (refine KO.leq rfl rfl rfl ?_))
    (refine KO.pickT rfl ?_ rfl rfl ?_; (focus (simp only [decide_eq_true_eq, decide_eq_false_iff_not, Bool.not_eq_true, Bool.not_true, Bool.not_false, ne_eq]; omega)))
    refine KO.as rfl rfl ?_
    refine KO.nil ?_
    repeat (first | (with_reducible refine KQ.next ?_) | (with_reducible refine K.ret ?_))
    refine KQ.ret1 rfl rfl (fun w' hs => ⟨_, _, rfl, ⟨by simp [h], rfl⟩, hw.below_step hs.below, hs.below⟩)
  · refine K.reg ?_
    refine KO.mv rfl rfl ?_
    refine KO.mv rfl rfl ?_
    refine KO.leq rfl rfl rfl ?_
    refine KO.mv rfl rfl ?_
    (refine KO.no rfl rfl ?_ rfl ?_; (focus (simp only [decide_eq_true_eq, decide_eq_false_iff_not, Bool.not_eq_true, Bool.not_true, Bool.not_false, ne_eq]; omega)))
    (refine KO.no rfl rfl ?_ rfl ?_; (focus (simp only [decide_eq_true_eq, decide_eq_false_iff_not, Bool.not_eq_true, Bool.not_true, Bool.not_false, ne_eq]; omega)))
    (refine KO.no rfl rfl ?_ rfl ?_; (focus (simp only [decide_eq_true_eq, decide_eq_false_iff_not, Bool.not_eq_true, Bool.not_true, Bool.not_false, ne_eq]; omega)))
    (refine KO.pickF rfl ?_ rfl rfl ?_; (focus (simp only [decide_eq_true_eq, decide_eq_false_iff_not, Bool.not_eq_true, Bool.not_true, Bool.not_false, ne_eq]; omega)))
    refine KO.as rfl rfl ?_
    refine KO.nil ?_
    repeat (first | (with_reducible refine KQ.next ?_) | (with_reducible refine K.ret ?_))
    refine KQ.ret1 rfl rfl (fun w' hs => ⟨_, _, rfl, ⟨by simp [h], rfl⟩, hw.below_step hs.below, hs.below⟩)
theorem isLet_of (c : UInt8) : isLet c = ((decide ((97 : Int) ≤ (c.toNat : Nat)) && decide (((c.toNat : Nat) : Int) ≤ 122)) || (decide ((48 : Int) ≤ (c.toNat : Nat)) && decide (((c.toNat : Nat) : Int) ≤ 57))) := by
  unfold isLet
  have e : ∀ n : Fin 256, ((97 : UInt8) ≤ UInt8.ofNat n.val ↔ (97 : Int) ≤ (n.val : Nat)) ∧ (UInt8.ofNat n.val ≤ (122 : UInt8) ↔ ((n.val : Nat) : Int) ≤ 122) ∧ ((48 : UInt8) ≤ UInt8.ofNat n.val ↔ (48 : Int) ≤ (n.val : Nat)) ∧ (UInt8.ofNat n.val ≤ (57 : UInt8) ↔ ((n.val : Nat) : Int) ≤ 57) := by decide +kernel
  have h := e ⟨c.toNat, c.toNat_lt⟩
  simp only [UInt8.ofNat_toNat] at h
  simp only [h.1, h.2.1, h.2.2.1, h.2.2.2]
theorem rletters_e (w0 : World) (L : List HP) (s : ByteArray) (m : Nat) (hs : s.size ≤ maxLen) : KE Tryz.prog 103 #[.string s, .int .i64 (m : Nat)] w0 L (fun u M => u = .bool (lettersB s m) ∧ M = L) := by
  refine KE.mk (n := 35) Tryz.func103 rfl Tryz.ntmps103 (by simp) ?_
  intro w hw
  have hs9 : s.size ≤ 9223372036854775807 := by unfold maxLen at hs; exact hs
  repeat ((with_reducible refine K.seq ?_))
  refine K.reg ?_
  refine KO.as rfl rfl ?_
  refine KO.nil ?_
  repeat (first | (with_reducible refine K.seq ?_) | (with_reducible refine KQ.next ?_))
  refine K.reg ?_
  refine KO.mv rfl rfl ?_
  refine KO.lenS rfl Tryz.underlying9 rfl ?_
  refine KO.mv rfl rfl ?_
  refine KO.nil ?_
  repeat (first | (with_reducible refine KQ.next ?_) | (with_reducible refine K.block ?_))
  refine K.loop (fun k : Nat => [(0, .string s), (1, .int .i64 (m : Nat)), (8, .int .i64 (s.size : Nat)), (9, .int .i64 (k : Nat))]) (fun _ => []) (fun k => k ≤ s.size ∧ ∀ j c, j < k → s[j]? = some c → isLet c = true) (fun k => s.size - k) 0
    ⟨Nat.zero_le _, fun j c h => by omega⟩ ⟨rfl, rfl, rfl, rfl, trivial⟩ (fun _ h => h) ?_
  rintro k ⟨hk, hall⟩
  repeat ((with_reducible refine K.seq ?_))
  refine K.reg ?_
  refine KO.lss rfl rfl rfl ?_
  refine KO.nil ?_
  repeat (first | (with_reducible refine K.seq ?_) | (with_reducible refine KQ.next ?_))
  refine K.condD rfl (fun h => ?_) (fun h => ?_)
  · obtain ⟨c, hc⟩ : ∃ c, s[k]? = some c := ⟨s[k]'(by omega), getElem?_eq_some_iff.2 ⟨by omega, rfl⟩⟩
    have hl := isLet_of c
    repeat (first | (with_reducible refine K.seq ?_) | (with_reducible refine KQ.next ?_) | (with_reducible refine K.skip ?_) | (with_reducible refine K.block ?_))
    refine K.reg ?_
    refine KO.mv rfl rfl ?_
    refine KO.as rfl rfl ?_
    refine KO.nil ?_
    repeat (first | (with_reducible refine K.seq ?_) | (with_reducible refine KQ.next ?_))
    refine K.reg ?_
    refine KO.mv rfl rfl ?_
    refine KO.mv rfl rfl ?_
    refine KO.idxStr rfl rfl Tryz.underlying9 (by exact rfl) (by assumption) rfl ?_
    refine KO.as rfl rfl ?_
    refine KO.nil ?_
    repeat (first | (with_reducible refine K.seq ?_) | (with_reducible refine KQ.next ?_))
    refine K.cut (fun b : Bool => [(29, .bool (!b)), (0, .string s), (1, .int .i64 (m : Nat)), (8, .int .i64 (s.size : Nat)), (9, .int .i64 (k : Nat))]) (fun _ => []) (fun b => b = isLet c) ?_ ?_
    · by_cases h1 : (97 : Int) ≤ (c.toNat : Nat)
      all_goals by_cases h2 : ((c.toNat : Nat) : Int) ≤ 122
      all_goals by_cases h3 : (48 : Int) ≤ (c.toNat : Nat)
      all_goals by_cases h4 : ((c.toNat : Nat) : Int) ≤ 57
      all_goals first | (exfalso; omega) | skip
      all_goals (simp only [h1, h2, h3, h4, decide_true, decide_false, Bool.and_true, Bool.and_false, Bool.or_true, Bool.or_false, Bool.true_or, Bool.false_or] at hl)
      all_goals (
        refine K.reg ?_
        refine KO.mv rfl rfl ?_
        refine KO.geq rfl rfl rfl ?_
        refine KO.mv rfl rfl ?_
        first | (refine KO.on rfl rfl ?_ ?_; (focus (simp only [decide_eq_true_eq, decide_eq_false_iff_not, Bool.not_eq_true, Bool.not_true, Bool.not_false, ne_eq]; omega)); (refine KO.mv rfl rfl ?_)) | (refine KO.no rfl rfl ?_ rfl ?_; (focus (simp only [decide_eq_true_eq, decide_eq_false_iff_not, Bool.not_eq_true, Bool.not_true, Bool.not_false, ne_eq]; omega)))
        first | (refine KO.on rfl rfl ?_ ?_; (focus (simp only [decide_eq_true_eq, decide_eq_false_iff_not, Bool.not_eq_true, Bool.not_true, Bool.not_false, ne_eq]; omega)); (refine KO.leq rfl rfl rfl ?_)) | (refine KO.no rfl rfl ?_ rfl ?_; (focus (simp only [decide_eq_true_eq, decide_eq_false_iff_not, Bool.not_eq_true, Bool.not_true, Bool.not_false, ne_eq]; omega)))
        first | (refine KO.pickT rfl ?_ rfl rfl ?_; (focus (simp only [decide_eq_true_eq, decide_eq_false_iff_not, Bool.not_eq_true, Bool.not_true, Bool.not_false, ne_eq]; omega))) | (refine KO.pickF rfl ?_ rfl rfl ?_; (focus (simp only [decide_eq_true_eq, decide_eq_false_iff_not, Bool.not_eq_true, Bool.not_true, Bool.not_false, ne_eq]; omega)))
        refine KO.mv rfl rfl ?_
        first | (refine KO.on rfl rfl ?_ ?_; (focus first | rfl | (simp only [decide_eq_true_eq, decide_eq_false_iff_not, Bool.not_eq_true, Bool.not_true, Bool.not_false, ne_eq]; omega)); (refine KO.mv rfl rfl ?_)) | (refine KO.no rfl rfl ?_ rfl ?_; (focus (simp only [decide_eq_true_eq, decide_eq_false_iff_not, Bool.not_eq_true, Bool.not_true, Bool.not_false, ne_eq]; omega)))
        first | (refine KO.on rfl rfl ?_ ?_; (focus first | rfl | (simp only [decide_eq_true_eq, decide_eq_false_iff_not, Bool.not_eq_true, Bool.not_true, Bool.not_false, ne_eq]; omega)); (refine KO.geq rfl rfl rfl ?_)) | (refine KO.no rfl rfl ?_ rfl ?_; (focus (simp only [decide_eq_true_eq, decide_eq_false_iff_not, Bool.not_eq_true, Bool.not_true, Bool.not_false, ne_eq]; omega)))
        first | (refine KO.on rfl rfl ?_ ?_; (focus first | rfl | (simp only [decide_eq_true_eq, decide_eq_false_iff_not, Bool.not_eq_true, Bool.not_true, Bool.not_false, ne_eq]; omega)); (refine KO.mv rfl rfl ?_)) | (refine KO.no rfl rfl ?_ rfl ?_; (focus (simp only [decide_eq_true_eq, decide_eq_false_iff_not, Bool.not_eq_true, Bool.not_true, Bool.not_false, ne_eq]; omega)))
        first | (refine KO.on rfl rfl ?_ ?_; (focus (simp only [decide_eq_true_eq, decide_eq_false_iff_not, Bool.not_eq_true, Bool.not_true, Bool.not_false, ne_eq]; omega)); (refine KO.mv rfl rfl ?_)) | (refine KO.no rfl rfl ?_ rfl ?_; (focus (simp only [decide_eq_true_eq, decide_eq_false_iff_not, Bool.not_eq_true, Bool.not_true, Bool.not_false, ne_eq]; omega))) | refine KO.no2 rfl rfl rfl ?_
        first | (refine KO.on rfl rfl ?_ ?_; (focus (simp only [decide_eq_true_eq, decide_eq_false_iff_not, Bool.not_eq_true, Bool.not_true, Bool.not_false, ne_eq]; omega)); (refine KO.leq rfl rfl rfl ?_)) | (refine KO.no rfl rfl ?_ rfl ?_; (focus (simp only [decide_eq_true_eq, decide_eq_false_iff_not, Bool.not_eq_true, Bool.not_true, Bool.not_false, ne_eq]; omega))) | refine KO.no2 rfl rfl rfl ?_
        first | (refine KO.on rfl rfl ?_ ?_; (focus first | rfl | (simp only [decide_eq_true_eq, decide_eq_false_iff_not, Bool.not_eq_true, Bool.not_true, Bool.not_false, ne_eq]; omega)); (first | (refine KO.pickT rfl ?_ rfl rfl ?_; (focus (simp only [decide_eq_true_eq, decide_eq_false_iff_not, Bool.not_eq_true, Bool.not_true, Bool.not_false, ne_eq]; omega))) | (refine KO.pickF rfl ?_ rfl rfl ?_; (focus (simp only [decide_eq_true_eq, decide_eq_false_iff_not, Bool.not_eq_true, Bool.not_true, Bool.not_false, ne_eq]; omega))))) | (refine KO.no rfl rfl ?_ rfl ?_; (focus (simp only [decide_eq_true_eq, decide_eq_false_iff_not, Bool.not_eq_true, Bool.not_true, Bool.not_false, ne_eq]; omega)))
        first | (refine KO.pickT rfl ?_ rfl rfl ?_; (focus (simp only [decide_eq_true_eq, decide_eq_false_iff_not, Bool.not_eq_true, Bool.not_true, Bool.not_false, ne_eq]; omega))) | (refine KO.pickF rfl ?_ rfl rfl ?_; (focus first | rfl | (simp only [decide_eq_true_eq, decide_eq_false_iff_not, Bool.not_eq_true, Bool.not_true, Bool.not_false, ne_eq]; omega)))
        refine KO.not rfl rfl ?_
        refine KO.nil ?_
        exact KQ.mid (isLet c) rfl ⟨by rw [hl]; first | rfl | simp [envAt, h1, h2, h3, h4], rfl, rfl, rfl, rfl, trivial⟩ (fun _ h => h))
    rintro b rfl
    refine K.cond rfl (fun h5 => ?_) (fun h5 => ?_)
    · repeat ((with_reducible refine K.seq ?_))
      refine K.reg ?_
      refine KO.as rfl rfl ?_
      refine KO.nil ?_
      repeat (first | (with_reducible refine KQ.next ?_) | (with_reducible refine KQ.then_ret ?_) | (with_reducible refine KQ.blk_ret ?_) | (with_reducible refine K.ret ?_))
      refine KQ.ret1 rfl rfl (fun w' hs' => ⟨_, _, rfl, ⟨?_, rfl⟩, hw.below_step hs'.below, hs'.below⟩)
      have : allLet s = false := by
        unfold allLet
        rw [List.all_eq_false]
        obtain ⟨hlt, rfl⟩ := getElem?_eq_some_iff.1 hc
        exact ⟨s[k], Array.mem_toList_iff.2 (Array.getElem_mem (xs := s.data) hlt), by simpa using h5⟩
      simp [lettersB, this]
    · repeat (first | (with_reducible refine KQ.next ?_) | (with_reducible refine KQ.blk_normal ?_) | (with_reducible refine K.skip ?_))
      refine K.reg ?_
      refine KO.add rfl rfl rfl (by omega) rfl ?_
      refine KO.mv rfl rfl ?_
      refine KO.nil ?_
      refine KQ.round (k + 1) ⟨by omega, fun j d hj hd => ?_⟩ (by omega) ⟨rfl, rfl, rfl, rfl, trivial⟩ (fun _ h => h)
      by_cases hjk : j = k
      · subst hjk; rw [hc] at hd; cases hd; simpa using h5
      · exact hall j d (by omega) hd
  · have hall2 : allLet s = true := by
      unfold allLet
      rw [List.all_eq_true]
      intro c hc
      obtain ⟨j, hj, rfl⟩ := List.getElem_of_mem hc
      have hj2 : j < s.size := by simpa using hj
      exact hall j _ (by omega) (getElem?_eq_some_iff.2 ⟨hj2, rfl⟩)
    repeat (first | (with_reducible refine K.seq ?_) | (with_reducible refine KQ.next ?_) | (with_reducible refine KQ.then_exit ?_) | (with_reducible refine KQ.blk_exit ?_) | (with_reducible refine K.exit ?_))
    refine K.reg ?_
    refine KO.mv rfl rfl ?_
    refine KO.lenS rfl Tryz.underlying9 rfl ?_
    refine KO.mv rfl rfl ?_
    refine KO.ce (cp := []) rfl rfl rfl Tryz.call62 rfl (in_e w _ _ _ _) ?_; rintro v' L' ⟨rfl, rfl⟩
    refine KO.as rfl rfl ?_
    refine KO.nil ?_
    repeat (first | (with_reducible refine KQ.next ?_) | (with_reducible refine K.ret ?_))
    refine KQ.ret1 rfl rfl (fun w' hs' => ⟨_, _, rfl, ⟨?_, rfl⟩, hw.below_step hs'.below, hs'.below⟩)
    simp only [lettersB, hall2, Bool.and_true]
    congr 2
    · exact decide_eq_decide.2 (by omega)
    · exact decide_eq_decide.2 (by omega)
theorem rword_e (w0 : World) (L : List HP) (s : ByteArray) (hs : s.size ≤ maxLen) : KE Tryz.prog 64 #[.string s] w0 L (fun u M => u = .bool (wordB s) ∧ M = L) := by
  refine KE.mk (n := 5) Tryz.func64 rfl Tryz.ntmps64 (by simp) ?_
  intro w hw
  repeat ((with_reducible refine K.seq ?_))
  refine K.reg ?_
  refine KO.as rfl rfl ?_
  refine KO.nil ?_
  repeat (first | (with_reducible refine K.seq ?_) | (with_reducible refine KQ.next ?_))
  refine K.reg ?_
  refine KO.mv rfl rfl ?_
  refine KO.ce (cp := []) rfl rfl rfl Tryz.call103 rfl (rletters_e w _ s 8 hs) ?_; rintro v' L' ⟨rfl, rfl⟩
  refine KO.as rfl rfl ?_
  refine KO.nil ?_
  repeat (first | (with_reducible refine KQ.next ?_) | (with_reducible refine K.ret ?_))
  refine KQ.ret1 rfl rfl (fun w' hs' => ⟨_, _, rfl, ⟨rfl, rfl⟩, hw.below_step hs'.below, hs'.below⟩)
theorem rbody_e (w0 : World) (L : List HP) (s : ByteArray) (hs : s.size ≤ maxLen) : KE Tryz.prog 63 #[.string s] w0 L (fun u M => u = .bool (bodyB s) ∧ M = L) := by
  refine KE.mk (n := 5) Tryz.func63 rfl Tryz.ntmps63 (by simp) ?_
  intro w hw
  repeat ((with_reducible refine K.seq ?_))
  refine K.reg ?_
  refine KO.as rfl rfl ?_
  refine KO.nil ?_
  repeat (first | (with_reducible refine K.seq ?_) | (with_reducible refine KQ.next ?_))
  refine K.reg ?_
  refine KO.mv rfl rfl ?_
  refine KO.ce (cp := []) rfl rfl rfl Tryz.call103 rfl (rletters_e w _ s 12 hs) ?_; rintro v' L' ⟨rfl, rfl⟩
  refine KO.as rfl rfl ?_
  refine KO.nil ?_
  repeat (first | (with_reducible refine KQ.next ?_) | (with_reducible refine K.ret ?_))
  refine KQ.ret1 rfl rfl (fun w' hs' => ⟨_, _, rfl, ⟨rfl, rfl⟩, hw.below_step hs'.below, hs'.below⟩)
theorem rright_e (w0 : World) (L : List HP) (m : Ms) (hb : m.body.size ≤ maxLen) (hq : m.queue.size ≤ maxLen) : KE Tryz.prog 19 #[.agg (msC m).toArray] w0 L (fun u M => u = .bool (msRight m) ∧ M = L) := by
  refine KE.mk (n := 26) Tryz.func19 rfl Tryz.ntmps19 (by simp) ?_
  intro w hw
  have fin : ∀ (b : Bool) (w' : World) (M : List HP), b = msRight m → St w M w' → ∃ v L', Ending.returned (.bool b) = Ending.returned v ∧ (v = .bool (msRight m) ∧ L' = L) ∧ St w0 L' w' ∧ Below w.heap.size w w' := fun b w' M e hs => ⟨_, _, rfl, ⟨by rw [e], rfl⟩, hw.below_step hs.below, hs.below⟩
  have hd : msRight m = ((decide (0 ≤ m.id) && decide (m.id ≤ 1099511627776)) && ((decide (0 ≤ m.pri) && decide (m.pri ≤ 9)) && (bodyB m.body && (wordB m.queue && (decide (0 ≤ m.house) && decide (m.house ≤ 3)))))) := by
    unfold msRight
    rw [show decide (m.house < 4) = decide (m.house ≤ 3) from decide_eq_decide.2 (by omega)]
    simp only [Bool.and_assoc]
  repeat ((with_reducible refine K.seq ?_))
  refine K.reg ?_
  refine KO.box rfl rfl (by exact rfl) rfl ?_; intro b1
  refine KO.as rfl rfl ?_
  refine KO.nil ?_
  repeat (first | (with_reducible refine K.seq ?_) | (with_reducible refine KQ.next ?_))
  generalize hc1 : (decide (0 ≤ m.id) && decide (m.id ≤ 1099511627776)) = c1 at hd
  generalize hc2 : (decide (0 ≤ m.pri) && decide (m.pri ≤ 9)) = c2 at hd
  generalize hc3 : bodyB m.body = c3 at hd
  generalize hc4 : wordB m.queue = c4 at hd
  generalize hc5 : (decide (0 ≤ m.house) && decide (m.house ≤ 3)) = c5 at hd
  cases c1
  · refine K.reg ?_
    refine KO.fo0 (off := 0) rfl Tryz.runUnderlying31 rfl rfl Tryz.sizeOf3 rfl ?_
    refine KO.ld rfl rfl Tryz.isAgg3 (by with_reducible (repeat (exact Pick.head))) (by exact rfl) rfl ?_
    refine KO.ce (cp := []) rfl rfl rfl Tryz.call62 rfl (in_e w _ _ _ _) ?_; rintro v' L' ⟨rfl, rfl⟩; rw [hc1]
    refine KO.mv rfl rfl ?_
    (refine KO.no rfl rfl ?_ rfl ?_; (focus rfl))
    (refine KO.no rfl rfl ?_ rfl ?_; (focus rfl))
    (refine KO.no rfl rfl ?_ rfl ?_; (focus rfl))
    (refine KO.pickF rfl ?_ rfl rfl ?_; (focus rfl))
    refine KO.mv rfl rfl ?_
    (refine KO.no rfl rfl ?_ rfl ?_; (focus rfl))
    (refine KO.no rfl rfl ?_ rfl ?_; (focus rfl))
    (refine KO.no rfl rfl ?_ rfl ?_; (focus rfl))
    (refine KO.pickF rfl ?_ rfl rfl ?_; (focus rfl))
    refine KO.mv rfl rfl ?_
    (refine KO.no rfl rfl ?_ rfl ?_; (focus rfl))
    (refine KO.no rfl rfl ?_ rfl ?_; (focus rfl))
    (refine KO.no rfl rfl ?_ rfl ?_; (focus rfl))
    (refine KO.pickF rfl ?_ rfl rfl ?_; (focus rfl))
    refine KO.mv rfl rfl ?_
    (refine KO.no rfl rfl ?_ rfl ?_; (focus rfl))
    (refine KO.no rfl rfl ?_ rfl ?_; (focus rfl))
    (refine KO.no rfl rfl ?_ rfl ?_; (focus rfl))
    (refine KO.pickF rfl ?_ rfl rfl ?_; (focus rfl))
    refine KO.as rfl rfl ?_
    refine KO.nil ?_
    repeat (first | (with_reducible refine KQ.next ?_) | (with_reducible refine K.ret ?_))
    exact KQ.ret1 rfl rfl (fun w' hs => fin _ w' _ (by simp [hd]) hs)
  cases c2
  · refine K.reg ?_
    refine KO.fo0 (off := 0) rfl Tryz.runUnderlying31 rfl rfl Tryz.sizeOf3 rfl ?_
    refine KO.ld rfl rfl Tryz.isAgg3 (by with_reducible (repeat (exact Pick.head))) (by exact rfl) rfl ?_
    refine KO.ce (cp := []) rfl rfl rfl Tryz.call62 rfl (in_e w _ _ _ _) ?_; rintro v' L' ⟨rfl, rfl⟩; rw [hc1]
    refine KO.mv rfl rfl ?_
    (refine KO.on rfl rfl ?_ ?_; (focus rfl); (refine KO.fo0 (off := 1) rfl Tryz.runUnderlying31 rfl rfl Tryz.sizeOf3 rfl ?_))
    (refine KO.on rfl rfl ?_ ?_; (focus rfl); (refine KO.ld rfl rfl Tryz.isAgg3 (by with_reducible (repeat (exact Pick.head))) (by exact rfl) rfl ?_))
    refine KO.on rfl rfl rfl ?_; refine KO.ce (cp := []) rfl rfl rfl Tryz.call62 rfl (in_e w _ _ _ _) ?_; rintro v' L' ⟨rfl, rfl⟩; rw [hc2]
    (refine KO.pickT rfl ?_ rfl rfl ?_; (focus rfl))
    refine KO.mv rfl rfl ?_
    (refine KO.no rfl rfl ?_ rfl ?_; (focus rfl))
    (refine KO.no rfl rfl ?_ rfl ?_; (focus rfl))
    (refine KO.no rfl rfl ?_ rfl ?_; (focus rfl))
    (refine KO.pickF rfl ?_ rfl rfl ?_; (focus rfl))
    refine KO.mv rfl rfl ?_
    (refine KO.no rfl rfl ?_ rfl ?_; (focus rfl))
    (refine KO.no rfl rfl ?_ rfl ?_; (focus rfl))
    (refine KO.no rfl rfl ?_ rfl ?_; (focus rfl))
    (refine KO.pickF rfl ?_ rfl rfl ?_; (focus rfl))
    refine KO.mv rfl rfl ?_
    (refine KO.no rfl rfl ?_ rfl ?_; (focus rfl))
    (refine KO.no rfl rfl ?_ rfl ?_; (focus rfl))
    (refine KO.no rfl rfl ?_ rfl ?_; (focus rfl))
    (refine KO.pickF rfl ?_ rfl rfl ?_; (focus rfl))
    refine KO.as rfl rfl ?_
    refine KO.nil ?_
    repeat (first | (with_reducible refine KQ.next ?_) | (with_reducible refine K.ret ?_))
    exact KQ.ret1 rfl rfl (fun w' hs => fin _ w' _ (by simp [hd]) hs)
  cases c3
  · refine K.reg ?_
    refine KO.fo0 (off := 0) rfl Tryz.runUnderlying31 rfl rfl Tryz.sizeOf3 rfl ?_
    refine KO.ld rfl rfl Tryz.isAgg3 (by with_reducible (repeat (exact Pick.head))) (by exact rfl) rfl ?_
    refine KO.ce (cp := []) rfl rfl rfl Tryz.call62 rfl (in_e w _ _ _ _) ?_; rintro v' L' ⟨rfl, rfl⟩; rw [hc1]
    refine KO.mv rfl rfl ?_
    (refine KO.on rfl rfl ?_ ?_; (focus rfl); (refine KO.fo0 (off := 1) rfl Tryz.runUnderlying31 rfl rfl Tryz.sizeOf3 rfl ?_))
    (refine KO.on rfl rfl ?_ ?_; (focus rfl); (refine KO.ld rfl rfl Tryz.isAgg3 (by with_reducible (repeat (exact Pick.head))) (by exact rfl) rfl ?_))
    refine KO.on rfl rfl rfl ?_; refine KO.ce (cp := []) rfl rfl rfl Tryz.call62 rfl (in_e w _ _ _ _) ?_; rintro v' L' ⟨rfl, rfl⟩; rw [hc2]
    (refine KO.pickT rfl ?_ rfl rfl ?_; (focus rfl))
    refine KO.mv rfl rfl ?_
    (refine KO.on rfl rfl ?_ ?_; (focus rfl); (refine KO.fo0 (off := 2) rfl Tryz.runUnderlying31 rfl rfl Tryz.sizeOf9 rfl ?_))
    (refine KO.on rfl rfl ?_ ?_; (focus rfl); (refine KO.ld rfl rfl Tryz.isAgg9 (by with_reducible (repeat (exact Pick.head))) (by exact rfl) rfl ?_))
    refine KO.on rfl rfl rfl ?_; refine KO.ce (cp := []) rfl rfl rfl Tryz.call63 rfl (rbody_e w _ _ hb) ?_; rintro v' L' ⟨rfl, rfl⟩; rw [hc3]
    (refine KO.pickT rfl ?_ rfl rfl ?_; (focus rfl))
    refine KO.mv rfl rfl ?_
    (refine KO.no rfl rfl ?_ rfl ?_; (focus rfl))
    (refine KO.no rfl rfl ?_ rfl ?_; (focus rfl))
    (refine KO.no rfl rfl ?_ rfl ?_; (focus rfl))
    (refine KO.pickF rfl ?_ rfl rfl ?_; (focus rfl))
    refine KO.mv rfl rfl ?_
    (refine KO.no rfl rfl ?_ rfl ?_; (focus rfl))
    (refine KO.no rfl rfl ?_ rfl ?_; (focus rfl))
    (refine KO.no rfl rfl ?_ rfl ?_; (focus rfl))
    (refine KO.pickF rfl ?_ rfl rfl ?_; (focus rfl))
    refine KO.as rfl rfl ?_
    refine KO.nil ?_
    repeat (first | (with_reducible refine KQ.next ?_) | (with_reducible refine K.ret ?_))
    exact KQ.ret1 rfl rfl (fun w' hs => fin _ w' _ (by simp [hd]) hs)
  cases c4
  · refine K.reg ?_
    refine KO.fo0 (off := 0) rfl Tryz.runUnderlying31 rfl rfl Tryz.sizeOf3 rfl ?_
    refine KO.ld rfl rfl Tryz.isAgg3 (by with_reducible (repeat (exact Pick.head))) (by exact rfl) rfl ?_
    refine KO.ce (cp := []) rfl rfl rfl Tryz.call62 rfl (in_e w _ _ _ _) ?_; rintro v' L' ⟨rfl, rfl⟩; rw [hc1]
    refine KO.mv rfl rfl ?_
    (refine KO.on rfl rfl ?_ ?_; (focus rfl); (refine KO.fo0 (off := 1) rfl Tryz.runUnderlying31 rfl rfl Tryz.sizeOf3 rfl ?_))
    (refine KO.on rfl rfl ?_ ?_; (focus rfl); (refine KO.ld rfl rfl Tryz.isAgg3 (by with_reducible (repeat (exact Pick.head))) (by exact rfl) rfl ?_))
    refine KO.on rfl rfl rfl ?_; refine KO.ce (cp := []) rfl rfl rfl Tryz.call62 rfl (in_e w _ _ _ _) ?_; rintro v' L' ⟨rfl, rfl⟩; rw [hc2]
    (refine KO.pickT rfl ?_ rfl rfl ?_; (focus rfl))
    refine KO.mv rfl rfl ?_
    (refine KO.on rfl rfl ?_ ?_; (focus rfl); (refine KO.fo0 (off := 2) rfl Tryz.runUnderlying31 rfl rfl Tryz.sizeOf9 rfl ?_))
    (refine KO.on rfl rfl ?_ ?_; (focus rfl); (refine KO.ld rfl rfl Tryz.isAgg9 (by with_reducible (repeat (exact Pick.head))) (by exact rfl) rfl ?_))
    refine KO.on rfl rfl rfl ?_; refine KO.ce (cp := []) rfl rfl rfl Tryz.call63 rfl (rbody_e w _ _ hb) ?_; rintro v' L' ⟨rfl, rfl⟩; rw [hc3]
    (refine KO.pickT rfl ?_ rfl rfl ?_; (focus rfl))
    refine KO.mv rfl rfl ?_
    (refine KO.on rfl rfl ?_ ?_; (focus rfl); (refine KO.fo0 (off := 3) rfl Tryz.runUnderlying31 rfl rfl Tryz.sizeOf9 rfl ?_))
    (refine KO.on rfl rfl ?_ ?_; (focus rfl); (refine KO.ld rfl rfl Tryz.isAgg9 (by with_reducible (repeat (exact Pick.head))) (by exact rfl) rfl ?_))
    refine KO.on rfl rfl rfl ?_; refine KO.ce (cp := []) rfl rfl rfl Tryz.call64 rfl (rword_e w _ _ hq) ?_; rintro v' L' ⟨rfl, rfl⟩; rw [hc4]
    (refine KO.pickT rfl ?_ rfl rfl ?_; (focus rfl))
    refine KO.mv rfl rfl ?_
    (refine KO.no rfl rfl ?_ rfl ?_; (focus rfl))
    (refine KO.no rfl rfl ?_ rfl ?_; (focus rfl))
    (refine KO.no rfl rfl ?_ rfl ?_; (focus rfl))
    (refine KO.pickF rfl ?_ rfl rfl ?_; (focus rfl))
    refine KO.as rfl rfl ?_
    refine KO.nil ?_
    repeat (first | (with_reducible refine KQ.next ?_) | (with_reducible refine K.ret ?_))
    exact KQ.ret1 rfl rfl (fun w' hs => fin _ w' _ (by simp [hd]) hs)
  · refine K.reg ?_
    refine KO.fo0 (off := 0) rfl Tryz.runUnderlying31 rfl rfl Tryz.sizeOf3 rfl ?_
    refine KO.ld rfl rfl Tryz.isAgg3 (by with_reducible (repeat (exact Pick.head))) (by exact rfl) rfl ?_
    refine KO.ce (cp := []) rfl rfl rfl Tryz.call62 rfl (in_e w _ _ _ _) ?_; rintro v' L' ⟨rfl, rfl⟩; rw [hc1]
    refine KO.mv rfl rfl ?_
    (refine KO.on rfl rfl ?_ ?_; (focus rfl); (refine KO.fo0 (off := 1) rfl Tryz.runUnderlying31 rfl rfl Tryz.sizeOf3 rfl ?_))
    (refine KO.on rfl rfl ?_ ?_; (focus rfl); (refine KO.ld rfl rfl Tryz.isAgg3 (by with_reducible (repeat (exact Pick.head))) (by exact rfl) rfl ?_))
    refine KO.on rfl rfl rfl ?_; refine KO.ce (cp := []) rfl rfl rfl Tryz.call62 rfl (in_e w _ _ _ _) ?_; rintro v' L' ⟨rfl, rfl⟩; rw [hc2]
    (refine KO.pickT rfl ?_ rfl rfl ?_; (focus rfl))
    refine KO.mv rfl rfl ?_
    (refine KO.on rfl rfl ?_ ?_; (focus rfl); (refine KO.fo0 (off := 2) rfl Tryz.runUnderlying31 rfl rfl Tryz.sizeOf9 rfl ?_))
    (refine KO.on rfl rfl ?_ ?_; (focus rfl); (refine KO.ld rfl rfl Tryz.isAgg9 (by with_reducible (repeat (exact Pick.head))) (by exact rfl) rfl ?_))
    refine KO.on rfl rfl rfl ?_; refine KO.ce (cp := []) rfl rfl rfl Tryz.call63 rfl (rbody_e w _ _ hb) ?_; rintro v' L' ⟨rfl, rfl⟩; rw [hc3]
    (refine KO.pickT rfl ?_ rfl rfl ?_; (focus rfl))
    refine KO.mv rfl rfl ?_
    (refine KO.on rfl rfl ?_ ?_; (focus rfl); (refine KO.fo0 (off := 3) rfl Tryz.runUnderlying31 rfl rfl Tryz.sizeOf9 rfl ?_))
    (refine KO.on rfl rfl ?_ ?_; (focus rfl); (refine KO.ld rfl rfl Tryz.isAgg9 (by with_reducible (repeat (exact Pick.head))) (by exact rfl) rfl ?_))
    refine KO.on rfl rfl rfl ?_; refine KO.ce (cp := []) rfl rfl rfl Tryz.call64 rfl (rword_e w _ _ hq) ?_; rintro v' L' ⟨rfl, rfl⟩; rw [hc4]
    (refine KO.pickT rfl ?_ rfl rfl ?_; (focus rfl))
    refine KO.mv rfl rfl ?_
    (refine KO.on rfl rfl ?_ ?_; (focus rfl); (refine KO.fo0 (off := 4) rfl Tryz.runUnderlying31 rfl rfl Tryz.sizeOf3 rfl ?_))
    (refine KO.on rfl rfl ?_ ?_; (focus rfl); (refine KO.ld rfl rfl Tryz.isAgg3 (by with_reducible (repeat (exact Pick.head))) (by exact rfl) rfl ?_))
    refine KO.on rfl rfl rfl ?_; refine KO.ce (cp := []) rfl rfl rfl Tryz.call62 rfl (in_e w _ _ _ _) ?_; rintro v' L' ⟨rfl, rfl⟩; rw [hc5]
    (refine KO.pickT rfl ?_ rfl rfl ?_; (focus rfl))
    refine KO.as rfl rfl ?_
    refine KO.nil ?_
    repeat (first | (with_reducible refine KQ.next ?_) | (with_reducible refine K.ret ?_))
    exact KQ.ret1 rfl rfl (fun w' hs => fin _ w' _ (by simp [hd]) hs)
theorem bare_e (w0 : World) (L : List HP) (k : Int) : KE Tryz.prog 51 #[.int .i64 k] w0 L (fun u M => u = .agg [Value.int .i64 k, .int .i64 (-1)].toArray ∧ M = L) := by
  refine KE.mk (n := 5) Tryz.func51 rfl Tryz.ntmps51 (by simp) ?_
  intro w hw
  repeat ((with_reducible refine K.seq ?_))
  refine K.reg ?_
  refine KO.alloc rfl Tryz.zeroValue97 (by exact rfl) rfl ?_; intro b2
  refine KO.nil ?_
  repeat (first | (with_reducible refine K.seq ?_) | (with_reducible refine KQ.next ?_))
  refine K.reg ?_
  refine KO.mv rfl rfl ?_
  refine KO.bldS (pl := [(0, 1), (1, 1)]) [.int .i64 k, .int .i64 (-1)] rfl Tryz.zeroValue97 Tryz.runUnderlying97 (by intro w; simp [Tryz.sizeOf3, Tryz.sizeOf39]) rfl rfl ?_
  refine KO.sto0 rfl rfl rfl (by exact rfl) (by exact Tryz.sizeOf97) (by exact rfl) (by with_reducible (repeat (exact Pick.head))) (by exact rfl) ?_
  refine KO.nil ?_
  repeat (first | (with_reducible refine KQ.next ?_) | (with_reducible refine K.ret ?_))
  refine KQ.retC rfl rfl Tryz.isAgg97 (by with_reducible (repeat (exact Pick.head))) (by exact Tryz.sizeOf97) (fun w' hs => ⟨_, _, rfl, ⟨rfl, rfl⟩, hw.below_step hs.below, hs.below⟩)
theorem place_e (w0 : World) (L : List HP) (k : Int) (hg : ErrType w0) : KE Tryz.prog 101 #[errV 39 k] w0 L (fun u M => u = .tuple #[.int .i64 k, .int .i64 (-1)] ∧ M = L) := by
  refine KE.mk (n := 38) Tryz.func101 rfl Tryz.ntmps101 (by simp) ?_
  intro w hw
  have hgw : ErrType w := (Ext.of_below hw.below).cell hg
  repeat ((with_reducible refine K.seq ?_))
  refine K.reg ?_
  refine KO.as rfl rfl ?_
  refine KO.as rfl rfl ?_
  refine KO.nil ?_
  repeat (first | (with_reducible refine K.seq ?_) | (with_reducible refine KQ.next ?_))
  refine K.reg ?_
  refine KO.mv rfl rfl ?_
  refine KO.ce (cp := []) rfl rfl rfl Tryz.call177 rfl (tell_e w _ k hgw) ?_; rintro v' L' ⟨rfl, rfl⟩
  refine KO.as rfl rfl ?_
  refine KO.nil ?_
  repeat (first | (with_reducible refine K.seq ?_) | (with_reducible refine KQ.next ?_) | (with_reducible refine K.block ?_))
  refine K.loop (fun _ : Unit => [(0, errV 39 k), (4, .int .i64 k)]) (fun _ => []) (fun _ => True) (fun _ => 0) () trivial ⟨rfl, rfl, trivial⟩ (fun _ h => h) ?_
  rintro _ _
  repeat ((with_reducible refine K.seq ?_))
  refine K.reg ?_
  refine KO.mv rfl rfl ?_
  refine KO.neN rfl (by kernel_rfl) rfl ?_
  refine KO.nil ?_
  repeat ((with_reducible refine KQ.next ?_))
  refine K.condD rfl (fun h => ?_) (fun h => ?_)
  · rw [show errV 39 k = .iface 39 (.int .i64 k) from if_neg h]
    repeat (first | (with_reducible refine K.seq ?_) | (with_reducible refine KQ.next ?_) | (with_reducible refine K.skip ?_) | (with_reducible refine K.block ?_))
    refine K.reg ?_
    refine KO.mv rfl rfl ?_
    refine KO.taC rfl (by kernel_rfl) (by exact rfl) Tryz.zeroValue259 rfl ?_
    refine KO.mv rfl rfl ?_
    refine KO.extrL rfl (by exact rfl) rfl ?_
    refine KO.extrL rfl (by exact rfl) rfl ?_
    refine KO.as rfl rfl ?_
    refine KO.as rfl rfl ?_
    refine KO.nil ?_
    repeat (first | (with_reducible refine K.seq ?_) | (with_reducible refine KQ.next ?_))
    refine K.reg ?_
    refine KO.mv rfl rfl ?_
    refine KO.mv rfl rfl ?_
    (refine KO.no rfl rfl ?_ rfl ?_; (focus rfl))
    (refine KO.no rfl rfl ?_ rfl ?_; (focus rfl))
    (refine KO.pickF rfl ?_ rfl rfl ?_; (focus rfl))
    refine KO.nil ?_
    repeat ((with_reducible refine KQ.next ?_))
    refine K.condF rfl rfl ?_
    repeat (first | (with_reducible refine K.seq ?_) | (with_reducible refine KQ.next ?_) | (with_reducible refine K.skip ?_))
    refine K.reg ?_
    refine KO.mv rfl rfl ?_
    refine KO.taN (z := Value.nilIface) rfl Tryz.underlying263 (by kernel_rfl) (by kernel_rfl) rfl ?_
    refine KO.mv rfl rfl ?_
    refine KO.extrL rfl (by exact rfl) rfl ?_
    refine KO.extrL rfl (by exact rfl) rfl ?_
    refine KO.as rfl rfl ?_
    refine KO.as rfl rfl ?_
    refine KO.nil ?_
    repeat (first | (with_reducible refine K.seq ?_) | (with_reducible refine KQ.next ?_))
    refine K.reg ?_
    refine KO.mv rfl rfl ?_
    refine KO.not rfl rfl ?_
    refine KO.nil ?_
    repeat ((with_reducible refine KQ.next ?_))
    refine K.condT rfl rfl ?_
    repeat (first | (with_reducible refine K.seq ?_) | (with_reducible refine KQ.next ?_) | (with_reducible refine KQ.then_exit ?_) | (with_reducible refine KQ.blk_exit ?_) | (refine KQ.blk_pass rfl ?_) | (with_reducible refine K.exit ?_))
    refine K.reg ?_
    refine KO.mv rfl rfl ?_
    refine KO.as rfl rfl ?_
    refine KO.as rfl rfl ?_
    refine KO.nil ?_
    repeat (first | (with_reducible refine KQ.next ?_) | (with_reducible refine K.ret ?_))
    refine KQ.ret2 rfl rfl rfl (fun w' hs => ⟨_, _, rfl, ⟨rfl, rfl⟩, hw.below_step hs.below, hs.below⟩)
  · repeat (first | (with_reducible refine K.seq ?_) | (with_reducible refine KQ.next ?_) | (with_reducible refine KQ.then_exit ?_) | (with_reducible refine KQ.blk_exit ?_) | (with_reducible refine K.exit ?_))
    refine K.reg ?_
    refine KO.mv rfl rfl ?_
    refine KO.as rfl rfl ?_
    refine KO.as rfl rfl ?_
    refine KO.nil ?_
    repeat (first | (with_reducible refine KQ.next ?_) | (with_reducible refine K.ret ?_))
    refine KQ.ret2 rfl rfl rfl (fun w' hs => ⟨_, _, rfl, ⟨rfl, rfl⟩, hw.below_step hs.below, hs.below⟩)
theorem is_e (w0 : World) (L : List HP) (k e p : Int) (hg : ErrType w0) : KE Tryz.prog 50 #[errV 39 k, .agg [Value.int .i64 e, .int .i64 p].toArray] w0 L (fun u M => u = .bool (decide (k = e) && decide (-1 = p)) ∧ M = L) := by
  refine KE.mk (n := 22) Tryz.func50 rfl Tryz.ntmps50 (by simp) ?_
  intro w hw
  have hgw : ErrType w := (Ext.of_below hw.below).cell hg
  repeat ((with_reducible refine K.seq ?_))
  refine K.reg ?_
  refine KO.box rfl rfl (by exact rfl) rfl ?_; intro b3
  refine KO.as rfl rfl ?_
  refine KO.nil ?_
  repeat (first | (with_reducible refine K.seq ?_) | (with_reducible refine KQ.next ?_))
  refine K.reg ?_
  refine KO.mv rfl rfl ?_
  refine KO.ce (cp := []) rfl rfl rfl Tryz.call101 rfl (place_e w _ k hgw) ?_; rintro v' L' ⟨rfl, rfl⟩
  refine KO.mv rfl rfl ?_
  refine KO.extrL rfl (by exact rfl) rfl ?_
  refine KO.extrL rfl (by exact rfl) rfl ?_
  refine KO.as rfl rfl ?_
  refine KO.as rfl rfl ?_
  refine KO.nil ?_
  repeat (first | (with_reducible refine K.seq ?_) | (with_reducible refine KQ.next ?_))
  by_cases h : k = e
  · refine K.reg ?_
    refine KO.mv rfl rfl ?_
    refine KO.fo0 (off := 0) rfl Tryz.runUnderlying97 rfl rfl Tryz.sizeOf39 rfl ?_
    refine KO.ld rfl rfl Tryz.isAgg39 (by with_reducible (repeat (exact Pick.head))) (by exact rfl) rfl ?_
    refine KO.eqI rfl rfl rfl ?_
    refine KO.mv rfl rfl ?_
    (refine KO.on rfl rfl ?_ ?_; (focus (simp only [decide_eq_true_eq, decide_eq_false_iff_not, Bool.not_eq_true, Bool.not_true, Bool.not_false, ne_eq]; omega)); (refine KO.mv rfl rfl ?_))
    (refine KO.on rfl rfl ?_ ?_; (focus (simp only [decide_eq_true_eq, decide_eq_false_iff_not, Bool.not_eq_true, Bool.not_true, Bool.not_false, ne_eq]; omega)); (refine KO.fo0 (off := 1) rfl Tryz.runUnderlying97 rfl rfl Tryz.sizeOf3 rfl ?_))
    (refine KO.on rfl rfl ?_ ?_; (focus (simp only [decide_eq_true_eq, decide_eq_false_iff_not, Bool.not_eq_true, Bool.not_true, Bool.not_false, ne_eq]; omega)); (refine KO.ld rfl rfl Tryz.isAgg3 (by with_reducible (repeat (exact Pick.head))) (by exact rfl) rfl ?_))
    (refine KO.on rfl rfl ?_ ?_; (focus (simp only [decide_eq_true_eq, decide_eq_false_iff_not, Bool.not_eq_true, Bool.not_true, Bool.not_false, ne_eq]; omega)); (refine KO.eqI rfl rfl rfl ?_))
    (refine KO.pickT rfl ?_ rfl rfl ?_; (focus (simp only [decide_eq_true_eq, decide_eq_false_iff_not, Bool.not_eq_true, Bool.not_true, Bool.not_false, ne_eq]; omega)))
    refine KO.as rfl rfl ?_
    refine KO.nil ?_
    repeat (first | (with_reducible refine KQ.next ?_) | (with_reducible refine K.ret ?_))
    refine KQ.ret1 rfl rfl (fun w' hs => ⟨_, _, rfl, ⟨by simp [h], rfl⟩, hw.below_step hs.below, hs.below⟩)
  · refine K.reg ?_
    refine KO.mv rfl rfl ?_
    refine KO.fo0 (off := 0) rfl Tryz.runUnderlying97 rfl rfl Tryz.sizeOf39 rfl ?_
    refine KO.ld rfl rfl Tryz.isAgg39 (by with_reducible (repeat (exact Pick.head))) (by exact rfl) rfl ?_
    refine KO.eqI rfl rfl rfl ?_
    refine KO.mv rfl rfl ?_
    (refine KO.no rfl rfl ?_ rfl ?_; (focus (simp only [decide_eq_true_eq, decide_eq_false_iff_not, Bool.not_eq_true, Bool.not_true, Bool.not_false, ne_eq]; omega)))
    (refine KO.no rfl rfl ?_ rfl ?_; (focus (simp only [decide_eq_true_eq, decide_eq_false_iff_not, Bool.not_eq_true, Bool.not_true, Bool.not_false, ne_eq]; omega)))
    (refine KO.no rfl rfl ?_ rfl ?_; (focus (simp only [decide_eq_true_eq, decide_eq_false_iff_not, Bool.not_eq_true, Bool.not_true, Bool.not_false, ne_eq]; omega)))
    (refine KO.no rfl rfl ?_ rfl ?_; (focus (simp only [decide_eq_true_eq, decide_eq_false_iff_not, Bool.not_eq_true, Bool.not_true, Bool.not_false, ne_eq]; omega)))
    (refine KO.pickF rfl ?_ rfl rfl ?_; (focus (simp only [decide_eq_true_eq, decide_eq_false_iff_not, Bool.not_eq_true, Bool.not_true, Bool.not_false, ne_eq]; omega)))
    refine KO.as rfl rfl ?_
    refine KO.nil ?_
    repeat (first | (with_reducible refine KQ.next ?_) | (with_reducible refine K.ret ?_))
    refine KQ.ret1 rfl rfl (fun w' hs => ⟨_, _, rfl, ⟨by simp [h], rfl⟩, hw.below_step hs.below, hs.below⟩)
theorem lbare_e (w0 : World) (L : List HP) (k e : Int) (hg : ErrType w0) : KE Tryz.prog 10 #[errV 39 k, .int .i64 e] w0 L (fun u M => u = .bool (decide (k = e)) ∧ M = L) := by
  refine KE.mk (n := 9) Tryz.func10 rfl Tryz.ntmps10 (by simp) ?_
  intro w hw
  have hgw : ErrType w := (Ext.of_below hw.below).cell hg
  repeat ((with_reducible refine K.seq ?_))
  refine K.reg ?_
  refine KO.as rfl rfl ?_
  refine KO.nil ?_
  repeat (first | (with_reducible refine K.seq ?_) | (with_reducible refine KQ.next ?_))
  refine K.reg ?_
  refine KO.mv rfl rfl ?_
  refine KO.mv rfl rfl ?_
  refine KO.ce (cp := []) rfl rfl rfl Tryz.call51 rfl (bare_e w _ e) ?_; rintro v' L' ⟨rfl, rfl⟩
  refine KO.ce (cp := []) rfl rfl rfl Tryz.call50 rfl (is_e w _ k e (-1) hgw) ?_; rintro v' L' ⟨rfl, rfl⟩
  refine KO.as rfl rfl ?_
  refine KO.nil ?_
  repeat (first | (with_reducible refine KQ.next ?_) | (with_reducible refine K.ret ?_))
  refine KQ.ret1 rfl rfl (fun w' hs => ⟨_, _, rfl, ⟨by simp, rfl⟩, hw.below_step hs.below, hs.below⟩)
theorem small_e (w0 : World) (L : List HP) (m : Ms) : KE Tryz.prog 9 #[.agg (msC m).toArray] w0 L (fun u M => u = .bool (decide (m.body.size ≤ 60) && decide (m.queue.size ≤ 60)) ∧ M = L) := by
  refine KE.mk (n := 13) Tryz.func9 rfl Tryz.ntmps9 (by simp) ?_
  intro w hw
  have fin : ∀ (b : Bool) (w' : World) (M : List HP), b = (decide (m.body.size ≤ 60) && decide (m.queue.size ≤ 60)) → St w M w' → ∃ v L', Ending.returned (.bool b) = Ending.returned v ∧ (v = .bool (decide (m.body.size ≤ 60) && decide (m.queue.size ≤ 60)) ∧ L' = L) ∧ St w0 L' w' ∧ Below w.heap.size w w' := fun b w' M e hs => ⟨_, _, rfl, ⟨by rw [e], rfl⟩, hw.below_step hs.below, hs.below⟩
  repeat ((with_reducible refine K.seq ?_))
  refine K.reg ?_
  refine KO.box rfl rfl (by exact rfl) rfl ?_; intro b1
  refine KO.as rfl rfl ?_
  refine KO.nil ?_
  repeat (first | (with_reducible refine K.seq ?_) | (with_reducible refine KQ.next ?_))
  by_cases h : ((m.body.size : Nat) : Int) ≤ 60
  · refine K.reg ?_
    refine KO.fo0 (off := 2) rfl Tryz.runUnderlying31 rfl rfl Tryz.sizeOf9 rfl ?_
    refine KO.ld rfl rfl Tryz.isAgg9 (by with_reducible (repeat (exact Pick.head))) (by exact rfl) rfl ?_
    refine KO.lenS rfl Tryz.underlying9 rfl ?_
    refine KO.leq rfl rfl rfl ?_
    refine KO.mv rfl rfl ?_
    (refine KO.on rfl rfl ?_ ?_; (focus (simp only [decide_eq_true_eq, decide_eq_false_iff_not, Bool.not_eq_true, Bool.not_true, Bool.not_false, ne_eq]; omega)); (refine KO.fo0 (off := 3) rfl Tryz.runUnderlying31 rfl rfl Tryz.sizeOf9 rfl ?_))
    (refine KO.on rfl rfl ?_ ?_; (focus (simp only [decide_eq_true_eq, decide_eq_false_iff_not, Bool.not_eq_true, Bool.not_true, Bool.not_false, ne_eq]; omega)); (refine KO.ld rfl rfl Tryz.isAgg9 (by with_reducible (repeat (exact Pick.head))) (by exact rfl) rfl ?_))
    (refine KO.on rfl rfl ?_ ?_; (focus (simp only [decide_eq_true_eq, decide_eq_false_iff_not, Bool.not_eq_true, Bool.not_true, Bool.not_false, ne_eq]; omega)); (refine KO.lenS rfl Tryz.underlying9 rfl ?_))
    (refine KO.on rfl rfl ?_ ?_; (focus (simp only [decide_eq_true_eq, decide_eq_false_iff_not, Bool.not_eq_true, Bool.not_true, Bool.not_false, ne_eq]; omega)); (refine KO.leq rfl rfl rfl ?_))
    (refine KO.pickT rfl ?_ rfl rfl ?_; (focus (simp only [decide_eq_true_eq, decide_eq_false_iff_not, Bool.not_eq_true, Bool.not_true, Bool.not_false, ne_eq]; omega)))
    refine KO.as rfl rfl ?_
    refine KO.nil ?_
    repeat (first | (with_reducible refine KQ.next ?_) | (with_reducible refine K.ret ?_))
    refine KQ.ret1 rfl rfl (fun w' hs => fin _ w' _ ?_ hs)
    have h1 : m.body.size ≤ 60 := by omega
    simp only [h1, decide_true, Bool.true_and]
    exact decide_eq_decide.2 (by omega)
  · refine K.reg ?_
    refine KO.fo0 (off := 2) rfl Tryz.runUnderlying31 rfl rfl Tryz.sizeOf9 rfl ?_
    refine KO.ld rfl rfl Tryz.isAgg9 (by with_reducible (repeat (exact Pick.head))) (by exact rfl) rfl ?_
    refine KO.lenS rfl Tryz.underlying9 rfl ?_
    refine KO.leq rfl rfl rfl ?_
    refine KO.mv rfl rfl ?_
    (refine KO.no rfl rfl ?_ rfl ?_; (focus (simp only [decide_eq_true_eq, decide_eq_false_iff_not, Bool.not_eq_true, Bool.not_true, Bool.not_false, ne_eq]; omega)))
    (refine KO.no rfl rfl ?_ rfl ?_; (focus (simp only [decide_eq_true_eq, decide_eq_false_iff_not, Bool.not_eq_true, Bool.not_true, Bool.not_false, ne_eq]; omega)))
    (refine KO.no rfl rfl ?_ rfl ?_; (focus (simp only [decide_eq_true_eq, decide_eq_false_iff_not, Bool.not_eq_true, Bool.not_true, Bool.not_false, ne_eq]; omega)))
    (refine KO.no rfl rfl ?_ rfl ?_; (focus (simp only [decide_eq_true_eq, decide_eq_false_iff_not, Bool.not_eq_true, Bool.not_true, Bool.not_false, ne_eq]; omega)))
    (refine KO.pickF rfl ?_ rfl rfl ?_; (focus (simp only [decide_eq_true_eq, decide_eq_false_iff_not, Bool.not_eq_true, Bool.not_true, Bool.not_false, ne_eq]; omega)))
    refine KO.as rfl rfl ?_
    refine KO.nil ?_
    repeat (first | (with_reducible refine KQ.next ?_) | (with_reducible refine K.ret ?_))
    refine KQ.ret1 rfl rfl (fun w' hs => fin _ w' _ ?_ hs)
    have h1 : ¬ m.body.size ≤ 60 := by omega
    simp [h1]
end Go.Proofs.YtjhogocabcdjbaaGreatDoor
/- A RANGE OVER A FUNCTION in the calculus: the code of a round, the statement, the call of yield -/
namespace WB
open Go Go.RowKit
def notDefer (o : Oper) : Bool := match o.op with | .defer _ => false | _ => true
abbrev FR (l : Nat) : Fence := Fence.wide.inRound l
section
variable {P : Program} {ops : Array Oper} {Q : Exit → Act → World → Prop} {l : Nat}
theorem notDefer_ne {o : Oper} (h : notDefer o = true) : ∀ c, o.op ≠ .defer c := fun c e => by unfold notDefer at h; rw [e] at h; cases h
theorem rowsIn_of {row : String} {args : Array Value} {w : World} {R : Value → World → Prop} (h : Rows P row args w R) : RowsIn (FR l) 0 P row args w R := fun c cs _ =>
  let ⟨v, w', r, s⟩ := h c cs; ⟨v, w', r, stepsIn_wide.2 s⟩
theorem uponIn_of {o : Oper} {a : Act} {N N' : Act → World → Prop} {r : Result Next} (hn : ∀ a w, N a w → N' a w) (h : o.upon P a N Q r) : o.uponIn (FR l) 0 P a N' Q r := by
  cases r with
  | ok x w' =>
    cases x with
    | value v => exact hn _ _ h
    | skip => exact hn _ _ h
    | defer d => exact hn _ _ h
    | enter f args =>
      refine ⟨fun _ => by simp [Fence.wide] at *, CallsIn.inRound l (callsIn_wide.2 (h.mono fun e w hh => ?_))⟩
      cases e with
      | returned v => exact hn _ _ hh
      | panicked c => exact hh
      | outgrown => exact hh
    | row row args => exact ⟨fun _ => by simp [Fence.wide] at *, (rowsIn_of h).mono fun v w hh => hn _ _ hh⟩
    | _ => exact h.elim
  | halt s w' =>
    cases s with
    | panic v => exact h
    | _ => exact h.elim
theorem wpIn_of_wp {o : Oper} {a : Act} {w : World} {N N' : Act → World → Prop} (hd : notDefer o = true) (hn : ∀ a w, N a w → N' a w) (h : o.wp P a w N Q) : o.wpIn (FR l) 0 P a w N' Q :=
  ⟨fun _ _ => trivial, by
    show o.uponIn (FR l) 0 P a N' Q ((o.semAt (some l) a.eval).run P w)
    rw [Oper.semAt_some l _ _ (notDefer_ne hd)]
    exact uponIn_of hn h⟩
theorem wpListIn_of (hQ : ∀ a w, ¬ Q .outgrown a w) : ∀ {os : List Oper} (_ : os.all notDefer = true) {a : Act} {w : World}, wpList P ops Q os a w → wpListIn (FR l) 0 P ops Q os a w
  | [], _, _, _, h => h
  | o :: os, hd, a, w, h => by
    simp only [List.all_cons, Bool.and_eq_true] at hd
    unfold wpList at h
    unfold wpListIn
    split
    · rename_i hw
      rw [if_pos hw] at h
      rcases h with h | ⟨_, a0, w0, h⟩
      · exact wpIn_of_wp hd.1 (fun a w hh => wpListIn_of hQ hd.2 hh) h
      · exact absurd h (hQ _ _)
    · rename_i hw
      rw [if_neg hw] at h
      exact ⟨fun _ _ => trivial, wpListIn_of hQ hd.2 h⟩
theorem wpOpsIn_of (hQ : ∀ a w, ¬ Q .outgrown a w) (hd : ops.toList.all notDefer = true) : ∀ {s : List Nat} {a : Act} {w : World}, wpOps P ops Q s a w → wpOpsIn (FR l) 0 P ops Q s a w
  | [], _, _, h => h
  | i :: s, a, w, h => by
    unfold wpOps at h
    unfold wpOpsIn
    cases ho : ops[i]? with
    | none => rw [ho] at h; exact wpOpsIn_of hQ hd h
    | some o =>
      rw [ho] at h
      simp only at h ⊢
      split
      · rename_i hw
        rw [if_pos hw] at h
        rcases h with h | ⟨_, a0, w0, h⟩
        · exact wpIn_of_wp (List.all_eq_true.1 hd o (Array.mem_toList_iff.2 (Array.mem_of_getElem? ho))) (fun a w hh => wpOpsIn_of hQ hd hh) h
        · exact absurd h (hQ _ _)
      · rename_i hw
        rw [if_neg hw] at h
        exact ⟨fun _ _ => trivial, wpOpsIn_of hQ hd h⟩
/-- a region that draws, in a round, in the one order 'ord' -/
theorem wpIn_region_ord {id : Nat} {a : Act} {w : World} (ks : List Kd) (ord : List Nat) (hmix : P.follows .mixedOrders = true) (hok : okR ops ks ord = true) (hQ : ∀ a w, ¬ Q .outgrown a w) (hd : ops.toList.all notDefer = true)
    (h : vcL P ops Q (ord.map (item ops ks)) a w.drew) : (Code.region id ops true).wpIn (FR l) 0 P Q a w := by
  simp only [okR, Bool.and_eq_true] at hok
  obtain ⟨hb, ha, hall, hlt, hp⟩ := hok
  refine wpIn_region_draw fun t => wpOpsIn_of hQ hd ?_
  have hv : Valid ops (Region.schedule (P.follows .mixedOrders) ops t) := schedule_valid _ hmix _ _ fun i o ho d hd => by
    have hi : i < ops.size := (Array.getElem?_eq_some_iff.1 ho).1
    have h1 := List.all_eq_true.1 (List.all_eq_true.1 hb i (List.mem_range.2 hi)) d (by
      have : ops.toList.getD i default = o := by
        simp [Array.getElem?_eq_getElem hi] at ho ⊢
        simp [ho]
      rw [this]; exact hd)
    simpa [Nat.blt_eq] using h1
  generalize Region.schedule (P.follows .mixedOrders) ops t = l at hv ⊢
  refine main_step hb ha hv l [] ord rfl (fun x => ?_) hp a _ h
  rw [hv.2.1 x]
  constructor
  · intro hx; simpa [Nat.blt_eq] using List.all_eq_true.1 hlt x hx
  · intro hx; exact List.contains_iff_mem.1 (List.all_eq_true.1 hall x (List.mem_range.2 hx))
end
/-! code in a round -/
def KR (l : Nat) (P : Program) (c : Code) (Q : Exit → Act → World → Prop) (n : Nat) (D : List Deferred) (w0 : World) (G : Env) (L : List HP) : Prop :=
  ∀ a w, Knows n D G a → St w0 L w → c.wpIn (FR l) 0 P Q a w
section
variable {P : Program} {ops : Array Oper} {Q : Exit → Act → World → Prop} {n l : Nat} {D : List Deferred} {w0 : World} {G G' : Env} {L L' R : List HP} {c x y : Code} {e : Exit}
theorem KR.reg {id : Nat} {os : List Oper} (hd : os.all notDefer = true) (hQ : ∀ a w, ¬ Q .outgrown a w) (h : KO P os.toArray false Q n D w0 G L (wr os)) : KR l P (.region id os.toArray false) Q n D w0 G L := fun a w ha hw => by
  have := h a w ha hw
  simp only [vcG, wr_map] at this
  exact wpIn_region_lit (wpListIn_of hQ hd this)
theorem KR.draw {id : Nat} (ks : List Kd) (ord : List Nat) (hmix : P.follows .mixedOrders = true) (hok : okR ops ks ord = true) (hd : ops.toList.all notDefer = true) (hQ : ∀ a w, ¬ Q .outgrown a w)
    (h : KO P ops true Q n D w0 G L (ord.map (item ops ks))) : KR l P (.region id ops true) Q n D w0 G L := fun a _ ha hw =>
  wpIn_region_ord ks ord hmix hok hQ hd (h a _ ha hw.drew)
theorem KR.seq (h : KR l P x (Exit.then (y.wpIn (FR l) 0 P Q) Q) n D w0 G L) : KR l P (.seq x y) Q n D w0 G L := fun a w ha hw => wpIn_seq (h a w ha hw)
theorem KR.block {id : Nat} (h : KR l P x (Exit.inBlock id Q) n D w0 G L) : KR l P (.block id x) Q n D w0 G L := fun a w ha hw => wpIn_block (h a w ha hw)
theorem KR.ret (h : KQ Q .ret n D w0 G L) : KR l P .ret Q n D w0 G L := fun a w ha hw => wpIn_ret (h a w ha hw)
theorem KR.skip (h : KQ Q .normal n D w0 G L) : KR l P .skip Q n D w0 G L := fun a w ha hw => wpIn_skip (h a w ha hw)
theorem KR.exit {id : Nat} (h : KQ Q (.exit id) n D w0 G L) : KR l P (.exit id) Q n D w0 G L := fun a w ha hw => wpIn_exit (h a w ha hw)
theorem KR.cond {cd : Operand} {b : Bool} (hc : ev G cd = some (.bool b)) (ht : b = true → KR l P x Q n D w0 G L) (hf : b = false → KR l P y Q n D w0 G L) : KR l P (.cond cd x y) Q n D w0 G L := fun a w ha hw =>
  wpIn_cond_split (ha.eval hc) (fun e => ht e a w ha hw) (fun e => hf e a w ha hw)
theorem KR.condD {cd : Operand} {p : Prop} [Decidable p] (hc : ev G cd = some (.bool (decide p))) (ht : p → KR l P x Q n D w0 G L) (hf : ¬ p → KR l P y Q n D w0 G L) : KR l P (.cond cd x y) Q n D w0 G L :=
  KR.cond hc (fun e => ht (of_decide_eq_true e)) (fun e => hf (of_decide_eq_false e))
theorem KR.condT {cd : Operand} {b : Bool} (hc : ev G cd = some (.bool b)) (hb : b = true) (h : KR l P x Q n D w0 G L) : KR l P (.cond cd x y) Q n D w0 G L :=
  KR.cond hc (fun _ => h) (fun e => by rw [hb] at e; cases e)
theorem KR.condF {cd : Operand} {b : Bool} (hc : ev G cd = some (.bool b)) (hb : b = false) (h : KR l P y Q n D w0 G L) : KR l P (.cond cd x y) Q n D w0 G L :=
  KR.cond hc (fun e => by rw [hb] at e; cases e) (fun _ => h)
theorem KQ.nextR (h : KR l P y Q n D w0 G L) : KQ (Exit.then (y.wpIn (FR l) 0 P Q) Q) .normal n D w0 G L := h
theorem KR.conv (hs : ∀ w, St w0 L w → St w0 L' w) (h : KR l P c Q n D w0 G L') : KR l P c Q n D w0 G L := fun a w ha hw => h a w ha (hs w hw)
theorem KR.weak (hs : SubL G G') (h : KR l P c Q n D w0 G' L) : KR l P c Q n D w0 G L := fun a w ha hw => h a w (ha.sub hs) hw
theorem KR.cut {α : Type} {c1 c2 : Code} {L : List HP} (E : α → Env) (H : α → List HP) (φ : α → Prop) (h1 : KR l P c1 (Exit.then (MidI n D w0 E H φ) Q) n D w0 G L) (h2 : ∀ y, φ y → KR l P c2 Q n D w0 (E y) (H y)) : KR l P c1 (Exit.then (c2.wpIn (FR l) 0 P Q) Q) n D w0 G L := fun a w ha hw =>
  Go.wpIn_mono (h1 a w ha hw) fun e a w hq => by
    cases e with
    | normal => obtain ⟨y, hy, ha, hw⟩ := hq; exact h2 y hy a w ha hw
    | _ => exact hq
theorem KR.loop {α : Type} (E : α → Env) (H : α → List HP) (φ : α → Prop) (m : α → Nat) (x0 : α) (h0 : φ x0) (hG : SubL G (E x0)) (hL : ∀ w, St w0 L w → St w0 (H x0) w)
    (round : ∀ x, φ x → KR l P c (Exit.then (LoopI n D w0 E H φ m x) Q) n D w0 (E x) (H x)) : KR l P (.loop c) Q n D w0 G L := fun a w ha hw => by
  intro b k cs hro hb hr
  have key : ∀ (N : Nat) (x : α) (a : Act) (w : World), m x < N → φ x → Knows n D (E x) a → St w0 (H x) w →
      ∃ e a' w', Q e a' w' ∧ ArrivesIn (Machine.fenced P (FR l)) P (lone (b.atR a (.code c :: .inLoop c :: k)) cs w) b k cs e a' w' := by
    intro N
    induction N with
    | zero => intro x a w h; omega
    | succ N ih =>
      intro x a w hlt hx ha hw
      obtain ⟨e, a₁, w₁, hq, harr⟩ := round x hx a w ha hw b (.inLoop c :: k) cs hro hb hr
      cases e with
      | normal =>
        obtain ⟨y, hy, hlt', ha', hw'⟩ := hq
        obtain ⟨e₂, a₂, w₂, hq₂, harr₂⟩ := ih y a₁ w₁ (by omega) hy ha' hw'
        exact ⟨e₂, a₂, w₂, hq₂, .of_steps (StepsIn.trans harr (.one (fenced_calm hb hr rfl) stepR_inLoop)) harr₂⟩
      | exit id => exact ⟨_, a₁, w₁, hq, .pass (x := .inLoop c) rfl (fun _ _ => .inl (by simp)) harr⟩
      | goto l => exact ⟨_, a₁, w₁, hq, .pass (x := .inLoop c) rfl (fun _ _ => .inl (by simp)) harr⟩
      | ret => exact ⟨_, a₁, w₁, hq, .pass (x := .inLoop c) rfl (fun _ _ => .inl (by simp)) harr⟩
      | panic ch => exact ⟨_, a₁, w₁, hq, .pass (x := .inLoop c) rfl (fun _ _ => .inl (by simp)) harr⟩
      | outgrown => exact ⟨_, a₁, w₁, hq, .pass (x := .inLoop c) rfl (fun _ _ => .inl (by simp)) harr⟩
  obtain ⟨e, a', w', hq, harr⟩ := key (m x0 + 1) x0 a w (Nat.lt_succ_self _) h0 (ha.sub hG) (hL w hw)
  exact ⟨e, a', w', hq, .of_steps (.one (fenced_calm hb hr rfl) stepR_loop) harr⟩
end
/-! a function that holds such a loop -/
def mkD (b : Nat) : Deferred := { target := .collected b, args := #[] }
theorem St.put {w0 w : World} {L : List HP} {b : Nat} {o : Obj} (h : St w0 (blk b o :: L) w) (o' : Obj) : St w0 (blk b o' :: L) (w.putObj b o') :=
  h.upd rfl rfl rfl (by simp) (World.putObj_heap_same h.lt) fun k hk => World.putObj_heap_other hk
section
variable {P : Program} {f : FuncId} {args : Array Value} {w0 : World} {L M M' KL : List HP} {R : Value → List HP → Prop} {fn : Func} {n : Nat} {G : Env} {RE : Ending → World → Prop} {v v1 v2 : Value} {t1 t2 : Nat} {T T' E E' : TypeId} {b1 b2 : Nat} {cs cs' : List Value} {fz fz' : Nat × Nat}
theorem KE.mkM {c : Code} (hf : P.funcs[f]? = some fn) (hb : fn.body = some c) (hn : fn.ntmps = n) (hsz : args.size ≤ n)
    (h : ∀ w, St w0 L w → K P c (bodyPostM Fence.wide 0 P fn fun e w' => ∃ v L', e = .returned v ∧ R v L' ∧ St w0 L' w' ∧ Below w.heap.size w w') n [] w (argEnv 0 args.toList) []) : KE P f args w0 L R := fun w hw => by
  subst hn
  exact callsIn_wide.1 (callsIn_of_wp_marks (n := 0) hf hb trivial (wpIn_wide.2 (h w hw _ w (Knows.enter hsz) (St.init w))))
theorem KQ.finM (hr : ∀ a w, Knows n [] G a → St w0 L w → (results fn a.tmps).run P w = .ok v w) (h : ∀ w, St w0 L w → RE (.returned v) w) : KQ (bodyPostM Fence.wide 0 P fn RE) .ret n [] w0 G L := fun a w ha hw => by
  show LeavesInM _ _ _ _ _ _ a.defers _ _
  rw [ha.defers]
  exact ⟨v, hr a w ha hw, h w hw⟩
theorem KQ.finM1 {b : Nat} (hp : Pick L (blk b (.deferred (some []))) M) (hr : ∀ a w, Knows n [mkD b] G a → St w0 M w → (results fn a.tmps).run P w = .ok v w) (h : ∀ w, St w0 M w → RE (.returned v) w) : KQ (bodyPostM Fence.wide 0 P fn RE) .ret n [mkD b] w0 G L := fun a w ha hw => by
  show LeavesInM _ _ _ _ _ _ a.defers _ _
  rw [ha.defers]
  have h1 := hw.pick hp
  have h2 := (h1.put (.deferred none)).drop
  exact ⟨by simp, .inl ⟨b, _, rfl, run_takeDeferred h1.look.2, v, hr a _ ha h2, h _ h2⟩⟩
/-- two results, each in a cell of its own block -/
theorem res2C {D : List Deferred} (hr : fn.results = #[.cell t1 T, .cell t2 T']) (h1 : envAt G t1 = some (.pointer (some ⟨b1, 0, none⟩))) (h2 : envAt G t2 = some (.pointer (some ⟨b2, 0, none⟩)))
    (hT : ∀ w, (isAgg T).run P w = .ok false w) (hT' : ∀ w, (isAgg T').run P w = .ok false w) (hp : Pick L (blk b1 (.cells [v1].toArray E fz)) M) (hp' : Pick L (blk b2 (.cells [v2].toArray E' fz')) M') (a : Act) (w : World) (ha : Knows n D G a) (hw : St w0 L w) :
    (results fn a.tmps).run P w = .ok (.tuple #[v1, v2]) w := by
  have l1 : (loadVar T ⟨b1, 0, none⟩).run P w = .ok v1 w := run_load_one (hT w) (by rw [World.cell?, (hw.lookP hp).2]; simp)
  have l2 : (loadVar T' ⟨b2, 0, none⟩).run P w = .ok v2 w := run_load_one (hT' w) (by rw [World.cell?, (hw.lookP hp').2]; simp)
  simp [results, hr, Array.getD_eq_getD_getElem?, ha.get _ _ h1, ha.get _ _ h2, asAddr, l1, l2]
theorem KQ.retM2C (hr : fn.results = #[.cell t1 T, .cell t2 T']) (h1 : envAt G t1 = some (.pointer (some ⟨b1, 0, none⟩))) (h2 : envAt G t2 = some (.pointer (some ⟨b2, 0, none⟩)))
    (hT : ∀ w, (isAgg T).run P w = .ok false w) (hT' : ∀ w, (isAgg T').run P w = .ok false w) (hp : Pick L (blk b1 (.cells [v1].toArray E fz)) M) (hp' : Pick L (blk b2 (.cells [v2].toArray E' fz')) M') (h : ∀ w, St w0 L w → RE (.returned (.tuple #[v1, v2])) w) :
    KQ (bodyPostM Fence.wide 0 P fn RE) .ret n [] w0 G L := KQ.finM (fun a w ha hw => res2C hr h1 h2 hT hT' hp hp' a w ha hw) h
theorem KQ.retM2C1 {b : Nat} (hd : Pick L (blk b (.deferred (some []))) KL) (hr : fn.results = #[.cell t1 T, .cell t2 T']) (h1 : envAt G t1 = some (.pointer (some ⟨b1, 0, none⟩))) (h2 : envAt G t2 = some (.pointer (some ⟨b2, 0, none⟩)))
    (hT : ∀ w, (isAgg T).run P w = .ok false w) (hT' : ∀ w, (isAgg T').run P w = .ok false w) (hp : Pick KL (blk b1 (.cells [v1].toArray E fz)) M) (hp' : Pick KL (blk b2 (.cells [v2].toArray E' fz')) M') (h : ∀ w, St w0 KL w → RE (.returned (.tuple #[v1, v2])) w) :
    KQ (bodyPostM Fence.wide 0 P fn RE) .ret n [mkD b] w0 G L := KQ.finM1 hd (fun a w ha hw => res2C hr h1 h2 hT hT' hp hp' a w ha hw) h
end
/-! the statement -/
section
variable {P : Program} {Q : Exit → Act → World → Prop} {n : Nat} {D : List Deferred} {w0 : World} {G : Env} {L M : List HP}
theorem K.rangeFunc {g : Operand} {ps : Array Tmp} {assign body : Code} {gf : Nat} {cap : Array Value} (hg : ev G g = some (.func (.func gf) #[] cap)) (eg : ∀ args w, (callFunc gf args).run P w = .ok (.enter gf args) w)
    (h : ∀ (fn : FuncId) (tm : Array Value) (b l : Nat), Knows n D G { tmps := tm, defers := D } → ∀ w, St w0 (blk l (.loop ⟨.ready, none, fn, tm, ps, assign, body, b⟩) :: blk b (.deferred (some [])) :: L) w →
      Calls P gf (#[.func (.yield l) #[] #[]] ++ cap) w fun e w' => ∃ v L' st pe, e = .returned v ∧ st ≠ LoopState.busy ∧ St w0 (blk l (.loop ⟨st, pe, fn, tm, ps, assign, body, b⟩) :: blk b (.deferred (some [])) :: L') w' ∧
        (match pe with | none => KQ Q .normal n (mkD b :: D) w0 G (blk b (.deferred (some [])) :: L') | some c => K P c Q n (mkD b :: D) w0 G (blk b (.deferred (some [])) :: L'))) :
    K P (.rangeFunc g ps assign body) Q n D w0 G L := fun a w ha hw => by
  refine wpIn_wide.1 (wpIn_rangeFunc (F := Fence.wide) (n := 0) fun fn _ => ?_)
  have h1 := (hw.alloc (.deferred (some []))).alloc (.loop { state := .ready, pending := none, fn, tmps := a.tmps, params := ps, assign, body, defers := w.heap.size })
  rw [World.size_alloc] at h1
  obtain ⟨W1, hW1⟩ : ∃ W1, (w.alloc (.deferred (some []))).alloc (.loop { state := .ready, pending := none, fn, tmps := a.tmps, params := ps, assign, body, defers := w.heap.size }) = W1 := ⟨_, rfl⟩
  rw [hW1] at h1
  refine ⟨w.heap.size + 1, [mkD w.heap.size], W1, { target := .fn (.func gf) cap, args := #[.func (.yield (w.heap.size + 1)) #[] #[]] }, W1, gf, #[.func (.yield (w.heap.size + 1)) #[] #[]] ++ cap, W1, by rw [← hW1]; exact run_enterLoop_outer _ _ _ _ _, ?_, ?_, ?_, fun hh => by simp [Fence.wide] at hh, ?_⟩
  · simp only [resolve, ha.eval hg]
    simp [go_sem]
  · intro _ _; trivial
  · simp [invoke, go_sem, eg]
  · refine callsIn_wide.2 ((h fn a.tmps w.heap.size (w.heap.size + 1) ⟨ha.size, rfl, ha.get⟩ _ h1).mono ?_)
    rintro e w' ⟨v, L', st, pe, rfl, hst, hs, hj⟩
    have h2 := hs.put (.loop ⟨.exhausted, pe, fn, a.tmps, ps, assign, body, w.heap.size⟩)
    refine ⟨pe, _, run_endLoop hs.look.2 hst, ?_⟩
    have ha2 : Knows n (mkD w.heap.size :: D) G { a with defers := [mkD w.heap.size] ++ a.defers } := ⟨ha.size, by rw [ha.defers]; rfl, ha.get⟩
    cases pe with
    | none => exact hj _ _ ha2 h2.drop
    | some c => exact wpIn_wide.2 (hj _ _ ha2 h2.drop)
end
/-! yield, from the iterator's side: what a round makes of the caller's parts -/
def KY (P : Program) (l : Nat) (x : Value) (w0 : World) (L : List HP) (Rt Rf : List HP → Prop) : Prop :=
  ∀ (N : List HP) (w : World), St w0 (L ++ N) w → YieldAt Fence.wide 0 P l #[x] w fun e w' => (e = .returned (.bool true) ∧ ∃ L', Rt L' ∧ St w0 (L' ++ N) w') ∨ (e = .returned (.bool false) ∧ ∃ L', Rf L' ∧ St w0 (L' ++ N) w')
def BeginQ (P : Program) (l : Nat) (body : Code) (R : Ending → World → Prop) : Exit → Act → World → Prop :=
  Exit.then (fun a₁ w₁ => ∃ w₂, (Instr.beginRound l).run P w₁ = .ok () w₂ ∧ body.wpIn (FR l) 0 P (roundPost P l R) a₁ w₂) (fun _ _ _ => False)
section
variable {P : Program} {Q : Exit → Act → World → Prop} {n l : Nat} {D : List Deferred} {w0 : World} {G : Env} {L M : List HP} {x : Value} {Rt Rf : List HP → Prop} {R : Ending → World → Prop}
theorem Knows.setP {tm : Array Value} {p : Nat} (h : Knows n D G { tmps := tm, defers := D }) (hp : Nat.blt p n = true) (v : Value) : Knows n [] ((p, v) :: G) { tmps := tm.setIfInBounds p v, defers := [] } := by
  have := h.put p v (by simpa [Nat.blt_eq] using hp)
  exact ⟨this.size, rfl, this.get⟩
theorem KY.mk {fn : FuncId} {tm : Array Value} {p b : Nat} {assign body : Code} (hk : Knows n D G { tmps := tm, defers := D }) (hp : Nat.blt p n = true)
    (h : ∀ N, KR l P assign (BeginQ P l body fun e w' => (e = .returned (.bool true) ∧ ∃ L', Rt L' ∧ St w0 (L' ++ N) w') ∨ (e = .returned (.bool false) ∧ ∃ L', Rf L' ∧ St w0 (L' ++ N) w')) n [] w0 ((p, x) :: G)
      (blk l (.loop ⟨.ready, none, fn, tm, #[p], assign, body, b⟩) :: (M ++ N))) :
    KY P l x w0 (blk l (.loop ⟨.ready, none, fn, tm, #[p], assign, body, b⟩) :: M) Rt Rf := fun N w hw => by
  refine ⟨fn, _, assign, body, run_yield (args := #[x]) hw.look.2 rfl, roundIn_of_wpIn (F := Fence.wide) (n := 0) trivial ?_⟩
  exact h N _ w (by simpa using hk.setP hp x) hw
theorem KQ.begin {rc : Loop} {body : Code} (hp : Pick L (blk l (.loop rc)) M) (hs : rc.state = .ready) (h : KR l P body (roundPost P l R) n D w0 G (blk l (.loop { rc with state := .busy }) :: M)) : KQ (BeginQ P l body R) .normal n D w0 G L := fun a w ha hw =>
  have h1 := hw.pick hp
  ⟨_, run_beginRound h1.look.2 hs, h a _ ha (h1.put _)⟩
theorem KQ.goes {rc : Loop} (hp : Pick L (blk l (.loop rc)) M) (h : ∀ w, St w0 (blk l (.loop { rc with state := .ready, pending := none }) :: M) w → R (.returned (.bool true)) w) : KQ (roundPost P l R) .normal n D w0 G L := fun a w ha hw =>
  have h1 := hw.pick hp
  ⟨_, _, run_endRound none h1.look.2, h _ (h1.put _)⟩
theorem KQ.leaves {rc : Loop} (hp : Pick L (blk l (.loop rc)) M) (h : ∀ w, St w0 (blk l (.loop { rc with state := .done, pending := some .ret }) :: M) w → R (.returned (.bool false)) w) : KQ (roundPost P l R) .ret n D w0 G L := fun a w ha hw =>
  have h1 := hw.pick hp
  ⟨_, _, run_endRound (some .ret) h1.look.2, h _ (h1.put _)⟩
end
/-! a region in which yield is called -/
def KOI (P : Program) (ops : Array Oper) (Q : Exit → Act → World → Prop) (n : Nat) (D : List Deferred) (w0 : World) (G : Env) (L : List HP) (os : List Oper) : Prop :=
  ∀ a w, Knows n D G a → St w0 L w → wpListIn Fence.wide 0 P ops Q os a w
section
variable {P : Program} {ops : Array Oper} {Q : Exit → Act → World → Prop} {n l t : Nat} {D : List Deferred} {w0 : World} {G : Env} {L M N : List HP} {os : List Oper} {op : Op} {ty T T' E : TypeId} {pos : String} {af : Array Edge} {x y : Operand} {v : Value} {bb : Bool} {b off : Nat}
  {Rt Rf : List HP → Prop}
theorem K.regI {id : Nat} {os : List Oper} (h : KOI P os.toArray Q n D w0 G L os) : K P (.region id os.toArray false) Q n D w0 G L := fun a w ha hw => wpIn_wide.1 (wpIn_region_lit (h a w ha hw))
theorem KOI.nil (h : KQ Q .normal n D w0 G L) : KOI P ops Q n D w0 G L [] := h
theorem KOI.val (hv : ∀ a w, Knows n D G a → St w0 L w → (execOp a.eval ⟨some t, op, ty, pos, af, none⟩).run P w = .ok (.value v) w) (ht : Nat.blt t n = true) (h : KOI P ops Q n D w0 ((t, v) :: G) L os) : KOI P ops Q n D w0 G L (⟨some t, op, ty, pos, af, none⟩ :: os) := fun a w ha hw => by
  refine wpListIn_plain rfl fun K hK => ⟨fun _ _ => trivial, ?_⟩
  show Oper.uponIn _ _ _ _ _ _ _ ((execOp a.eval _).run P w)
  rw [hv a w ha hw]
  exact hK _ _ (h _ w (put_dst ha v ht) hw)
theorem KOI.mv (hx : ev G x = some v) (ht : Nat.blt t n = true) (h : KOI P ops Q n D w0 ((t, v) :: G) L os) : KOI P ops Q n D w0 G L (⟨some t, .move x, ty, pos, af, none⟩ :: os) :=
  KOI.val (fun a w ha _ => by simp [execOp, ha.eval hx]) ht h
theorem KOI.not (hx : ev G x = some (.bool bb)) (ht : Nat.blt t n = true) (h : KOI P ops Q n D w0 ((t, .bool (!bb)) :: G) L os) : KOI P ops Q n D w0 G L (⟨some t, .unOp .not T x, ty, pos, af, none⟩ :: os) :=
  KOI.val (fun a w ha _ => by simp [execOp, ha.eval hx, Op.unary]) ht h
theorem KOI.ld {cs : List Value} {fz : Nat × Nat} (hx : ev G x = some (.pointer (some ⟨b, off, none⟩))) (hT : ∀ w, (isAgg T).run P w = .ok false w) (hp : Pick L (blk b (.cells cs.toArray E fz)) M) (hc : cs[off]? = some v) (ht : Nat.blt t n = true) (h : KOI P ops Q n D w0 ((t, v) :: G) L os) :
    KOI P ops Q n D w0 G L (⟨some t, .load T x, ty, pos, af, none⟩ :: os) :=
  KOI.val (fun a w ha hw => by
    have hcell : w.cell? ⟨b, off, none⟩ = some v := by rw [World.cell?, (hw.lookP hp).2]; simpa using hc
    simp [execOp, ha.eval hx, Instr.loadAt, Instr.sureAddr, run_load_one (hT w) hcell]) ht h
theorem KOI.yield {ts : Array TypeId} {dst : Option Nat} (hx : ev G x = some (.func (.yield l) #[] #[])) (hy : ev G y = some v) (hY : KY P l v w0 M Rt Rf) (hs : ∀ w, St w0 L w → St w0 (M ++ N) w)
    (ht : ∀ L', Rt L' → ∀ a w, Knows n D G a → St w0 (L' ++ N) w → wpListIn Fence.wide 0 P ops Q os (a.put dst (.bool true)) w)
    (hf : ∀ L', Rf L' → ∀ a w, Knows n D G a → St w0 (L' ++ N) w → wpListIn Fence.wide 0 P ops Q os (a.put dst (.bool false)) w) :
    KOI P ops Q n D w0 G L (⟨dst, .call ⟨.value x, #[y], ts⟩, ty, pos, af, none⟩ :: os) := fun a w ha hw => by
  refine wpListIn_plain rfl fun K hK => ⟨fun _ _ => trivial, ?_⟩
  obtain ⟨fn, tmps, assign, body, hy', hR⟩ := hY N w (hs w hw)
  have he : (execOp a.eval ⟨dst, .call ⟨.value x, #[y], ts⟩, ty, pos, af, none⟩).run P w = .ok (.round l fn tmps assign body) w := by
    simp [execOp, resolve, ha.eval hx, ha.eval hy, Deferred.ofValue, invoke, hy']
  rw [show Oper.semAt Fence.wide.round a.eval ⟨dst, .call ⟨.value x, #[y], ts⟩, ty, pos, af, none⟩ = execOp a.eval ⟨dst, .call ⟨.value x, #[y], ts⟩, ty, pos, af, none⟩ from rfl, he]
  refine ⟨fun hh => by simp [Fence.wide] at hh, hR.mono ?_⟩
  rintro e w' (⟨rfl, L', h1, h2⟩ | ⟨rfl, L', h1, h2⟩)
  · exact hK _ _ (ht L' h1 a w' ha h2)
  · exact hK _ _ (hf L' h1 a w' ha h2)
theorem KOI.yieldT {ts : Array TypeId} (hx : ev G x = some (.func (.yield l) #[] #[])) (hy : ev G y = some v) (hY : KY P l v w0 M Rt Rf) (hs : ∀ w, St w0 L w → St w0 (M ++ N) w) (hb : Nat.blt t n = true)
    (ht : ∀ L', Rt L' → KOI P ops Q n D w0 ((t, .bool true) :: G) (L' ++ N) os) (hf : ∀ L', Rf L' → KOI P ops Q n D w0 ((t, .bool false) :: G) (L' ++ N) os) :
    KOI P ops Q n D w0 G L (⟨some t, .call ⟨.value x, #[y], ts⟩, ty, pos, af, none⟩ :: os) :=
  KOI.yield hx hy hY hs (fun L' h a w ha hw => ht L' h _ w (put_dst ha _ hb) hw) (fun L' h a w ha hw => hf L' h _ w (put_dst ha _ hb) hw)
end
end WB
/- messages' text: plain -/
namespace WB
open Go
def itoaS (n : Int) : ByteArray := ⟨(Lib.itoa n).toArray⟩
def joinS (xs : List ByteArray) (sep : ByteArray) : ByteArray := ⟨(Lib.join (xs.map (·.data.toList)) sep.data.toList).toArray⟩
def intB (n : Int) : Prop := -9223372036854775808 ≤ n ∧ n ≤ 9223372036854775807
def sp : ByteArray := ⟨#[32]⟩
def msgS (m : Ms) : ByteArray := itoaS m.id ++ sp ++ itoaS m.pri ++ sp ++ m.body ++ sp ++ m.queue ++ sp ++ itoaS m.house
def plus : ByteArray := ⟨#[43]⟩
def writeS (xs : List Ms) : ByteArray := joinS (xs.map msgS) plus
theorem ba_size (s : ByteArray) : s.size = s.data.toList.length := rfl
theorem itoaS_size {n : Int} (h : intB n) : (itoaS n).size ≤ 21 := by
  have := Lib.itoa_length_le n h.1 h.2
  simpa [itoaS, ByteArray.size] using this
theorem join_cons2 (x y : List UInt8) (r : List (List UInt8)) (sep : List UInt8) : Lib.join (x :: y :: r) sep = x ++ sep ++ Lib.join (y :: r) sep := by
  simp [Lib.join_cons, Lib.joinTail]
theorem join_snoc (l : List (List UInt8)) (x sep : List UInt8) (h : l ≠ []) : Lib.join (l ++ [x]) sep = Lib.join l sep ++ sep ++ x := by
  cases l with
  | nil => exact absurd rfl h
  | cons a r => rw [List.cons_append, Lib.join_cons, Lib.join_cons]; simp [Lib.joinTail]
theorem joinS_snoc (l : List ByteArray) (x sep : ByteArray) (h : l ≠ []) : joinS (l ++ [x]) sep = joinS l sep ++ sep ++ x := by
  unfold joinS
  rw [List.map_append, List.map_cons, List.map_nil, join_snoc _ _ _ (by simpa using h)]
  apply ByteArray.ext
  apply Array.ext'
  simp
theorem joinS_one (x sep : ByteArray) : joinS [x] sep = x := by
  unfold joinS
  rw [List.map_cons, List.map_nil, Lib.join_one]
theorem joinS_nil (sep : ByteArray) : joinS [] sep = ⟨#[]⟩ := rfl
theorem joinS_two (x y sep : ByteArray) : joinS [x, y] sep = x ++ sep ++ y := by
  have := joinS_snoc [x] y sep (by simp)
  rw [joinS_one] at this; exact this
theorem joinS_cons2 (x y : ByteArray) (r : List ByteArray) (sep : ByteArray) : joinS (x :: y :: r) sep = x ++ sep ++ joinS (y :: r) sep := by
  unfold joinS
  rw [List.map_cons, List.map_cons, join_cons2]
  apply ByteArray.ext
  apply Array.ext'
  simp
theorem joinS_size (sep : ByteArray) (c : Nat) : ∀ (l : List ByteArray), (∀ x ∈ l, x.size ≤ c) → (joinS l sep).size ≤ l.length * (c + sep.size)
  | [], _ => by rw [joinS_nil]; exact Nat.zero_le _
  | [x], h => by
    have := h x (by simp)
    rw [joinS_one]; simp; omega
  | x :: y :: r, h => by
    have h1 := joinS_size sep c (y :: r) fun z hz => h z (List.mem_cons_of_mem _ hz)
    have h2 := h x (by simp)
    rw [joinS_cons2, ByteArray.size_append, ByteArray.size_append, List.length_cons, Nat.succ_mul]; omega
theorem join_len (l : List ByteArray) (sep : ByteArray) : (Lib.join (l.map (·.data.toList)) sep.data.toList).length = (joinS l sep).size := by simp [joinS, ByteArray.size]
theorem cat_assoc (a b c : ByteArray) : a ++ b ++ c = a ++ (b ++ c) := ByteArray.append_assoc
theorem cat_nil (a : ByteArray) : (⟨#[]⟩ : ByteArray) ++ a = a := ByteArray.empty_append
theorem writeS_snoc (l : List Ms) (m : Ms) : writeS (l ++ [m]) = (if l = [] then msgS m else writeS l ++ plus ++ msgS m) := by
  unfold writeS
  rw [List.map_append, List.map_cons, List.map_nil]
  by_cases h : l = []
  · subst h; rw [if_pos rfl, List.map_nil, List.nil_append, joinS_one]
  · rw [if_neg h, joinS_snoc _ _ _ (by simpa using h)]
theorem msgS_size {m : Ms} (h : msRight m = true) : (msgS m).size ≤ 100 := by
  obtain ⟨h1, h2, h3, h4, h5, h6, h7, h8⟩ := msRight_parts h
  have a1 := itoaS_size (n := m.id) ⟨by omega, by omega⟩
  have a2 := itoaS_size (n := m.pri) ⟨by omega, by omega⟩
  have a3 := itoaS_size (n := m.house) ⟨by omega, by omega⟩
  have a4 : m.body.size ≤ 12 := by unfold bodyB lettersB at h5; simp at h5; omega
  have a5 : m.queue.size ≤ 8 := by unfold wordB lettersB at h6; simp at h6; omega
  have a6 : sp.size = 1 := rfl
  unfold msgS
  simp only [ByteArray.size_append, a6]
  omega
theorem writeS_size {l : List Ms} (h : ∀ m ∈ l, msRight m = true) : (writeS l).size ≤ l.length * 101 := by
  unfold writeS
  have := joinS_size plus 100 (l.map msgS) (fun x hx => by obtain ⟨m, hm, rfl⟩ := List.mem_map.1 hx; exact msgS_size (h m hm))
  rw [List.length_map] at this
  exact this
/-- the first that may not be -/
def badI (xs : List Ms) : Option Nat := xs.findIdx? fun m => !msRight m
def writeE (xs : List Ms) : Int := match badI xs with | none => 0 | some _ => 1
def writeP (xs : List Ms) : Int := match badI xs with | none => -1 | some k => (k : Int)
def writeT (xs : List Ms) : ByteArray := match badI xs with | none => writeS xs | some _ => ⟨#[]⟩
theorem badI_none {xs : List Ms} (h : ∀ (j : Nat) m, xs[j]? = some m → msRight m = true) : badI xs = none := by
  unfold badI
  rw [List.findIdx?_eq_none_iff]
  intro m hm
  obtain ⟨j, hj, rfl⟩ := List.getElem_of_mem hm
  simp [h j _ (List.getElem?_eq_getElem hj)]
theorem badI_some {xs : List Ms} {k : Nat} {m : Ms} (hk : xs[k]? = some m) (hm : msRight m = false) (h : ∀ (j : Nat) m, j < k → xs[j]? = some m → msRight m = true) : badI xs = some k := by
  unfold badI
  rw [List.findIdx?_eq_some_iff_getElem]
  obtain ⟨hlt, he⟩ := List.getElem?_eq_some_iff.1 hk
  refine ⟨hlt, by rw [he, hm]; rfl, fun j hj => ?_⟩
  have := h j xs[j] hj (List.getElem?_eq_getElem _)
  simp [this]
theorem badI_all {xs : List Ms} (h : badI xs = none) : ∀ m ∈ xs, msRight m = true := by
  unfold badI at h
  intro m hm
  simpa using List.findIdx?_eq_none_iff.1 h m hm
end WB
/- texts and their pieces: plain -/
namespace WB
open Go
/-! pieces -/
def pieces (c : UInt8) : List UInt8 → List (List UInt8)
  | [] => [[]]
  | b :: l => if b = c then [] :: pieces c l else match pieces c l with | [] => [[b]] | p :: ps => (b :: p) :: ps
theorem pieces_ne (c : UInt8) : ∀ l, pieces c l ≠ []
  | [] => by simp [pieces]
  | b :: l => by
    unfold pieces
    split
    · simp
    · split <;> simp
theorem pieces_eq (c : UInt8) (l : List UInt8) : pieces c (c :: l) = [] :: pieces c l := by rw [pieces, if_pos rfl]
theorem pieces_neq {b c : UInt8} (h : b ≠ c) {l p : List UInt8} {ps : List (List UInt8)} (e : pieces c l = p :: ps) : pieces c (b :: l) = (b :: p) :: ps := by rw [pieces, if_neg h, e]
theorem pieces_app {c : UInt8} (r : List UInt8) : ∀ {p : List UInt8}, (∀ b ∈ p, b ≠ c) → pieces c (p ++ c :: r) = p :: pieces c r
  | [], _ => pieces_eq c r
  | b :: p, h => pieces_neq (h b (by simp)) (pieces_app r (fun x hx => h x (by simp [hx])))
theorem pieces_free {c : UInt8} : ∀ {p : List UInt8}, (∀ b ∈ p, b ≠ c) → pieces c p = [p]
  | [], _ => rfl
  | b :: p, h => pieces_neq (h b (by simp)) (pieces_free (fun x hx => h x (by simp [hx])))
theorem pieces_miss {c : UInt8} {l : List UInt8} (h : Lib.indexByte l c = -1) : pieces c l = [l] := pieces_free fun b hb e => by
  subst e
  obtain ⟨i, hi, he⟩ := List.getElem_of_mem hb
  exact Lib.indexByte_none h i (by rw [List.getElem?_eq_getElem hi, he])
theorem pieces_hit {c : UInt8} {l : List UInt8} {i : Nat} (h : Lib.indexByte l c = i) : pieces c l = l.take i :: pieces c (l.drop (i + 1)) := by
  obtain ⟨h1, h2⟩ := Lib.indexByte_some h
  obtain ⟨hlt, he⟩ := List.getElem?_eq_some_iff.1 h1
  have e : l = l.take i ++ c :: l.drop (i + 1) := by
    rw [← he, List.getElem_cons_drop, List.take_append_drop]
  have := pieces_app (c := c) (l.drop (i + 1)) (p := l.take i) fun b hb e' => by
    subst e'
    obtain ⟨j, hj, hb⟩ := List.getElem_of_mem hb
    rw [List.length_take] at hj
    have hj' : j < i := by omega
    refine h2 j hj' ?_
    rw [List.getElem?_eq_getElem (by omega)]
    simpa using hb
  rw [← e] at this
  exact this
theorem pieces_mem (c : UInt8) : ∀ l, ∀ p ∈ pieces c l, ∀ b ∈ p, b ≠ c
  | [], p, hp, b, hb => by simp [pieces] at hp; subst hp; simp at hb
  | a :: l, p, hp, b, hb => by
    by_cases h : a = c
    · subst h; rw [pieces_eq] at hp
      rcases List.mem_cons.1 hp with rfl | hp
      · simp at hb
      · exact pieces_mem a l p hp b hb
    · obtain ⟨q, qs, e⟩ := List.exists_cons_of_ne_nil (pieces_ne c l)
      rw [pieces_neq h e] at hp
      rcases List.mem_cons.1 hp with rfl | hp
      · rcases List.mem_cons.1 hb with rfl | hb
        · exact h
        · exact pieces_mem c l q (by rw [e]; simp) b hb
      · exact pieces_mem c l p (by rw [e]; simp [hp]) b hb
theorem pieces_join {c : UInt8} : ∀ {ps : List (List UInt8)}, ps ≠ [] → (∀ p ∈ ps, ∀ b ∈ p, b ≠ c) → pieces c (Lib.join ps [c]) = ps
  | [], h, _ => absurd rfl h
  | [p], _, h => by rw [Lib.join_one]; exact pieces_free (h p (by simp))
  | p :: q :: r, _, h => by
    rw [join_cons2, List.append_assoc]
    show pieces c (p ++ c :: Lib.join (q :: r) [c]) = _
    rw [pieces_app _ (h p (by simp)), pieces_join (by simp) (fun x hx => h x (List.mem_cons_of_mem _ hx))]
theorem pieces_len (c : UInt8) : ∀ l, (pieces c l).length = l.count c + 1
  | [] => rfl
  | b :: l => by
    by_cases h : b = c
    · subst h; rw [pieces_eq, List.length_cons, pieces_len]; simp
    · obtain ⟨q, qs, e⟩ := List.exists_cons_of_ne_nil (pieces_ne c l)
      have := pieces_len c l
      rw [pieces_neq h e]; rw [e] at this
      rw [List.count_cons_of_ne h]; simpa using this
theorem splitK_pieces (c : UInt8) : ∀ (k : Nat) (l : List UInt8), l.count c = k → Lib.splitK [c] 0 k l = pieces c l
  | 0, l, h => by
    have : Lib.indexByte l c = -1 := by
      rcases Int.lt_or_le (Lib.indexByte l c) 0 with h1 | h1
      · have := Lib.indexByte_ge l c; omega
      · obtain ⟨i, hi⟩ := Int.eq_ofNat_of_zero_le h1
        have := (Lib.indexByte_some hi).1
        exact absurd (List.mem_of_getElem? this) (List.count_eq_zero.1 h)
    rw [pieces_miss this]; rfl
  | k + 1, l, h => by
    have hm : c ∈ l := by
      rcases Decidable.em (c ∈ l) with hm | hm
      · exact hm
      · rw [List.count_eq_zero.2 hm] at h; cases h
    obtain ⟨i, hi⟩ : ∃ i : Nat, Lib.indexByte l c = i := by
      rcases Int.lt_or_le (Lib.indexByte l c) 0 with h1 | h1
      · exfalso
        have h2 : Lib.indexByte l c = -1 := by have := Lib.indexByte_ge l c; omega
        obtain ⟨j, hj, he⟩ := List.getElem_of_mem hm
        exact Lib.indexByte_none h2 j (by rw [List.getElem?_eq_getElem hj, he])
      · obtain ⟨i, hi⟩ := Int.eq_ofNat_of_zero_le h1; exact ⟨i, hi⟩
    have hx : Lib.index l [c] = i := by rw [Lib.index_one]; exact hi
    have hne : ¬ (Lib.index l [c] == -1) = true := fun e => by have := beq_iff_eq.1 e; omega
    have hc : (l.drop (i + 1)).count c = k := by
      have h1 := pieces_len c l
      have h2 := pieces_hit hi
      rw [h2] at h1
      have h3 := pieces_len c (l.drop (i + 1))
      simp at h1; omega
    unfold Lib.splitK
    rw [if_neg hne, hx, pieces_hit hi]
    simp only [Int.toNat_natCast, Nat.add_zero, List.length_cons, List.length_nil, Nat.zero_add]
    rw [splitK_pieces c k _ hc]
def toB (l : List UInt8) : ByteArray := ⟨l.toArray⟩
theorem toB_data (s : ByteArray) : toB s.data.toList = s := rfl
theorem data_toB (l : List UInt8) : (toB l).data.toList = l := rfl
def pcs (c : UInt8) (s : ByteArray) : List ByteArray := (pieces c s.data.toList).map toB
theorem ba_ext {a b : ByteArray} (h : a.data.toList = b.data.toList) : a = b := by
  apply ByteArray.ext; exact Array.ext' h
theorem pcs_data (c : UInt8) (s : ByteArray) : (pcs c s).map (·.data.toList) = pieces c s.data.toList := by
  unfold pcs; rw [List.map_map]; conv => rhs; rw [← List.map_id (pieces c s.data.toList)]
  rfl
theorem maps_inj {xs ys : List ByteArray} (h : xs.map (·.data.toList) = ys.map (·.data.toList)) : xs = ys := by
  have h2 := congrArg (List.map toB) h
  rw [List.map_map, List.map_map] at h2
  have e : (toB ∘ fun x : ByteArray => x.data.toList) = id := rfl
  rw [e, List.map_id, List.map_id] at h2
  exact h2
theorem pcs_ne (c : UInt8) (s : ByteArray) : pcs c s ≠ [] := by unfold pcs; simpa using pieces_ne c _
theorem pcs_split (c : UInt8) (s : ByteArray) : Lib.splitB ⟨#[c]⟩ 0 (Lib.countB s ⟨#[c]⟩) s = pcs c s := by
  refine maps_inj ?_
  rw [Lib.splitB_data, pcs_data]
  have : Lib.countB s ⟨#[c]⟩ = s.data.toList.count c := Lib.count_one c s.data.toList
  rw [this]
  exact splitK_pieces c _ _ rfl
theorem pcs_len (c : UInt8) (s : ByteArray) : (pcs c s).length = Lib.countB s ⟨#[c]⟩ + 1 := by
  have : Lib.countB s ⟨#[c]⟩ = s.data.toList.count c := Lib.count_one c s.data.toList
  rw [this]; unfold pcs; rw [List.length_map, pieces_len]
theorem pcs_miss {c : UInt8} {s : ByteArray} (h : Lib.indexByte s.data.toList c = -1) : pcs c s = [s] := by
  unfold pcs; rw [pieces_miss h]; rfl
theorem pcs_hit {c : UInt8} {s : ByteArray} {i : Nat} (h : Lib.indexByte s.data.toList c = i) : pcs c s = s.extract 0 i :: pcs c (s.extract (i + 1) s.size) := by
  unfold pcs; rw [pieces_hit h, List.map_cons]
  congr 1
  · exact ba_ext (Lib.extract_from_zero s i).symm
  · rw [Lib.extract_to_end]
theorem pcs_join {c : UInt8} {xs : List ByteArray} (h0 : xs ≠ []) (h : ∀ x ∈ xs, ∀ b ∈ x.data.toList, b ≠ c) : pcs c (joinS xs ⟨#[c]⟩) = xs := by
  refine maps_inj ?_
  rw [pcs_data]
  show pieces c (Lib.join (xs.map (·.data.toList)) [c]) = _
  exact pieces_join (by simpa using h0) (fun p hp b hb => by obtain ⟨x, hx, rfl⟩ := List.mem_map.1 hp; exact h x hx b hb)
theorem indexByte_lt {c : UInt8} {s : ByteArray} {i : Nat} (h : Lib.indexByte s.data.toList c = i) : i < s.size := by
  have := (List.getElem?_eq_some_iff.1 (Lib.indexByte_some h).1).1
  rw [ba_size]; exact this
/-! numbers -/
theorem parse_app (c : UInt8) : ∀ (l : List UInt8) (acc a : Nat), Lib.parseUint10 acc l = .ok a → Lib.parseUint10 acc (l ++ [c]) = Lib.parseUint10 a [c]
  | [], acc, a, h => by simp only [Lib.parseUint10] at h; injection h with h; subst h; rfl
  | b :: l, acc, a, h => by
    simp only [Lib.parseUint10, List.cons_append] at h ⊢
    split at h
    · rename_i h1
      split at h
      · cases h
      · rename_i h2
        split at h
        · cases h
        · rename_i h3
          rw [if_pos h1, if_neg h2, if_neg h3, parse_app c l _ a h]; rfl
    · cases h
theorem digit_nat {d : Nat} (h : d < 10) : (UInt8.ofNat (48 + d)).toNat = 48 + d := by simp [UInt8.toNat_ofNat']; omega
theorem parse_dec : ∀ (u : Nat), u < 18446744073709551616 → Lib.parseUint10 0 (Lib.decDigits u) = .ok u := by
  intro u
  induction u using Nat.strongRecOn with
  | _ u ih =>
    intro hu
    rw [Lib.decDigits]
    split
    · rename_i h
      have e := digit_nat h
      simp only [Lib.parseUint10, e]
      rw [if_pos (by omega), if_neg (by omega), if_neg (by omega)]
      simp only [Lib.NumEnd.ok.injEq]; omega
    · rename_i h
      have e := digit_nat (d := u % 10) (by omega)
      rw [parse_app _ _ _ _ (ih (u / 10) (by omega) (by omega))]
      simp only [Lib.parseUint10, e]
      rw [if_pos (by omega), if_neg (by omega), if_neg (by omega)]
      simp only [Lib.NumEnd.ok.injEq]; omega
theorem dec_mem : ∀ (u : Nat), ∀ b ∈ Lib.decDigits u, 48 ≤ b.toNat ∧ b.toNat ≤ 57 := by
  intro u
  induction u using Nat.strongRecOn with
  | _ u ih =>
    intro b hb
    rw [Lib.decDigits] at hb
    split at hb
    · rename_i h
      rw [List.mem_singleton.1 hb]
      have := digit_nat h; omega
    · rename_i h
      rcases List.mem_append.1 hb with hb | hb
      · exact ih (u / 10) (by omega) b hb
      · rw [List.mem_singleton.1 hb]
        have := digit_nat (d := u % 10) (by omega); omega
theorem dec_ne (u : Nat) : Lib.decDigits u ≠ [] := by
  rw [Lib.decDigits]; split <;> simp
theorem atoi_itoa {n : Int} (h : intB n) : Lib.atoiAll (itoaS n).data.toList = .ok n := by
  obtain ⟨h1, h2⟩ := h
  show Lib.atoiAll (Lib.itoa n) = _
  rcases Int.lt_or_le n 0 with h0 | h0
  · obtain ⟨u, rfl⟩ : ∃ u : Nat, n = -(u : Int) := ⟨n.natAbs, by omega⟩
    rw [Lib.itoa_neg u (by omega)]
    have hp : Lib.parseMag (Lib.decDigits u) = .ok u := by unfold Lib.parseMag; rw [if_neg (dec_ne u)]; exact parse_dec u (by omega)
    simp only [Lib.atoiAll]
    rw [if_pos (by decide), hp]
    simp
    omega
  · obtain ⟨u, rfl⟩ : ∃ u : Nat, n = (u : Int) := ⟨n.toNat, by omega⟩
    rw [Lib.itoa_nonneg u]
    have hp : Lib.parseMag (Lib.decDigits u) = .ok u := by unfold Lib.parseMag; rw [if_neg (dec_ne u)]; exact parse_dec u (by omega)
    have hm := dec_mem u
    have hne := dec_ne u
    revert hp hm hne
    cases Lib.decDigits u with
    | nil => intro _ _ h; exact absurd rfl h
    | cons c r =>
      intro hp hm _
      have hc := hm c (by simp)
      simp only [Lib.atoiAll]
      rw [if_neg (by omega), hp]
      have : ¬ c.toNat = 45 := by omega
      simp [this]
      omega
theorem itoa_mem {n : Int} : ∀ b ∈ (itoaS n).data.toList, b.toNat = 45 ∨ (48 ≤ b.toNat ∧ b.toNat ≤ 57) := fun b hb => by
  have hb : b ∈ Lib.itoa n := hb
  unfold Lib.itoa at hb
  split at hb
  · rcases List.mem_cons.1 hb with rfl | hb
    · exact .inl rfl
    · exact .inr (dec_mem _ b hb)
  · exact .inr (dec_mem _ b hb)
theorem itoaS_ne (n : Int) : itoaS n ≠ ⟨#[]⟩ := fun h => by
  have h2 : Lib.itoa n = [] := congrArg (fun s : ByteArray => s.data.toList) h
  unfold Lib.itoa at h2
  split at h2
  · cases h2
  · exact dec_ne _ h2
end WB
/- the steps of the calculus: pieces of strings -/
namespace WB
open Go Go.RowKit
section
variable {P : Program} {ops : Array Oper} {d : Bool} {Q : Exit → Act → World → Prop} {n : Nat} {D : List Deferred} {w0 : World} {G : Env} {L R : List HP} {l : List (Kd × Oper)} {k : Kd}
  {t : Nat} {ty T : TypeId} {pos : String} {af : Array Edge} {x y z : Operand} {s : ByteArray} {i j : Nat} {a c : Int} {kk kk' : IntKind}
theorem KO.strTo (hx : ev G x = some (.string s)) (hy : ev G y = some (.int kk a)) (hT : P.underlying T = some .string) (ha : a = (i : Int)) (hi : i ≤ s.size) (ht : Nat.blt t n = true) (h : KO P ops d Q n D w0 ((t, .string (s.extract 0 i)) :: G) L l) :
    KO P ops d Q n D w0 G L ((k, ⟨some t, .slice T x none (some y) none, ty, pos, af, none⟩) :: l) :=
  KO.val (fun a' w ha' => by
    subst ha
    have := run_slice_string_to_if (P := P) w T s kk (i : Int) hT
    rw [if_pos (by omega)] at this
    simp [execOp, ha'.eval hx, ha'.eval hy, run_sliceAt_string w T _ _ _ _ hT, this]) ht h
theorem KO.strFrom (hx : ev G x = some (.string s)) (hy : ev G y = some (.int kk a)) (hT : P.underlying T = some .string) (ha : a = (i : Int)) (hi : i ≤ s.size) (ht : Nat.blt t n = true) (h : KO P ops d Q n D w0 ((t, .string (s.extract i s.size)) :: G) L l) :
    KO P ops d Q n D w0 G L ((k, ⟨some t, .slice T x (some y) none none, ty, pos, af, none⟩) :: l) :=
  KO.val (fun a' w ha' => by
    subst ha
    have := run_slice_string_from_if (P := P) w T s kk (i : Int) hT
    rw [if_pos (by omega)] at this
    simp [execOp, ha'.eval hx, ha'.eval hy, run_sliceAt_string w T _ _ _ _ hT, this]) ht h
theorem KO.strMid (hx : ev G x = some (.string s)) (hy : ev G y = some (.int kk a)) (hz : ev G z = some (.int kk' c)) (hT : P.underlying T = some .string) (ha : a = (i : Int)) (hc : c = (j : Int)) (hi : i ≤ j) (hj : j ≤ s.size) (ht : Nat.blt t n = true) (h : KO P ops d Q n D w0 ((t, .string (s.extract i j)) :: G) L l) :
    KO P ops d Q n D w0 G L ((k, ⟨some t, .slice T x (some y) (some z) none, ty, pos, af, none⟩) :: l) :=
  KO.val (fun a' w ha' => by
    subst ha; subst hc
    have := run_slice_string (P := P) w T s kk kk' (i : Int) (j : Int) hT (by omega) (by omega) (by omega)
    simp [execOp, ha'.eval hx, ha'.eval hy, ha'.eval hz, run_sliceAt_string w T _ _ _ _ hT, this]) ht h
/-- an element of an array's value -/
theorem KO.idxAg {cs : List Value} {len : Nat} {E : TypeId} {v : Value} (hx : ev G x = some (.agg cs.toArray)) (hy : ev G y = some (.int kk a)) (hT : P.underlying T = some (.array len E)) (hA : ∀ w, (isAgg E).run P w = .ok false w) (hs : ∀ w, (Go.sizeOf E).run P w = .ok 1 w) (ha : a = (i : Int)) (hi : i < len) (hv : cs[i]? = some v) (ht : Nat.blt t n = true)
    (h : KO P ops d Q n D w0 ((t, v) :: G) L l) : KO P ops d Q n D w0 G L ((k, ⟨some t, .index T x y, ty, pos, af, none⟩) :: l) :=
  KO.val (fun a' w ha' => by
    subst ha
    have h1 : (0 : Int) ≤ (i : Int) ∧ (i : Int) < (len : Int) := ⟨by omega, by omega⟩
    have h2 : cs.toArray[i]? = some v := by simpa using hv
    simp [execOp, ha'.eval hx, ha'.eval hy, Instr.index, asIntOf, run_underlying hT, h1, hs w, part, hA w, hi, hv]
    ) ht h
end
theorem RdA.ofSL {α : Type} {w0 w : World} {L R : List HP} {E : TypeId} {cf : α → List Value} {sz : Nat} {xs : List α} {v : Value} (hsz : ∀ e, (cf e).length = sz) (hp : Pick L (SL E sz cf v xs) R) (hw : St w0 L w) : RdA w sz cf v xs := by
  obtain ⟨a, cap, h1, h2, h3⟩ := RdS.of hsz hp w hw
  refine ⟨a, cap, h1, fun i x hx => ?_⟩
  have hl := (List.getElem?_eq_some_iff.1 hx).1
  obtain ⟨g, rfl⟩ := h2 (by omega)
  exact ⟨_, rfl, by rw [Addr.add_lit, Nat.zero_add]; exact h3 g rfl i x hx⟩
end WB
