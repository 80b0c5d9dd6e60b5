/- waybilllaw.QueuePlays: for every list of items the law returns true, on every schedule, and the list reads as it did. No condition. -/
import Derived.ProofKit
import Derived.OpenShut
import Derived.Deep.DeepHandedRow
import Derived.Deep.Slices
import Derived.Lay
import Derived.LaidHandle
import Derived.Conc.Holds
import Derived.Leaving
import Derived.SevenTiedAt
import Derived.Test.YtjhogocabcdjbaaGreatDoorCards
import Derived.Test.YtjhogocabcdjbaaGreatDoorTie
import Derived.Test.YtjhogocabcdjbaaGreatDoorB2
set_option linter.unusedSimpArgs false
set_option linter.unusedVariables false
/- the document's queue: find, Push, drop, Put, Has. -/
namespace Go.Proofs.YtjhogocabcdjbaaGreatDoor
open Go Go.RowKit WB
abbrev riS (v : Value) (xs : List Ri) : HP := SL 47 7 riC v xs
abbrev rqB (b : Nat) (v : Value) : HP := blk b (.cells [v].toArray 29 (0, 0))
def rqP (b : Nat) (l : List Ri) : HP := ex fun v => sep (rqB b v) (riS v l)
theorem rqP_open {w0 w : World} {b : Nat} {l : List Ri} {L : List HP} (h : St w0 (rqP b l :: L) w) : ∃ v, St w0 (rqB b v :: riS v l :: L) w := by
  obtain ⟨v, h⟩ := h.exs
  exact ⟨v, h.split⟩
theorem rqP_mk {w0 w : World} {b : Nat} {l : List Ri} {v : Value} {L : List HP} (h : St w0 (rqB b v :: riS v l :: L) w) : St w0 (rqP b l :: L) w := St.exi (F := fun v => sep (rqB b v) (riS v l)) v h.join
theorem ri_info : (Tryz.prog.info? 47).map (fun i => (i.zero, i.size, i.bytes)) = some (some (Value.agg #[.int .i64 0, .int .i64 0, .string ⟨#[]⟩, .string ⟨#[]⟩, .int .i64 0, .int .i64 0, .int .i64 0]), 7, 72) := by kernel_rfl
theorem rfind_e (w0 : World) (L R : List HP) (b : Nat) (l : List Ri) (id : Int) (hp : Pick L (rqP b l) R) (hq : l.length < 900000) :
    KE Tryz.prog 53 #[.pointer (some ⟨b, 0, none⟩), .int .i64 id] w0 L (fun u L' => u = .int .i64 (rfind l id) ∧ L' = L) := by
  refine KE.mk (n := 24) Tryz.func53 rfl Tryz.ntmps53 (by simp) ?_
  intro w hw0
  obtain ⟨v, hw⟩ := rqP_open (hw0.pick hp)
  obtain ⟨sa, cap, rfl, hsa, hc⟩ := RdS.of (E := 47) (sz := 7) (cf := riC) (fun _ => rfl) Pick.head w hw.drop
  repeat ((with_reducible refine K.seq ?_))
  refine K.reg ?_
  refine KO.as rfl rfl ?_
  refine KO.nil ?_
  repeat (first | (with_reducible refine K.seq ?_) | (with_reducible refine KQ.next ?_))
  refine K.reg ?_
  refine KO.mv rfl rfl ?_
  refine KO.nc rfl rfl ?_
  refine KO.fo0 (off := 0) rfl Tryz.runUnderlying29 rfl rfl Tryz.sizeOf27 rfl ?_
  refine KO.ldb hw rfl rfl Tryz.isAgg27 (by with_reducible (repeat (exact Pick.head))) (by exact rfl) rfl ?_
  refine KO.len rfl Tryz.underlying27 rfl ?_
  refine KO.mv rfl rfl ?_
  refine KO.nil ?_
  repeat (first | (with_reducible refine KQ.next ?_) | (with_reducible refine K.block ?_))
  refine K.loop (fun k : Nat => [(0, .pointer (some ⟨b, 0, none⟩)), (1, .int .i64 id), (10, .slice sa l.length cap), (11, .int .i64 (l.length : Nat)), (12, .int .i64 (k : Nat))]) (fun _ => []) (fun k => k ≤ l.length ∧ ∀ j u, j < k → l[j]? = some u → ridB id u = false) (fun k => l.length - k) 0
    ⟨Nat.zero_le _, fun j u h => by omega⟩ ⟨rfl, rfl, rfl, rfl, rfl, trivial⟩ (fun _ h => h) ?_
  rintro k ⟨hk, hall⟩
  repeat ((with_reducible refine K.seq ?_))
  refine K.reg ?_
  refine KO.lss rfl rfl rfl ?_
  refine KO.nil ?_
  repeat (first | (with_reducible refine K.seq ?_) | (with_reducible refine KQ.next ?_))
  refine K.condD rfl (fun h => ?_) (fun h => ?_)
  · obtain ⟨g, rfl⟩ := hsa (by omega)
    obtain ⟨e, he⟩ : ∃ e, l[k]? = some e := ⟨l[k], List.getElem?_eq_getElem (by omega)⟩
    repeat (first | (with_reducible refine K.seq ?_) | (with_reducible refine KQ.next ?_) | (with_reducible refine K.skip ?_) | (with_reducible refine K.block ?_))
    refine K.reg ?_
    refine KO.mv rfl rfl ?_
    refine KO.idx0 rfl rfl Tryz.runUnderlying27 Tryz.sizeOf47 (by exact rfl) (by omega) rfl ?_
    refine KO.ldN0 (cs := (riC e).toArray) rfl rfl Tryz.isAgg47 Tryz.sizeOf47 rfl (hc g rfl k e he) rfl ?_
    refine KO.alloc rfl Tryz.zeroValue47 (by exact rfl) rfl ?_; intro b6
    refine KO.as rfl rfl ?_
    refine KO.sto0 rfl rfl rfl (by exact rfl) (by exact Tryz.sizeOf47) (by exact rfl) (by with_reducible (repeat (exact Pick.head))) (by exact rfl) ?_
    refine KO.nil ?_
    repeat (first | (with_reducible refine K.seq ?_) | (with_reducible refine KQ.next ?_))
    refine K.reg ?_
    refine KO.fo0 (off := 0) rfl Tryz.runUnderlying47 rfl rfl Tryz.sizeOf31 rfl ?_
    refine KO.fo0 (off := 0) rfl Tryz.runUnderlying31 rfl rfl Tryz.sizeOf3 rfl ?_
    refine KO.ld rfl rfl Tryz.isAgg3 (by with_reducible (repeat (exact Pick.head))) (by exact rfl) rfl ?_
    refine KO.mv rfl rfl ?_
    refine KO.eqI rfl rfl rfl ?_
    refine KO.nil ?_
    repeat ((with_reducible refine KQ.next ?_))
    refine K.condD rfl (fun h5 => ?_) (fun h5 => ?_)
    · repeat ((with_reducible refine K.seq ?_))
      refine K.reg ?_
      refine KO.mv rfl rfl ?_
      refine KO.as rfl rfl ?_
      refine KO.nil ?_
      repeat (first | (with_reducible refine KQ.next ?_) | (with_reducible refine KQ.then_ret ?_) | (with_reducible refine KQ.blk_ret ?_) | (with_reducible refine K.ret ?_))
      refine KQ.ret1 rfl rfl (fun w' hs => ⟨_, _, rfl, ⟨?_, rfl⟩, hw0.below_step hs.below, hs.below⟩)
      rw [rfind, fidx_hit he (by simp [ridB, h5]) hall]
    · repeat (first | (with_reducible refine KQ.next ?_) | (with_reducible refine KQ.blk_normal ?_) | (with_reducible refine K.skip ?_))
      refine K.reg ?_
      refine KO.add rfl rfl rfl (by omega) rfl ?_
      refine KO.mv rfl rfl ?_
      refine KO.nil ?_
      refine KQ.round (k + 1) ⟨by omega, fun j u hj hu => ?_⟩ (by omega) ⟨rfl, rfl, rfl, rfl, rfl, trivial⟩ (fun _ h => h.all (by with_reducible repeat (exact PAll.nil)))
      by_cases hjk : j = k
      · subst hjk; rw [he] at hu; cases hu; simp [ridB, h5]
      · exact hall j u (by omega) hu
  · repeat (first | (with_reducible refine K.seq ?_) | (with_reducible refine KQ.next ?_) | (with_reducible refine KQ.then_exit ?_) | (with_reducible refine KQ.blk_exit ?_) | (with_reducible refine K.exit ?_))
    refine K.reg ?_
    refine KO.as rfl rfl ?_
    refine KO.nil ?_
    repeat (first | (with_reducible refine KQ.next ?_) | (with_reducible refine K.ret ?_))
    refine KQ.ret1 rfl rfl (fun w' hs => ⟨_, _, rfl, ⟨?_, rfl⟩, hw0.below_step hs.below, hs.below⟩)
    rw [rfind, fidx_miss fun j u hu => hall j u (by have := (List.getElem?_eq_some_iff.1 hu).1; omega) hu]
theorem rhas_e (w0 : World) (L R : List HP) (b : Nat) (l : List Ri) (id : Int) (hp : Pick L (rqP b l) R) (hq : l.length < 900000) :
    KE Tryz.prog 29 #[.pointer (some ⟨b, 0, none⟩), .int .i64 id] w0 L (fun u L' => u = .bool (decide (0 ≤ rfind l id)) ∧ L' = L) := by
  refine KE.mk (n := 9) Tryz.func29 rfl Tryz.ntmps29 (by simp) ?_
  intro w hw0
  repeat ((with_reducible refine K.seq ?_))
  refine K.reg ?_
  refine KO.as rfl rfl ?_
  refine KO.nil ?_
  repeat (first | (with_reducible refine K.seq ?_) | (with_reducible refine KQ.next ?_))
  refine K.reg ?_
  refine KO.mv rfl rfl ?_
  refine KO.mv rfl rfl ?_
  refine KO.ce (cp := []) rfl rfl rfl Tryz.call53 rfl ((rfind_e w0 L R b l id hp hq).rebase hw0) ?_; rintro v' L' ⟨rfl, rfl⟩
  refine KO.geq rfl rfl rfl ?_
  refine KO.as rfl rfl ?_
  refine KO.nil ?_
  repeat (first | (with_reducible refine KQ.next ?_) | (with_reducible refine K.ret ?_))
  refine KQ.ret1 rfl rfl (fun w' hs => ⟨_, _, rfl, ⟨rfl, rfl⟩, hw0.below_step hs.below, hs.below⟩)
set_option maxRecDepth 100000 in
theorem rpush_c (w0 : World) (L : List HP) (b : Nat) (l : List Ri) (m : Ms) (u : Int) (hq : l.length < 900000) :
    KC Tryz.prog 21 #[.pointer (some ⟨b, 0, none⟩), .agg (msC m).toArray, .int .i64 u] w0 (rqP b l :: L) (fun v L' => v = .tuple #[] ∧ L' = rqP b (rpush l m u) :: L) := by
  refine KC.mk (n := 22) Tryz.func21 rfl Tryz.ntmps21 (by simp) ?_
  repeat ((with_reducible refine K.seq ?_))
  refine K.open' (fun _ h => rqP_open h) fun v => ?_
  refine K.reg ?_
  refine KO.box rfl rfl (by exact rfl) rfl ?_; intro b4
  refine KO.nil ?_
  repeat (first | (with_reducible refine K.seq ?_) | (with_reducible refine KQ.next ?_))
  refine K.reg ?_
  refine KO.mv rfl rfl ?_
  refine KO.lss rfl rfl rfl ?_
  refine KO.nil ?_
  repeat ((with_reducible refine KQ.next ?_))
  refine K.cut (fun _ : Unit => [(0, .pointer (some ⟨b, 0, none⟩)), (2, .int .i64 (rneg u)), (4, .pointer (some ⟨b4, 0, none⟩))]) (fun _ => [blk b4 (.cells (msC m).toArray 31 (0, 0)), rqB b v, riS v l] ++ L) (fun _ => True) ?_ ?_
  · refine K.condD rfl (fun h => ?_) (fun h => ?_)
    · refine K.reg ?_
      refine KO.as rfl rfl ?_
      refine KO.nil ?_
      exact KQ.mid () trivial ⟨rfl, by simp [envAt, rneg, h], rfl, trivial⟩ (fun _ h => h)
    · refine K.skip ?_
      exact KQ.mid () trivial ⟨rfl, by simp [rneg, h, argEnv, envAt], rfl, trivial⟩ (fun _ h => h)
  rintro _ _
  show K _ _ _ _ _ _ _ (blk b4 (.cells (msC m).toArray 31 (0, 0)) :: rqB b v :: riS v l :: L)
  refine K.drawX [.pure, .keep, .pure, .pure, .pure, .read, .write, .read, .pure, .pure, .keep, .write, .pure, .pure, .write] [(6, 7), (6, 10), (1, 10)] [[0, 2, 3, 4, 5, 8, 1, 6, 7, 9, 10, 11, 12, 13, 14], [0, 2, 3, 4, 5, 7, 8, 9, 1, 6, 10, 11, 12, 13, 14], [0, 2, 3, 4, 5, 7, 8, 9, 1, 10, 6, 11, 12, 13, 14], [0, 2, 3, 4, 5, 7, 8, 9, 10, 1, 6, 11, 12, 13, 14]] (by kernel_rfl) (by kernel_rfl) (by kernel_rfl) ⟨?_, ?_, ?_, ?_, trivial⟩
  focus
    show KO _ _ _ _ _ _ _ _ _ _
    refine KO.mv rfl rfl ?_
    refine KO.mv rfl rfl ?_
    refine KO.nc rfl rfl ?_
    refine KO.fo0 (off := 0) rfl Tryz.runUnderlying29 rfl rfl Tryz.sizeOf27 rfl ?_
    refine KO.ld rfl rfl Tryz.isAgg27 (by with_reducible (repeat (first | exact Pick.head | apply Pick.tail))) (by exact rfl) rfl ?_
    refine KO.mv rfl rfl ?_
    refine KO.bs0 riC rfl Tryz.underlying27 Tryz.sizeOf47 rfl ?_; intro b9
    refine KO.appS (cf := riC) (E := 47) (z := Value.agg #[.int .i64 0, .int .i64 0, .string ⟨#[]⟩, .string ⟨#[]⟩, .int .i64 0, .int .i64 0, .int .i64 0]) (sz := 7) (by' := 72) (xs := []) (ys := l) rfl rfl rfl (by with_reducible (repeat (exact Pick.head))) (fun w hw => Src.of (by with_reducible (repeat (first | exact Pick.head | apply Pick.tail))) w hw) Tryz.underlying27 ri_info rfl (fun _ => rfl) (fun _ => rfl) (by simp; omega) (by decide) rfl ?_; intro v6; rw [List.nil_append]; refine KO.fact (fun _ hs => SL_form hs) ?_; rintro ⟨a6, c6, rfl, -⟩
    refine KO.ldB0 rfl rfl Tryz.isAgg31 Tryz.sizeOf31 (by with_reducible (repeat (first | exact Pick.head | apply Pick.tail))) (by exact rfl) rfl ?_
    refine KO.bldS (pl := [(0, 5), (5, 1), (6, 1)]) (riC ⟨m, rneg u, -1⟩) rfl Tryz.zeroValue47 Tryz.runUnderlying47 (by intro w; simp [Tryz.sizeOf3, Tryz.sizeOf31]) rfl rfl ?_
    refine KO.bs1 (z := (Value.agg #[.int .i64 0, .int .i64 0, .string ⟨#[]⟩, .string ⟨#[]⟩, .int .i64 0, .int .i64 0, .int .i64 0])) (sz := 7) (by' := 72) rfl rfl Tryz.underlying27 (by kernel_rfl) (by exact rfl) (by exact rfl) (by decide) (by decide) rfl ?_; intro b18
    refine KO.app (z := Value.agg #[.int .i64 0, .int .i64 0, .string ⟨#[]⟩, .string ⟨#[]⟩, .int .i64 0, .int .i64 0, .int .i64 0]) (sz := 7) (by' := 72) rfl rfl rfl (by with_reducible (repeat (first | exact Pick.head | apply Pick.tail))) (by with_reducible (repeat (exact Pick.head))) Tryz.underlying27 ri_info rfl (⟨m, rneg u, -1⟩ : Ri) (by exact rfl) (by exact rfl) (by exact rfl) (by omega) (by decide) rfl ?_; intro v'; refine KO.fact (fun _ hs => SL_form hs) ?_; rintro ⟨a', c', rfl, -⟩
    refine KO.nc rfl rfl ?_
    refine KO.fo0 (off := 0) rfl Tryz.runUnderlying29 rfl rfl Tryz.sizeOf27 rfl ?_
    refine KO.sto0 rfl rfl rfl (by exact rfl) (by exact Tryz.sizeOf27) (by exact rfl) (by with_reducible (repeat (first | exact Pick.head | apply Pick.tail))) (by exact rfl) ?_
    refine KO.nil ?_
  rotate_left
  focus
    show KO _ _ _ _ _ _ _ _ _ _
    refine KO.mv rfl rfl ?_
    refine KO.mv rfl rfl ?_
    refine KO.nc rfl rfl ?_
    refine KO.fo0 (off := 0) rfl Tryz.runUnderlying29 rfl rfl Tryz.sizeOf27 rfl ?_
    refine KO.ld rfl rfl Tryz.isAgg27 (by with_reducible (repeat (first | exact Pick.head | apply Pick.tail))) (by exact rfl) rfl ?_
    refine KO.ldB0 rfl rfl Tryz.isAgg31 Tryz.sizeOf31 (by with_reducible (repeat (exact Pick.head))) (by exact rfl) rfl ?_
    refine KO.mv rfl rfl ?_
    refine KO.bldS (pl := [(0, 5), (5, 1), (6, 1)]) (riC ⟨m, rneg u, -1⟩) rfl Tryz.zeroValue47 Tryz.runUnderlying47 (by intro w; simp [Tryz.sizeOf3, Tryz.sizeOf31]) rfl rfl ?_
    refine KO.bs0 riC rfl Tryz.underlying27 Tryz.sizeOf47 rfl ?_; intro b9
    refine KO.appS (cf := riC) (E := 47) (z := Value.agg #[.int .i64 0, .int .i64 0, .string ⟨#[]⟩, .string ⟨#[]⟩, .int .i64 0, .int .i64 0, .int .i64 0]) (sz := 7) (by' := 72) (xs := []) (ys := l) rfl rfl rfl (by with_reducible (repeat (exact Pick.head))) (fun w hw => Src.of (by with_reducible (repeat (first | exact Pick.head | apply Pick.tail))) w hw) Tryz.underlying27 ri_info rfl (fun _ => rfl) (fun _ => rfl) (by simp; omega) (by decide) rfl ?_; intro v6; rw [List.nil_append]; refine KO.fact (fun _ hs => SL_form hs) ?_; rintro ⟨a6, c6, rfl, -⟩
    refine KO.bs1 (z := (Value.agg #[.int .i64 0, .int .i64 0, .string ⟨#[]⟩, .string ⟨#[]⟩, .int .i64 0, .int .i64 0, .int .i64 0])) (sz := 7) (by' := 72) rfl rfl Tryz.underlying27 (by kernel_rfl) (by exact rfl) (by exact rfl) (by decide) (by decide) rfl ?_; intro b18
    refine KO.app (z := Value.agg #[.int .i64 0, .int .i64 0, .string ⟨#[]⟩, .string ⟨#[]⟩, .int .i64 0, .int .i64 0, .int .i64 0]) (sz := 7) (by' := 72) rfl rfl rfl (by with_reducible (repeat (first | exact Pick.head | apply Pick.tail))) (by with_reducible (repeat (exact Pick.head))) Tryz.underlying27 ri_info rfl (⟨m, rneg u, -1⟩ : Ri) (by exact rfl) (by exact rfl) (by exact rfl) (by omega) (by decide) rfl ?_; intro v'; refine KO.fact (fun _ hs => SL_form hs) ?_; rintro ⟨a', c', rfl, -⟩
    refine KO.nc rfl rfl ?_
    refine KO.fo0 (off := 0) rfl Tryz.runUnderlying29 rfl rfl Tryz.sizeOf27 rfl ?_
    refine KO.sto0 rfl rfl rfl (by exact rfl) (by exact Tryz.sizeOf27) (by exact rfl) (by with_reducible (repeat (first | exact Pick.head | apply Pick.tail))) (by exact rfl) ?_
    refine KO.nil ?_
  rotate_left
  focus
    show KO _ _ _ _ _ _ _ _ _ _
    refine KO.mv rfl rfl ?_
    refine KO.mv rfl rfl ?_
    refine KO.nc rfl rfl ?_
    refine KO.fo0 (off := 0) rfl Tryz.runUnderlying29 rfl rfl Tryz.sizeOf27 rfl ?_
    refine KO.ld rfl rfl Tryz.isAgg27 (by with_reducible (repeat (first | exact Pick.head | apply Pick.tail))) (by exact rfl) rfl ?_
    refine KO.ldB0 rfl rfl Tryz.isAgg31 Tryz.sizeOf31 (by with_reducible (repeat (exact Pick.head))) (by exact rfl) rfl ?_
    refine KO.mv rfl rfl ?_
    refine KO.bldS (pl := [(0, 5), (5, 1), (6, 1)]) (riC ⟨m, rneg u, -1⟩) rfl Tryz.zeroValue47 Tryz.runUnderlying47 (by intro w; simp [Tryz.sizeOf3, Tryz.sizeOf31]) rfl rfl ?_
    refine KO.bs0 riC rfl Tryz.underlying27 Tryz.sizeOf47 rfl ?_; intro b9
    refine KO.bs1 (z := (Value.agg #[.int .i64 0, .int .i64 0, .string ⟨#[]⟩, .string ⟨#[]⟩, .int .i64 0, .int .i64 0, .int .i64 0])) (sz := 7) (by' := 72) rfl rfl Tryz.underlying27 (by kernel_rfl) (by exact rfl) (by exact rfl) (by decide) (by decide) rfl ?_; intro b18
    refine KO.appS (cf := riC) (E := 47) (z := Value.agg #[.int .i64 0, .int .i64 0, .string ⟨#[]⟩, .string ⟨#[]⟩, .int .i64 0, .int .i64 0, .int .i64 0]) (sz := 7) (by' := 72) (xs := []) (ys := l) rfl rfl rfl (by with_reducible (repeat (first | exact Pick.head | apply Pick.tail))) (fun w hw => Src.of (by with_reducible (repeat (first | exact Pick.head | apply Pick.tail))) w hw) Tryz.underlying27 ri_info rfl (fun _ => rfl) (fun _ => rfl) (by simp; omega) (by decide) rfl ?_; intro v6; rw [List.nil_append]; refine KO.fact (fun _ hs => SL_form hs) ?_; rintro ⟨a6, c6, rfl, -⟩
    refine KO.app (z := Value.agg #[.int .i64 0, .int .i64 0, .string ⟨#[]⟩, .string ⟨#[]⟩, .int .i64 0, .int .i64 0, .int .i64 0]) (sz := 7) (by' := 72) rfl rfl rfl (by with_reducible (repeat (exact Pick.head))) (by with_reducible (repeat (exact Pick.head))) Tryz.underlying27 ri_info rfl (⟨m, rneg u, -1⟩ : Ri) (by exact rfl) (by exact rfl) (by exact rfl) (by omega) (by decide) rfl ?_; intro v'; refine KO.fact (fun _ hs => SL_form hs) ?_; rintro ⟨a', c', rfl, -⟩
    refine KO.nc rfl rfl ?_
    refine KO.fo0 (off := 0) rfl Tryz.runUnderlying29 rfl rfl Tryz.sizeOf27 rfl ?_
    refine KO.sto0 rfl rfl rfl (by exact rfl) (by exact Tryz.sizeOf27) (by exact rfl) (by with_reducible (repeat (first | exact Pick.head | apply Pick.tail))) (by exact rfl) ?_
    refine KO.nil ?_
  rotate_left
  focus
    show KO _ _ _ _ _ _ _ _ _ _
    refine KO.mv rfl rfl ?_
    refine KO.mv rfl rfl ?_
    refine KO.nc rfl rfl ?_
    refine KO.fo0 (off := 0) rfl Tryz.runUnderlying29 rfl rfl Tryz.sizeOf27 rfl ?_
    refine KO.ld rfl rfl Tryz.isAgg27 (by with_reducible (repeat (first | exact Pick.head | apply Pick.tail))) (by exact rfl) rfl ?_
    refine KO.ldB0 rfl rfl Tryz.isAgg31 Tryz.sizeOf31 (by with_reducible (repeat (exact Pick.head))) (by exact rfl) rfl ?_
    refine KO.mv rfl rfl ?_
    refine KO.bldS (pl := [(0, 5), (5, 1), (6, 1)]) (riC ⟨m, rneg u, -1⟩) rfl Tryz.zeroValue47 Tryz.runUnderlying47 (by intro w; simp [Tryz.sizeOf3, Tryz.sizeOf31]) rfl rfl ?_
    refine KO.bs1 (z := (Value.agg #[.int .i64 0, .int .i64 0, .string ⟨#[]⟩, .string ⟨#[]⟩, .int .i64 0, .int .i64 0, .int .i64 0])) (sz := 7) (by' := 72) rfl rfl Tryz.underlying27 (by kernel_rfl) (by exact rfl) (by exact rfl) (by decide) (by decide) rfl ?_; intro b18
    refine KO.bs0 riC rfl Tryz.underlying27 Tryz.sizeOf47 rfl ?_; intro b9
    refine KO.appS (cf := riC) (E := 47) (z := Value.agg #[.int .i64 0, .int .i64 0, .string ⟨#[]⟩, .string ⟨#[]⟩, .int .i64 0, .int .i64 0, .int .i64 0]) (sz := 7) (by' := 72) (xs := []) (ys := l) rfl rfl rfl (by with_reducible (repeat (exact Pick.head))) (fun w hw => Src.of (by with_reducible (repeat (first | exact Pick.head | apply Pick.tail))) w hw) Tryz.underlying27 ri_info rfl (fun _ => rfl) (fun _ => rfl) (by simp; omega) (by decide) rfl ?_; intro v6; rw [List.nil_append]; refine KO.fact (fun _ hs => SL_form hs) ?_; rintro ⟨a6, c6, rfl, -⟩
    refine KO.app (z := Value.agg #[.int .i64 0, .int .i64 0, .string ⟨#[]⟩, .string ⟨#[]⟩, .int .i64 0, .int .i64 0, .int .i64 0]) (sz := 7) (by' := 72) rfl rfl rfl (by with_reducible (repeat (exact Pick.head))) (by with_reducible (repeat (exact Pick.head))) Tryz.underlying27 ri_info rfl (⟨m, rneg u, -1⟩ : Ri) (by exact rfl) (by exact rfl) (by exact rfl) (by omega) (by decide) rfl ?_; intro v'; refine KO.fact (fun _ hs => SL_form hs) ?_; rintro ⟨a', c', rfl, -⟩
    refine KO.nc rfl rfl ?_
    refine KO.fo0 (off := 0) rfl Tryz.runUnderlying29 rfl rfl Tryz.sizeOf27 rfl ?_
    refine KO.sto0 rfl rfl rfl (by exact rfl) (by exact Tryz.sizeOf27) (by exact rfl) (by with_reducible (repeat (first | exact Pick.head | apply Pick.tail))) (by exact rfl) ?_
    refine KO.nil ?_
  rotate_left
  all_goals (
    refine KQ.end0 rfl (fun w' hs => ⟨_, _, rfl, ⟨rfl, rfl⟩, ?_⟩)
    unfold rpush
    exact rqP_mk ((hs.pick2 (by with_reducible (repeat (exact Pick.head))) (by with_reducible (repeat (exact Pick.head)))).gc2 (by with_reducible repeat (first | exact LSub.refl | apply LSub.drop))))
set_option maxRecDepth 100000 in
theorem rdrop_c (w0 : World) (L : List HP) (b : Nat) (l : List Ri) (i : Nat) (hi : i < l.length) (hq : l.length < 900000) :
    KC Tryz.prog 55 #[.pointer (some ⟨b, 0, none⟩), .int .i64 (i : Nat)] w0 (rqP b l :: L) (fun v L' => v = .tuple #[] ∧ L' = rqP b (l.eraseIdx i) :: L) := by
  refine KC.mk (n := 23) Tryz.func55 rfl Tryz.ntmps55 (by simp) ?_
  refine K.open' (fun _ h => rqP_open h) fun v => ?_
  refine K.fact (fun w hw => SL_some (hw.pick (by with_reducible (repeat (first | exact Pick.head | apply Pick.tail)))) hi) ?_
  rintro ⟨g, cap, rfl⟩
  refine K.fact (fun w hw => SL_cap (hw.pick (A := riS (.slice (some ⟨g, 0, none⟩) l.length cap) l) (by with_reducible (repeat (first | exact Pick.head | apply Pick.tail))))) ?_
  rintro ⟨-, hcap⟩
  refine K.drawX [.pure, .keep, .pure, .pure, .pure, .read, .pure, .pure, .write, .pure, .pure, .pure, .read, .pure, .pure, .pure, .write, .pure, .pure, .write] [(8, 12)] [[0, 2, 3, 4, 5, 6, 7, 9, 10, 11, 13, 14, 1, 8, 12, 15, 16, 17, 18, 19], [0, 2, 3, 4, 5, 6, 7, 9, 10, 11, 12, 13, 14, 15, 1, 8, 16, 17, 18, 19]] (by kernel_rfl) (by kernel_rfl) (by kernel_rfl) ⟨?_, ?_, trivial⟩
  focus
    show KO _ _ _ _ _ _ _ _ _ _
    refine KO.mv rfl rfl ?_
    refine KO.mv rfl rfl ?_
    refine KO.nc rfl rfl ?_
    refine KO.fo0 (off := 0) rfl Tryz.runUnderlying29 rfl rfl Tryz.sizeOf27 rfl ?_
    refine KO.ld rfl rfl Tryz.isAgg27 (by with_reducible (repeat (exact Pick.head))) (by exact rfl) rfl ?_
    refine KO.mv rfl rfl ?_
    refine KO.cutTo rfl rfl Tryz.underlying27 Tryz.sizeOf47 (by exact rfl) (by omega) rfl ?_
    refine KO.mv rfl rfl ?_
    refine KO.nc rfl rfl ?_
    refine KO.fo0 (off := 0) rfl Tryz.runUnderlying29 rfl rfl Tryz.sizeOf27 rfl ?_
    refine KO.mv rfl rfl ?_
    refine KO.add rfl rfl rfl (by omega) rfl ?_
    refine KO.bs0 riC rfl Tryz.underlying27 Tryz.sizeOf47 rfl ?_; intro b5
    refine KO.appS (cf := riC) (E := 47) (z := Value.agg #[.int .i64 0, .int .i64 0, .string ⟨#[]⟩, .string ⟨#[]⟩, .int .i64 0, .int .i64 0, .int .i64 0]) (sz := 7) (by' := 72) (xs := []) (ys := l.take i) rfl rfl rfl (by with_reducible (repeat (exact Pick.head))) (fun w hw => (Src.of (E := 47) (sz := 7) (xs := l) (by with_reducible (repeat (first | exact Pick.head | apply Pick.tail))) w hw).take i (by omega)) Tryz.underlying27 ri_info rfl (fun _ => rfl) (fun _ => rfl) (by simp; omega) (by decide) rfl ?_; intro v8; rw [List.nil_append]; refine KO.fact (fun _ hs => SL_form hs) ?_; rintro ⟨a8, c8, rfl, -⟩
    refine KO.ld rfl rfl Tryz.isAgg27 (by with_reducible (repeat (first | exact Pick.head | apply Pick.tail))) (by exact rfl) rfl ?_
    refine KO.cutFrom (lo := i + 1) rfl rfl Tryz.underlying27 Tryz.sizeOf47 (by omega) (by omega) (by omega) rfl ?_
    refine KO.appS (cf := riC) (E := 47) (z := Value.agg #[.int .i64 0, .int .i64 0, .string ⟨#[]⟩, .string ⟨#[]⟩, .int .i64 0, .int .i64 0, .int .i64 0]) (sz := 7) (by' := 72) (xs := l.take i) (ys := l.drop (i + 1)) rfl rfl rfl (by with_reducible (repeat (exact Pick.head))) (fun w hw => Src.cut (cf := riC) (sz := 7) (fun _ => rfl) (Src.of (E := 47) (sz := 7) (cf := riC) (v := .slice (some ⟨g, 0, none⟩) l.length cap) (xs := l) (by with_reducible (repeat (first | exact Pick.head | apply Pick.tail))) w hw) (i + 1) (by omega) hcap) Tryz.underlying27 ri_info rfl (fun _ => rfl) (fun _ => rfl) (by simp; omega) (by decide) rfl ?_; intro v16; refine KO.fact (fun _ hs => SL_form hs) ?_; rintro ⟨a16, c16, rfl, -⟩
    refine KO.nc rfl rfl ?_
    refine KO.fo0 (off := 0) rfl Tryz.runUnderlying29 rfl rfl Tryz.sizeOf27 rfl ?_
    refine KO.sto0 rfl rfl rfl (by exact rfl) (by exact Tryz.sizeOf27) (by exact rfl) (by with_reducible (repeat (first | exact Pick.head | apply Pick.tail))) (by exact rfl) ?_
    refine KO.nil ?_
  rotate_left
  focus
    show KO _ _ _ _ _ _ _ _ _ _
    refine KO.mv rfl rfl ?_
    refine KO.mv rfl rfl ?_
    refine KO.nc rfl rfl ?_
    refine KO.fo0 (off := 0) rfl Tryz.runUnderlying29 rfl rfl Tryz.sizeOf27 rfl ?_
    refine KO.ld rfl rfl Tryz.isAgg27 (by with_reducible (repeat (exact Pick.head))) (by exact rfl) rfl ?_
    refine KO.mv rfl rfl ?_
    refine KO.cutTo rfl rfl Tryz.underlying27 Tryz.sizeOf47 (by exact rfl) (by omega) rfl ?_
    refine KO.mv rfl rfl ?_
    refine KO.nc rfl rfl ?_
    refine KO.fo0 (off := 0) rfl Tryz.runUnderlying29 rfl rfl Tryz.sizeOf27 rfl ?_
    refine KO.ld rfl rfl Tryz.isAgg27 (by with_reducible (repeat (exact Pick.head))) (by exact rfl) rfl ?_
    refine KO.mv rfl rfl ?_
    refine KO.add rfl rfl rfl (by omega) rfl ?_
    refine KO.cutFrom (lo := i + 1) rfl rfl Tryz.underlying27 Tryz.sizeOf47 (by omega) (by omega) (by omega) rfl ?_
    refine KO.bs0 riC rfl Tryz.underlying27 Tryz.sizeOf47 rfl ?_; intro b5
    refine KO.appS (cf := riC) (E := 47) (z := Value.agg #[.int .i64 0, .int .i64 0, .string ⟨#[]⟩, .string ⟨#[]⟩, .int .i64 0, .int .i64 0, .int .i64 0]) (sz := 7) (by' := 72) (xs := []) (ys := l.take i) rfl rfl rfl (by with_reducible (repeat (exact Pick.head))) (fun w hw => (Src.of (E := 47) (sz := 7) (xs := l) (by with_reducible (repeat (first | exact Pick.head | apply Pick.tail))) w hw).take i (by omega)) Tryz.underlying27 ri_info rfl (fun _ => rfl) (fun _ => rfl) (by simp; omega) (by decide) rfl ?_; intro v8; rw [List.nil_append]; refine KO.fact (fun _ hs => SL_form hs) ?_; rintro ⟨a8, c8, rfl, -⟩
    refine KO.appS (cf := riC) (E := 47) (z := Value.agg #[.int .i64 0, .int .i64 0, .string ⟨#[]⟩, .string ⟨#[]⟩, .int .i64 0, .int .i64 0, .int .i64 0]) (sz := 7) (by' := 72) (xs := l.take i) (ys := l.drop (i + 1)) rfl rfl rfl (by with_reducible (repeat (exact Pick.head))) (fun w hw => Src.cut (cf := riC) (sz := 7) (fun _ => rfl) (Src.of (E := 47) (sz := 7) (cf := riC) (v := .slice (some ⟨g, 0, none⟩) l.length cap) (xs := l) (by with_reducible (repeat (first | exact Pick.head | apply Pick.tail))) w hw) (i + 1) (by omega) hcap) Tryz.underlying27 ri_info rfl (fun _ => rfl) (fun _ => rfl) (by simp; omega) (by decide) rfl ?_; intro v16; refine KO.fact (fun _ hs => SL_form hs) ?_; rintro ⟨a16, c16, rfl, -⟩
    refine KO.nc rfl rfl ?_
    refine KO.fo0 (off := 0) rfl Tryz.runUnderlying29 rfl rfl Tryz.sizeOf27 rfl ?_
    refine KO.sto0 rfl rfl rfl (by exact rfl) (by exact Tryz.sizeOf27) (by exact rfl) (by with_reducible (repeat (first | exact Pick.head | apply Pick.tail))) (by exact rfl) ?_
    refine KO.nil ?_
  rotate_left
  all_goals (
    refine KQ.end0 rfl (fun w' hs => ⟨_, _, rfl, ⟨rfl, rfl⟩, ?_⟩)
    rw [List.eraseIdx_eq_take_drop_succ]
    exact rqP_mk ((hs.pick2 (by with_reducible (repeat (exact Pick.head))) (by with_reducible (repeat (exact Pick.head)))).gc2 (by with_reducible repeat (first | exact LSub.refl | apply LSub.drop))))
theorem rput_c (w0 : World) (L : List HP) (b : Nat) (l : List Ri) (m : Ms) (u : Int) (hq : l.length < 900000) (hb : m.body.size ≤ maxLen) (hqs : m.queue.size ≤ maxLen) :
    KC Tryz.prog 12 #[.pointer (some ⟨b, 0, none⟩), .agg (msC m).toArray, .int .i64 u] w0 (rqP b l :: L) (fun v L' => v = .int .i64 (rputE l m) ∧ L' = rqP b (rput l m u) :: L) := by
  refine KC.mk (n := 25) Tryz.func12 rfl Tryz.ntmps12 (by simp) ?_
  repeat ((with_reducible refine K.seq ?_))
  refine K.reg ?_
  refine KO.box rfl rfl (by exact rfl) rfl ?_; intro b4
  refine KO.as rfl rfl ?_
  refine KO.nil ?_
  repeat (first | (with_reducible refine K.seq ?_) | (with_reducible refine KQ.next ?_))
  refine K.reg ?_
  refine KO.ldB0 rfl rfl Tryz.isAgg31 Tryz.sizeOf31 (by with_reducible (repeat (exact Pick.head))) (by exact rfl) rfl ?_
  refine KO.ce (cp := []) rfl rfl rfl Tryz.call19 rfl (rright_e w0 _ m hb hqs) ?_; rintro v' L' ⟨rfl, rfl⟩
  refine KO.not rfl rfl ?_
  refine KO.nil ?_
  repeat ((with_reducible refine KQ.next ?_))
  refine K.cond rfl (fun h => ?_) (fun h => ?_)
  · have h1 : msRight m = false := by simpa using h
    repeat ((with_reducible refine K.seq ?_))
    refine K.reg ?_
    refine KO.as rfl rfl ?_
    refine KO.nil ?_
    repeat (first | (with_reducible refine KQ.next ?_) | (with_reducible refine KQ.then_ret ?_) | (with_reducible refine K.ret ?_))
    refine KQ.ret1 rfl rfl (fun w' hs => ⟨_, _, rfl, ⟨?_, rfl⟩, ?_⟩)
    · simp [rputE, h1]
    · rw [show rput l m u = l by simp [rput, rputE, h1]]
      exact (hs.pick (by with_reducible (repeat (first | exact Pick.head | apply Pick.tail)))).gc1 (by with_reducible repeat (first | exact LSub.refl | apply LSub.drop))
  have h1 : msRight m = true := by simpa using h
  repeat (first | (with_reducible refine K.seq ?_) | (with_reducible refine KQ.next ?_) | (with_reducible refine K.skip ?_))
  refine K.reg ?_
  refine KO.mv rfl rfl ?_
  refine KO.fo0 (off := 0) rfl Tryz.runUnderlying31 rfl rfl Tryz.sizeOf3 rfl ?_
  refine KO.ld rfl rfl Tryz.isAgg3 (by with_reducible (repeat (exact Pick.head))) (by exact rfl) rfl ?_
  refine KO.ce (cp := []) rfl rfl rfl Tryz.call53 rfl (rfind_e w0 _ _ b l m.id (by with_reducible (repeat (first | exact Pick.head | apply Pick.tail))) hq) ?_; rintro v' L' ⟨rfl, rfl⟩
  refine KO.geq rfl rfl rfl ?_
  refine KO.nil ?_
  repeat ((with_reducible refine KQ.next ?_))
  refine K.condD rfl (fun h2 => ?_) (fun h2 => ?_)
  · repeat ((with_reducible refine K.seq ?_))
    refine K.reg ?_
    refine KO.as rfl rfl ?_
    refine KO.nil ?_
    repeat (first | (with_reducible refine KQ.next ?_) | (with_reducible refine KQ.then_ret ?_) | (with_reducible refine K.ret ?_))
    refine KQ.ret1 rfl rfl (fun w' hs => ⟨_, _, rfl, ⟨?_, rfl⟩, ?_⟩)
    · simp [rputE, h1, h2]
    · rw [show rput l m u = l by simp [rput, rputE, h1, h2]]
      exact (hs.pick (by with_reducible (repeat (first | exact Pick.head | apply Pick.tail)))).gc1 (by with_reducible repeat (first | exact LSub.refl | apply LSub.drop))
  repeat (first | (with_reducible refine K.seq ?_) | (with_reducible refine KQ.next ?_) | (with_reducible refine K.skip ?_))
  refine K.conv (fun w hw => hw.pick (A := rqP b l) (by with_reducible (repeat (first | exact Pick.head | apply Pick.tail)))) ?_
  refine K.open' (fun _ h => rqP_open h) fun v => ?_
  refine K.fact (fun w hw => SL_form (hw.pick (A := riS v l) (by with_reducible (repeat (first | exact Pick.head | apply Pick.tail))))) ?_
  rintro ⟨a', c', rfl, -⟩
  refine K.reg ?_
  refine KO.mv rfl rfl ?_
  refine KO.nc rfl rfl ?_
  refine KO.fo0 (off := 0) rfl Tryz.runUnderlying29 rfl rfl Tryz.sizeOf27 rfl ?_
  refine KO.ld rfl rfl Tryz.isAgg27 (by with_reducible (repeat (exact Pick.head))) (by exact rfl) rfl ?_
  refine KO.len rfl Tryz.underlying27 rfl ?_
  refine KO.geq rfl rfl rfl ?_
  refine KO.nil ?_
  repeat ((with_reducible refine KQ.next ?_))
  refine K.conv (L' := rqP b l :: blk b4 (.cells (msC m).toArray 31 (0, 0)) :: L) (fun w hw => rqP_mk hw) ?_
  refine K.condD rfl (fun h3 => ?_) (fun h3 => ?_)
  · repeat ((with_reducible refine K.seq ?_))
    refine K.reg ?_
    refine KO.as rfl rfl ?_
    refine KO.nil ?_
    repeat (first | (with_reducible refine KQ.next ?_) | (with_reducible refine KQ.then_ret ?_) | (with_reducible refine K.ret ?_))
    refine KQ.ret1 rfl rfl (fun w' hs => ⟨_, _, rfl, ⟨?_, rfl⟩, ?_⟩)
    · have : 20 ≤ l.length := by omega
      simp [rputE, h1, h2, this]
    · rw [show rput l m u = l by have : 20 ≤ l.length := by omega
                                 simp [rput, rputE, h1, h2, this]]
      exact (hs.pick (by with_reducible (repeat (exact Pick.head)))).gc1 (by with_reducible repeat (first | exact LSub.refl | apply LSub.drop))
  · have h4 : ¬ 20 ≤ l.length := by omega
    repeat (first | (with_reducible refine K.seq ?_) | (with_reducible refine KQ.next ?_) | (with_reducible refine K.skip ?_))
    refine K.reg ?_
    refine KO.mv rfl rfl ?_
    refine KO.ldB0 rfl rfl Tryz.isAgg31 Tryz.sizeOf31 (by with_reducible (repeat (first | exact Pick.head | apply Pick.tail))) (by exact rfl) rfl ?_
    refine KO.mv rfl rfl ?_
    refine KO.cl (cp := []) rfl rfl rfl Tryz.call21 rfl (rpush_c w0 _ b l m u hq) ?_; rintro v' L' ⟨rfl, rfl⟩
    refine KO.nil ?_
    repeat (first | (with_reducible refine K.seq ?_) | (with_reducible refine KQ.next ?_))
    refine K.reg ?_
    refine KO.as rfl rfl ?_
    refine KO.nil ?_
    repeat (first | (with_reducible refine KQ.next ?_) | (with_reducible refine K.ret ?_))
    refine KQ.ret1 rfl rfl (fun w' hs => ⟨_, _, rfl, ⟨?_, rfl⟩, ?_⟩)
    · simp [rputE, h1, h2, h4]
    · rw [show rput l m u = rpush l m u by simp [rput, rputE, h1, h2, h4]]
      exact (hs.pick (by with_reducible (repeat (exact Pick.head)))).gc1 (by with_reducible repeat (first | exact LSub.refl | apply LSub.drop))
end Go.Proofs.YtjhogocabcdjbaaGreatDoor
/- the document's queue: order, There, Kept. -/
namespace Go.Proofs.YtjhogocabcdjbaaGreatDoor
open Go Go.RowKit WB
abbrev niS (v : Value) (xs : List Nat) : HP := SL 3 1 niC v xs
theorem ni_info : (Tryz.prog.info? 3).map (fun i => (i.zero, i.size, i.bytes)) = some (some (Value.int .i64 0), 1, 8) := by kernel_rfl
theorem order_e (w0 : World) (L R : List HP) (b : Nat) (l : List Ri) (hp : Pick L (rqP b l) R) (hq : l.length ≤ 1000) :
    KE Tryz.prog 54 #[.pointer (some ⟨b, 0, none⟩)] w0 L (fun v L' => L' = niS v (rord l) :: L) := by
  refine KE.mk (n := 32) Tryz.func54 rfl Tryz.ntmps54 (by simp) ?_
  intro w hw0
  obtain ⟨v, hw⟩ := rqP_open (hw0.pick hp)
  obtain ⟨sa, cap, rfl, hsa, hc⟩ := RdS.of (E := 47) (sz := 7) (cf := riC) (fun _ => rfl) Pick.head w hw.drop
  have hrl := rord_len l
  repeat ((with_reducible refine K.seq ?_))
  refine K.reg ?_
  refine KO.as rfl rfl ?_
  refine KO.nil ?_
  repeat (first | (with_reducible refine K.seq ?_) | (with_reducible refine KQ.next ?_))
  refine K.reg ?_
  refine KO.as rfl rfl ?_
  refine KO.nil ?_
  repeat (first | (with_reducible refine K.seq ?_) | (with_reducible refine KQ.next ?_))
  refine K.reg ?_
  refine KO.as rfl rfl ?_
  refine KO.nil ?_
  repeat (first | (with_reducible refine KQ.next ?_) | (with_reducible refine K.block ?_))
  refine K.loop (fun s : Nat × Value × List Nat => [(0, .pointer (some ⟨b, 0, none⟩)), (3, s.2.1), (4, .int .i64 ((s.1 : Nat) - 1 : Int))]) (fun s => [niS s.2.1 s.2.2]) (fun s => s.1 ≤ 10 ∧ s.2.2 ++ rordN l s.1 = rord l) (fun s => s.1) (10, .slice none 0 0, [])
    ⟨Nat.le_refl _, rfl⟩ ⟨rfl, rfl, rfl, trivial⟩ (fun _ h => SL_nil h) ?_
  rintro ⟨n, vo, acc⟩ ⟨hn, hacc⟩
  dsimp only at hn hacc ⊢
  repeat ((with_reducible refine K.seq ?_))
  refine K.reg ?_
  refine KO.mv rfl rfl ?_
  refine KO.geq rfl rfl rfl ?_
  refine KO.nil ?_
  repeat ((with_reducible refine KQ.next ?_))
  refine K.condD rfl (fun h => ?_) (fun h => ?_)
  · obtain ⟨p, rfl⟩ : ∃ p, n = p + 1 := ⟨n - 1, by omega⟩
    have hp1 : ((p + 1 : Nat) : Int) - 1 = (p : Int) := by omega
    rw [hp1]
    have hal : acc.length + (rordP l p).length ≤ 10000 := by
      have := congrArg List.length hacc
      rw [rordN, List.length_append, List.length_append] at this
      omega
    repeat (first | (with_reducible refine K.seq ?_) | (with_reducible refine KQ.next ?_) | (with_reducible refine K.skip ?_) | (with_reducible refine K.block ?_))
    refine K.reg ?_
    refine KO.mv rfl rfl ?_
    refine KO.nc rfl rfl ?_
    refine KO.fo0 (off := 0) rfl Tryz.runUnderlying29 rfl rfl Tryz.sizeOf27 rfl ?_
    refine KO.ldb hw rfl rfl Tryz.isAgg27 (by with_reducible (repeat (exact Pick.head))) (by exact rfl) rfl ?_
    refine KO.len rfl Tryz.underlying27 rfl ?_
    refine KO.mv rfl rfl ?_
    refine KO.nil ?_
    repeat (first | (with_reducible refine KQ.next ?_) | (with_reducible refine K.block ?_))
    refine K.loop (fun s : Nat × Value => [(0, .pointer (some ⟨b, 0, none⟩)), (3, s.2), (4, .int .i64 (p : Int)), (14, .slice sa l.length cap), (15, .int .i64 (l.length : Nat)), (16, .int .i64 (s.1 : Nat))]) (fun s => [niS s.2 (acc ++ (List.range s.1).filter fun i => decide ((l.getD i default).m.pri = (p : Int)))]) (fun s => s.1 ≤ l.length) (fun s => l.length - s.1) (0, vo)
      (Nat.zero_le _) ⟨rfl, rfl, rfl, rfl, rfl, rfl, trivial⟩ (fun _ h => by simpa using h) ?_
    rintro ⟨k, vi⟩ hk
    dsimp only at hk ⊢
    repeat ((with_reducible refine K.seq ?_))
    refine K.reg ?_
    refine KO.lss rfl rfl rfl ?_
    refine KO.nil ?_
    repeat (first | (with_reducible refine K.seq ?_) | (with_reducible refine KQ.next ?_))
    refine K.condD rfl (fun h2 => ?_) (fun h2 => ?_)
    · obtain ⟨g, rfl⟩ := hsa (by omega)
      obtain ⟨e, he⟩ : ∃ e, l[k]? = some e := ⟨l[k], List.getElem?_eq_getElem (by omega)⟩
      have hstep := range_filter_step (fun i => decide ((l.getD i default).m.pri = (p : Int))) k
      have hgd : l.getD k default = e := by simp [List.getD_eq_getElem?_getD, he]
      rw [hgd] at hstep
      have hfl : ((List.range k).filter fun i => decide ((l.getD i default).m.pri = (p : Int))).length ≤ k := by
        have := List.length_filter_le (fun i => decide ((l.getD i default).m.pri = (p : Int))) (List.range k); simpa using this
      repeat (first | (with_reducible refine K.seq ?_) | (with_reducible refine KQ.next ?_) | (with_reducible refine K.skip ?_) | (with_reducible refine K.block ?_))
      refine K.reg ?_
      refine KO.mv rfl rfl ?_
      refine KO.idx0 rfl rfl Tryz.runUnderlying27 Tryz.sizeOf47 (by exact rfl) (by omega) rfl ?_
      refine KO.ldN0 (cs := (riC e).toArray) rfl rfl Tryz.isAgg47 Tryz.sizeOf47 rfl (hc g rfl k e he) rfl ?_
      refine KO.alloc rfl Tryz.zeroValue47 (by exact rfl) rfl ?_; intro b6
      refine KO.as rfl rfl ?_
      refine KO.sto0 rfl rfl rfl (by exact rfl) (by exact Tryz.sizeOf47) (by exact rfl) (by with_reducible (repeat (exact Pick.head))) (by exact rfl) ?_
      refine KO.nil ?_
      repeat (first | (with_reducible refine K.seq ?_) | (with_reducible refine KQ.next ?_))
      refine K.reg ?_
      refine KO.fo0 (off := 0) rfl Tryz.runUnderlying47 rfl rfl Tryz.sizeOf31 rfl ?_
      refine KO.fo0 (off := 1) rfl Tryz.runUnderlying31 rfl rfl Tryz.sizeOf3 rfl ?_
      refine KO.ld rfl rfl Tryz.isAgg3 (by with_reducible (repeat (exact Pick.head))) (by exact rfl) rfl ?_
      refine KO.mv rfl rfl ?_
      refine KO.eqI rfl rfl rfl ?_
      refine KO.nil ?_
      repeat ((with_reducible refine KQ.next ?_))
      refine K.condD rfl (fun h3 => ?_) (fun h3 => ?_)
      · rw [if_pos (by simpa using h3)] at hstep
        refine K.reg ?_
        refine KO.mv rfl rfl ?_
        refine KO.mv rfl rfl ?_
        refine KO.bs1 (z := (Value.int .i64 0)) (sz := 1) (by' := 8) rfl rfl Tryz.underlying101 (by kernel_rfl) (by exact rfl) (by exact rfl) (by decide) (by decide) rfl ?_; intro b28
        refine KO.app (z := Value.int .i64 0) (sz := 1) (by' := 8) rfl rfl rfl (by with_reducible (repeat (first | exact Pick.head | apply Pick.tail))) (by with_reducible (repeat (exact Pick.head))) Tryz.underlying101 ni_info rfl k (by exact rfl) (by exact rfl) (by exact rfl) (by rw [List.length_append]; omega) (by decide) rfl ?_; intro v'
        refine KO.as rfl rfl ?_
        refine KO.nil ?_
        repeat (first | (with_reducible refine KQ.next ?_) | (with_reducible refine KQ.blk_normal ?_))
        refine K.reg ?_
        refine KO.add rfl rfl rfl (by omega) rfl ?_
        refine KO.mv rfl rfl ?_
        refine KO.nil ?_
        refine KQ.round (k + 1, v') (by dsimp only; omega) (by dsimp only; omega) ⟨rfl, rfl, rfl, rfl, rfl, rfl, trivial⟩ (fun _ h => ?_)
        dsimp only
        rw [hstep, ← List.append_assoc]
        exact (h.pick (by with_reducible (repeat (exact Pick.head)))).gc1 (by with_reducible repeat (first | exact LSub.refl | apply LSub.drop))
      · rw [if_neg (by simpa using h3), List.append_nil] at hstep
        repeat (first | (with_reducible refine KQ.next ?_) | (with_reducible refine KQ.blk_normal ?_) | (with_reducible refine K.skip ?_))
        refine K.reg ?_
        refine KO.add rfl rfl rfl (by omega) rfl ?_
        refine KO.mv rfl rfl ?_
        refine KO.nil ?_
        refine KQ.round (k + 1, vi) (by dsimp only; omega) (by dsimp only; omega) ⟨rfl, rfl, rfl, rfl, rfl, rfl, trivial⟩ (fun _ h => ?_)
        dsimp only
        rw [hstep]
        exact (h.pick (by with_reducible (repeat (first | exact Pick.head | apply Pick.tail)))).gc1 (by with_reducible repeat (first | exact LSub.refl | apply LSub.drop))
    · have hkl : k = l.length := by omega
      repeat (first | (with_reducible refine KQ.next ?_) | (with_reducible refine KQ.then_exit ?_) | (with_reducible refine KQ.blk_exit ?_) | (with_reducible refine KQ.blk_normal ?_) | (with_reducible refine K.exit ?_))
      refine K.reg ?_
      refine KO.mv rfl rfl ?_
      refine KO.sub rfl rfl rfl (by omega) rfl ?_
      refine KO.as rfl rfl ?_
      refine KO.nil ?_
      refine KQ.round (p, vi, acc ++ rordP l p) ⟨by dsimp only; omega, by rw [← hacc, rordN, List.append_assoc]⟩ (by dsimp only; omega) ⟨rfl, rfl, rfl, trivial⟩ (fun _ h => ?_)
      rw [hkl] at h
      exact h
  · have hn0 : n = 0 := by omega
    subst hn0
    rw [rordN, List.append_nil] at hacc
    repeat (first | (with_reducible refine K.seq ?_) | (with_reducible refine KQ.next ?_) | (with_reducible refine KQ.then_exit ?_) | (with_reducible refine KQ.blk_exit ?_) | (with_reducible refine K.exit ?_))
    refine K.reg ?_
    refine KO.mv rfl rfl ?_
    refine KO.as rfl rfl ?_
    refine KO.nil ?_
    repeat (first | (with_reducible refine KQ.next ?_) | (with_reducible refine K.ret ?_))
    refine KQ.ret1 rfl rfl (fun w' hs => ⟨_, _, rfl, rfl, ?_, hs.below⟩)
    rw [hacc] at hs
    exact hw0.stack hs
theorem rthere_c (w0 : World) (L : List HP) (b : Nat) (l : List Ri) (hq : l.length ≤ 1000) :
    KC Tryz.prog 24 #[.pointer (some ⟨b, 0, none⟩)] w0 (rqP b l :: L) (fun v L' => L' = msS v (rthere l) :: rqP b l :: L) := by
  have hrl := rord_len l
  refine KC.mk (n := 36) Tryz.func24 rfl Tryz.ntmps24 (by simp) ?_
  repeat ((with_reducible refine K.seq ?_))
  refine K.reg ?_
  refine KO.as rfl rfl ?_
  refine KO.nil ?_
  repeat (first | (with_reducible refine K.seq ?_) | (with_reducible refine KQ.next ?_))
  refine K.reg ?_
  refine KO.as rfl rfl ?_
  refine KO.nil ?_
  repeat (first | (with_reducible refine K.seq ?_) | (with_reducible refine KQ.next ?_))
  refine K.reg ?_
  refine KO.mv rfl rfl ?_
  refine KO.ce (cp := []) rfl rfl rfl Tryz.call54 rfl (order_e w0 _ _ b l (by with_reducible (repeat (exact Pick.head))) hq) ?_; rintro v8 L' rfl; refine KO.fact (fun _ hs => SL_form hs) ?_; rintro ⟨a8, c8, rfl, ha8⟩
  refine KO.len rfl Tryz.underlying101 rfl ?_
  refine KO.mv rfl rfl ?_
  refine KO.nil ?_
  repeat (first | (with_reducible refine KQ.next ?_) | (with_reducible refine K.block ?_))
  refine K.conv (fun w hw => hw.pick (A := rqP b l) (by with_reducible (repeat (first | exact Pick.head | apply Pick.tail)))) ?_
  refine K.open' (fun _ h => rqP_open h) fun v => ?_
  refine K.fact (fun w hw => SL_form (hw.pick (A := riS v l) (by with_reducible (repeat (first | exact Pick.head | apply Pick.tail))))) ?_
  rintro ⟨aq, cq, rfl, haq⟩
  refine K.loop (fun s : Nat × Value => [(0, .pointer (some ⟨b, 0, none⟩)), (3, s.2), (8, .slice a8 (rord l).length c8), (9, .int .i64 ((rord l).length : Nat)), (10, .int .i64 (s.1 : Nat))]) (fun s => msS s.2 ((((rord l).take s.1).filter fun i => ravail (rAt l i)).map fun i => (rAt l i).m) :: rqB b (.slice aq l.length cq) :: riS (.slice aq l.length cq) l :: niS (.slice a8 (rord l).length c8) (rord l) :: L) (fun s => s.1 ≤ (rord l).length) (fun s => (rord l).length - s.1) (0, .slice none 0 0)
    (Nat.zero_le _) ⟨rfl, rfl, rfl, rfl, rfl, trivial⟩ (fun _ h => SL_nil h) ?_
  rintro ⟨k, vo⟩ hk
  dsimp only at hk ⊢
  repeat ((with_reducible refine K.seq ?_))
  refine K.reg ?_
  refine KO.lss rfl rfl rfl ?_
  refine KO.nil ?_
  repeat (first | (with_reducible refine K.seq ?_) | (with_reducible refine KQ.next ?_))
  refine K.condD rfl (fun h => ?_) (fun h => ?_)
  · obtain ⟨g8, rfl⟩ := ha8 (by omega)
    obtain ⟨i, hi⟩ : ∃ e, (rord l)[k]? = some e := ⟨(rord l)[k]'(by omega), List.getElem?_eq_getElem _⟩
    have hil := rord_lt hi
    obtain ⟨gq, rfl⟩ := haq (by omega)
    obtain ⟨e, he⟩ : ∃ e, l[i]? = some e := ⟨l[i], List.getElem?_eq_getElem hil⟩
    have hat := rAt_of he
    have hlen : ((((rord l).take k).filter fun i => ravail (rAt l i)).map fun i => (rAt l i).m).length < 900000 := by
      have := List.length_filter_le (fun i => ravail (rAt l i)) ((rord l).take k); simp at this ⊢; omega
    have hstep : (((rord l).take (k + 1)).filter fun i => ravail (rAt l i)).map (fun i => (rAt l i).m) = (((rord l).take k).filter fun i => ravail (rAt l i)).map (fun i => (rAt l i).m) ++ (if ravail e = true then [e.m] else []) := by
      have h9 := filt_step (fun i => ravail (rAt l i)) (fun i => (rAt l i).m) hi
      simpa only [hat] using h9
    repeat (first | (with_reducible refine K.seq ?_) | (with_reducible refine KQ.next ?_) | (with_reducible refine K.skip ?_) | (with_reducible refine K.block ?_))
    refine K.reg ?_
    refine KO.idx0 rfl rfl Tryz.runUnderlying101 Tryz.sizeOf3 (by exact rfl) (by omega) rfl ?_
    refine KO.ldE0 rfl rfl Tryz.isAgg3 (by with_reducible (repeat (first | exact Pick.head | apply Pick.tail))) (fun _ => rfl) (by assumption) (by exact rfl) (by exact rfl) rfl ?_
    refine KO.as rfl rfl ?_
    refine KO.nil ?_
    repeat (first | (with_reducible refine K.seq ?_) | (with_reducible refine KQ.next ?_))
    refine K.reg ?_
    refine KO.mv rfl rfl ?_
    refine KO.nc rfl rfl ?_
    refine KO.fo0 (off := 0) rfl Tryz.runUnderlying29 rfl rfl Tryz.sizeOf27 rfl ?_
    refine KO.ld rfl rfl Tryz.isAgg27 (by with_reducible (repeat (first | exact Pick.head | apply Pick.tail))) (by exact rfl) rfl ?_
    refine KO.mv rfl rfl ?_
    refine KO.idx0 rfl rfl Tryz.runUnderlying27 Tryz.sizeOf47 (by exact rfl) (by omega) rfl ?_
    refine KO.ldEN rfl rfl Tryz.isAgg47 Tryz.sizeOf47 (by with_reducible (repeat (first | exact Pick.head | apply Pick.tail))) (fun _ => rfl) (by assumption) rfl ?_
    refine KO.alloc rfl Tryz.zeroValue47 (by exact rfl) rfl ?_; intro b6
    refine KO.sto0 rfl rfl rfl (by exact rfl) (by exact Tryz.sizeOf47) (by exact rfl) (by with_reducible (repeat (exact Pick.head))) (by exact rfl) ?_
    refine KO.nil ?_
    repeat (first | (with_reducible refine K.seq ?_) | (with_reducible refine KQ.next ?_))
    by_cases h1 : e.put < 0
    · refine K.reg ?_
      refine KO.fo0 (off := 5) rfl Tryz.runUnderlying47 rfl rfl Tryz.sizeOf3 rfl ?_
      refine KO.ld rfl rfl Tryz.isAgg3 (by with_reducible (repeat (exact Pick.head))) (by exact rfl) rfl ?_
      refine KO.lss rfl rfl rfl ?_
      refine KO.mv rfl rfl ?_
      (refine KO.on rfl rfl ?_ ?_; (focus (simp only [decide_eq_true_eq, decide_eq_false_iff_not, Bool.not_eq_true, Bool.not_true, Bool.not_false, ne_eq]; omega)); (refine KO.fo0 (off := 6) rfl Tryz.runUnderlying47 rfl rfl Tryz.sizeOf3 rfl ?_))
      (refine KO.on rfl rfl ?_ ?_; (focus (simp only [decide_eq_true_eq, decide_eq_false_iff_not, Bool.not_eq_true, Bool.not_true, Bool.not_false, ne_eq]; omega)); (refine KO.ld rfl rfl Tryz.isAgg3 (by with_reducible (repeat (exact Pick.head))) (by exact rfl) rfl ?_))
      (refine KO.on rfl rfl ?_ ?_; (focus (simp only [decide_eq_true_eq, decide_eq_false_iff_not, Bool.not_eq_true, Bool.not_true, Bool.not_false, ne_eq]; omega)); (refine KO.lss rfl rfl rfl ?_))
      (refine KO.pickT rfl ?_ rfl rfl ?_; (focus (simp only [decide_eq_true_eq, decide_eq_false_iff_not, Bool.not_eq_true, Bool.not_true, Bool.not_false, ne_eq]; omega)))
      refine KO.nil ?_
      repeat ((with_reducible refine KQ.next ?_))
      refine K.condD rfl (fun h2 => ?_) (fun h2 => ?_)
      · rw [if_pos (by simp [ravail, h1, h2])] at hstep
        refine K.reg ?_
        refine KO.mv rfl rfl ?_
        refine KO.fo0 (off := 0) rfl Tryz.runUnderlying47 rfl rfl Tryz.sizeOf31 rfl ?_
        (refine KO.ldB rfl rfl Tryz.isAgg31 Tryz.sizeOf31 (by with_reducible (repeat (exact Pick.head))) (by (try simp only [List.drop_zero, List.drop_succ_cons, List.take_succ_cons, List.take_zero]); (try exact rfl)) (by exact rfl) rfl ?_)
        refine KO.bs1 (z := (Value.agg #[.int .i64 0, .int .i64 0, .string ⟨#[]⟩, .string ⟨#[]⟩, .int .i64 0])) (sz := 5) (by' := 56) rfl rfl Tryz.underlying50 (by kernel_rfl) (by exact rfl) (by exact rfl) (by decide) (by decide) rfl ?_; intro b32
        refine KO.app (z := Value.agg #[.int .i64 0, .int .i64 0, .string ⟨#[]⟩, .string ⟨#[]⟩, .int .i64 0]) (sz := 5) (by' := 56) rfl rfl rfl (by with_reducible (repeat (first | exact Pick.head | apply Pick.tail))) (by with_reducible (repeat (exact Pick.head))) Tryz.underlying50 ms_info rfl e.m (by exact rfl) (by exact rfl) (by exact rfl) (by omega) (by decide) rfl ?_; intro v'
        refine KO.as rfl rfl ?_
        refine KO.nil ?_
        repeat (first | (with_reducible refine KQ.next ?_) | (with_reducible refine KQ.blk_normal ?_))
        refine K.reg ?_
        refine KO.add rfl rfl rfl (by omega) rfl ?_
        refine KO.mv rfl rfl ?_
        refine KO.nil ?_
        refine KQ.round (k + 1, v') (by dsimp only; omega) (by dsimp only; omega) ⟨rfl, rfl, rfl, rfl, rfl, trivial⟩ (fun _ h => ?_)
        dsimp only
        rw [hstep]
        exact (h.pick (by with_reducible (repeat (exact Pick.head)))).gc1 (by with_reducible repeat (first | exact LSub.refl | apply LSub.drop))
      · rw [if_neg (by simp [ravail, h2]), List.append_nil] at hstep
        repeat (first | (with_reducible refine KQ.next ?_) | (with_reducible refine KQ.blk_normal ?_) | (with_reducible refine K.skip ?_))
        refine K.reg ?_
        refine KO.add rfl rfl rfl (by omega) rfl ?_
        refine KO.mv rfl rfl ?_
        refine KO.nil ?_
        refine KQ.round (k + 1, vo) (by dsimp only; omega) (by dsimp only; omega) ⟨rfl, rfl, rfl, rfl, rfl, trivial⟩ (fun _ h => ?_)
        dsimp only
        rw [hstep]
        exact (h.pick (by with_reducible (repeat (first | exact Pick.head | apply Pick.tail)))).gc1 (by with_reducible repeat (first | exact LSub.refl | apply LSub.drop))
    · rw [if_neg (by simp [ravail, h1]), List.append_nil] at hstep
      refine K.reg ?_
      refine KO.fo0 (off := 5) rfl Tryz.runUnderlying47 rfl rfl Tryz.sizeOf3 rfl ?_
      refine KO.ld rfl rfl Tryz.isAgg3 (by with_reducible (repeat (exact Pick.head))) (by exact rfl) rfl ?_
      refine KO.lss rfl rfl rfl ?_
      refine KO.mv rfl rfl ?_
      (refine KO.no rfl rfl ?_ rfl ?_; (focus (simp only [decide_eq_true_eq, decide_eq_false_iff_not, Bool.not_eq_true, Bool.not_true, Bool.not_false, ne_eq]; omega)))
      (refine KO.no rfl rfl ?_ rfl ?_; (focus (simp only [decide_eq_true_eq, decide_eq_false_iff_not, Bool.not_eq_true, Bool.not_true, Bool.not_false, ne_eq]; omega)))
      (refine KO.no rfl rfl ?_ rfl ?_; (focus (simp only [decide_eq_true_eq, decide_eq_false_iff_not, Bool.not_eq_true, Bool.not_true, Bool.not_false, ne_eq]; omega)))
      (refine KO.pickF rfl ?_ rfl rfl ?_; (focus (simp only [decide_eq_true_eq, decide_eq_false_iff_not, Bool.not_eq_true, Bool.not_true, Bool.not_false, ne_eq]; omega)))
      refine KO.nil ?_
      repeat ((with_reducible refine KQ.next ?_))
      refine K.condF rfl rfl ?_
      repeat (first | (with_reducible refine KQ.next ?_) | (with_reducible refine KQ.blk_normal ?_) | (with_reducible refine K.skip ?_))
      refine K.reg ?_
      refine KO.add rfl rfl rfl (by omega) rfl ?_
      refine KO.mv rfl rfl ?_
      refine KO.nil ?_
      refine KQ.round (k + 1, vo) (by dsimp only; omega) (by dsimp only; omega) ⟨rfl, rfl, rfl, rfl, rfl, trivial⟩ (fun _ h => ?_)
      dsimp only
      rw [hstep]
      exact (h.pick (by with_reducible (repeat (first | exact Pick.head | apply Pick.tail)))).gc1 (by with_reducible repeat (first | exact LSub.refl | apply LSub.drop))
  · have hkl : k = (rord l).length := by omega
    repeat (first | (with_reducible refine K.seq ?_) | (with_reducible refine KQ.next ?_) | (with_reducible refine KQ.then_exit ?_) | (with_reducible refine KQ.blk_exit ?_) | (with_reducible refine K.exit ?_))
    refine K.reg ?_
    refine KO.mv rfl rfl ?_
    refine KO.as rfl rfl ?_
    refine KO.nil ?_
    repeat (first | (with_reducible refine KQ.next ?_) | (with_reducible refine K.ret ?_))
    refine KQ.ret1 rfl rfl (fun w' hs => ⟨_, _, rfl, rfl, ?_⟩)
    rw [hkl, List.take_length] at hs
    have h3 := ((hs.pick (A := rqB b (.slice aq l.length cq)) (by with_reducible (repeat (first | exact Pick.head | apply Pick.tail)))).swapQ (B := riS (.slice aq l.length cq) l) (by with_reducible (repeat (first | exact Pick.head | apply Pick.tail))))
    exact ((rqP_mk h3).pick (A := msS vo (rthere l)) (by exact .tail .head)).gc2 (by with_reducible repeat (first | exact LSub.refl | apply LSub.drop))
theorem rkept_c (w0 : World) (L : List HP) (b : Nat) (l : List Ri) (hq : l.length ≤ 1000) :
    KC Tryz.prog 26 #[.pointer (some ⟨b, 0, none⟩)] w0 (rqP b l :: L) (fun v L' => L' = msS v (rkept l) :: rqP b l :: L) := by
  have hrl := rord_len l
  refine KC.mk (n := 31) Tryz.func26 rfl Tryz.ntmps26 (by simp) ?_
  repeat ((with_reducible refine K.seq ?_))
  refine K.reg ?_
  refine KO.as rfl rfl ?_
  refine KO.nil ?_
  repeat (first | (with_reducible refine K.seq ?_) | (with_reducible refine KQ.next ?_))
  refine K.reg ?_
  refine KO.as rfl rfl ?_
  refine KO.nil ?_
  repeat (first | (with_reducible refine K.seq ?_) | (with_reducible refine KQ.next ?_))
  refine K.reg ?_
  refine KO.mv rfl rfl ?_
  refine KO.ce (cp := []) rfl rfl rfl Tryz.call54 rfl (order_e w0 _ _ b l (by with_reducible (repeat (exact Pick.head))) hq) ?_; rintro v8 L' rfl; refine KO.fact (fun _ hs => SL_form hs) ?_; rintro ⟨a8, c8, rfl, ha8⟩
  refine KO.len rfl Tryz.underlying101 rfl ?_
  refine KO.mv rfl rfl ?_
  refine KO.nil ?_
  repeat (first | (with_reducible refine KQ.next ?_) | (with_reducible refine K.block ?_))
  refine K.conv (fun w hw => hw.pick (A := rqP b l) (by with_reducible (repeat (first | exact Pick.head | apply Pick.tail)))) ?_
  refine K.open' (fun _ h => rqP_open h) fun v => ?_
  refine K.fact (fun w hw => SL_form (hw.pick (A := riS v l) (by with_reducible (repeat (first | exact Pick.head | apply Pick.tail))))) ?_
  rintro ⟨aq, cq, rfl, haq⟩
  refine K.loop (fun s : Nat × Value => [(0, .pointer (some ⟨b, 0, none⟩)), (3, s.2), (8, .slice a8 (rord l).length c8), (9, .int .i64 ((rord l).length : Nat)), (10, .int .i64 (s.1 : Nat))]) (fun s => msS s.2 ((((rord l).take s.1).filter fun i => decide ((rAt l i).put < 0)).map fun i => (rAt l i).m) :: rqB b (.slice aq l.length cq) :: riS (.slice aq l.length cq) l :: niS (.slice a8 (rord l).length c8) (rord l) :: L) (fun s => s.1 ≤ (rord l).length) (fun s => (rord l).length - s.1) (0, .slice none 0 0)
    (Nat.zero_le _) ⟨rfl, rfl, rfl, rfl, rfl, trivial⟩ (fun _ h => SL_nil h) ?_
  rintro ⟨k, vo⟩ hk
  dsimp only at hk ⊢
  repeat ((with_reducible refine K.seq ?_))
  refine K.reg ?_
  refine KO.lss rfl rfl rfl ?_
  refine KO.nil ?_
  repeat (first | (with_reducible refine K.seq ?_) | (with_reducible refine KQ.next ?_))
  refine K.condD rfl (fun h => ?_) (fun h => ?_)
  · obtain ⟨g8, rfl⟩ := ha8 (by omega)
    obtain ⟨i, hi⟩ : ∃ e, (rord l)[k]? = some e := ⟨(rord l)[k]'(by omega), List.getElem?_eq_getElem _⟩
    have hil := rord_lt hi
    obtain ⟨gq, rfl⟩ := haq (by omega)
    obtain ⟨e, he⟩ : ∃ e, l[i]? = some e := ⟨l[i], List.getElem?_eq_getElem hil⟩
    have hat := rAt_of he
    have hlen : ((((rord l).take k).filter fun i => decide ((rAt l i).put < 0)).map fun i => (rAt l i).m).length < 900000 := by
      have := List.length_filter_le (fun i => decide ((rAt l i).put < 0)) ((rord l).take k); simp at this ⊢; omega
    have hstep : (((rord l).take (k + 1)).filter fun i => decide ((rAt l i).put < 0)).map (fun i => (rAt l i).m) = (((rord l).take k).filter fun i => decide ((rAt l i).put < 0)).map (fun i => (rAt l i).m) ++ (if decide (e.put < 0) = true then [e.m] else []) := by
      have h9 := filt_step (fun i => decide ((rAt l i).put < 0)) (fun i => (rAt l i).m) hi
      simpa only [hat] using h9
    repeat (first | (with_reducible refine K.seq ?_) | (with_reducible refine KQ.next ?_) | (with_reducible refine K.skip ?_) | (with_reducible refine K.block ?_))
    refine K.reg ?_
    refine KO.idx0 rfl rfl Tryz.runUnderlying101 Tryz.sizeOf3 (by exact rfl) (by omega) rfl ?_
    refine KO.ldE0 rfl rfl Tryz.isAgg3 (by with_reducible (repeat (first | exact Pick.head | apply Pick.tail))) (fun _ => rfl) (by assumption) (by exact rfl) (by exact rfl) rfl ?_
    refine KO.as rfl rfl ?_
    refine KO.nil ?_
    repeat (first | (with_reducible refine K.seq ?_) | (with_reducible refine KQ.next ?_))
    refine K.reg ?_
    refine KO.mv rfl rfl ?_
    refine KO.nc rfl rfl ?_
    refine KO.fo0 (off := 0) rfl Tryz.runUnderlying29 rfl rfl Tryz.sizeOf27 rfl ?_
    refine KO.ld rfl rfl Tryz.isAgg27 (by with_reducible (repeat (first | exact Pick.head | apply Pick.tail))) (by exact rfl) rfl ?_
    refine KO.mv rfl rfl ?_
    refine KO.idx0 rfl rfl Tryz.runUnderlying27 Tryz.sizeOf47 (by exact rfl) (by omega) rfl ?_
    refine KO.ldEN rfl rfl Tryz.isAgg47 Tryz.sizeOf47 (by with_reducible (repeat (first | exact Pick.head | apply Pick.tail))) (fun _ => rfl) (by assumption) rfl ?_
    refine KO.alloc rfl Tryz.zeroValue47 (by exact rfl) rfl ?_; intro b6
    refine KO.sto0 rfl rfl rfl (by exact rfl) (by exact Tryz.sizeOf47) (by exact rfl) (by with_reducible (repeat (exact Pick.head))) (by exact rfl) ?_
    refine KO.nil ?_
    repeat (first | (with_reducible refine K.seq ?_) | (with_reducible refine KQ.next ?_))
    refine K.reg ?_
    refine KO.fo0 (off := 5) rfl Tryz.runUnderlying47 rfl rfl Tryz.sizeOf3 rfl ?_
    refine KO.ld rfl rfl Tryz.isAgg3 (by with_reducible (repeat (exact Pick.head))) (by exact rfl) rfl ?_
    refine KO.lss rfl rfl rfl ?_
    refine KO.nil ?_
    repeat ((with_reducible refine KQ.next ?_))
    refine K.condD rfl (fun h2 => ?_) (fun h2 => ?_)
    · rw [if_pos (by simpa using h2)] at hstep
      refine K.reg ?_
      refine KO.mv rfl rfl ?_
      refine KO.fo0 (off := 0) rfl Tryz.runUnderlying47 rfl rfl Tryz.sizeOf31 rfl ?_
      (refine KO.ldB rfl rfl Tryz.isAgg31 Tryz.sizeOf31 (by with_reducible (repeat (exact Pick.head))) (by (try simp only [List.drop_zero, List.drop_succ_cons, List.take_succ_cons, List.take_zero]); (try exact rfl)) (by exact rfl) rfl ?_)
      refine KO.bs1 (z := (Value.agg #[.int .i64 0, .int .i64 0, .string ⟨#[]⟩, .string ⟨#[]⟩, .int .i64 0])) (sz := 5) (by' := 56) rfl rfl Tryz.underlying50 (by kernel_rfl) (by exact rfl) (by exact rfl) (by decide) (by decide) rfl ?_; intro b27
      refine KO.app (z := Value.agg #[.int .i64 0, .int .i64 0, .string ⟨#[]⟩, .string ⟨#[]⟩, .int .i64 0]) (sz := 5) (by' := 56) rfl rfl rfl (by with_reducible (repeat (first | exact Pick.head | apply Pick.tail))) (by with_reducible (repeat (exact Pick.head))) Tryz.underlying50 ms_info rfl e.m (by exact rfl) (by exact rfl) (by exact rfl) (by omega) (by decide) rfl ?_; intro v'
      refine KO.as rfl rfl ?_
      refine KO.nil ?_
      repeat (first | (with_reducible refine KQ.next ?_) | (with_reducible refine KQ.blk_normal ?_))
      refine K.reg ?_
      refine KO.add rfl rfl rfl (by omega) rfl ?_
      refine KO.mv rfl rfl ?_
      refine KO.nil ?_
      refine KQ.round (k + 1, v') (by dsimp only; omega) (by dsimp only; omega) ⟨rfl, rfl, rfl, rfl, rfl, trivial⟩ (fun _ h => ?_)
      dsimp only
      rw [hstep]
      exact (h.pick (by with_reducible (repeat (exact Pick.head)))).gc1 (by with_reducible repeat (first | exact LSub.refl | apply LSub.drop))
    · rw [if_neg (by simpa using h2), List.append_nil] at hstep
      repeat (first | (with_reducible refine KQ.next ?_) | (with_reducible refine KQ.blk_normal ?_) | (with_reducible refine K.skip ?_))
      refine K.reg ?_
      refine KO.add rfl rfl rfl (by omega) rfl ?_
      refine KO.mv rfl rfl ?_
      refine KO.nil ?_
      refine KQ.round (k + 1, vo) (by dsimp only; omega) (by dsimp only; omega) ⟨rfl, rfl, rfl, rfl, rfl, trivial⟩ (fun _ h => ?_)
      dsimp only
      rw [hstep]
      exact (h.pick (by with_reducible (repeat (first | exact Pick.head | apply Pick.tail)))).gc1 (by with_reducible repeat (first | exact LSub.refl | apply LSub.drop))
  · have hkl : k = (rord l).length := by omega
    repeat (first | (with_reducible refine K.seq ?_) | (with_reducible refine KQ.next ?_) | (with_reducible refine KQ.then_exit ?_) | (with_reducible refine KQ.blk_exit ?_) | (with_reducible refine K.exit ?_))
    refine K.reg ?_
    refine KO.mv rfl rfl ?_
    refine KO.as rfl rfl ?_
    refine KO.nil ?_
    repeat (first | (with_reducible refine KQ.next ?_) | (with_reducible refine K.ret ?_))
    refine KQ.ret1 rfl rfl (fun w' hs => ⟨_, _, rfl, rfl, ?_⟩)
    rw [hkl, List.take_length] at hs
    have h3 := ((hs.pick (A := rqB b (.slice aq l.length cq)) (by with_reducible (repeat (first | exact Pick.head | apply Pick.tail)))).swapQ (B := riS (.slice aq l.length cq) l) (by with_reducible (repeat (first | exact Pick.head | apply Pick.tail))))
    exact ((rqP_mk h3).pick (A := msS vo (rkept l)) (by exact .tail .head)).gc2 (by with_reducible repeat (first | exact LSub.refl | apply LSub.drop))
end Go.Proofs.YtjhogocabcdjbaaGreatDoor
/- the document's queue: Get, Take, Ends. -/
namespace Go.Proofs.YtjhogocabcdjbaaGreatDoor
open Go Go.RowKit WB
theorem rget_c (w0 : World) (L : List HP) (b : Nat) (l : List Ri) (u : Int) (hq : l.length ≤ 1000) :
    KC Tryz.prog 13 #[.pointer (some ⟨b, 0, none⟩), .int .i64 u] w0 (rqP b l :: L) (fun v L' => v = .tuple #[.agg (msC (rgetM l)).toArray, .int .i64 (rgetE l)] ∧ L' = rqP b (rget l u) :: L) := by
  have hrl := rord_len l
  refine KC.mk (n := 51) Tryz.func13 rfl Tryz.ntmps13 (by simp) ?_
  repeat ((with_reducible refine K.seq ?_))
  refine K.reg ?_
  refine KO.alloc rfl Tryz.zeroValue31 (by exact rfl) rfl ?_; intro b4
  refine KO.as rfl rfl ?_
  refine KO.nil ?_
  repeat (first | (with_reducible refine K.seq ?_) | (with_reducible refine KQ.next ?_))
  refine K.reg ?_
  refine KO.mv rfl rfl ?_
  refine KO.ce (cp := []) rfl rfl rfl Tryz.call54 rfl (order_e w0 _ _ b l (by with_reducible (repeat (first | exact Pick.head | apply Pick.tail))) hq) ?_; rintro v8 L' rfl; refine KO.fact (fun _ hs => SL_form hs) ?_; rintro ⟨a8, c8, rfl, ha8⟩
  refine KO.len rfl Tryz.underlying101 rfl ?_
  refine KO.mv rfl rfl ?_
  refine KO.nil ?_
  repeat (first | (with_reducible refine KQ.next ?_) | (with_reducible refine K.block ?_))
  refine K.conv (fun w hw => hw.pick (A := rqP b l) (by with_reducible (repeat (first | exact Pick.head | apply Pick.tail)))) ?_
  refine K.open' (fun _ h => rqP_open h) fun v => ?_
  refine K.fact (fun w hw => SL_form (hw.pick (A := riS v l) (by with_reducible (repeat (first | exact Pick.head | apply Pick.tail))))) ?_
  rintro ⟨aq, cq, rfl, haq⟩
  refine K.loop (fun k : Nat => [(0, .pointer (some ⟨b, 0, none⟩)), (1, .int .i64 u), (4, .pointer (some ⟨b4, 0, none⟩)), (11, .slice a8 (rord l).length c8), (12, .int .i64 ((rord l).length : Nat)), (13, .int .i64 (k : Nat))]) (fun k => rqB b (.slice aq l.length cq) :: riS (.slice aq l.length cq) l :: niS (.slice a8 (rord l).length c8) (rord l) :: blk b4 (.cells (msC zeroMs).toArray 31 (0, 0)) :: L) (fun k => k ≤ (rord l).length ∧ ∀ j i, j < k → (rord l)[j]? = some i → ravail (rAt l i) = false) (fun k => (rord l).length - k) 0
    ⟨Nat.zero_le _, fun j i h => by omega⟩ ⟨rfl, rfl, rfl, rfl, rfl, rfl, trivial⟩ (fun _ h => h) ?_
  rintro k ⟨hk, hall⟩
  repeat ((with_reducible refine K.seq ?_))
  refine K.reg ?_
  refine KO.lss rfl rfl rfl ?_
  refine KO.nil ?_
  repeat (first | (with_reducible refine K.seq ?_) | (with_reducible refine KQ.next ?_))
  refine K.condD rfl (fun h => ?_) (fun h => ?_)
  · obtain ⟨g8, rfl⟩ := ha8 (by omega)
    obtain ⟨i, hi⟩ : ∃ e, (rord l)[k]? = some e := ⟨(rord l)[k]'(by omega), List.getElem?_eq_getElem _⟩
    have hil := rord_lt hi
    obtain ⟨gq, rfl⟩ := haq (by omega)
    obtain ⟨e, he⟩ : ∃ e, l[i]? = some e := ⟨l[i], List.getElem?_eq_getElem hil⟩
    have hat := rAt_of he
    repeat (first | (with_reducible refine K.seq ?_) | (with_reducible refine KQ.next ?_) | (with_reducible refine K.skip ?_) | (with_reducible refine K.block ?_))
    refine K.reg ?_
    refine KO.idx0 rfl rfl Tryz.runUnderlying101 Tryz.sizeOf3 (by exact rfl) (by omega) rfl ?_
    refine KO.ldE0 rfl rfl Tryz.isAgg3 (by with_reducible (repeat (first | exact Pick.head | apply Pick.tail))) (fun _ => rfl) (by assumption) (by exact rfl) (by exact rfl) rfl ?_
    refine KO.as rfl rfl ?_
    refine KO.nil ?_
    repeat (first | (with_reducible refine K.seq ?_) | (with_reducible refine KQ.next ?_))
    refine K.reg ?_
    refine KO.mv rfl rfl ?_
    refine KO.nc rfl rfl ?_
    refine KO.fo0 (off := 0) rfl Tryz.runUnderlying29 rfl rfl Tryz.sizeOf27 rfl ?_
    refine KO.ld rfl rfl Tryz.isAgg27 (by with_reducible (repeat (exact Pick.head))) (by exact rfl) rfl ?_
    refine KO.mv rfl rfl ?_
    refine KO.idx0 rfl rfl Tryz.runUnderlying27 Tryz.sizeOf47 (by exact rfl) (by omega) rfl ?_
    refine KO.as rfl rfl ?_
    refine KO.nil ?_
    repeat (first | (with_reducible refine K.seq ?_) | (with_reducible refine KQ.next ?_))
    have next : ravail e = false → ∀ j i, j < k + 1 → (rord l)[j]? = some i → ravail (rAt l i) = false := fun hav j i hj hji => by
      by_cases hjk : j = k
      · subst hjk; rw [hi] at hji; cases hji; rw [hat]; exact hav
      · exact hall j i (by omega) hji
    by_cases h1 : 0 ≤ e.put
    · refine K.reg ?_
      refine KO.mv rfl rfl ?_
      refine KO.nc rfl rfl ?_
      refine KO.fo (off := 5) rfl Tryz.runUnderlying47 rfl rfl Tryz.sizeOf3 rfl ?_
      refine KO.ldE rfl rfl Tryz.isAgg3 (by with_reducible (repeat (first | exact Pick.head | apply Pick.tail))) (fun _ => rfl) (by assumption) (by exact rfl) (by exact rfl) rfl ?_
      refine KO.geq rfl rfl rfl ?_
      refine KO.mv rfl rfl ?_
      (refine KO.no rfl rfl ?_ rfl ?_; (focus (simp only [decide_eq_true_eq, decide_eq_false_iff_not, Bool.not_eq_true, Bool.not_true, Bool.not_false, ne_eq]; omega)))
      (refine KO.no rfl rfl ?_ rfl ?_; (focus (simp only [decide_eq_true_eq, decide_eq_false_iff_not, Bool.not_eq_true, Bool.not_true, Bool.not_false, ne_eq]; omega)))
      (refine KO.no rfl rfl ?_ rfl ?_; (focus (simp only [decide_eq_true_eq, decide_eq_false_iff_not, Bool.not_eq_true, Bool.not_true, Bool.not_false, ne_eq]; omega)))
      (refine KO.no rfl rfl ?_ rfl ?_; (focus (simp only [decide_eq_true_eq, decide_eq_false_iff_not, Bool.not_eq_true, Bool.not_true, Bool.not_false, ne_eq]; omega)))
      (refine KO.no rfl rfl ?_ rfl ?_; (focus (simp only [decide_eq_true_eq, decide_eq_false_iff_not, Bool.not_eq_true, Bool.not_true, Bool.not_false, ne_eq]; omega)))
      (refine KO.pickT rfl ?_ rfl rfl ?_; (focus (simp only [decide_eq_true_eq, decide_eq_false_iff_not, Bool.not_eq_true, Bool.not_true, Bool.not_false, ne_eq]; omega)))
      refine KO.nil ?_
      repeat ((with_reducible refine KQ.next ?_))
      refine K.condT rfl rfl ?_
      repeat (first | (with_reducible refine KQ.next ?_) | (with_reducible refine KQ.then_exit ?_) | (with_reducible refine KQ.blk_exit ?_) | (with_reducible refine K.exit ?_))
      refine K.reg ?_
      refine KO.add rfl rfl rfl (by omega) rfl ?_
      refine KO.mv rfl rfl ?_
      refine KO.nil ?_
      refine KQ.round (k + 1) ⟨by omega, next (by simp [ravail]; omega)⟩ (by omega) ⟨rfl, rfl, rfl, rfl, rfl, rfl, trivial⟩ (fun _ h => h.all (by with_reducible repeat (exact PAll.refl)))
    by_cases h2 : 0 ≤ e.got
    · refine K.reg ?_
      refine KO.mv rfl rfl ?_
      refine KO.nc rfl rfl ?_
      refine KO.fo (off := 5) rfl Tryz.runUnderlying47 rfl rfl Tryz.sizeOf3 rfl ?_
      refine KO.ldE rfl rfl Tryz.isAgg3 (by with_reducible (repeat (first | exact Pick.head | apply Pick.tail))) (fun _ => rfl) (by assumption) (by exact rfl) (by exact rfl) rfl ?_
      refine KO.geq rfl rfl rfl ?_
      refine KO.mv rfl rfl ?_
      (refine KO.on rfl rfl ?_ ?_; (focus (simp only [decide_eq_true_eq, decide_eq_false_iff_not, Bool.not_eq_true, Bool.not_true, Bool.not_false, ne_eq]; omega)); (refine KO.mv rfl rfl ?_))
      (refine KO.on rfl rfl ?_ ?_; (focus (simp only [decide_eq_true_eq, decide_eq_false_iff_not, Bool.not_eq_true, Bool.not_true, Bool.not_false, ne_eq]; omega)); (refine KO.nc rfl rfl ?_))
      (refine KO.on rfl rfl ?_ ?_; (focus (simp only [decide_eq_true_eq, decide_eq_false_iff_not, Bool.not_eq_true, Bool.not_true, Bool.not_false, ne_eq]; omega)); (refine KO.fo (off := 6) rfl Tryz.runUnderlying47 rfl rfl Tryz.sizeOf3 rfl ?_))
      (refine KO.on rfl rfl ?_ ?_; (focus (simp only [decide_eq_true_eq, decide_eq_false_iff_not, Bool.not_eq_true, Bool.not_true, Bool.not_false, ne_eq]; omega)); (refine KO.ldE rfl rfl Tryz.isAgg3 (by with_reducible (repeat (first | exact Pick.head | apply Pick.tail))) (fun _ => rfl) (by assumption) (by exact rfl) (by exact rfl) rfl ?_))
      (refine KO.on rfl rfl ?_ ?_; (focus (simp only [decide_eq_true_eq, decide_eq_false_iff_not, Bool.not_eq_true, Bool.not_true, Bool.not_false, ne_eq]; omega)); (refine KO.geq rfl rfl rfl ?_))
      (refine KO.pickF rfl ?_ rfl rfl ?_; (focus (simp only [decide_eq_true_eq, decide_eq_false_iff_not, Bool.not_eq_true, Bool.not_true, Bool.not_false, ne_eq]; omega)))
      refine KO.nil ?_
      repeat ((with_reducible refine KQ.next ?_))
      refine K.condT rfl (by simp [h2]) ?_
      repeat (first | (with_reducible refine KQ.next ?_) | (with_reducible refine KQ.then_exit ?_) | (with_reducible refine KQ.blk_exit ?_) | (with_reducible refine K.exit ?_))
      refine K.reg ?_
      refine KO.add rfl rfl rfl (by omega) rfl ?_
      refine KO.mv rfl rfl ?_
      refine KO.nil ?_
      refine KQ.round (k + 1) ⟨by omega, next (by simp [ravail]; omega)⟩ (by omega) ⟨rfl, rfl, rfl, rfl, rfl, rfl, trivial⟩ (fun _ h => h.all (by with_reducible repeat (exact PAll.refl)))
    have hav : ravail e = true := by simp [ravail]; omega
    have hI : rgetI l = some i := by
      unfold rgetI
      rw [List.find?_eq_some_iff_getElem]
      obtain ⟨hk1, hk2⟩ := List.getElem?_eq_some_iff.1 hi
      refine ⟨by rw [hat]; exact hav, k, hk1, hk2, fun j hj => ?_⟩
      have := hall j ((rord l)[j]'(by omega)) hj (List.getElem?_eq_getElem _)
      simp [this]
    refine K.reg ?_
    refine KO.mv rfl rfl ?_
    refine KO.nc rfl rfl ?_
    refine KO.fo (off := 5) rfl Tryz.runUnderlying47 rfl rfl Tryz.sizeOf3 rfl ?_
    refine KO.ldE rfl rfl Tryz.isAgg3 (by with_reducible (repeat (first | exact Pick.head | apply Pick.tail))) (fun _ => rfl) (by assumption) (by exact rfl) (by exact rfl) rfl ?_
    refine KO.geq rfl rfl rfl ?_
    refine KO.mv rfl rfl ?_
    (refine KO.on rfl rfl ?_ ?_; (focus (simp only [decide_eq_true_eq, decide_eq_false_iff_not, Bool.not_eq_true, Bool.not_true, Bool.not_false, ne_eq]; omega)); (refine KO.mv rfl rfl ?_))
    (refine KO.on rfl rfl ?_ ?_; (focus (simp only [decide_eq_true_eq, decide_eq_false_iff_not, Bool.not_eq_true, Bool.not_true, Bool.not_false, ne_eq]; omega)); (refine KO.nc rfl rfl ?_))
    (refine KO.on rfl rfl ?_ ?_; (focus (simp only [decide_eq_true_eq, decide_eq_false_iff_not, Bool.not_eq_true, Bool.not_true, Bool.not_false, ne_eq]; omega)); (refine KO.fo (off := 6) rfl Tryz.runUnderlying47 rfl rfl Tryz.sizeOf3 rfl ?_))
    (refine KO.on rfl rfl ?_ ?_; (focus (simp only [decide_eq_true_eq, decide_eq_false_iff_not, Bool.not_eq_true, Bool.not_true, Bool.not_false, ne_eq]; omega)); (refine KO.ldE rfl rfl Tryz.isAgg3 (by with_reducible (repeat (first | exact Pick.head | apply Pick.tail))) (fun _ => rfl) (by assumption) (by exact rfl) (by exact rfl) rfl ?_))
    (refine KO.on rfl rfl ?_ ?_; (focus (simp only [decide_eq_true_eq, decide_eq_false_iff_not, Bool.not_eq_true, Bool.not_true, Bool.not_false, ne_eq]; omega)); (refine KO.geq rfl rfl rfl ?_))
    (refine KO.pickF rfl ?_ rfl rfl ?_; (focus (simp only [decide_eq_true_eq, decide_eq_false_iff_not, Bool.not_eq_true, Bool.not_true, Bool.not_false, ne_eq]; omega)))
    refine KO.nil ?_
    repeat ((with_reducible refine KQ.next ?_))
    refine K.condF rfl (by simp [h2]) ?_
    repeat (first | (with_reducible refine K.seq ?_) | (with_reducible refine KQ.next ?_) | (with_reducible refine K.skip ?_))
    refine K.reg ?_
    refine KO.mv rfl rfl ?_
    refine KO.nc rfl rfl ?_
    refine KO.fo (off := 0) rfl Tryz.runUnderlying47 rfl rfl Tryz.sizeOf31 rfl ?_
    (refine KO.ldEP rfl rfl Tryz.isAgg31 Tryz.sizeOf31 (by with_reducible (repeat (first | exact Pick.head | apply Pick.tail))) (fun _ => rfl) (by assumption) (by (try simp only [List.drop_zero, List.drop_succ_cons, List.take_succ_cons, List.take_zero]); (try exact rfl)) (by exact rfl) rfl ?_)
    refine KO.alloc rfl Tryz.zeroValue31 (by exact rfl) rfl ?_; intro b9
    refine KO.sto0 rfl rfl rfl (by exact rfl) (by exact Tryz.sizeOf31) (by exact rfl) (by with_reducible (repeat (exact Pick.head))) (by exact rfl) ?_
    refine KO.nil ?_
    repeat (first | (with_reducible refine K.seq ?_) | (with_reducible refine KQ.next ?_))
    refine K.reg ?_
    refine KO.mv rfl rfl ?_
    refine KO.geq rfl rfl rfl ?_
    refine KO.nil ?_
    repeat ((with_reducible refine KQ.next ?_))
    refine K.condD rfl (fun h3 => ?_) (fun h3 => ?_)
    · (skip)
      refine K.reg ?_
      refine KO.mv rfl rfl ?_
      refine KO.mv rfl rfl ?_
      refine KO.nc rfl rfl ?_
      refine KO.fo (off := 6) rfl Tryz.runUnderlying47 rfl rfl Tryz.sizeOf3 rfl ?_
      refine KO.stE rfl rfl rfl (by exact rfl) (by exact Tryz.sizeOf3) (by exact rfl) (by with_reducible (repeat (first | exact Pick.head | apply Pick.tail))) (fun _ => rfl) he rfl { e with got := u } rfl ?_
      refine KO.nil ?_
      repeat (first | (with_reducible refine K.seq ?_) | (with_reducible refine KQ.next ?_))
      refine K.reg ?_
      refine KO.ldB0 rfl rfl Tryz.isAgg31 Tryz.sizeOf31 (by with_reducible (repeat (first | exact Pick.head | apply Pick.tail))) (by exact rfl) rfl ?_
      refine KO.sto0 rfl rfl rfl (by exact rfl) (by exact Tryz.sizeOf31) (by exact rfl) (by with_reducible (repeat (first | exact Pick.head | apply Pick.tail))) (by exact rfl) ?_
      refine KO.as rfl rfl ?_
      refine KO.nil ?_
      repeat (first | (with_reducible refine KQ.next ?_) | (with_reducible refine KQ.then_ret ?_) | (with_reducible refine KQ.blk_ret ?_) | (with_reducible refine K.ret ?_))
      refine KQ.retCT rfl rfl Tryz.isAgg31 (by with_reducible (repeat (exact Pick.head))) (by exact Tryz.sizeOf31) rfl (fun w' hs => ⟨_, _, rfl, ⟨?_, rfl⟩, ?_⟩)
      · simp only [rgetM, rgetE, hI, hat]; rfl
      · rw [show rget l u = l.set i { e with got := u } by simp only [rget, hI, h3, if_true, hat]]
        exact rqP_mk ((hs.pick2 (by with_reducible (repeat (first | exact Pick.head | apply Pick.tail))) (by with_reducible (repeat (first | exact Pick.head | apply Pick.tail)))).gc2 (by with_reducible repeat (first | exact LSub.refl | apply LSub.drop)))
    · (skip)
      refine K.conv (fun w hw => rqP_mk (hw.pick2 (A := rqB b (.slice (some ⟨gq, 0, none⟩) l.length cq)) (B := riS (.slice (some ⟨gq, 0, none⟩) l.length cq) l) (by with_reducible (repeat (first | exact Pick.head | apply Pick.tail))) (by with_reducible (repeat (first | exact Pick.head | apply Pick.tail))))) ?_
      refine K.reg ?_
      refine KO.mv rfl rfl ?_
      refine KO.mv rfl rfl ?_
      refine KO.cl (cp := []) rfl rfl rfl Tryz.call55 rfl (rdrop_c w0 _ b l i hil (by omega)) ?_; rintro v' L' ⟨rfl, rfl⟩
      refine KO.nil ?_
      repeat (first | (with_reducible refine K.seq ?_) | (with_reducible refine KQ.next ?_))
      refine K.reg ?_
      refine KO.ldB0 rfl rfl Tryz.isAgg31 Tryz.sizeOf31 (by with_reducible (repeat (first | exact Pick.head | apply Pick.tail))) (by exact rfl) rfl ?_
      refine KO.sto0 rfl rfl rfl (by exact rfl) (by exact Tryz.sizeOf31) (by exact rfl) (by with_reducible (repeat (first | exact Pick.head | apply Pick.tail))) (by exact rfl) ?_
      refine KO.as rfl rfl ?_
      refine KO.nil ?_
      repeat (first | (with_reducible refine KQ.next ?_) | (with_reducible refine KQ.then_ret ?_) | (with_reducible refine KQ.blk_ret ?_) | (with_reducible refine K.ret ?_))
      refine KQ.retCT rfl rfl Tryz.isAgg31 (by with_reducible (repeat (exact Pick.head))) (by exact Tryz.sizeOf31) rfl (fun w' hs => ⟨_, _, rfl, ⟨?_, rfl⟩, ?_⟩)
      · simp only [rgetM, rgetE, hI, hat]; rfl
      · rw [show rget l u = l.eraseIdx i by simp only [rget, hI, h3, if_false]]
        exact (hs.pick (by with_reducible (repeat (first | exact Pick.head | apply Pick.tail)))).gc1 (by with_reducible repeat (first | exact LSub.refl | apply LSub.drop))
  · have hI : rgetI l = none := by
      unfold rgetI
      rw [List.find?_eq_none]
      intro i hi
      obtain ⟨j, hj, rfl⟩ := List.getElem_of_mem hi
      have := hall j _ (by omega) (List.getElem?_eq_getElem hj)
      simp [this]
    repeat (first | (with_reducible refine K.seq ?_) | (with_reducible refine KQ.next ?_) | (with_reducible refine KQ.then_exit ?_) | (with_reducible refine KQ.blk_exit ?_) | (with_reducible refine K.exit ?_))
    refine K.reg ?_
    refine KO.bldN (pl := [(0, 1), (1, 1), (2, 1), (3, 1), (4, 1)]) rfl Tryz.zeroValue31 Tryz.runUnderlying31 (by intro w; simp [Tryz.sizeOf3, Tryz.sizeOf9]) (by exact rfl) rfl ?_
    refine KO.sto0 rfl rfl rfl (by exact rfl) (by exact Tryz.sizeOf31) (by exact rfl) (by with_reducible (repeat (first | exact Pick.head | apply Pick.tail))) (by exact rfl) ?_
    refine KO.as rfl rfl ?_
    refine KO.nil ?_
    repeat (first | (with_reducible refine KQ.next ?_) | (with_reducible refine K.ret ?_))
    refine KQ.retCT rfl rfl Tryz.isAgg31 (by with_reducible (repeat (exact Pick.head))) (by exact Tryz.sizeOf31) rfl (fun w' hs => ⟨_, _, rfl, ⟨?_, rfl⟩, ?_⟩)
    · simp only [rgetM, rgetE, hI]; rfl
    · rw [show rget l u = l by simp only [rget, hI]]
      exact rqP_mk ((hs.pick2 (by with_reducible (repeat (first | exact Pick.head | apply Pick.tail))) (by with_reducible (repeat (first | exact Pick.head | apply Pick.tail)))).gc2 (by with_reducible repeat (first | exact LSub.refl | apply LSub.drop)))
theorem rtake_c (w0 : World) (L : List HP) (b : Nat) (l : List Ri) (id : Int) (hq : l.length < 900000) :
    KC Tryz.prog 15 #[.pointer (some ⟨b, 0, none⟩), .int .i64 id] w0 (rqP b l :: L) (fun v L' => v = .tuple #[.agg (msC (rtakeM l id)).toArray, .int .i64 (rtakeE l id)] ∧ L' = rqP b (rtake l id) :: L) := by
  refine KC.mk (n := 26) Tryz.func15 rfl Tryz.ntmps15 (by simp) ?_
  repeat ((with_reducible refine K.seq ?_))
  refine K.reg ?_
  refine KO.alloc rfl Tryz.zeroValue31 (by exact rfl) rfl ?_; intro b4
  refine KO.as rfl rfl ?_
  refine KO.nil ?_
  repeat (first | (with_reducible refine K.seq ?_) | (with_reducible refine KQ.next ?_))
  refine K.reg ?_
  refine KO.mv rfl rfl ?_
  refine KO.mv rfl rfl ?_
  refine KO.ce (cp := []) rfl rfl rfl Tryz.call53 rfl (rfind_e w0 _ _ b l id (by with_reducible (repeat (first | exact Pick.head | apply Pick.tail))) hq) ?_; rintro v' L' ⟨rfl, rfl⟩
  refine KO.as rfl rfl ?_
  refine KO.nil ?_
  repeat (first | (with_reducible refine K.seq ?_) | (with_reducible refine KQ.next ?_))
  refine K.reg ?_
  refine KO.mv rfl rfl ?_
  refine KO.lss rfl rfl rfl ?_
  refine KO.nil ?_
  repeat ((with_reducible refine KQ.next ?_))
  refine K.condD rfl (fun h => ?_) (fun h => ?_)
  · have hn : rtakeI l id = none := fidx_neg h
    repeat ((with_reducible refine K.seq ?_))
    refine K.reg ?_
    refine KO.bldN (pl := [(0, 1), (1, 1), (2, 1), (3, 1), (4, 1)]) rfl Tryz.zeroValue31 Tryz.runUnderlying31 (by intro w; simp [Tryz.sizeOf3, Tryz.sizeOf9]) (by exact rfl) rfl ?_
    refine KO.sto0 rfl rfl rfl (by exact rfl) (by exact Tryz.sizeOf31) (by exact rfl) (by with_reducible (repeat (exact Pick.head))) (by exact rfl) ?_
    refine KO.as rfl rfl ?_
    refine KO.nil ?_
    repeat (first | (with_reducible refine KQ.next ?_) | (with_reducible refine KQ.then_ret ?_) | (with_reducible refine K.ret ?_))
    refine KQ.retCT rfl rfl Tryz.isAgg31 (by with_reducible (repeat (exact Pick.head))) (by exact Tryz.sizeOf31) rfl (fun w' hs => ⟨_, _, rfl, ⟨?_, rfl⟩, ?_⟩)
    · simp only [rtakeM, rtakeE, hn]; rfl
    · rw [show rtake l id = l by simp only [rtake, hn]]
      exact (hs.pick (by with_reducible (repeat (first | exact Pick.head | apply Pick.tail)))).gc1 (by with_reducible repeat (first | exact LSub.refl | apply LSub.drop))
  · obtain ⟨i, e, hi0, he, hp0, hil, hfi⟩ := fidx_nonneg (Int.not_lt.1 h)
    have hn : rtakeI l id = some i := hfi
    have hat := rAt_of he
    rw [show rfind l id = (i : Int) from hi0]
    repeat (first | (with_reducible refine K.seq ?_) | (with_reducible refine KQ.next ?_) | (with_reducible refine K.skip ?_))
    refine K.conv (fun w hw => hw.pick (A := rqP b l) (by with_reducible (repeat (first | exact Pick.head | apply Pick.tail)))) ?_
    refine K.open' (fun _ h => rqP_open h) fun v => ?_
    refine K.fact (fun w hw => SL_some (hw.pick (A := riS v l) (by with_reducible (repeat (first | exact Pick.head | apply Pick.tail)))) hil) ?_
    rintro ⟨gq, cq, rfl⟩
    refine K.reg ?_
    refine KO.mv rfl rfl ?_
    refine KO.nc rfl rfl ?_
    refine KO.fo0 (off := 0) rfl Tryz.runUnderlying29 rfl rfl Tryz.sizeOf27 rfl ?_
    refine KO.ld rfl rfl Tryz.isAgg27 (by with_reducible (repeat (exact Pick.head))) (by exact rfl) rfl ?_
    refine KO.mv rfl rfl ?_
    refine KO.idx0 rfl rfl Tryz.runUnderlying27 Tryz.sizeOf47 (by exact rfl) (by omega) rfl ?_
    refine KO.fo (off := 0) rfl Tryz.runUnderlying47 rfl rfl Tryz.sizeOf31 rfl ?_
    (refine KO.ldEP rfl rfl Tryz.isAgg31 Tryz.sizeOf31 (by with_reducible (repeat (first | exact Pick.head | apply Pick.tail))) (fun _ => rfl) (by assumption) (by (try simp only [List.drop_zero, List.drop_succ_cons, List.take_succ_cons, List.take_zero]); (try exact rfl)) (by exact rfl) rfl ?_)
    refine KO.alloc rfl Tryz.zeroValue31 (by exact rfl) rfl ?_; intro b7
    refine KO.sto0 rfl rfl rfl (by exact rfl) (by exact Tryz.sizeOf31) (by exact rfl) (by with_reducible (repeat (exact Pick.head))) (by exact rfl) ?_
    refine KO.nil ?_
    repeat (first | (with_reducible refine K.seq ?_) | (with_reducible refine KQ.next ?_))
    refine K.conv (fun w hw => rqP_mk (hw.pick2 (A := rqB b (.slice (some ⟨gq, 0, none⟩) l.length cq)) (B := riS (.slice (some ⟨gq, 0, none⟩) l.length cq) l) (by with_reducible (repeat (first | exact Pick.head | apply Pick.tail))) (by with_reducible (repeat (first | exact Pick.head | apply Pick.tail))))) ?_
    refine K.reg ?_
    refine KO.mv rfl rfl ?_
    refine KO.mv rfl rfl ?_
    refine KO.cl (cp := []) rfl rfl rfl Tryz.call55 rfl (rdrop_c w0 _ b l i hil hq) ?_; rintro v' L' ⟨rfl, rfl⟩
    refine KO.nil ?_
    repeat (first | (with_reducible refine K.seq ?_) | (with_reducible refine KQ.next ?_))
    refine K.reg ?_
    refine KO.ldB0 rfl rfl Tryz.isAgg31 Tryz.sizeOf31 (by with_reducible (repeat (first | exact Pick.head | apply Pick.tail))) (by exact rfl) rfl ?_
    refine KO.sto0 rfl rfl rfl (by exact rfl) (by exact Tryz.sizeOf31) (by exact rfl) (by with_reducible (repeat (first | exact Pick.head | apply Pick.tail))) (by exact rfl) ?_
    refine KO.as rfl rfl ?_
    refine KO.nil ?_
    repeat (first | (with_reducible refine KQ.next ?_) | (with_reducible refine K.ret ?_))
    refine KQ.retCT rfl rfl Tryz.isAgg31 (by with_reducible (repeat (exact Pick.head))) (by exact Tryz.sizeOf31) rfl (fun w' hs => ⟨_, _, rfl, ⟨?_, rfl⟩, ?_⟩)
    · simp only [rtakeM, rtakeE, hn, hat]; rfl
    · rw [show rtake l id = l.eraseIdx i by simp only [rtake, hn]]
      exact (hs.pick (by with_reducible (repeat (first | exact Pick.head | apply Pick.tail)))).gc1 (by with_reducible repeat (first | exact LSub.refl | apply LSub.drop))
theorem rends_c (w0 : World) (L : List HP) (b : Nat) (l : List Ri) (u : Int) (back : Bool) (hq : l.length < 900000) :
    KC Tryz.prog 18 #[.pointer (some ⟨b, 0, none⟩), .int .i64 u, .bool back] w0 (rqP b l :: L) (fun v L' => v = .tuple #[] ∧ L' = rqP b (rends l u back) :: L) := by
  refine KC.mk (n := 42) Tryz.func18 rfl Tryz.ntmps18 (by simp) ?_
  repeat ((with_reducible refine K.seq ?_))
  refine K.reg ?_
  refine KO.mv rfl rfl ?_
  refine KO.lss rfl rfl rfl ?_
  refine KO.nil ?_
  repeat ((with_reducible refine KQ.next ?_))
  refine K.condD rfl (fun h => ?_) (fun h => ?_)
  · repeat (first | (with_reducible refine KQ.then_ret ?_) | (with_reducible refine K.ret ?_))
    refine KQ.ret0 rfl (fun w' hs => ⟨_, _, rfl, ⟨rfl, rfl⟩, ?_⟩)
    rw [show rends l u back = l by simp only [rends, h, if_true]]
    exact hs
  rw [show rends l u back = (l.filter fun e => !rendB u back e).map (rfree u) by simp only [rends, h, if_false]]
  repeat (first | (with_reducible refine K.seq ?_) | (with_reducible refine KQ.next ?_) | (with_reducible refine K.skip ?_))
  refine K.reg ?_
  refine KO.as rfl rfl ?_
  refine KO.nil ?_
  repeat (first | (with_reducible refine K.seq ?_) | (with_reducible refine KQ.next ?_))
  refine K.open' (fun _ h => rqP_open h) fun v => ?_
  refine K.fact (fun w hw => SL_form (hw.pick (A := riS v l) (by with_reducible (repeat (first | exact Pick.head | apply Pick.tail))))) ?_
  rintro ⟨aq, cq, rfl, haq⟩
  refine K.reg ?_
  refine KO.mv rfl rfl ?_
  refine KO.nc rfl rfl ?_
  refine KO.fo0 (off := 0) rfl Tryz.runUnderlying29 rfl rfl Tryz.sizeOf27 rfl ?_
  refine KO.ld rfl rfl Tryz.isAgg27 (by with_reducible (repeat (exact Pick.head))) (by exact rfl) rfl ?_
  refine KO.len rfl Tryz.underlying27 rfl ?_
  refine KO.mv rfl rfl ?_
  refine KO.nil ?_
  repeat (first | (with_reducible refine KQ.next ?_) | (with_reducible refine K.block ?_))
  refine K.loop (fun s : Nat × Value => [(0, .pointer (some ⟨b, 0, none⟩)), (1, .int .i64 u), (2, .bool back), (6, s.2), (14, .slice aq l.length cq), (15, .int .i64 (l.length : Nat)), (16, .int .i64 (s.1 : Nat))]) (fun s => riS s.2 (((l.take s.1).filter fun e => !rendB u back e).map (rfree u)) :: rqB b (.slice aq l.length cq) :: riS (.slice aq l.length cq) l :: L) (fun s => s.1 ≤ l.length) (fun s => l.length - s.1) (0, .slice none 0 0)
    (Nat.zero_le _) ⟨rfl, rfl, rfl, rfl, rfl, rfl, rfl, trivial⟩ (fun _ h => SL_nil h) ?_
  rintro ⟨k, vo⟩ hk
  dsimp only at hk ⊢
  repeat ((with_reducible refine K.seq ?_))
  refine K.reg ?_
  refine KO.lss rfl rfl rfl ?_
  refine KO.nil ?_
  repeat (first | (with_reducible refine K.seq ?_) | (with_reducible refine KQ.next ?_))
  refine K.condD rfl (fun h1 => ?_) (fun h1 => ?_)
  · obtain ⟨gq, rfl⟩ := haq (by omega)
    obtain ⟨e, he⟩ : ∃ e, l[k]? = some e := ⟨l[k], List.getElem?_eq_getElem (by omega)⟩
    have hlen : (((l.take k).filter fun e => !rendB u back e).map (rfree u)).length < 900000 := by
      have := List.length_filter_le (fun e => !rendB u back e) (l.take k); simp at this ⊢; omega
    have hstep : (((l.take (k + 1)).filter fun e => !rendB u back e).map (rfree u)) = (((l.take k).filter fun e => !rendB u back e).map (rfree u)) ++ (if rendB u back e = true then [] else [rfree u e]) := by
      rw [take_succ_some he, List.filter_append, List.map_append]
      by_cases ha : rendB u back e = true <;> simp [ha]
    repeat (first | (with_reducible refine K.seq ?_) | (with_reducible refine KQ.next ?_) | (with_reducible refine K.skip ?_) | (with_reducible refine K.block ?_))
    refine K.reg ?_
    refine KO.idx0 rfl rfl Tryz.runUnderlying27 Tryz.sizeOf47 (by exact rfl) (by omega) rfl ?_
    refine KO.ldEN rfl rfl Tryz.isAgg47 Tryz.sizeOf47 (by with_reducible (repeat (first | exact Pick.head | apply Pick.tail))) (fun _ => rfl) (by assumption) rfl ?_
    refine KO.alloc rfl Tryz.zeroValue47 (by exact rfl) rfl ?_; intro b8
    refine KO.sto0 rfl rfl rfl (by exact rfl) (by exact Tryz.sizeOf47) (by exact rfl) (by with_reducible (repeat (exact Pick.head))) (by exact rfl) ?_
    refine KO.nil ?_
    repeat (first | (with_reducible refine K.seq ?_) | (with_reducible refine KQ.next ?_))
    refine K.reg ?_
    refine KO.fo0 (off := 5) rfl Tryz.runUnderlying47 rfl rfl Tryz.sizeOf3 rfl ?_
    refine KO.ld rfl rfl Tryz.isAgg3 (by with_reducible (repeat (exact Pick.head))) (by exact rfl) rfl ?_
    refine KO.mv rfl rfl ?_
    refine KO.eqI rfl rfl rfl ?_
    refine KO.nil ?_
    repeat ((with_reducible refine KQ.next ?_))
    refine K.condD rfl (fun h2 => ?_) (fun h2 => ?_)
    · repeat ((with_reducible refine K.seq ?_))
      refine K.reg ?_
      refine KO.mv rfl rfl ?_
      refine KO.nil ?_
      repeat ((with_reducible refine KQ.next ?_))
      refine K.cond rfl (fun h3 => ?_) (fun h3 => ?_)
      · have h4 : True := trivial
        rw [if_pos (by simp [rendB, h2, h3, h4])] at hstep
        rw [List.append_nil] at hstep
        repeat (first | (with_reducible refine KQ.next ?_) | (with_reducible refine KQ.then_exit ?_) | (with_reducible refine KQ.blk_exit ?_) | (with_reducible refine K.exit ?_))
        refine K.reg ?_
        refine KO.add rfl rfl rfl (by omega) rfl ?_
        refine KO.mv rfl rfl ?_
        refine KO.nil ?_
        refine KQ.round (k + 1, vo) (by dsimp only; omega) (by dsimp only; omega) ⟨rfl, rfl, rfl, rfl, rfl, rfl, rfl, trivial⟩ (fun _ h => ?_)
        dsimp only
        rw [hstep]
        exact (h.pick (by with_reducible (repeat (first | exact Pick.head | apply Pick.tail)))).gc1 (by with_reducible repeat (first | exact LSub.refl | apply LSub.drop))
      · repeat (first | (with_reducible refine KQ.next ?_) | (with_reducible refine K.skip ?_))
        refine K.reg ?_
        refine KO.fo0 (off := 5) rfl Tryz.runUnderlying47 rfl rfl Tryz.sizeOf3 rfl ?_
        (refine KO.sto rfl rfl rfl (by exact rfl) (by exact Tryz.sizeOf3) (by exact rfl) (by with_reducible (repeat (exact Pick.head))) (by exact rfl) (by (try simp only [putL, List.drop_succ_cons, List.drop_zero, List.drop_nil, List.cons_append, List.nil_append, List.length_cons, List.length_nil, Nat.zero_add, Nat.reduceAdd]); (try exact rfl)) ?_)
        refine KO.nil ?_
        repeat (first | (with_reducible refine K.seq ?_) | (with_reducible refine KQ.next ?_))
        refine K.reg ?_
        refine KO.fo0 (off := 6) rfl Tryz.runUnderlying47 rfl rfl Tryz.sizeOf3 rfl ?_
        refine KO.ld rfl rfl Tryz.isAgg3 (by with_reducible (repeat (exact Pick.head))) (by exact rfl) rfl ?_
        refine KO.mv rfl rfl ?_
        refine KO.eqI rfl rfl rfl ?_
        refine KO.nil ?_
        repeat ((with_reducible refine KQ.next ?_))
        refine K.condD rfl (fun h4 => ?_) (fun h4 => ?_)
        · repeat ((with_reducible refine K.seq ?_))
          refine K.reg ?_
          refine KO.mv rfl rfl ?_
          refine KO.not rfl rfl ?_
          refine KO.nil ?_
          repeat ((with_reducible refine KQ.next ?_))
          have h3' : back = false := by simpa using h3
          refine K.condT rfl (by simp [h3']) ?_
          rw [if_pos (by simp_all [rendB])] at hstep
          rw [List.append_nil] at hstep
          repeat (first | (with_reducible refine KQ.next ?_) | (with_reducible refine KQ.then_exit ?_) | (with_reducible refine KQ.blk_exit ?_) | (with_reducible refine K.exit ?_))
          refine K.reg ?_
          refine KO.add rfl rfl rfl (by omega) rfl ?_
          refine KO.mv rfl rfl ?_
          refine KO.nil ?_
          refine KQ.round (k + 1, vo) (by dsimp only; omega) (by dsimp only; omega) ⟨rfl, rfl, rfl, rfl, rfl, rfl, rfl, trivial⟩ (fun _ h => ?_)
          dsimp only
          rw [hstep]
          exact (h.pick (by with_reducible (repeat (first | exact Pick.head | apply Pick.tail)))).gc1 (by with_reducible repeat (first | exact LSub.refl | apply LSub.drop))
        · have h3 : back = false := by simpa using h3
          repeat (first | (with_reducible refine KQ.next ?_) | (with_reducible refine K.skip ?_))
          refine K.conv (L' := blk b8 (.cells (riC (rfree u e)).toArray 47 (0, 0)) :: riS vo (((l.take k).filter fun e => !rendB u back e).map (rfree u)) :: rqB b (.slice (some ⟨gq, 0, none⟩) l.length cq) :: riS (.slice (some ⟨gq, 0, none⟩) l.length cq) l :: L) (fun w hw => by rw [show riC (rfree u e) = [Value.int .i64 e.m.id, .int .i64 e.m.pri, .string e.m.body, .string e.m.queue, .int .i64 e.m.house, .int .i64 (-1), .int .i64 e.got] by simp [rfree, h2, h4, riC]]; exact hw) ?_
          rw [if_neg (by simp [rendB, h2, h3, h4])] at hstep
          refine K.reg ?_
          refine KO.mv rfl rfl ?_
          refine KO.ldB0 (cs := riC (rfree u e)) rfl rfl Tryz.isAgg47 Tryz.sizeOf47 (by with_reducible (repeat (exact Pick.head))) (by exact rfl) rfl ?_
          refine KO.bs1 (z := (Value.agg #[.int .i64 0, .int .i64 0, .string ⟨#[]⟩, .string ⟨#[]⟩, .int .i64 0, .int .i64 0, .int .i64 0])) (sz := 7) (by' := 72) rfl rfl Tryz.underlying27 (by kernel_rfl) (by exact rfl) (by exact rfl) (by decide) (by decide) rfl ?_; intro b35
          refine KO.app (z := Value.agg #[.int .i64 0, .int .i64 0, .string ⟨#[]⟩, .string ⟨#[]⟩, .int .i64 0, .int .i64 0, .int .i64 0]) (sz := 7) (by' := 72) rfl rfl rfl (by with_reducible (repeat (first | exact Pick.head | apply Pick.tail))) (by with_reducible (repeat (exact Pick.head))) Tryz.underlying27 ri_info rfl (rfree u e) (by exact rfl) (by exact rfl) (by exact rfl) (by omega) (by decide) rfl ?_; intro v'
          refine KO.as rfl rfl ?_
          refine KO.nil ?_
          repeat (first | (with_reducible refine KQ.next ?_) | (with_reducible refine KQ.blk_normal ?_))
          refine K.reg ?_
          refine KO.add rfl rfl rfl (by omega) rfl ?_
          refine KO.mv rfl rfl ?_
          refine KO.nil ?_
          refine KQ.round (k + 1, v') (by dsimp only; omega) (by dsimp only; omega) ⟨rfl, rfl, rfl, rfl, rfl, rfl, rfl, trivial⟩ (fun _ h => ?_)
          dsimp only
          rw [hstep]
          exact (h.pick (by with_reducible (repeat (exact Pick.head)))).gc1 (by with_reducible repeat (first | exact LSub.refl | apply LSub.drop))
    · repeat (first | (with_reducible refine K.seq ?_) | (with_reducible refine KQ.next ?_) | (with_reducible refine K.skip ?_))
      refine K.reg ?_
      refine KO.fo0 (off := 6) rfl Tryz.runUnderlying47 rfl rfl Tryz.sizeOf3 rfl ?_
      refine KO.ld rfl rfl Tryz.isAgg3 (by with_reducible (repeat (exact Pick.head))) (by exact rfl) rfl ?_
      refine KO.mv rfl rfl ?_
      refine KO.eqI rfl rfl rfl ?_
      refine KO.nil ?_
      repeat ((with_reducible refine KQ.next ?_))
      refine K.condD rfl (fun h4 => ?_) (fun h4 => ?_)
      · repeat ((with_reducible refine K.seq ?_))
        refine K.reg ?_
        refine KO.mv rfl rfl ?_
        refine KO.not rfl rfl ?_
        refine KO.nil ?_
        repeat ((with_reducible refine KQ.next ?_))
        refine K.cond rfl (fun h3 => ?_) (fun h3 => ?_)
        · have h3 : back = false := by simpa using h3
          rw [if_pos (by simp_all [rendB])] at hstep
          rw [List.append_nil] at hstep
          repeat (first | (with_reducible refine KQ.next ?_) | (with_reducible refine KQ.then_exit ?_) | (with_reducible refine KQ.blk_exit ?_) | (with_reducible refine K.exit ?_))
          refine K.reg ?_
          refine KO.add rfl rfl rfl (by omega) rfl ?_
          refine KO.mv rfl rfl ?_
          refine KO.nil ?_
          refine KQ.round (k + 1, vo) (by dsimp only; omega) (by dsimp only; omega) ⟨rfl, rfl, rfl, rfl, rfl, rfl, rfl, trivial⟩ (fun _ h => ?_)
          dsimp only
          rw [hstep]
          exact (h.pick (by with_reducible (repeat (first | exact Pick.head | apply Pick.tail)))).gc1 (by with_reducible repeat (first | exact LSub.refl | apply LSub.drop))
        · have h3 : back = true := by simpa using h3
          repeat (first | (with_reducible refine KQ.next ?_) | (with_reducible refine K.skip ?_))
          refine K.reg ?_
          refine KO.fo0 (off := 6) rfl Tryz.runUnderlying47 rfl rfl Tryz.sizeOf3 rfl ?_
          (refine KO.sto rfl rfl rfl (by exact rfl) (by exact Tryz.sizeOf3) (by exact rfl) (by with_reducible (repeat (exact Pick.head))) (by exact rfl) (by (try simp only [putL, List.drop_succ_cons, List.drop_zero, List.drop_nil, List.cons_append, List.nil_append, List.length_cons, List.length_nil, Nat.zero_add, Nat.reduceAdd]); (try exact rfl)) ?_)
          refine KO.nil ?_
          repeat ((with_reducible refine KQ.next ?_))
          refine K.conv (L' := blk b8 (.cells (riC (rfree u e)).toArray 47 (0, 0)) :: riS vo (((l.take k).filter fun e => !rendB u back e).map (rfree u)) :: rqB b (.slice (some ⟨gq, 0, none⟩) l.length cq) :: riS (.slice (some ⟨gq, 0, none⟩) l.length cq) l :: L) (fun w hw => by rw [show riC (rfree u e) = [Value.int .i64 e.m.id, .int .i64 e.m.pri, .string e.m.body, .string e.m.queue, .int .i64 e.m.house, .int .i64 e.put, .int .i64 (-1)] by simp [rfree, h2, h4, riC]]; exact hw) ?_
          rw [if_neg (by simp [rendB, h2, h3, h4])] at hstep
          refine K.reg ?_
          refine KO.mv rfl rfl ?_
          refine KO.ldB0 (cs := riC (rfree u e)) rfl rfl Tryz.isAgg47 Tryz.sizeOf47 (by with_reducible (repeat (exact Pick.head))) (by exact rfl) rfl ?_
          refine KO.bs1 (z := (Value.agg #[.int .i64 0, .int .i64 0, .string ⟨#[]⟩, .string ⟨#[]⟩, .int .i64 0, .int .i64 0, .int .i64 0])) (sz := 7) (by' := 72) rfl rfl Tryz.underlying27 (by kernel_rfl) (by exact rfl) (by exact rfl) (by decide) (by decide) rfl ?_; intro b35
          refine KO.app (z := Value.agg #[.int .i64 0, .int .i64 0, .string ⟨#[]⟩, .string ⟨#[]⟩, .int .i64 0, .int .i64 0, .int .i64 0]) (sz := 7) (by' := 72) rfl rfl rfl (by with_reducible (repeat (first | exact Pick.head | apply Pick.tail))) (by with_reducible (repeat (exact Pick.head))) Tryz.underlying27 ri_info rfl (rfree u e) (by exact rfl) (by exact rfl) (by exact rfl) (by omega) (by decide) rfl ?_; intro v'
          refine KO.as rfl rfl ?_
          refine KO.nil ?_
          repeat (first | (with_reducible refine KQ.next ?_) | (with_reducible refine KQ.blk_normal ?_))
          refine K.reg ?_
          refine KO.add rfl rfl rfl (by omega) rfl ?_
          refine KO.mv rfl rfl ?_
          refine KO.nil ?_
          refine KQ.round (k + 1, v') (by dsimp only; omega) (by dsimp only; omega) ⟨rfl, rfl, rfl, rfl, rfl, rfl, rfl, trivial⟩ (fun _ h => ?_)
          dsimp only
          rw [hstep]
          exact (h.pick (by with_reducible (repeat (exact Pick.head)))).gc1 (by with_reducible repeat (first | exact LSub.refl | apply LSub.drop))
      · have h3 : True := trivial
        repeat (first | (with_reducible refine KQ.next ?_) | (with_reducible refine K.skip ?_))
        refine K.conv (L' := blk b8 (.cells (riC (rfree u e)).toArray 47 (0, 0)) :: riS vo (((l.take k).filter fun e => !rendB u back e).map (rfree u)) :: rqB b (.slice (some ⟨gq, 0, none⟩) l.length cq) :: riS (.slice (some ⟨gq, 0, none⟩) l.length cq) l :: L) (fun w hw => by rw [show riC (rfree u e) = riC e by simp [rfree, h2, h4, riC]]; exact hw) ?_
        rw [if_neg (by simp [rendB, h2, h3, h4])] at hstep
        refine K.reg ?_
        refine KO.mv rfl rfl ?_
        refine KO.ldB0 (cs := riC (rfree u e)) rfl rfl Tryz.isAgg47 Tryz.sizeOf47 (by with_reducible (repeat (exact Pick.head))) (by exact rfl) rfl ?_
        refine KO.bs1 (z := (Value.agg #[.int .i64 0, .int .i64 0, .string ⟨#[]⟩, .string ⟨#[]⟩, .int .i64 0, .int .i64 0, .int .i64 0])) (sz := 7) (by' := 72) rfl rfl Tryz.underlying27 (by kernel_rfl) (by exact rfl) (by exact rfl) (by decide) (by decide) rfl ?_; intro b35
        refine KO.app (z := Value.agg #[.int .i64 0, .int .i64 0, .string ⟨#[]⟩, .string ⟨#[]⟩, .int .i64 0, .int .i64 0, .int .i64 0]) (sz := 7) (by' := 72) rfl rfl rfl (by with_reducible (repeat (first | exact Pick.head | apply Pick.tail))) (by with_reducible (repeat (exact Pick.head))) Tryz.underlying27 ri_info rfl (rfree u e) (by exact rfl) (by exact rfl) (by exact rfl) (by omega) (by decide) rfl ?_; intro v'
        refine KO.as rfl rfl ?_
        refine KO.nil ?_
        repeat (first | (with_reducible refine KQ.next ?_) | (with_reducible refine KQ.blk_normal ?_))
        refine K.reg ?_
        refine KO.add rfl rfl rfl (by omega) rfl ?_
        refine KO.mv rfl rfl ?_
        refine KO.nil ?_
        refine KQ.round (k + 1, v') (by dsimp only; omega) (by dsimp only; omega) ⟨rfl, rfl, rfl, rfl, rfl, rfl, rfl, trivial⟩ (fun _ h => ?_)
        dsimp only
        rw [hstep]
        exact (h.pick (by with_reducible (repeat (exact Pick.head)))).gc1 (by with_reducible repeat (first | exact LSub.refl | apply LSub.drop))
  · have hkl : k = l.length := by omega
    refine K.fact (fun w hw => SL_form (hw.pick (A := riS vo (((l.take k).filter fun e => !rendB u back e).map (rfree u))) (by with_reducible (repeat (exact Pick.head))))) ?_
    rintro ⟨ao, co, rfl, -⟩
    repeat (first | (with_reducible refine KQ.next ?_) | (with_reducible refine KQ.then_exit ?_) | (with_reducible refine KQ.blk_exit ?_) | (with_reducible refine K.exit ?_))
    refine K.reg ?_
    refine KO.mv rfl rfl ?_
    refine KO.mv rfl rfl ?_
    refine KO.nc rfl rfl ?_
    refine KO.fo0 (off := 0) rfl Tryz.runUnderlying29 rfl rfl Tryz.sizeOf27 rfl ?_
    refine KO.sto0 rfl rfl rfl (by exact rfl) (by exact Tryz.sizeOf27) (by exact rfl) (by with_reducible (repeat (first | exact Pick.head | apply Pick.tail))) (by exact rfl) ?_
    refine KO.nil ?_
    refine KQ.end0 rfl (fun w' hs => ⟨_, _, rfl, ⟨rfl, rfl⟩, ?_⟩)
    rw [hkl, List.take_length] at hs
    exact rqP_mk ((hs.pick2 (by with_reducible (repeat (exact Pick.head))) (by with_reducible (repeat (exact Pick.head)))).gc2 (by with_reducible repeat (first | exact LSub.refl | apply LSub.drop)))
end Go.Proofs.YtjhogocabcdjbaaGreatDoor
/- the program's queue beside the document's: plain -/
namespace WB
def toRi (e : It) : Ri := ⟨e.m, e.put, e.got⟩
def arrN (l : List Ri) : Nat → List Ri
  | 0 => []
  | n + 1 => l.filter (fun e => decide (e.m.pri = (n : Int))) ++ arrN l n
def arr (l : List Ri) : List Ri := arrN l 10
theorem range_map_rAt : ∀ l : List Ri, (List.range l.length).map (rAt l) = l := fun l => by
  refine List.ext_getElem (by simp) fun i h1 h2 => ?_
  simp [rAt, List.getD_eq_getElem?_getD, h2]
theorem arrN_rord (l : List Ri) : ∀ n, arrN l n = (rordN l n).map (rAt l)
  | 0 => rfl
  | n + 1 => by
    rw [arrN, rordN, List.map_append, arrN_rord l n]
    congr 1
    conv => lhs; rw [← range_map_rAt l]
    rw [List.filter_map]
    rfl
theorem arr_rord (l : List Ri) : arr l = (rord l).map (rAt l) := arrN_rord l 10
theorem rthere_arr (l : List Ri) : rthere l = ((arr l).filter ravail).map (·.m) := by
  rw [arr_rord, List.filter_map, List.map_map]; rfl
theorem rkept_arr (l : List Ri) : rkept l = ((arr l).filter fun e => decide (e.put < 0)).map (·.m) := by
  rw [arr_rord, List.filter_map, List.map_map]; rfl
theorem rget_arr (l : List Ri) : (arr l).find? ravail = (rgetI l).map (rAt l) := by
  rw [arr_rord, List.find?_map]; rfl
theorem arrN_mem {l : List Ri} {e : Ri} : ∀ {n}, e ∈ arrN l n → e ∈ l ∧ e.m.pri < n
  | 0, h => by simp [arrN] at h
  | n + 1, h => by
    rcases List.mem_append.1 h with h | h
    · obtain ⟨h1, h2⟩ := List.mem_filter.1 h
      simp at h2; exact ⟨h1, by omega⟩
    · have := arrN_mem h; exact ⟨this.1, by omega⟩
theorem arrN_map {f : Ri → Ri} (hf : ∀ e, (f e).m.pri = e.m.pri) (l : List Ri) : ∀ n, arrN (l.map f) n = (arrN l n).map f
  | 0 => rfl
  | n + 1 => by
    rw [arrN, arrN, List.map_append, arrN_map hf l n, List.filter_map]
    congr 2
    exact List.filter_congr fun e _ => by simp [hf]
theorem arrN_filter (p : Ri → Bool) (l : List Ri) : ∀ n, arrN (l.filter p) n = (arrN l n).filter p
  | 0 => rfl
  | n + 1 => by
    rw [arrN, arrN, List.filter_append, arrN_filter p l n, List.filter_filter, List.filter_filter]
    congr 1
    exact List.filter_congr fun e _ => Bool.and_comm _ _
theorem arr_map {f : Ri → Ri} (hf : ∀ e, (f e).m.pri = e.m.pri) (l : List Ri) : arr (l.map f) = (arr l).map f := arrN_map hf l 10
theorem arr_filter (p : Ri → Bool) (l : List Ri) : arr (l.filter p) = (arr l).filter p := arrN_filter p l 10
theorem arrN_perm (l : List Ri) (h0 : ∀ e ∈ l, 0 ≤ e.m.pri) : ∀ n : Nat, (arrN l n).Perm (l.filter fun e => decide (e.m.pri < (n : Int)))
  | 0 => by
    rw [arrN, List.filter_eq_nil_iff.2 fun e he => by have := h0 e he; simp; omega]
  | n + 1 => by
    rw [arrN]
    have h1 := List.filter_append_perm (fun e : Ri => decide (e.m.pri = (n : Int))) (l.filter fun e => decide (e.m.pri < ((n + 1 : Nat) : Int)))
    rw [List.filter_filter, List.filter_filter] at h1
    have e1 : (l.filter fun e => decide (e.m.pri = (n : Int)) && decide (e.m.pri < ((n + 1 : Nat) : Int))) = l.filter fun e => decide (e.m.pri = (n : Int)) := List.filter_congr fun e _ => by
      rw [Bool.eq_iff_iff]; simp; omega
    have e2 : (l.filter fun e => (!decide (e.m.pri = (n : Int))) && decide (e.m.pri < ((n + 1 : Nat) : Int))) = l.filter fun e => decide (e.m.pri < (n : Int)) := List.filter_congr fun e _ => by
      rw [Bool.eq_iff_iff]; simp; omega
    rw [e1, e2] at h1
    exact ((arrN_perm l h0 n).append_left _).trans h1
theorem arr_perm {l : List Ri} (h : ∀ e ∈ l, 0 ≤ e.m.pri ∧ e.m.pri ≤ 9) : (arr l).Perm l := by
  have := arrN_perm l (fun e he => (h e he).1) 10
  rw [List.filter_eq_self.2 fun e he => by have := h e he; simp; omega] at this
  exact this
theorem arrN_push (l : List Ri) (x : Ri) (p : Nat) (hp : x.m.pri = p) : ∀ n, arrN (l ++ [x]) n = if n ≤ p then arrN l n else (arrN l n).filter (fun e => decide (x.m.pri ≤ e.m.pri)) ++ x :: (arrN l n).filter (fun e => !decide (x.m.pri ≤ e.m.pri))
  | 0 => by simp [arrN]
  | n + 1 => by
    rw [arrN, arrN, arrN_push l x p hp n, List.filter_append]
    by_cases h1 : n + 1 ≤ p
    · rw [if_pos h1, if_pos (by omega)]
      have : ([x].filter fun e => decide (e.m.pri = (n : Int))) = [] := by simp; omega
      rw [this, List.append_nil]
    · rw [if_neg h1]
      by_cases h2 : n ≤ p
      · have hnp : n = p := by omega
        subst hnp
        have e1 : ([x].filter fun e => decide (e.m.pri = (n : Int))) = [x] := by simp [hp]
        rw [if_pos h2, e1, List.filter_append, List.filter_append]
        have a1 : ((l.filter fun e => decide (e.m.pri = (n : Int))).filter fun e => decide (x.m.pri ≤ e.m.pri)) = l.filter fun e => decide (e.m.pri = (n : Int)) := List.filter_eq_self.2 fun e he => by have := (List.mem_filter.1 he).2; simp at this ⊢; omega
        have a2 : ((l.filter fun e => decide (e.m.pri = (n : Int))).filter fun e => !decide (x.m.pri ≤ e.m.pri)) = [] := List.filter_eq_nil_iff.2 fun e he => by have := (List.mem_filter.1 he).2; simp at this ⊢; omega
        have a3 : ((arrN l n).filter fun e => decide (x.m.pri ≤ e.m.pri)) = [] := List.filter_eq_nil_iff.2 fun e he => by have := (arrN_mem he).2; simp; omega
        have a4 : ((arrN l n).filter fun e => !decide (x.m.pri ≤ e.m.pri)) = arrN l n := List.filter_eq_self.2 fun e he => by have := (arrN_mem he).2; simp; omega
        rw [a1, a2, a3, a4]; simp
      · have e1 : ([x].filter fun e => decide (e.m.pri = (n : Int))) = [] := by simp; omega
        rw [if_neg h2, e1, List.append_nil, List.filter_append, List.filter_append]
        have a1 : ((l.filter fun e => decide (e.m.pri = (n : Int))).filter fun e => decide (x.m.pri ≤ e.m.pri)) = l.filter fun e => decide (e.m.pri = (n : Int)) := List.filter_eq_self.2 fun e he => by have := (List.mem_filter.1 he).2; simp at this ⊢; omega
        have a2 : ((l.filter fun e => decide (e.m.pri = (n : Int))).filter fun e => !decide (x.m.pri ≤ e.m.pri)) = [] := List.filter_eq_nil_iff.2 fun e he => by have := (List.mem_filter.1 he).2; simp at this ⊢; omega
        rw [a1, a2]; simp
theorem arr_push (l : List Ri) (x : Ri) (h : 0 ≤ x.m.pri ∧ x.m.pri ≤ 9) : arr (l ++ [x]) = (arr l).filter (fun e => decide (x.m.pri ≤ e.m.pri)) ++ x :: (arr l).filter (fun e => !decide (x.m.pri ≤ e.m.pri)) := by
  have := arrN_push l x x.m.pri.toNat (by omega) 10
  rw [if_neg (by omega)] at this
  exact this
/-! by their numbers -/
section
variable {α : Type} {key : α → Int} {xs : List α}
theorem key_inj (h : (xs.map key).Nodup) {i j : Nat} {a b : α} (ha : xs[i]? = some a) (hb : xs[j]? = some b) (hk : key a = key b) : i = j := by
  obtain ⟨hi, rfl⟩ := List.getElem?_eq_some_iff.1 ha
  obtain ⟨hj, rfl⟩ := List.getElem?_eq_some_iff.1 hb
  have hn := List.pairwise_iff_getElem.1 h
  rcases Nat.lt_trichotomy i j with hlt | rfl | hlt
  · exact absurd (by rw [List.getElem_map, List.getElem_map]; exact hk) (hn i j (by simpa using hi) (by simpa using hj) hlt)
  · rfl
  · exact absurd (by rw [List.getElem_map, List.getElem_map]; exact hk.symm) (hn j i (by simpa using hj) (by simpa using hi) hlt)
theorem key_eq (h : (xs.map key).Nodup) {a b : α} (ha : a ∈ xs) (hb : b ∈ xs) (hk : key a = key b) : a = b := by
  obtain ⟨i, hi, rfl⟩ := List.getElem_of_mem ha
  obtain ⟨j, hj, rfl⟩ := List.getElem_of_mem hb
  have := key_inj h (List.getElem?_eq_getElem hi) (List.getElem?_eq_getElem hj) hk
  subst this; rfl
theorem set_by_key (h : (xs.map key).Nodup) (f : α → α) {k : Nat} {e : α} (he : xs[k]? = some e) : xs.set k (f e) = xs.map fun x => if key x = key e then f x else x := by
  refine List.ext_getElem? fun j => ?_
  rw [List.getElem?_set, List.getElem?_map]
  have hk := (List.getElem?_eq_some_iff.1 he).1
  by_cases hj : k = j
  · subst hj
    rw [if_pos rfl, if_pos hk, he]; simp
  · rw [if_neg hj]
    cases hx : xs[j]? with
    | none => rfl
    | some a =>
      have : ¬ key a = key e := fun hh => hj (key_inj h he hx hh.symm)
      simp [this]
theorem erase_by_key (h : (xs.map key).Nodup) {k : Nat} {e : α} (he : xs[k]? = some e) : xs.eraseIdx k = xs.filter fun x => !decide (key x = key e) := by
  induction xs generalizing k with
  | nil => simp at he
  | cons a l ih =>
    rw [List.map_cons, List.nodup_cons] at h
    cases k with
    | zero =>
      simp at he; subst he
      rw [List.eraseIdx_zero, List.tail_cons, List.filter_cons, if_neg (by simp)]
      refine (List.filter_eq_self.2 fun x hx => ?_).symm
      have : ¬ key x = key a := fun hh => h.1 (hh ▸ List.mem_map_of_mem (f := key) hx)
      simp [this]
    | succ k =>
      simp at he
      rw [List.eraseIdx_cons_succ, ih h.2 he, List.filter_cons, if_pos]
      have : ¬ key a = key e := fun hh => h.1 (hh ▸ List.mem_map_of_mem (f := key) (List.mem_of_getElem? he))
      simp [this]
end
/-! the two beside each other -/
def QOrd (x y : It) : Prop := y.m.pri < x.m.pri ∨ (x.m.pri = y.m.pri ∧ x.line < y.line)
structure QRel (n : Int) (q : Qu) (l : List Ri) : Prop where
  rel : q.l.map toRi = arr l
  ord : q.l.Pairwise QOrd
  lines : ∀ e ∈ q.l, 0 ≤ e.line ∧ e.line < q.next
  pris : ∀ e ∈ l, 0 ≤ e.m.pri ∧ e.m.pri ≤ 9
  ids : (l.map (·.m.id)).Nodup
  len : (l.length : Nat) ≤ n
  next : 0 ≤ q.next ∧ q.next ≤ n
section
variable {n : Int} {q : Qu} {l : List Ri} {m : Ms} {u : Int}
theorem QRel.len_eq (h : QRel n q l) : q.l.length = l.length := by
  have := congrArg List.length h.rel
  rw [List.length_map, (arr_perm h.pris).length_eq] at this
  exact this
theorem QRel.mem (h : QRel n q l) {e : It} (he : e ∈ q.l) : toRi e ∈ l := by
  have : toRi e ∈ arr l := by rw [← h.rel]; exact List.mem_map_of_mem he
  exact (arr_perm h.pris).mem_iff.1 this
theorem QRel.qids (h : QRel n q l) : (q.l.map (·.m.id)).Nodup := by
  have h1 : (q.l.map (·.m.id)) = (arr l).map (·.m.id) := by rw [← h.rel, List.map_map]; rfl
  rw [h1]
  exact (((arr_perm h.pris).map _).nodup_iff).2 h.ids
theorem QRel.qpri (h : QRel n q l) {e : It} (he : e ∈ q.l) : 0 ≤ e.m.pri ∧ e.m.pri ≤ 9 := h.pris _ (h.mem he)
theorem QRel.cmp (h : QRel n q l) (m : Ms) (u : Int) {e : It} (he : e ∈ q.l) : cmpIt e (qitem q m u) < 0 ↔ m.pri ≤ e.m.pri := by
  have := h.lines e he
  unfold cmpIt compI qitem
  dsimp only
  split <;> omega
theorem QRel.ok (h : QRel n q l) (hn : n < 100000) : QuOk q := by
  have hle := h.len_eq
  have hl2 := h.len
  refine ⟨by omega, fun e he => ?_, ⟨h.next.1, by have := h.next; omega⟩, fun m u i j a b hij ha hb hlt => ?_⟩
  · have h1 := h.qpri he; have h2 := h.lines e he; have h3 := h.next
    unfold smallIt small; omega
  · have ma := List.mem_of_getElem? ha
    have mb := List.mem_of_getElem? hb
    rw [h.cmp m u ma]
    rw [h.cmp m u mb] at hlt
    rcases Nat.lt_or_ge i j with hlt2 | hge
    · obtain ⟨hi, rfl⟩ := List.getElem?_eq_some_iff.1 ha
      obtain ⟨hj, rfl⟩ := List.getElem?_eq_some_iff.1 hb
      have := List.pairwise_iff_getElem.1 h.ord i j hi hj hlt2
      unfold QOrd at this
      omega
    · obtain rfl : i = j := by omega
      rw [ha] at hb; cases hb; exact hlt
theorem QRel.push (h : QRel n q l) (m : Ms) (u : Int) : (qpush q m u).l = q.l.filter (fun e => decide (m.pri ≤ e.m.pri)) ++ qitem q m u :: q.l.filter (fun e => !decide (m.pri ≤ e.m.pri)) := by
  have hc : (q.l.takeWhile fun e => decide (cmpIt e (qitem q m u) < 0)) = q.l.takeWhile fun e => decide (m.pri ≤ e.m.pri) := by
    have : ∀ l : List It, (∀ e ∈ l, e ∈ q.l) → (l.takeWhile fun e => decide (cmpIt e (qitem q m u) < 0)) = l.takeWhile fun e => decide (m.pri ≤ e.m.pri) := by
      intro l
      induction l with
      | nil => intro _; rfl
      | cons a l ih =>
        intro hl
        have e1 : decide (cmpIt a (qitem q m u) < 0) = decide (m.pri ≤ a.m.pri) := decide_eq_decide.2 (h.cmp m u (hl a (by simp)))
        simp only [List.takeWhile_cons, e1, ih fun e he => hl e (by simp [he])]
    exact this q.l fun _ h => h
  obtain ⟨t1, t2⟩ := take_len_while (fun e : It => decide (m.pri ≤ e.m.pri)) q.l
  obtain ⟨f1, f2⟩ := take_while_filter (p := fun e : It => decide (m.pri ≤ e.m.pri)) (l := q.l) (h.ord.imp fun {x y} hxy hy => by
    unfold QOrd at hxy; simp at hy ⊢; omega)
  unfold qpush srchIt
  dsimp only
  rw [hc, t1, t2, f1, f2]
theorem QRel.pushed (h : QRel n q l) (hp : 0 ≤ m.pri ∧ m.pri ≤ 9) (hid : ∀ e ∈ l, e.m.id ≠ m.id) (u : Int) : QRel (n + 1) (qpush q m u) (rpush l m u) := by
  have hl2 : ∀ e ∈ (qpush q m u).l, e = qitem q m u ∨ e ∈ q.l := fun e he => by
    rw [h.push] at he
    simp only [List.mem_append, List.mem_cons, List.mem_filter] at he
    rcases he with ⟨a, _⟩ | a | ⟨a, _⟩
    · exact .inr a
    · exact .inl a
    · exact .inr a
  have hnx : (qpush q m u).next = q.next + 1 := rfl
  refine ⟨?_, ?_, fun e he => ?_, fun e he => ?_, ?_, ?_, by have := h.next; rw [hnx]; omega⟩
  · rw [h.push, List.map_append, List.map_cons]
    unfold rpush
    rw [arr_push l _ hp, ← h.rel, List.filter_map, List.filter_map]
    have : toRi (qitem q m u) = ⟨m, rneg u, -1⟩ := by
      unfold toRi qitem rneg
      dsimp only
      rw [show max u (-1) = if u < 0 then -1 else u by split <;> omega]
    rw [this]
    rfl
  · rw [h.push, List.pairwise_append, List.pairwise_cons]
    refine ⟨h.ord.sublist List.filter_sublist, ⟨fun e he => ?_, h.ord.sublist List.filter_sublist⟩, fun a ha b hb => ?_⟩
    · obtain ⟨h1, h2⟩ := List.mem_filter.1 he
      simp at h2
      left; unfold qitem; dsimp only; omega
    · obtain ⟨h1, h2⟩ := List.mem_filter.1 ha
      have i1 := h.lines a h1
      simp at h2
      rcases List.mem_cons.1 hb with rfl | hb
      · unfold QOrd qitem; dsimp only; omega
      · obtain ⟨h3, h4⟩ := List.mem_filter.1 hb
        simp at h4
        left; omega
  · rw [hnx]
    rcases hl2 e he with rfl | h1
    · have := h.next; unfold qitem; dsimp only; omega
    · have := h.lines e h1; omega
  · rcases List.mem_append.1 he with h1 | h1
    · exact h.pris e h1
    · rw [List.mem_singleton] at h1; subst h1; exact hp
  · unfold rpush
    rw [List.map_append, List.nodup_append]
    refine ⟨h.ids, by simp, fun a ha b hb => ?_⟩
    obtain ⟨e, he, rfl⟩ := List.mem_map.1 ha
    simp at hb; subst hb
    exact hid e he
  · unfold rpush; have := h.len; simp; omega
/-- one whose items are some of its items, each with the same message and place -/
theorem QRel.part (h : QRel n q l) {ql : List It} {l' : List Ri} (hs : (ql.map ml).Sublist (q.l.map ml)) (hr : ql.map toRi = arr l') (hsub : (l'.map (·.m)).Sublist (l.map (·.m))) : QRel n ⟨ql, q.next⟩ l' := by
  have hm : ∀ e ∈ ql, ∃ e' ∈ q.l, e'.m = e.m ∧ e'.line = e.line := fun e he => by
    obtain ⟨e', h1, h2⟩ := List.mem_map.1 (hs.subset (List.mem_map_of_mem (f := ml) he))
    exact ⟨e', h1, by simpa [ml] using h2⟩
  refine ⟨hr, ?_, fun e he => ?_, fun e he => ?_, ?_, ?_, h.next⟩
  · have h1 : (q.l.map ml).Pairwise fun x y => y.1.pri < x.1.pri ∨ (x.1.pri = y.1.pri ∧ x.2 < y.2) := List.pairwise_map.2 h.ord
    have h2 := h1.sublist hs
    rw [List.pairwise_map] at h2
    exact h2
  · obtain ⟨e', h1, _, h2⟩ := hm e he; rw [← h2]; exact h.lines e' h1
  · obtain ⟨e', h1, h2⟩ := List.mem_map.1 (hsub.subset (List.mem_map_of_mem (f := (·.m)) he))
    have := h.pris e' h1
    rw [h2] at this; exact this
  · have h1 := h.ids
    have e1 : ∀ l : List Ri, l.map (·.m.id) = (l.map (·.m)).map (·.id) := fun l => by rw [List.map_map]; rfl
    rw [e1] at h1 ⊢
    exact h1.sublist (hsub.map _)
  · have := hsub.length_le; have := h.len; simp at *; omega
theorem QRel.le (h : QRel n q l) {k : Int} (hk : n ≤ k) : QRel k q l := ⟨h.rel, h.ord, h.lines, h.pris, h.ids, by have := h.len; omega, by have := h.next; omega⟩
theorem QRel.find (h : QRel n q l) : (q.l.find? availB).map toRi = (rgetI l).map (rAt l) := by
  rw [← rget_arr, ← h.rel, List.find?_map]; rfl
theorem find_idx {l : List It} {p : It → Bool} : l.find? p = (l.findIdx? p).map (itAt l) := by
  cases hf : l.findIdx? p with
  | none => rw [List.find?_eq_none.2 fun x hx => by simpa using List.findIdx?_eq_none_iff.1 hf x hx]; rfl
  | some k =>
    obtain ⟨h1, h2, h3⟩ := List.findIdx?_eq_some_iff_getElem.1 hf
    rw [Option.map_some, itAt_of (List.getElem?_eq_getElem h1)]
    exact List.find?_eq_some_iff_getElem.2 ⟨h2, k, h1, rfl, fun j hj => by simpa using h3 j hj⟩
theorem find_idxR {l : List Ri} {p : Ri → Bool} : l.find? p = (l.findIdx? p).map (rAt l) := by
  cases hf : l.findIdx? p with
  | none => rw [List.find?_eq_none.2 fun x hx => by simpa using List.findIdx?_eq_none_iff.1 hf x hx]; rfl
  | some k =>
    obtain ⟨h1, h2, h3⟩ := List.findIdx?_eq_some_iff_getElem.1 hf
    rw [Option.map_some, rAt_of (List.getElem?_eq_getElem h1)]
    exact List.find?_eq_some_iff_getElem.2 ⟨h2, k, h1, rfl, fun j hj => by simpa using h3 j hj⟩
theorem QRel.get (h : QRel n q l) (u : Int) : qgetM q = rgetM l ∧ qgetE q = rgetE l ∧ QRel n (qget q u) (rget l u) := by
  have hf := h.find
  rw [find_idx] at hf
  unfold qgetM qgetE qget rgetM rgetE rget
  change ((qgetI q).map (itAt q.l)).map toRi = _ at hf
  cases hq : qgetI q with
  | none =>
    rw [hq] at hf
    cases hr : rgetI l with
    | none => exact ⟨rfl, rfl, h⟩
    | some i => rw [hr] at hf; simp at hf
  | some k =>
    rw [hq] at hf
    cases hr : rgetI l with
    | none => rw [hr] at hf; simp at hf
    | some i =>
      rw [hr] at hf
      simp only [Option.map_some, Option.some.injEq] at hf
      obtain ⟨hk, _, _⟩ := List.findIdx?_eq_some_iff_getElem.1 hq
      have he : q.l[k]? = some (itAt q.l k) := by rw [itAt_of (List.getElem?_eq_getElem hk)]; exact List.getElem?_eq_getElem hk
      have hil : i < l.length := by
        obtain ⟨j, hj, hji⟩ := List.getElem_of_mem (List.mem_of_find?_eq_some hr)
        exact rord_lt (by rw [List.getElem?_eq_getElem hj, hji])
      have hi : l[i]? = some (rAt l i) := by rw [rAt_of (List.getElem?_eq_getElem hil)]; exact List.getElem?_eq_getElem hil
      have hmm : (itAt q.l k).m = (rAt l i).m := by rw [← hf]; rfl
      refine ⟨hmm, rfl, ?_⟩
      dsimp only
      by_cases hu : u < 0
      · rw [if_pos hu, if_neg (by omega)]
        refine h.part ((List.eraseIdx_sublist _ _).map _) ?_ ((List.eraseIdx_sublist _ _).map _)
        rw [erase_by_key (key := fun x : It => x.m.id) h.qids he, erase_by_key (key := fun x : Ri => x.m.id) h.ids hi, arr_filter, ← h.rel, List.filter_map, ← hmm]
        rfl
      · rw [if_neg hu, if_pos (by omega)]
        have e1 : (q.l.set k { itAt q.l k with got := u }) = q.l.map fun x => if x.m.id = (itAt q.l k).m.id then { x with got := u } else x := set_by_key (key := fun x : It => x.m.id) h.qids (fun x => { x with got := u }) he
        have e2 : (l.set i { rAt l i with got := u }) = l.map fun x => if x.m.id = (rAt l i).m.id then { x with got := u } else x := set_by_key (key := fun x : Ri => x.m.id) h.ids (fun x => { x with got := u }) hi
        refine h.part ?_ ?_ ?_
        · rw [e1, List.map_map]
          have : (ml ∘ fun x : It => if x.m.id = (itAt q.l k).m.id then { x with got := u } else x) = ml := by funext x; simp only [Function.comp]; split <;> rfl
          rw [this]; exact .refl _
        · rw [e1, e2, arr_map (fun e => by split <;> rfl), ← h.rel, List.map_map, List.map_map, ← hmm]
          congr 1
          funext x
          simp only [Function.comp]
          unfold toRi
          split
          · rfl
          · rfl
        · rw [e2, List.map_map]
          have : ((fun x : Ri => x.m) ∘ fun x : Ri => if x.m.id = (rAt l i).m.id then { x with got := u } else x) = fun x => x.m := by funext x; simp only [Function.comp]; split <;> rfl
          rw [this]; exact .refl _
theorem QRel.has (h : QRel n q l) (id : Int) : qhas q id = decide (0 ≤ rfind l id) := by
  have h1 : rfind l id = fidx (ridB id) l := rfl
  rw [h1, fidx_any, Bool.eq_iff_iff, List.any_eq_true]
  unfold qhas
  rw [List.any_eq_true]
  constructor
  · rintro ⟨e, he, hb⟩; exact ⟨toRi e, h.mem he, hb⟩
  · rintro ⟨e, he, hb⟩
    have := (arr_perm h.pris).mem_iff.2 he
    rw [← h.rel] at this
    obtain ⟨x, hx, rfl⟩ := List.mem_map.1 this
    exact ⟨x, hx, hb⟩
theorem QRel.take (h : QRel n q l) (id : Int) : qtakeM q id = rtakeM l id ∧ qtakeE q id = rtakeE l id ∧ QRel n (qtake q id) (rtake l id) := by
  unfold qtakeM qtakeE qtake rtakeM rtakeE rtake
  cases hq : qtakeI q id with
  | none =>
    cases hr : rtakeI l id with
    | none => exact ⟨rfl, rfl, h⟩
    | some i =>
      obtain ⟨hi, hb, _⟩ := List.findIdx?_eq_some_iff_getElem.1 hr
      have := (arr_perm h.pris).mem_iff.2 (List.getElem_mem hi)
      rw [← h.rel] at this
      obtain ⟨x, hx, hxe⟩ := List.mem_map.1 this
      have h2 := List.findIdx?_eq_none_iff.1 hq x hx
      rw [← hxe] at hb
      have : idB id x = true := hb
      rw [this] at h2; simp at h2
  | some k =>
    obtain ⟨hk, hkb, _⟩ := List.findIdx?_eq_some_iff_getElem.1 hq
    have he : q.l[k]? = some (itAt q.l k) := by rw [itAt_of (List.getElem?_eq_getElem hk)]; exact List.getElem?_eq_getElem hk
    have hkb2 : (itAt q.l k).m.id = id := by rw [itAt_of (List.getElem?_eq_getElem hk)]; simpa [idB] using hkb
    have hmem := h.mem (List.mem_of_getElem? he)
    cases hr : rtakeI l id with
    | none =>
      have h2 := List.findIdx?_eq_none_iff.1 hr _ hmem
      have : ridB id (toRi (itAt q.l k)) = true := by unfold ridB toRi; simp [hkb2]
      rw [this] at h2; simp at h2
    | some i =>
      obtain ⟨hil, hib, _⟩ := List.findIdx?_eq_some_iff_getElem.1 hr
      have hi : l[i]? = some (rAt l i) := by rw [rAt_of (List.getElem?_eq_getElem hil)]; exact List.getElem?_eq_getElem hil
      have hib2 : (rAt l i).m.id = id := by rw [rAt_of (List.getElem?_eq_getElem hil)]; simpa [ridB] using hib
      have hee : toRi (itAt q.l k) = rAt l i := key_eq (key := fun x : Ri => x.m.id) h.ids hmem (List.mem_of_getElem? hi) (by show (itAt q.l k).m.id = _; rw [hkb2, hib2])
      have hmm : (itAt q.l k).m = (rAt l i).m := by rw [← hee]; rfl
      refine ⟨hmm, rfl, ?_⟩
      dsimp only
      refine h.part ((List.eraseIdx_sublist _ _).map _) ?_ ((List.eraseIdx_sublist _ _).map _)
      rw [erase_by_key (key := fun x : It => x.m.id) h.qids he, erase_by_key (key := fun x : Ri => x.m.id) h.ids hi, arr_filter, ← h.rel, List.filter_map, ← hmm]
      rfl
theorem QRel.ends (h : QRel n q l) (u : Int) (back : Bool) : QRel n (qends q u back) (rends l u back) := by
  unfold qends rends
  by_cases hu : u < 0
  · rw [if_pos hu, if_pos hu]; exact h
  · rw [if_neg hu, if_neg hu]
    refine h.part ?_ ?_ ?_
    · rw [List.map_map]
      exact (List.filter_sublist).map _
    · rw [arr_map (f := rfree u) (fun _ => rfl), arr_filter, ← h.rel, List.filter_map, List.map_map, List.map_map]
      rfl
    · rw [List.map_map]
      exact (List.filter_sublist).map _
theorem QRel.there (h : QRel n q l) : qthere q = rthere l := by
  rw [rthere_arr, ← h.rel, List.filter_map, List.map_map]; rfl
theorem QRel.kept (h : QRel n q l) : qkept q = rkept l := by
  rw [rkept_arr, ← h.rel, List.filter_map, List.map_map]; rfl
theorem QRel.putE (h : QRel n q l) (m : Ms) : qputE q m = rputE l m := by
  unfold qputE rputE
  rw [h.has, h.len_eq]
  by_cases h2 : 0 ≤ rfind l m.id <;> simp [h2]
theorem QRel.fresh (h : QRel n q l) {id : Int} (hf : ¬ 0 ≤ rfind l id) : ∀ e ∈ l, e.m.id ≠ id := fun e he hh => by
  have h1 : rfind l id = fidx (ridB id) l := rfl
  have : l.any (ridB id) = true := List.any_eq_true.2 ⟨e, he, by simp [ridB, hh]⟩
  rw [← fidx_any, ← h1] at this
  exact hf (by simpa using this)
theorem QRel.put (h : QRel n q l) (m : Ms) (u : Int) : QRel (n + 1) (qput q m u) (rput l m u) := by
  unfold qput rput
  rw [h.putE]
  by_cases h0 : rputE l m = 0
  · rw [if_pos h0, if_pos h0]
    have hr : msRight m = true := by
      cases hm : msRight m with
      | true => rfl
      | false => unfold rputE at h0; rw [hm] at h0; simp at h0
    have hf : ¬ 0 ≤ rfind l m.id := fun hh => by unfold rputE at h0; rw [hr] at h0; simp [hh] at h0
    obtain ⟨_, _, h3, h4, _⟩ := msRight_parts hr
    exact h.pushed ⟨h3, h4⟩ (h.fresh hf) u
  · rw [if_neg h0, if_neg h0]; exact h.le (by omega)
theorem qrel_new : QRel 0 ⟨[], 0⟩ [] := ⟨rfl, .nil, (fun _ h => by cases h), (fun _ h => by cases h), by simp, by simp, by decide, by decide⟩
end
end WB
/- what a law's row wants beside its walk: arguments opened, read again, a witness -/
namespace WB
open Go Go.RowKit Go.ChangeShapes Go.WideShapes Go.Deep
section
variable {H : Type} {enc : TypeId × Value → H}
theorem witness_row_sh {C : Checked} {os : Os} {f : FuncId} {fn : Func} {s : OpenSpec} {conds : List PathCond} {apart : Bool} {laid : List (String × DataW Unit)} (modest : Bool) (w0 : World) (args : Array Value) (hos : w0.os = os)
    (hsh : (w0.forCall (fun _ _ => 0) ⟨#[], args, []⟩).Shaped C.prog)
    (hok : Input.okWideB C.prog (w0.forCall (fun _ _ => 0) ⟨#[], args, []⟩) f ⟨#[], args, []⟩ = true)
    (hrow : s.preRow enc C.prog fn conds apart laid (w0.forCall (fun _ _ => 0) ⟨#[], args, []⟩).memory args) :
    ∃ (w : World) (tape : Tape) (i : Input), w.os = os ∧ (w.forCall tape i).Shaped C.prog ∧ i.vars = [] ∧ Input.okWide C.prog (w.forCall tape i) .any w.heap.size f i ∧
      s.preRow enc C.prog fn conds apart laid (w.forCall tape i).memory i.args ∧ ({ modest := modest } : Assume).holds C.prog (lone (Frame.enter C.prog f i.args .normal) [] (w.forCall tape i)) :=
  ⟨w0, fun _ _ => 0, ⟨#[], args, []⟩, hos, hsh, (Input.okWide_of_okWideB (base := 0) hok).1, (Input.okWide_of_okWideB hok).2, hrow, by
    simp only [Assume.holds]
    exact ⟨by simp, by simp, fun _ => Modest.zero, by simp, by simp⟩⟩
variable {P : Program}
/-- the arguments read again as they did -/
theorem law_args (hl : laidOutB P = true) {W W' : World} (hb : Below W.heap.size W W') : ∀ {ts : List TypeId} {vs : List Value} {ds : List (DataW H)} {ps : List MemPlace}, (ts.all fun t => P.readableRec t && decide (t < P.types.size)) = true →
    DataW.TrodAll enc P W 0 (fun _ => true) true ts vs ds ps → (∀ x ∈ ps, x.block < W.heap.size) → DataW.TrodAll enc P W' 0 (fun b => decide (b < W.heap.size)) true ts vs ds ps
  | [], [], [], _, _, h, _ => h
  | t :: ts, v :: vs, d :: ds, ps, hr, ⟨p, q, h1, h2, e⟩, hlt => by
    simp only [List.all_cons, Bool.and_eq_true, decide_eq_true_eq] at hr
    exact ⟨p, q, Below.trod hl hr.1.1 hr.1.2 h1 hb (fun x hx => hlt x (by rw [e]; exact List.mem_append_left _ hx)), law_args hl hb (by simpa using hr.2) h2 (fun x hx => hlt x (by rw [e]; exact List.mem_append_right _ hx)), e⟩
theorem list_of_each {α : Type} {p : Nat → α → Prop} : ∀ (n : Nat), (∀ i, i < n → ∃ x, p i x) → ∃ l : List α, l.length = n ∧ ∀ (i : Nat) (x : α), l[i]? = some x → p i x
  | 0, _ => ⟨[], rfl, fun i x h => by simp at h⟩
  | n + 1, h => by
    obtain ⟨l, hl, hp⟩ := list_of_each n fun i hi => h i (by omega)
    obtain ⟨x, hx⟩ := h n (by omega)
    refine ⟨l ++ [x], by simp [hl], fun i y hy => ?_⟩
    by_cases hi : i < l.length
    · rw [List.getElem?_append_left hi] at hy; exact hp i y hy
    · rw [List.getElem?_append_right (by omega)] at hy
      have : i - l.length = 0 := by
        rcases Nat.eq_zero_or_pos (i - l.length) with h0 | h0
        · exact h0
        · rw [List.getElem?_eq_none (by simp; omega)] at hy; simp at hy
      rw [this] at hy
      simp only [List.getElem?_cons_zero, Option.some.injEq] at hy
      rw [← hy, show i = n by omega]; exact hx
/-- a slice that came in -/
def RdA {α : Type} (W : World) (sz : Nat) (cf : α → List Value) (v : Value) (xs : List α) : Prop :=
  ∃ a cap, v = .slice a xs.length cap ∧ ∀ (i : Nat) (x : α), xs[i]? = some x → ∃ ad, a = some ad ∧ HasCells W (ad.add (i * sz)) (cf x)
theorem open_sl {α : Type} {φ : α → Prop} {cf : α → List Value} {W : World} {t e : TypeId} {v : Value} {d : DataW H} {p : List MemPlace} {r : Reach} {base sz : Nat} (ht : P.underlying t = some (.slice e)) (hv : Value.okWide P W r base t v)
    (h : DataW.Trod enc P W 0 (fun _ => true) true t v d p) (hsz : P.cellsOf e = sz) (rd : ∀ n cs y, DataW.trod enc P W 0 (fun _ => true) true n e cs = some y → ∃ x : α, φ x ∧ cs = cf x) :
    ∃ xs : List α, RdA W sz cf v xs ∧ ∀ x ∈ xs, φ x := by
  obtain ⟨a, len, cap, rfl⟩ := okWide_slice ht hv
  obtain ⟨fuel, hf⟩ := h
  rcases open_slice ht hf with ⟨hcs, _⟩ | ⟨a', len', cap', m, n, D, Pl, hcs, _, hl, _, hm, _, hi⟩
  · simp [Value.cells] at hcs
    obtain ⟨rfl, rfl, rfl⟩ := hcs
    exact ⟨[], ⟨none, 0, rfl, fun i x h => by simp at h⟩, fun x hx => by simp at hx⟩
  · simp [Value.cells] at hcs
    obtain ⟨rfl, rfl, rfl⟩ := hcs
    have key : ∀ i, i < len → ∃ x : α, φ x ∧ HasCells W (a'.add (i * sz)) (cf x) := fun i hlt => by
      obtain ⟨cs', hc, htr⟩ := hi i (by rw [hm]; simp; omega)
      obtain ⟨x, hx, rfl⟩ := rd n cs' _ htr
      obtain ⟨_, hlen, hcell⟩ := World.cells?_some hc
      refine ⟨x, hx, fun j c hj => ?_⟩
      have hlt2 := (List.getElem?_eq_some_iff.1 hj).1
      rw [← hsz]
      rw [hcell j (by omega)]; exact hj
    obtain ⟨l, hll, hp⟩ := list_of_each len key
    refine ⟨l, ⟨some a', cap, by rw [hll], fun i x hx => ⟨a', rfl, (hp i x hx).2⟩⟩, fun x hx => ?_⟩
    obtain ⟨i, hi, rfl⟩ := List.getElem_of_mem hx
    exact (hp i _ (List.getElem?_eq_getElem hi)).1
end
end WB
namespace WB
open Go Go.RowKit Go.ChangeShapes Go.WideShapes Go.Deep
section
variable {H : Type} {enc : TypeId × Value → H} {P : Program} {W : World} {base : Nat} {spare : Nat → Bool} {held : Bool}
theorem trod_len {t : TypeId} {fs : Array Field} {n : Nat} {cs : List Value} {y : DataW H × List MemPlace} (hu : P.underlying t = some (.struct fs)) (h : DataW.trod enc P W base spare held n t cs = some y) {k : Nat} (hk : P.cellsOf t = k) : cs.length = k := by
  obtain ⟨_, _, _, _, hl, _⟩ := DataW.trod_struct hu h
  rw [hl, hk]
theorem trod_field {t : TypeId} {fs : Array Field} {n : Nat} {cs : List Value} {y : DataW H × List MemPlace} (hu : P.underlying t = some (.struct fs)) (h : DataW.trod enc P W base spare held n t cs = some y) (i off : Nat) (ty : TypeId) (sz : Nat)
    (hf : (fs[i]?).map (fun f => (f.offset, f.type)) = some (off, ty)) (hc : P.cellsOf ty = sz) : ∃ m y', DataW.trod enc P W base spare held m ty ((cs.drop off).take sz) = some y' := by
  obtain ⟨xs, m, _, _, _, hx, hall⟩ := DataW.trod_struct hu h
  cases hfi : fs[i]? with
  | none => rw [hfi] at hf; simp at hf
  | some f =>
    rw [hfi] at hf
    simp only [Option.map_some, Option.some.injEq, Prod.mk.injEq] at hf
    obtain ⟨rfl, rfl⟩ := hf
    have h1 := hall i f hfi
    have hlt : i < xs.length := by rw [hx]; exact (Array.getElem?_eq_some_iff.1 hfi).1
    rw [List.getElem?_eq_getElem hlt, hc] at h1
    exact ⟨m, _, h1⟩
theorem trod_str {t : TypeId} {fs : Array Field} {n : Nat} {cs : List Value} {y : DataW H × List MemPlace} (hu : P.underlying t = some (.struct fs)) (h : DataW.trod enc P W base spare held n t cs = some y) (i off : Nat) (ty : TypeId)
    (hf : (fs[i]?).map (fun f => (f.offset, f.type)) = some (off, ty)) (hc : P.cellsOf ty = 1) (hty : P.underlying ty = some .string) : ∃ s : ByteArray, cs[off]? = some (.string s) ∧ s.size ≤ maxLen := by
  obtain ⟨m, y', h1⟩ := trod_field hu h i off ty 1 hf hc
  obtain ⟨s, e, _, hs⟩ := DataW.trod_string hty h1
  refine ⟨s, ?_, hs⟩
  have := congrArg (fun l => l[0]?) e
  simpa using this
theorem trod_i {t : TypeId} {fs : Array Field} {n : Nat} {cs : List Value} {y : DataW H × List MemPlace} (hu : P.underlying t = some (.struct fs)) (h : DataW.trod enc P W base spare held n t cs = some y) (i off : Nat) (ty : TypeId) {k : IntKind}
    (hf : (fs[i]?).map (fun f => (f.offset, f.type)) = some (off, ty)) (hc : P.cellsOf ty = 1) (hty : P.underlying ty = some (.int k)) : ∃ z : Int, cs[off]? = some (.int k z) ∧ (Lit.int k z).wf = true := by
  obtain ⟨m, y', h1⟩ := trod_field hu h i off ty 1 hf hc
  obtain ⟨z, e, _, hz⟩ := DataW.trod_int hty h1
  refine ⟨z, ?_, hz⟩
  have := congrArg (fun l => l[0]?) e
  simpa using this
theorem trod_b {t : TypeId} {fs : Array Field} {n : Nat} {cs : List Value} {y : DataW H × List MemPlace} (hu : P.underlying t = some (.struct fs)) (h : DataW.trod enc P W base spare held n t cs = some y) (i off : Nat) (ty : TypeId)
    (hf : (fs[i]?).map (fun f => (f.offset, f.type)) = some (off, ty)) (hc : P.cellsOf ty = 1) (hty : P.underlying ty = some .bool) : ∃ z : Bool, cs[off]? = some (.bool z) := by
  obtain ⟨m, y', h1⟩ := trod_field hu h i off ty 1 hf hc
  obtain ⟨z, e, _⟩ := DataW.trod_bool hty h1
  refine ⟨z, ?_⟩
  have := congrArg (fun l => l[0]?) e
  simpa using this
end
end WB
/- waybilllaw.QueuePlays: the walk -/
namespace Go.Proofs.YtjhogocabcdjbaaGreatDoor
open Go Go.RowKit WB
structure Qi where
  what : Int
  unit : Int
  m : Ms
def qiC (x : Qi) : List Value := [.int .i64 x.what, .int .i64 x.unit, .int .i64 x.m.id, .int .i64 x.m.pri, .string x.m.body, .string x.m.queue, .int .i64 x.m.house]
theorem qnew {w0 w : World} {b : Nat} {L : List HP} (h : St w0 (blk b (.cells [Value.slice none 0 0, .int .i64 0].toArray 25 (0, 0)) :: L) w) : St w0 (quP b ⟨[], 0⟩ :: L) w :=
  quP_mk (v := .slice none 0 0) ((SL_nil (E := 107) (sz := 8) (cf := itC) h).pick (.tail .head))
theorem rqnew {w0 w : World} {b : Nat} {L : List HP} (h : St w0 (blk b (.cells [Value.slice none 0 0].toArray 29 (0, 0)) :: L) w) : St w0 (rqP b [] :: L) w :=
  rqP_mk (v := .slice none 0 0) ((SL_nil (E := 47) (sz := 7) (cf := riC) h).pick (.tail .head))
set_option maxRecDepth 100000 in
theorem plays_e (w0 : World) (L : List HP) (v : Value) (xs : List Qi) (hin : ∀ w, St w0 L w → RdA w 7 qiC v xs) (hsz : ∀ x ∈ xs, x.m.body.size ≤ maxLen ∧ x.m.queue.size ≤ maxLen) (hg : ErrType w0) :
    KE Tryz.prog 3 #[v] w0 L (fun u M => u = .bool true ∧ M = L) := by
  refine KE.mk (n := 194) Tryz.func3 rfl Tryz.ntmps3 (by simp) ?_
  intro w hw
  have hgw : ErrType w := (Ext.of_below hw.below).cell hg
  obtain ⟨sa, cap, rfl, hc⟩ := hin w hw
  have fin : ∀ (w' : World) (M : List HP), St w M w' → ∃ v L', Ending.returned (.bool true) = Ending.returned v ∧ (v = .bool true ∧ L' = L) ∧ St w0 L' w' ∧ Below w.heap.size w w' := fun w' M hs => ⟨_, _, rfl, ⟨rfl, rfl⟩, hw.below_step hs.below, hs.below⟩
  repeat ((with_reducible refine K.seq ?_))
  refine K.reg ?_
  refine KO.as rfl rfl ?_
  refine KO.nil ?_
  repeat (first | (with_reducible refine K.seq ?_) | (with_reducible refine KQ.next ?_))
  refine K.reg ?_
  refine KO.mv rfl rfl ?_
  refine KO.len rfl Tryz.underlying22 rfl ?_
  refine KO.gtr rfl rfl rfl ?_
  refine KO.nil ?_
  repeat ((with_reducible refine KQ.next ?_))
  refine K.condD rfl (fun h => ?_) (fun h => ?_)
  · repeat ((with_reducible refine K.seq ?_))
    refine K.reg ?_
    refine KO.as rfl rfl ?_
    refine KO.nil ?_
    repeat (first | (with_reducible refine KQ.next ?_) | (with_reducible refine KQ.then_ret ?_) | (with_reducible refine K.ret ?_))
    refine KQ.ret1 rfl rfl (fun w' hs => fin w' _ hs)
  have hlen : xs.length ≤ 100 := by omega
  repeat (first | (with_reducible refine K.seq ?_) | (with_reducible refine KQ.next ?_) | (with_reducible refine K.skip ?_))
  refine K.reg ?_
  refine KO.alloc rfl Tryz.zeroValue25 (by exact rfl) rfl ?_; intro b3
  refine KO.nil ?_
  repeat (first | (with_reducible refine K.seq ?_) | (with_reducible refine KQ.next ?_))
  refine K.reg ?_
  refine KO.bldN (pl := [(0, 1)]) rfl Tryz.zeroValue29 Tryz.runUnderlying29 (by intro w; simp [Tryz.sizeOf27]) (by exact rfl) rfl ?_
  refine KO.box rfl rfl (by exact rfl) rfl ?_; intro b21
  refine KO.as rfl rfl ?_
  refine KO.nil ?_
  repeat (first | (with_reducible refine K.seq ?_) | (with_reducible refine KQ.next ?_))
  refine K.reg ?_
  refine KO.as rfl rfl ?_
  refine KO.nil ?_
  repeat (first | (with_reducible refine KQ.next ?_) | (with_reducible refine K.block ?_))
  refine K.loop (fun s : Nat × Qu × List Ri => [(0, .slice sa xs.length cap), (3, .pointer (some ⟨b3, 0, none⟩)), (4, .pointer (some ⟨b21, 0, none⟩)), (5, .int .i64 (s.1 : Nat))])
    (fun s => [quP b3 s.2.1, rqP b21 s.2.2]) (fun s => s.1 ≤ xs.length ∧ QRel (s.1 : Nat) s.2.1 s.2.2) (fun s => xs.length - s.1) (0, ⟨[], 0⟩, [])
    ⟨Nat.zero_le _, qrel_new⟩ ⟨rfl, rfl, rfl, rfl, trivial⟩ (fun _ h => qnew ((rqnew h).pick (.tail .head))) ?_
  rintro ⟨i, q, l⟩ ⟨hi, hq⟩
  dsimp only at hi hq ⊢
  repeat ((with_reducible refine K.seq ?_))
  refine K.reg ?_
  refine KO.mv rfl rfl ?_
  refine KO.mv rfl rfl ?_
  refine KO.len rfl Tryz.underlying22 rfl ?_
  refine KO.lss rfl rfl rfl ?_
  refine KO.nil ?_
  repeat ((with_reducible refine KQ.next ?_))
  refine K.condD rfl (fun h1 => ?_) (fun h1 => ?_)
  · refine K.skip ?_
    refine KQ.next ?_
    obtain ⟨x, hx⟩ : ∃ e, xs[i]? = some e := ⟨xs[i], List.getElem?_eq_getElem (by omega)⟩
    obtain ⟨ad, rfl, hcell⟩ := hc i x hx
    obtain ⟨hsb, hsq⟩ := hsz x (List.mem_of_getElem? hx)
    have hok := hq.ok (by omega)
    have hll := hq.len
    have hlq := hq.len_eq
    refine K.mid (fun s : Qu × List Ri => [(0, .slice (some ad) xs.length cap), (3, .pointer (some ⟨b3, 0, none⟩)), (4, .pointer (some ⟨b21, 0, none⟩)), (5, .int .i64 (i : Nat))]) (fun s => [quP b3 s.1, rqP b21 s.2]) (fun s => QRel ((i : Nat) + 1) s.1 s.2) ?_ ?_
    · refine K.block ?_
      repeat ((with_reducible refine K.seq ?_))
      refine K.reg ?_
      refine KO.mv rfl rfl ?_
      refine KO.mv rfl rfl ?_
      refine KO.idxH rfl rfl Tryz.runUnderlying22 Tryz.sizeOf33 (by exact rfl) (by omega) rfl ?_
      refine KO.ldN0 (cs := (qiC x).toArray) rfl rfl Tryz.isAgg33 Tryz.sizeOf33 rfl hcell rfl ?_
      refine KO.alloc rfl Tryz.zeroValue33 (by exact rfl) rfl ?_; intro b6
      refine KO.sto0 rfl rfl rfl (by exact rfl) (by exact Tryz.sizeOf33) (by exact rfl) (by with_reducible (repeat (exact Pick.head))) (by exact rfl) ?_
      refine KO.nil ?_
      repeat (first | (with_reducible refine K.seq ?_) | (with_reducible refine KQ.next ?_))
      refine K.reg ?_
      refine KO.fo0 (off := 2) rfl Tryz.runUnderlying33 rfl rfl Tryz.sizeOf31 rfl ?_
      (refine KO.ldB rfl rfl Tryz.isAgg31 Tryz.sizeOf31 (by with_reducible (repeat (exact Pick.head))) (by (try simp only [List.drop_zero, List.drop_succ_cons, List.take_succ_cons, List.take_zero]); (try exact rfl)) (by exact rfl) rfl ?_)
      refine KO.ce (cp := []) rfl rfl rfl Tryz.call9 rfl (small_e w _ x.m) ?_; rintro v' L' ⟨rfl, rfl⟩
      refine KO.not rfl rfl ?_
      refine KO.nil ?_
      repeat ((with_reducible refine KQ.next ?_))
      refine K.cond rfl (fun h2 => ?_) (fun h2 => ?_)
      · repeat (first | (with_reducible refine KQ.then_exit ?_) | (with_reducible refine KQ.blk_exit ?_) | (with_reducible refine K.exit ?_))
        exact KQ.mid (q, l) (hq.le (by omega)) ⟨rfl, rfl, rfl, rfl, trivial⟩ (fun _ h => h.all (by with_reducible repeat (first | exact PAll.nil | refine PAll.cons (by with_reducible repeat (first | exact Pick.head | apply Pick.tail)) ?_)))
      refine K.skip ?_
      refine KQ.next ?_
      refine K.mid (fun s : Qu × List Ri => [(0, .slice (some ad) xs.length cap), (3, .pointer (some ⟨b3, 0, none⟩)), (4, .pointer (some ⟨b21, 0, none⟩)), (5, .int .i64 (i : Nat)), (6, .pointer (some ⟨b6, 0, none⟩))]) (fun s => [quP b3 s.1, rqP b21 s.2, blk b6 (.cells (qiC x).toArray 33 (0, 0))]) (fun s => QRel ((i : Nat) + 1) s.1 s.2) ?_ ?_
      · repeat ((with_reducible refine K.seq ?_))
        refine K.reg ?_
        refine KO.fo0 (off := 0) rfl Tryz.runUnderlying33 rfl rfl Tryz.sizeOf3 rfl ?_
        refine KO.ld rfl rfl Tryz.isAgg3 (by with_reducible (repeat (exact Pick.head))) (by exact rfl) rfl ?_
        refine KO.nil ?_
        repeat (first | (with_reducible refine K.seq ?_) | (with_reducible refine KQ.next ?_) | (with_reducible refine K.block ?_))
        refine K.reg ?_
        refine KO.eqI rfl rfl rfl ?_
        refine KO.as rfl rfl ?_
        refine KO.nil ?_
        repeat ((with_reducible refine KQ.next ?_))
        refine K.condD rfl (fun hw0 => ?_) (fun hw0 => ?_)
        · repeat ((with_reducible refine K.seq ?_))
          refine K.drawX [.pure, .read, .pure, .read, .write, .pure, .pure, .read, .pure, .read, .write, .write, .pure] [(4, 7), (4, 9)] [[0, 1, 2, 3, 5, 6, 8, 4, 7, 9, 10, 11, 12], [0, 1, 2, 3, 5, 6, 8, 9, 4, 7, 10, 11, 12], [0, 1, 2, 3, 5, 6, 7, 8, 4, 9, 10, 11, 12], [0, 1, 2, 3, 5, 6, 7, 8, 9, 4, 10, 11, 12]] (by kernel_rfl) (by kernel_rfl) (by kernel_rfl) ⟨?_, ?_, ?_, ?_, trivial⟩
          focus
            show KO _ _ _ _ _ _ _ _ _ _
            refine KO.fo0 (off := 2) rfl Tryz.runUnderlying33 rfl rfl Tryz.sizeOf31 rfl ?_
            (refine KO.ldB rfl rfl Tryz.isAgg31 Tryz.sizeOf31 (by with_reducible (repeat (exact Pick.head))) (by (try simp only [List.drop_zero, List.drop_succ_cons, List.take_succ_cons, List.take_zero]); (try exact rfl)) (by exact rfl) rfl ?_)
            refine KO.fo0 (off := 1) rfl Tryz.runUnderlying33 rfl rfl Tryz.sizeOf3 rfl ?_
            refine KO.ld rfl rfl Tryz.isAgg3 (by with_reducible (repeat (exact Pick.head))) (by exact rfl) rfl ?_
            refine KO.mv rfl rfl ?_
            refine KO.fo0 (off := 2) rfl Tryz.runUnderlying33 rfl rfl Tryz.sizeOf31 rfl ?_
            refine KO.fo0 (off := 1) rfl Tryz.runUnderlying33 rfl rfl Tryz.sizeOf3 rfl ?_
            refine KO.cl (cp := []) rfl rfl rfl Tryz.call11 rfl (KC.pk1 (by with_reducible (repeat (first | exact Pick.head | apply Pick.tail))) (put_c w _ b3 q x.m x.unit hok hsb hsq)) ?_; rintro v' L' ⟨rfl, rfl⟩
            (refine KO.ldB rfl rfl Tryz.isAgg31 Tryz.sizeOf31 (by with_reducible (repeat (first | exact Pick.head | apply Pick.tail))) (by (try simp only [List.drop_zero, List.drop_succ_cons, List.take_succ_cons, List.take_zero]); (try exact rfl)) (by exact rfl) rfl ?_)
            refine KO.ld rfl rfl Tryz.isAgg3 (by with_reducible (repeat (first | exact Pick.head | apply Pick.tail))) (by exact rfl) rfl ?_
            refine KO.cl (cp := []) rfl rfl rfl Tryz.call12 rfl (KC.pk1 (by with_reducible (repeat (first | exact Pick.head | apply Pick.tail))) (rput_c w _ b21 l x.m x.unit (by omega) hsb hsq)) ?_; rintro v' L' ⟨rfl, rfl⟩; rw [← hq.putE]
            refine KO.ce (cp := []) rfl rfl rfl Tryz.call10 rfl (lbare_e w _ _ _ hgw) ?_; rintro v' L' ⟨rfl, rfl⟩
            refine KO.not rfl rfl ?_
            refine KO.nil ?_
            repeat ((with_reducible refine KQ.next ?_))
          rotate_left
          focus
            show KO _ _ _ _ _ _ _ _ _ _
            refine KO.fo0 (off := 2) rfl Tryz.runUnderlying33 rfl rfl Tryz.sizeOf31 rfl ?_
            (refine KO.ldB rfl rfl Tryz.isAgg31 Tryz.sizeOf31 (by with_reducible (repeat (exact Pick.head))) (by (try simp only [List.drop_zero, List.drop_succ_cons, List.take_succ_cons, List.take_zero]); (try exact rfl)) (by exact rfl) rfl ?_)
            refine KO.fo0 (off := 1) rfl Tryz.runUnderlying33 rfl rfl Tryz.sizeOf3 rfl ?_
            refine KO.ld rfl rfl Tryz.isAgg3 (by with_reducible (repeat (exact Pick.head))) (by exact rfl) rfl ?_
            refine KO.mv rfl rfl ?_
            refine KO.fo0 (off := 2) rfl Tryz.runUnderlying33 rfl rfl Tryz.sizeOf31 rfl ?_
            refine KO.fo0 (off := 1) rfl Tryz.runUnderlying33 rfl rfl Tryz.sizeOf3 rfl ?_
            refine KO.ld rfl rfl Tryz.isAgg3 (by with_reducible (repeat (exact Pick.head))) (by exact rfl) rfl ?_
            refine KO.cl (cp := []) rfl rfl rfl Tryz.call11 rfl (KC.pk1 (by with_reducible (repeat (first | exact Pick.head | apply Pick.tail))) (put_c w _ b3 q x.m x.unit hok hsb hsq)) ?_; rintro v' L' ⟨rfl, rfl⟩
            (refine KO.ldB rfl rfl Tryz.isAgg31 Tryz.sizeOf31 (by with_reducible (repeat (first | exact Pick.head | apply Pick.tail))) (by (try simp only [List.drop_zero, List.drop_succ_cons, List.take_succ_cons, List.take_zero]); (try exact rfl)) (by exact rfl) rfl ?_)
            refine KO.cl (cp := []) rfl rfl rfl Tryz.call12 rfl (KC.pk1 (by with_reducible (repeat (first | exact Pick.head | apply Pick.tail))) (rput_c w _ b21 l x.m x.unit (by omega) hsb hsq)) ?_; rintro v' L' ⟨rfl, rfl⟩; rw [← hq.putE]
            refine KO.ce (cp := []) rfl rfl rfl Tryz.call10 rfl (lbare_e w _ _ _ hgw) ?_; rintro v' L' ⟨rfl, rfl⟩
            refine KO.not rfl rfl ?_
            refine KO.nil ?_
            repeat ((with_reducible refine KQ.next ?_))
          rotate_left
          focus
            show KO _ _ _ _ _ _ _ _ _ _
            refine KO.fo0 (off := 2) rfl Tryz.runUnderlying33 rfl rfl Tryz.sizeOf31 rfl ?_
            (refine KO.ldB rfl rfl Tryz.isAgg31 Tryz.sizeOf31 (by with_reducible (repeat (exact Pick.head))) (by (try simp only [List.drop_zero, List.drop_succ_cons, List.take_succ_cons, List.take_zero]); (try exact rfl)) (by exact rfl) rfl ?_)
            refine KO.fo0 (off := 1) rfl Tryz.runUnderlying33 rfl rfl Tryz.sizeOf3 rfl ?_
            refine KO.ld rfl rfl Tryz.isAgg3 (by with_reducible (repeat (exact Pick.head))) (by exact rfl) rfl ?_
            refine KO.mv rfl rfl ?_
            refine KO.fo0 (off := 2) rfl Tryz.runUnderlying33 rfl rfl Tryz.sizeOf31 rfl ?_
            (refine KO.ldB rfl rfl Tryz.isAgg31 Tryz.sizeOf31 (by with_reducible (repeat (exact Pick.head))) (by (try simp only [List.drop_zero, List.drop_succ_cons, List.take_succ_cons, List.take_zero]); (try exact rfl)) (by exact rfl) rfl ?_)
            refine KO.fo0 (off := 1) rfl Tryz.runUnderlying33 rfl rfl Tryz.sizeOf3 rfl ?_
            refine KO.cl (cp := []) rfl rfl rfl Tryz.call11 rfl (KC.pk1 (by with_reducible (repeat (first | exact Pick.head | apply Pick.tail))) (put_c w _ b3 q x.m x.unit hok hsb hsq)) ?_; rintro v' L' ⟨rfl, rfl⟩
            refine KO.ld rfl rfl Tryz.isAgg3 (by with_reducible (repeat (first | exact Pick.head | apply Pick.tail))) (by exact rfl) rfl ?_
            refine KO.cl (cp := []) rfl rfl rfl Tryz.call12 rfl (KC.pk1 (by with_reducible (repeat (first | exact Pick.head | apply Pick.tail))) (rput_c w _ b21 l x.m x.unit (by omega) hsb hsq)) ?_; rintro v' L' ⟨rfl, rfl⟩; rw [← hq.putE]
            refine KO.ce (cp := []) rfl rfl rfl Tryz.call10 rfl (lbare_e w _ _ _ hgw) ?_; rintro v' L' ⟨rfl, rfl⟩
            refine KO.not rfl rfl ?_
            refine KO.nil ?_
            repeat ((with_reducible refine KQ.next ?_))
          rotate_left
          focus
            show KO _ _ _ _ _ _ _ _ _ _
            refine KO.fo0 (off := 2) rfl Tryz.runUnderlying33 rfl rfl Tryz.sizeOf31 rfl ?_
            (refine KO.ldB rfl rfl Tryz.isAgg31 Tryz.sizeOf31 (by with_reducible (repeat (exact Pick.head))) (by (try simp only [List.drop_zero, List.drop_succ_cons, List.take_succ_cons, List.take_zero]); (try exact rfl)) (by exact rfl) rfl ?_)
            refine KO.fo0 (off := 1) rfl Tryz.runUnderlying33 rfl rfl Tryz.sizeOf3 rfl ?_
            refine KO.ld rfl rfl Tryz.isAgg3 (by with_reducible (repeat (exact Pick.head))) (by exact rfl) rfl ?_
            refine KO.mv rfl rfl ?_
            refine KO.fo0 (off := 2) rfl Tryz.runUnderlying33 rfl rfl Tryz.sizeOf31 rfl ?_
            (refine KO.ldB rfl rfl Tryz.isAgg31 Tryz.sizeOf31 (by with_reducible (repeat (exact Pick.head))) (by (try simp only [List.drop_zero, List.drop_succ_cons, List.take_succ_cons, List.take_zero]); (try exact rfl)) (by exact rfl) rfl ?_)
            refine KO.fo0 (off := 1) rfl Tryz.runUnderlying33 rfl rfl Tryz.sizeOf3 rfl ?_
            refine KO.ld rfl rfl Tryz.isAgg3 (by with_reducible (repeat (exact Pick.head))) (by exact rfl) rfl ?_
            refine KO.cl (cp := []) rfl rfl rfl Tryz.call11 rfl (KC.pk1 (by with_reducible (repeat (first | exact Pick.head | apply Pick.tail))) (put_c w _ b3 q x.m x.unit hok hsb hsq)) ?_; rintro v' L' ⟨rfl, rfl⟩
            refine KO.cl (cp := []) rfl rfl rfl Tryz.call12 rfl (KC.pk1 (by with_reducible (repeat (first | exact Pick.head | apply Pick.tail))) (rput_c w _ b21 l x.m x.unit (by omega) hsb hsq)) ?_; rintro v' L' ⟨rfl, rfl⟩; rw [← hq.putE]
            refine KO.ce (cp := []) rfl rfl rfl Tryz.call10 rfl (lbare_e w _ _ _ hgw) ?_; rintro v' L' ⟨rfl, rfl⟩
            refine KO.not rfl rfl ?_
            refine KO.nil ?_
            repeat ((with_reducible refine KQ.next ?_))
          rotate_left
          all_goals (
            refine K.condF rfl (by simp) ?_
            repeat (first | (with_reducible refine KQ.blk_normal ?_) | (with_reducible refine K.skip ?_))
            exact KQ.mid (qput q x.m x.unit, rput l x.m x.unit) (hq.put _ _) ⟨rfl, rfl, rfl, rfl, rfl, trivial⟩ (fun _ h => h.all (by with_reducible repeat (first | exact PAll.refl | refine PAll.cons (by with_reducible repeat (first | exact Pick.head | apply Pick.tail)) ?_))))
        · repeat ((with_reducible refine K.seq ?_))
          refine K.reg ?_
          refine KO.eqI rfl rfl rfl ?_
          refine KO.as rfl rfl ?_
          refine KO.nil ?_
          repeat ((with_reducible refine KQ.next ?_))
          refine K.condD rfl (fun hw1 => ?_) (fun hw1 => ?_)
          · obtain ⟨hgm, hge, hgq⟩ := hq.get x.unit
            repeat ((with_reducible refine K.seq ?_))
            refine K.reg ?_
            refine KO.mv rfl rfl ?_
            refine KO.fo0 (off := 1) rfl Tryz.runUnderlying33 rfl rfl Tryz.sizeOf3 rfl ?_
            refine KO.ld rfl rfl Tryz.isAgg3 (by with_reducible (repeat (exact Pick.head))) (by exact rfl) rfl ?_
            refine KO.cl (cp := []) rfl rfl rfl Tryz.call13 rfl (KC.pk1 (by with_reducible (repeat (first | exact Pick.head | apply Pick.tail))) (rget_c w _ b21 l x.unit (by omega))) ?_; rintro v' L' ⟨rfl, rfl⟩; rw [← hgm, ← hge]
            refine KO.mv rfl rfl ?_
            refine KO.extrL rfl (by exact rfl) rfl ?_
            refine KO.extrL rfl (by exact rfl) rfl ?_
            refine KO.alloc rfl Tryz.zeroValue31 (by exact rfl) rfl ?_; intro b7
            refine KO.sto0 rfl rfl rfl (by exact rfl) (by exact Tryz.sizeOf31) (by exact rfl) (by with_reducible (repeat (exact Pick.head))) (by exact rfl) ?_
            refine KO.as rfl rfl ?_
            refine KO.nil ?_
            repeat (first | (with_reducible refine K.seq ?_) | (with_reducible refine KQ.next ?_))
            refine K.reg ?_
            refine KO.fo0 (off := 1) rfl Tryz.runUnderlying33 rfl rfl Tryz.sizeOf3 rfl ?_
            refine KO.ld rfl rfl Tryz.isAgg3 (by with_reducible (repeat (first | exact Pick.head | apply Pick.tail))) (by exact rfl) rfl ?_
            refine KO.cl (cp := []) rfl rfl rfl Tryz.call14 rfl (KC.pk1 (by with_reducible (repeat (first | exact Pick.head | apply Pick.tail))) (get_c w _ b3 q x.unit (by omega))) ?_; rintro v' L' ⟨rfl, rfl⟩
            refine KO.mv rfl rfl ?_
            refine KO.extrL rfl (by exact rfl) rfl ?_
            refine KO.extrL rfl (by exact rfl) rfl ?_
            refine KO.alloc rfl Tryz.zeroValue31 (by exact rfl) rfl ?_; intro b9
            refine KO.sto0 rfl rfl rfl (by exact rfl) (by exact Tryz.sizeOf31) (by exact rfl) (by with_reducible (repeat (exact Pick.head))) (by exact rfl) ?_
            refine KO.as rfl rfl ?_
            refine KO.nil ?_
            repeat (first | (with_reducible refine K.seq ?_) | (with_reducible refine KQ.next ?_))
            generalize qgetM q = mg
            generalize qgetE q = eg
            refine K.reg ?_
            refine KO.mv rfl rfl ?_
            refine KO.mv rfl rfl ?_
            refine KO.ce (cp := []) rfl rfl rfl Tryz.call10 rfl (lbare_e w _ _ _ hgw) ?_; rintro v' L' ⟨rfl, rfl⟩
            refine KO.not rfl rfl ?_
            refine KO.mv rfl rfl ?_
            (refine KO.on rfl rfl ?_ ?_; (focus (simp; done)); (refine KO.ldB0 rfl rfl Tryz.isAgg31 Tryz.sizeOf31 (by with_reducible (repeat (exact Pick.head))) (by exact rfl) rfl ?_))
            (refine KO.on rfl rfl ?_ ?_; (focus (simp; done)); (refine KO.ldB0 rfl rfl Tryz.isAgg31 Tryz.sizeOf31 (by with_reducible (repeat (first | exact Pick.head | apply Pick.tail))) (by exact rfl) rfl ?_))
            refine KO.on rfl rfl (by simp) ?_; refine KO.neA rfl rfl (by kernel_rfl) (ms_eq mg mg) rfl ?_
            (refine KO.pickF rfl ?_ rfl rfl ?_; (focus (simp; done)))
            refine KO.nil ?_
            repeat ((with_reducible refine KQ.next ?_))
            refine K.condF rfl (by simp) ?_
            repeat (first | (with_reducible refine KQ.blk_normal ?_) | (with_reducible refine K.skip ?_))
            exact KQ.mid (qget q x.unit, rget l x.unit) (hgq.le (by omega)) ⟨rfl, rfl, rfl, rfl, rfl, trivial⟩ (fun _ h => h.all (by with_reducible repeat (first | exact PAll.nil | refine PAll.cons (by with_reducible repeat (first | exact Pick.head | apply Pick.tail)) ?_)))
          · repeat ((with_reducible refine K.seq ?_))
            refine K.reg ?_
            refine KO.eqI rfl rfl rfl ?_
            refine KO.as rfl rfl ?_
            refine KO.nil ?_
            repeat ((with_reducible refine KQ.next ?_))
            refine K.condD rfl (fun hw2 => ?_) (fun hw2 => ?_)
            · obtain ⟨hgm, hge, hgq⟩ := hq.take x.m.id
              repeat ((with_reducible refine K.seq ?_))
              refine K.reg ?_
              refine KO.mv rfl rfl ?_
              refine KO.fo0 (off := 2) rfl Tryz.runUnderlying33 rfl rfl Tryz.sizeOf31 rfl ?_
              refine KO.fo (off := 0) rfl Tryz.runUnderlying31 rfl rfl Tryz.sizeOf3 rfl ?_
              refine KO.ld rfl rfl Tryz.isAgg3 (by with_reducible (repeat (exact Pick.head))) (by exact rfl) rfl ?_
              refine KO.cl (cp := []) rfl rfl rfl Tryz.call15 rfl (KC.pk1 (by with_reducible (repeat (first | exact Pick.head | apply Pick.tail))) (rtake_c w _ b21 l x.m.id (by omega))) ?_; rintro v' L' ⟨rfl, rfl⟩; rw [← hgm, ← hge]
              refine KO.mv rfl rfl ?_
              refine KO.extrL rfl (by exact rfl) rfl ?_
              refine KO.extrL rfl (by exact rfl) rfl ?_
              refine KO.alloc rfl Tryz.zeroValue31 (by exact rfl) rfl ?_; intro b11
              refine KO.sto0 rfl rfl rfl (by exact rfl) (by exact Tryz.sizeOf31) (by exact rfl) (by with_reducible (repeat (exact Pick.head))) (by exact rfl) ?_
              refine KO.as rfl rfl ?_
              refine KO.nil ?_
              repeat (first | (with_reducible refine K.seq ?_) | (with_reducible refine KQ.next ?_))
              refine K.reg ?_
              refine KO.fo0 (off := 2) rfl Tryz.runUnderlying33 rfl rfl Tryz.sizeOf31 rfl ?_
              refine KO.fo (off := 0) rfl Tryz.runUnderlying31 rfl rfl Tryz.sizeOf3 rfl ?_
              refine KO.ld rfl rfl Tryz.isAgg3 (by with_reducible (repeat (first | exact Pick.head | apply Pick.tail))) (by exact rfl) rfl ?_
              refine KO.cl (cp := []) rfl rfl rfl Tryz.call16 rfl (KC.pk1 (by with_reducible (repeat (first | exact Pick.head | apply Pick.tail))) (take_c w _ b3 q x.m.id (by omega))) ?_; rintro v' L' ⟨rfl, rfl⟩
              refine KO.mv rfl rfl ?_
              refine KO.extrL rfl (by exact rfl) rfl ?_
              refine KO.extrL rfl (by exact rfl) rfl ?_
              refine KO.alloc rfl Tryz.zeroValue31 (by exact rfl) rfl ?_; intro b13
              refine KO.sto0 rfl rfl rfl (by exact rfl) (by exact Tryz.sizeOf31) (by exact rfl) (by with_reducible (repeat (exact Pick.head))) (by exact rfl) ?_
              refine KO.as rfl rfl ?_
              refine KO.nil ?_
              repeat (first | (with_reducible refine K.seq ?_) | (with_reducible refine KQ.next ?_))
              generalize qtakeM q x.m.id = mg
              generalize qtakeE q x.m.id = eg
              refine K.reg ?_
              refine KO.mv rfl rfl ?_
              refine KO.mv rfl rfl ?_
              refine KO.ce (cp := []) rfl rfl rfl Tryz.call10 rfl (lbare_e w _ _ _ hgw) ?_; rintro v' L' ⟨rfl, rfl⟩
              refine KO.not rfl rfl ?_
              refine KO.mv rfl rfl ?_
              (refine KO.on rfl rfl ?_ ?_; (focus (simp; done)); (refine KO.ldB0 rfl rfl Tryz.isAgg31 Tryz.sizeOf31 (by with_reducible (repeat (exact Pick.head))) (by exact rfl) rfl ?_))
              (refine KO.on rfl rfl ?_ ?_; (focus (simp; done)); (refine KO.ldB0 rfl rfl Tryz.isAgg31 Tryz.sizeOf31 (by with_reducible (repeat (first | exact Pick.head | apply Pick.tail))) (by exact rfl) rfl ?_))
              refine KO.on rfl rfl (by simp) ?_; refine KO.neA rfl rfl (by kernel_rfl) (ms_eq mg mg) rfl ?_
              (refine KO.pickF rfl ?_ rfl rfl ?_; (focus (simp; done)))
              refine KO.nil ?_
              repeat ((with_reducible refine KQ.next ?_))
              refine K.condF rfl (by simp) ?_
              repeat (first | (with_reducible refine KQ.blk_normal ?_) | (with_reducible refine K.skip ?_))
              exact KQ.mid (qtake q x.m.id, rtake l x.m.id) (hgq.le (by omega)) ⟨rfl, rfl, rfl, rfl, rfl, trivial⟩ (fun _ h => h.all (by with_reducible repeat (first | exact PAll.nil | refine PAll.cons (by with_reducible repeat (first | exact Pick.head | apply Pick.tail)) ?_)))
            · refine K.mid (fun b : Bool => [(103, .bool b), (37, .int .i64 x.what), (0, .slice (some ad) xs.length cap), (3, .pointer (some ⟨b3, 0, none⟩)), (4, .pointer (some ⟨b21, 0, none⟩)), (5, .int .i64 (i : Nat)), (6, .pointer (some ⟨b6, 0, none⟩))]) (fun _ => [quP b3 q, rqP b21 l, blk b6 (.cells (qiC x).toArray 33 (0, 0))]) (fun _ => True) ?_ ?_
              · repeat ((with_reducible refine K.seq ?_))
                refine K.reg ?_
                refine KO.eqI rfl rfl rfl ?_
                refine KO.as rfl rfl ?_
                refine KO.nil ?_
                repeat ((with_reducible refine KQ.next ?_))
                refine K.condD rfl (fun hw3 => ?_) (fun hw3 => ?_)
                · repeat ((with_reducible refine K.skip ?_))
                  exact KQ.mid _ trivial ⟨rfl, rfl, rfl, rfl, rfl, rfl, rfl, trivial⟩ (fun _ h => h.all (by with_reducible repeat (first | exact PAll.refl | refine PAll.cons (by with_reducible repeat (first | exact Pick.head | apply Pick.tail)) ?_)))
                · refine K.reg ?_
                  refine KO.eqI rfl rfl rfl ?_
                  refine KO.as rfl rfl ?_
                  refine KO.nil ?_
                  exact KQ.mid _ trivial ⟨rfl, rfl, rfl, rfl, rfl, rfl, rfl, trivial⟩ (fun _ h => h.all (by with_reducible repeat (first | exact PAll.refl | refine PAll.cons (by with_reducible repeat (first | exact Pick.head | apply Pick.tail)) ?_)))
              rintro b2 _
              refine K.cond rfl (fun hb2 => ?_) (fun hb2 => ?_)
              · repeat ((with_reducible refine K.seq ?_))
                refine K.reg ?_
                refine KO.fo0 (off := 1) rfl Tryz.runUnderlying33 rfl rfl Tryz.sizeOf3 rfl ?_
                refine KO.ld rfl rfl Tryz.isAgg3 (by with_reducible (repeat (first | exact Pick.head | apply Pick.tail))) (by exact rfl) rfl ?_
                refine KO.fo0 (off := 0) rfl Tryz.runUnderlying33 rfl rfl Tryz.sizeOf3 rfl ?_
                refine KO.ld rfl rfl Tryz.isAgg3 (by with_reducible (repeat (first | exact Pick.head | apply Pick.tail))) (by exact rfl) rfl ?_
                refine KO.eqI rfl rfl rfl ?_
                refine KO.cl (cp := []) rfl rfl rfl Tryz.call17 rfl (KC.pk1 (by with_reducible (repeat (exact Pick.head))) (ends_c w _ b3 q x.unit _ (by omega))) ?_; rintro v' L' ⟨rfl, rfl⟩
                refine KO.nil ?_
                repeat ((with_reducible refine KQ.next ?_))
                refine K.reg ?_
                refine KO.mv rfl rfl ?_
                refine KO.fo0 (off := 1) rfl Tryz.runUnderlying33 rfl rfl Tryz.sizeOf3 rfl ?_
                refine KO.ld rfl rfl Tryz.isAgg3 (by with_reducible (repeat (first | exact Pick.head | apply Pick.tail))) (by exact rfl) rfl ?_
                refine KO.fo0 (off := 0) rfl Tryz.runUnderlying33 rfl rfl Tryz.sizeOf3 rfl ?_
                refine KO.ld rfl rfl Tryz.isAgg3 (by with_reducible (repeat (first | exact Pick.head | apply Pick.tail))) (by exact rfl) rfl ?_
                refine KO.eqI rfl rfl rfl ?_
                refine KO.cl (cp := []) rfl rfl rfl Tryz.call18 rfl (KC.pk1 (by with_reducible (repeat (first | exact Pick.head | apply Pick.tail))) (rends_c w _ b21 l x.unit _ (by omega))) ?_; rintro v' L' ⟨rfl, rfl⟩
                refine KO.nil ?_
                repeat ((with_reducible refine KQ.blk_normal ?_))
                exact KQ.mid (qends q x.unit (decide (x.what = 4)), rends l x.unit (decide (x.what = 4))) ((hq.ends _ _).le (by omega)) ⟨rfl, rfl, rfl, rfl, rfl, trivial⟩ (fun _ h => h.all (by with_reducible repeat (first | exact PAll.refl | refine PAll.cons (by with_reducible repeat (first | exact Pick.head | apply Pick.tail)) ?_)))
              · repeat ((with_reducible refine K.seq ?_))
                refine K.reg ?_
                refine KO.eqI rfl rfl rfl ?_
                refine KO.as rfl rfl ?_
                refine KO.nil ?_
                repeat ((with_reducible refine KQ.next ?_))
                refine K.condD rfl (fun hw5 => ?_) (fun hw5 => ?_)
                · repeat ((with_reducible refine K.seq ?_))
                  refine K.reg ?_
                  refine KO.fo0 (off := 2) rfl Tryz.runUnderlying33 rfl rfl Tryz.sizeOf31 rfl ?_
                  (refine KO.ldB rfl rfl Tryz.isAgg31 Tryz.sizeOf31 (by with_reducible (repeat (first | exact Pick.head | apply Pick.tail))) (by (try simp only [List.drop_zero, List.drop_succ_cons, List.take_succ_cons, List.take_zero]); (try exact rfl)) (by exact rfl) rfl ?_)
                  refine KO.ce (cp := []) rfl rfl rfl Tryz.call19 rfl (rright_e w _ x.m hsb hsq) ?_; rintro v' L' ⟨rfl, rfl⟩
                  refine KO.as rfl rfl ?_
                  refine KO.nil ?_
                  repeat (first | (with_reducible refine K.seq ?_) | (with_reducible refine KQ.next ?_))
                  refine K.reg ?_
                  refine KO.as rfl rfl ?_
                  refine KO.nil ?_
                  repeat (first | (with_reducible refine KQ.next ?_) | (with_reducible refine K.block ?_))
                  refine K.conv (fun w hw => hw.pick (A := rqP b21 l) (by with_reducible (repeat (first | exact Pick.head | apply Pick.tail)))) ?_
                  refine K.open' (fun _ h => rqP_open h) fun v => ?_
                  refine K.fact (fun w hw => SL_form (hw.pick (A := riS v l) (by with_reducible (repeat (first | exact Pick.head | apply Pick.tail))))) ?_
                  rintro ⟨aq, cq, rfl, haq⟩
                  refine K.loop (fun s : Nat × Bool => [(15, .bool s.2), (16, .int .i64 (s.1 : Nat)), (0, .slice (some ad) xs.length cap), (3, .pointer (some ⟨b3, 0, none⟩)), (4, .pointer (some ⟨b21, 0, none⟩)), (5, .int .i64 (i : Nat)), (6, .pointer (some ⟨b6, 0, none⟩))]) (fun _ => [rqB b21 (.slice aq l.length cq), riS (.slice aq l.length cq) l, quP b3 q, blk b6 (.cells (qiC x).toArray 33 (0, 0))]) (fun s => s.1 ≤ l.length ∧ (s.2 = true ↔ msRight x.m = true ∧ ∀ j e, j < s.1 → l[j]? = some e → e.m.id ≠ x.m.id)) (fun s => l.length - s.1) (0, msRight x.m)
                    ⟨Nat.zero_le _, ⟨fun h => ⟨h, fun j e h => by omega⟩, fun h => h.1⟩⟩ ⟨rfl, rfl, rfl, rfl, rfl, rfl, rfl, trivial⟩ (fun _ h => h.all (by with_reducible repeat (exact PAll.refl))) ?_
                  rintro ⟨k, f⟩ ⟨hk, hf⟩
                  dsimp only at hk hf ⊢
                  repeat ((with_reducible refine K.seq ?_))
                  refine K.reg ?_
                  refine KO.mv rfl rfl ?_
                  refine KO.mv rfl rfl ?_
                  refine KO.nc rfl rfl ?_
                  refine KO.fo0 (off := 0) rfl Tryz.runUnderlying29 rfl rfl Tryz.sizeOf27 rfl ?_
                  refine KO.ld rfl rfl Tryz.isAgg27 (by with_reducible (repeat (exact Pick.head))) (by exact rfl) rfl ?_
                  refine KO.len rfl Tryz.underlying27 rfl ?_
                  refine KO.lss rfl rfl rfl ?_
                  refine KO.nil ?_
                  repeat ((with_reducible refine KQ.next ?_))
                  refine K.condD rfl (fun h5 => ?_) (fun h5 => ?_)
                  · obtain ⟨gq, rfl⟩ := haq (by omega)
                    obtain ⟨e, he⟩ : ∃ e, l[k]? = some e := ⟨l[k], List.getElem?_eq_getElem (by omega)⟩
                    repeat (first | (with_reducible refine K.seq ?_) | (with_reducible refine KQ.next ?_) | (with_reducible refine K.skip ?_) | (with_reducible refine K.block ?_))
                    cases f
                    · refine K.draw [.pure, .pure, .pure, .pure, .pure, .read, .pure, .pure, .pure, .pure, .read, .pure, .pure, .read, .pure, .pure, .pure] [0, 1, 2, 3, 4, 5, 6, 7, 8, 9, 10, 11, 12, 13, 14, 15, 16] (by kernel_rfl) (by kernel_rfl) ?_
                      refine KO.mv rfl rfl ?_
                      refine KO.mv rfl rfl ?_
                      (refine KO.no rfl rfl ?_ rfl ?_; (focus rfl))
                      (refine KO.no rfl rfl ?_ rfl ?_; (focus rfl))
                      (refine KO.no rfl rfl ?_ rfl ?_; (focus rfl))
                      (refine KO.no rfl rfl ?_ rfl ?_; (focus rfl))
                      (refine KO.no rfl rfl ?_ rfl ?_; (focus rfl))
                      (refine KO.no rfl rfl ?_ rfl ?_; (focus rfl))
                      (refine KO.no rfl rfl ?_ rfl ?_; (focus rfl))
                      (refine KO.no rfl rfl ?_ rfl ?_; (focus rfl))
                      (refine KO.no rfl rfl ?_ rfl ?_; (focus rfl))
                      (refine KO.no rfl rfl ?_ rfl ?_; (focus rfl))
                      (refine KO.no rfl rfl ?_ rfl ?_; (focus rfl))
                      (refine KO.no rfl rfl ?_ rfl ?_; (focus rfl))
                      (refine KO.no rfl rfl ?_ rfl ?_; (focus rfl))
                      (refine KO.pickF rfl ?_ rfl rfl ?_; (focus rfl))
                      refine KO.as rfl rfl ?_
                      refine KO.nil ?_
                      repeat (first | (with_reducible refine KQ.next ?_) | (with_reducible refine KQ.blk_normal ?_))
                      refine K.reg ?_
                      refine KO.mv rfl rfl ?_
                      refine KO.add rfl rfl rfl (by omega) rfl ?_
                      refine KO.as rfl rfl ?_
                      refine KO.nil ?_
                      refine KQ.round (k + 1, false) ⟨by dsimp only; omega, ?_⟩ (by dsimp only; omega) ⟨rfl, rfl, rfl, rfl, rfl, rfl, rfl, trivial⟩ (fun _ h => h)
                      refine ⟨(fun h => by cases h), fun h => hf.2 ⟨h.1, fun j e hj he => h.2 j e (by dsimp only; omega) he⟩⟩
                    · refine K.draw [.pure, .pure, .pure, .pure, .pure, .read, .pure, .pure, .pure, .pure, .read, .pure, .pure, .read, .pure, .pure, .pure] [0, 1, 2, 3, 4, 5, 6, 7, 8, 9, 10, 11, 12, 13, 14, 15, 16] (by kernel_rfl) (by kernel_rfl) ?_
                      refine KO.mv rfl rfl ?_
                      refine KO.mv rfl rfl ?_
                      (refine KO.on rfl rfl ?_ ?_; (focus rfl); (refine KO.mv rfl rfl ?_))
                      (refine KO.on rfl rfl ?_ ?_; (focus rfl); (refine KO.nc rfl rfl ?_))
                      (refine KO.on rfl rfl ?_ ?_; (focus rfl); (refine KO.fo0 (off := 0) rfl Tryz.runUnderlying29 rfl rfl Tryz.sizeOf27 rfl ?_))
                      (refine KO.on rfl rfl ?_ ?_; (focus rfl); (refine KO.ld rfl rfl Tryz.isAgg27 (by with_reducible (repeat (exact Pick.head))) (by exact rfl) rfl ?_))
                      (refine KO.on rfl rfl ?_ ?_; (focus rfl); (refine KO.mv rfl rfl ?_))
                      (refine KO.on rfl rfl ?_ ?_; (focus rfl); (refine KO.idx0 rfl rfl Tryz.runUnderlying27 Tryz.sizeOf47 (by exact rfl) (by omega) rfl ?_))
                      (refine KO.on rfl rfl ?_ ?_; (focus rfl); (refine KO.fo (off := 0) rfl Tryz.runUnderlying47 rfl rfl Tryz.sizeOf31 rfl ?_))
                      (refine KO.on rfl rfl ?_ ?_; (focus rfl); (refine KO.fo (off := 0) rfl Tryz.runUnderlying31 rfl rfl Tryz.sizeOf3 rfl ?_))
                      (refine KO.on rfl rfl ?_ ?_; (focus rfl); (refine KO.ldE rfl rfl Tryz.isAgg3 (by with_reducible (repeat (first | exact Pick.head | apply Pick.tail))) (fun _ => rfl) (by assumption) (by exact rfl) (by exact rfl) rfl ?_))
                      (refine KO.on rfl rfl ?_ ?_; (focus rfl); (refine KO.fo0 (off := 2) rfl Tryz.runUnderlying33 rfl rfl Tryz.sizeOf31 rfl ?_))
                      (refine KO.on rfl rfl ?_ ?_; (focus rfl); (refine KO.fo (off := 0) rfl Tryz.runUnderlying31 rfl rfl Tryz.sizeOf3 rfl ?_))
                      (refine KO.on rfl rfl ?_ ?_; (focus rfl); (refine KO.ld rfl rfl Tryz.isAgg3 (by with_reducible (repeat (first | exact Pick.head | apply Pick.tail))) (by exact rfl) rfl ?_))
                      (refine KO.on rfl rfl ?_ ?_; (focus rfl); (refine KO.neI rfl rfl rfl ?_))
                      (refine KO.pickT rfl ?_ rfl rfl ?_; (focus rfl))
                      refine KO.as rfl rfl ?_
                      refine KO.nil ?_
                      repeat (first | (with_reducible refine KQ.next ?_) | (with_reducible refine KQ.blk_normal ?_))
                      refine K.reg ?_
                      refine KO.mv rfl rfl ?_
                      refine KO.add rfl rfl rfl (by omega) rfl ?_
                      refine KO.as rfl rfl ?_
                      refine KO.nil ?_
                      obtain ⟨hr1, hr2⟩ := hf.1 rfl
                      refine KQ.round (k + 1, decide (e.m.id ≠ x.m.id)) ⟨by dsimp only; omega, ?_⟩ (by dsimp only; omega) ⟨rfl, rfl, rfl, rfl, rfl, rfl, rfl, trivial⟩ (fun _ h => h)
                      dsimp only
                      rw [decide_eq_true_iff]
                      refine ⟨fun h => ⟨hr1, fun j e' hj he' => ?_⟩, fun h => h.2 k e (by omega) he⟩
                      by_cases hjk : j = k
                      · subst hjk; rw [he] at he'; cases he'; exact h
                      · exact hr2 j e' (by omega) he'
                  · have hkl : k = l.length := by omega
                    refine K.conv (L' := [rqP b21 l, quP b3 q, blk b6 (.cells (qiC x).toArray 33 (0, 0))]) (fun w hw => rqP_mk hw) ?_
                    repeat (first | (with_reducible refine K.seq ?_) | (with_reducible refine KQ.next ?_) | (with_reducible refine KQ.then_exit ?_) | (with_reducible refine KQ.blk_exit ?_) | (with_reducible refine K.exit ?_))
                    refine K.reg ?_
                    refine KO.mv rfl rfl ?_
                    refine KO.nil ?_
                    repeat ((with_reducible refine KQ.next ?_))
                    refine K.cond rfl (fun h6 => ?_) (fun h6 => ?_)
                    · obtain ⟨hr1, hr2⟩ := hf.1 h6
                      have hrp := msRight_parts hr1
                      have hfr : ∀ e ∈ l, e.m.id ≠ x.m.id := fun e he => by
                        obtain ⟨j, hj, rfl⟩ := List.getElem_of_mem he
                        exact hr2 j _ (by omega) (List.getElem?_eq_getElem hj)
                      repeat ((with_reducible refine K.seq ?_))
                      refine K.reg ?_
                      refine KO.fo0 (off := 2) rfl Tryz.runUnderlying33 rfl rfl Tryz.sizeOf31 rfl ?_
                      (refine KO.ldB rfl rfl Tryz.isAgg31 Tryz.sizeOf31 (by with_reducible (repeat (first | exact Pick.head | apply Pick.tail))) (by (try simp only [List.drop_zero, List.drop_succ_cons, List.take_succ_cons, List.take_zero]); (try exact rfl)) (by exact rfl) rfl ?_)
                      refine KO.fo0 (off := 1) rfl Tryz.runUnderlying33 rfl rfl Tryz.sizeOf3 rfl ?_
                      refine KO.ld rfl rfl Tryz.isAgg3 (by with_reducible (repeat (first | exact Pick.head | apply Pick.tail))) (by exact rfl) rfl ?_
                      refine KO.cl (cp := []) rfl rfl rfl Tryz.call20 rfl (KC.pk1 (by with_reducible (repeat (first | exact Pick.head | apply Pick.tail))) (push_c w _ b3 q x.m x.unit hok (by unfold small; omega))) ?_; rintro v' L' ⟨rfl, rfl⟩
                      refine KO.nil ?_
                      repeat ((with_reducible refine KQ.next ?_))
                      refine K.reg ?_
                      refine KO.mv rfl rfl ?_
                      refine KO.fo0 (off := 2) rfl Tryz.runUnderlying33 rfl rfl Tryz.sizeOf31 rfl ?_
                      (refine KO.ldB rfl rfl Tryz.isAgg31 Tryz.sizeOf31 (by with_reducible (repeat (first | exact Pick.head | apply Pick.tail))) (by (try simp only [List.drop_zero, List.drop_succ_cons, List.take_succ_cons, List.take_zero]); (try exact rfl)) (by exact rfl) rfl ?_)
                      refine KO.fo0 (off := 1) rfl Tryz.runUnderlying33 rfl rfl Tryz.sizeOf3 rfl ?_
                      refine KO.ld rfl rfl Tryz.isAgg3 (by with_reducible (repeat (first | exact Pick.head | apply Pick.tail))) (by exact rfl) rfl ?_
                      refine KO.cl (cp := []) rfl rfl rfl Tryz.call21 rfl (KC.pk1 (by with_reducible (repeat (first | exact Pick.head | apply Pick.tail))) (rpush_c w _ b21 l x.m x.unit (by omega))) ?_; rintro v' L' ⟨rfl, rfl⟩
                      refine KO.nil ?_
                      repeat ((with_reducible refine KQ.blk_normal ?_))
                      exact KQ.mid (qpush q x.m x.unit, rpush l x.m x.unit) (hq.pushed ⟨hrp.2.2.1, hrp.2.2.2.1⟩ hfr _) ⟨rfl, rfl, rfl, rfl, rfl, trivial⟩ (fun _ h => h.all (by with_reducible repeat (first | exact PAll.refl | refine PAll.cons (by with_reducible repeat (first | exact Pick.head | apply Pick.tail)) ?_)))
                    · repeat (first | (with_reducible refine KQ.blk_normal ?_) | (with_reducible refine K.skip ?_))
                      exact KQ.mid (q, l) (hq.le (by omega)) ⟨rfl, rfl, rfl, rfl, rfl, trivial⟩ (fun _ h => h.all (by with_reducible repeat (first | exact PAll.refl | refine PAll.cons (by with_reducible repeat (first | exact Pick.head | apply Pick.tail)) ?_)))
                · repeat (first | (with_reducible refine KQ.blk_normal ?_) | (with_reducible refine K.skip ?_))
                  exact KQ.mid (q, l) (hq.le (by omega)) ⟨rfl, rfl, rfl, rfl, rfl, trivial⟩ (fun _ h => h.all (by with_reducible repeat (exact PAll.refl)))
      · rintro ⟨q2, l2⟩ hq2
        dsimp only at hq2 ⊢
        have hth := hq2.there
        have hkp := hq2.kept
        have hhs := hq2.has x.m.id
        have hll2 := hq2.len
        have hlq2 := hq2.len_eq
        have hl1 : (qthere q2).length ≤ 200 := by unfold qthere; rw [List.length_map]; exact Nat.le_trans (List.length_filter_le _ _) (by omega)
        have hl2 : (qkept q2).length ≤ 200 := by unfold qkept; rw [List.length_map]; exact Nat.le_trans (List.length_filter_le _ _) (by omega)
        repeat ((with_reducible refine K.seq ?_))
        refine K.draw [.write, .pure, .write, .write, .pure, .pure, .write, .pure, .write, .write, .pure, .pure, .pure, .keep, .pure, .pure, .pure, .read, .pure, .pure, .pure, .pure, .pure, .pure, .read, .keep, .pure, .pure, .pure, .read, .write, .pure, .pure] [1, 0, 2, 3, 4, 5, 7, 6, 8, 9, 10, 11, 12, 14, 15, 16, 17, 18, 13, 19, 20, 21, 22, 23, 24, 26, 27, 28, 29, 25, 30, 31, 32] (by kernel_rfl) (by kernel_rfl) ?_
        refine KO.mv rfl rfl ?_
        refine KO.ce (cp := []) rfl rfl rfl Tryz.call23 rfl (there_e w _ _ b3 q2 (by with_reducible (repeat (exact Pick.head))) (by omega)) ?_; rintro va L' rfl
        refine KO.cl (cp := []) rfl rfl rfl Tryz.call24 rfl (KC.pk1 (by with_reducible (repeat (first | exact Pick.head | apply Pick.tail))) (rthere_c w _ b21 l2 (by omega))) ?_; rintro vb L' rfl; rw [← hth]
        refine KO.ce (cp := []) rfl rfl rfl Tryz.call22 rfl (same_e w _ va vb (qthere q2) (qthere q2) (RdS.of (fun _ => rfl) (by with_reducible (repeat (first | exact Pick.head | apply Pick.tail)))) (RdS.of (fun _ => rfl) (by with_reducible (repeat (exact Pick.head)))) (by omega) (by omega)) ?_; rintro v' L' ⟨rfl, rfl⟩; rw [show decide (qthere q2 = qthere q2) = true from decide_eq_true rfl]
        refine KO.not rfl rfl ?_
        refine KO.mv rfl rfl ?_
        (refine KO.on rfl rfl ?_ ?_; (focus rfl); (refine KO.mv rfl rfl ?_))
        refine KO.on rfl rfl rfl ?_; refine KO.ce (cp := []) rfl rfl rfl Tryz.call25 rfl (kept_e w _ _ b3 q2 (by with_reducible (repeat (first | exact Pick.head | apply Pick.tail))) (by omega)) ?_; rintro vc L' rfl
        refine KO.on rfl rfl rfl ?_; refine KO.cl (cp := []) rfl rfl rfl Tryz.call26 rfl (KC.pk1 (by with_reducible (repeat (first | exact Pick.head | apply Pick.tail))) (rkept_c w _ b21 l2 (by omega))) ?_; rintro vd L' rfl; rw [← hkp]
        refine KO.on rfl rfl rfl ?_; refine KO.ce (cp := []) rfl rfl rfl Tryz.call22 rfl (same_e w _ vc vd (qkept q2) (qkept q2) (RdS.of (fun _ => rfl) (by with_reducible (repeat (first | exact Pick.head | apply Pick.tail)))) (RdS.of (fun _ => rfl) (by with_reducible (repeat (exact Pick.head)))) (by omega) (by omega)) ?_; rintro v' L' ⟨rfl, rfl⟩; rw [show decide (qkept q2 = qkept q2) = true from decide_eq_true rfl]
        (refine KO.on rfl rfl ?_ ?_; (focus rfl); (refine KO.not rfl rfl ?_))
        (refine KO.pickF rfl ?_ rfl rfl ?_; (focus rfl))
        refine KO.mv rfl rfl ?_
        (refine KO.on rfl rfl ?_ ?_; (focus rfl); (refine KO.mv rfl rfl ?_))
        (refine KO.on rfl rfl ?_ ?_; (focus rfl); (refine KO.nc rfl rfl ?_))
        (refine KO.on rfl rfl ?_ ?_; (focus rfl); (refine KO.fo0 (off := 0) rfl Tryz.runUnderlying29 rfl rfl Tryz.sizeOf27 rfl ?_))
        refine KO.on rfl rfl rfl ?_; refine KO.conv (fun w hw => hw.pick (A := rqP b21 l2) (by with_reducible (repeat (first | exact Pick.head | apply Pick.tail)))) ?_; refine KO.open' (fun _ h => rqP_open h) fun vq => ?_; refine KO.fact (fun w hw => SL_form (hw.pick (A := riS vq l2) (by with_reducible (repeat (first | exact Pick.head | apply Pick.tail))))) ?_; rintro ⟨aq, cq, rfl, -⟩; refine KO.ld rfl rfl Tryz.isAgg27 (by with_reducible (repeat (exact Pick.head))) (by exact rfl) rfl ?_; refine KO.conv (fun w hw => rqP_mk hw) ?_
        (refine KO.on rfl rfl ?_ ?_; (focus rfl); (refine KO.len rfl Tryz.underlying27 rfl ?_))
        refine KO.on rfl rfl rfl ?_; refine KO.ce (cp := []) rfl rfl rfl Tryz.call27 rfl (many_e w _ _ b3 q2 (by with_reducible (repeat (first | exact Pick.head | apply Pick.tail)))) ?_; rintro v' L' ⟨rfl, rfl⟩; rw [hlq2]
        (refine KO.on rfl rfl ?_ ?_; (focus rfl); (refine KO.neI rfl rfl rfl ?_))
        (refine KO.pickF rfl ?_ rfl rfl ?_; (focus rfl))
        refine KO.mv rfl rfl ?_
        (refine KO.on rfl rfl ?_ ?_; (focus (simp; done)); (refine KO.fo0 (off := 2) rfl Tryz.runUnderlying33 rfl rfl Tryz.sizeOf31 rfl ?_))
        (refine KO.on rfl rfl ?_ ?_; (focus (simp; done)); (refine KO.fo (off := 0) rfl Tryz.runUnderlying31 rfl rfl Tryz.sizeOf3 rfl ?_))
        (refine KO.on rfl rfl ?_ ?_; (focus (simp; done)); (refine KO.ld rfl rfl Tryz.isAgg3 (by with_reducible (repeat (first | exact Pick.head | apply Pick.tail))) (by exact rfl) rfl ?_))
        (refine KO.on rfl rfl ?_ ?_; (focus (simp; done)); (refine KO.mv rfl rfl ?_))
        (refine KO.on rfl rfl ?_ ?_; (focus (simp; done)); (refine KO.fo0 (off := 2) rfl Tryz.runUnderlying33 rfl rfl Tryz.sizeOf31 rfl ?_))
        (refine KO.on rfl rfl ?_ ?_; (focus (simp; done)); (refine KO.fo (off := 0) rfl Tryz.runUnderlying31 rfl rfl Tryz.sizeOf3 rfl ?_))
        (refine KO.on rfl rfl ?_ ?_; (focus (simp; done)); (refine KO.ld rfl rfl Tryz.isAgg3 (by with_reducible (repeat (first | exact Pick.head | apply Pick.tail))) (by exact rfl) rfl ?_))
        refine KO.on rfl rfl (by simp) ?_; refine KO.ce (cp := []) rfl rfl rfl Tryz.call28 rfl (has_e w _ _ b3 q2 x.m.id (by with_reducible (repeat (first | exact Pick.head | apply Pick.tail))) (by omega)) ?_; rintro v' L' ⟨rfl, rfl⟩; rw [hhs]
        refine KO.on rfl rfl (by simp) ?_; refine KO.ce (cp := []) rfl rfl rfl Tryz.call29 rfl (rhas_e w _ _ b21 l2 x.m.id (by with_reducible (repeat (exact Pick.head))) (by omega)) ?_; rintro v' L' ⟨rfl, rfl⟩
        (refine KO.on rfl rfl ?_ ?_; (focus (simp; done)); (refine KO.neB rfl rfl Tryz.underlying4 rfl ?_))
        (refine KO.pickF rfl ?_ rfl rfl ?_; (focus (simp; done)))
        refine KO.nil ?_
        repeat ((with_reducible refine KQ.next ?_))
        refine K.condF rfl (by simp) ?_
        repeat (first | (with_reducible refine KQ.blk_normal ?_) | (with_reducible refine K.skip ?_))
        exact KQ.mid (q2, l2) hq2 ⟨rfl, rfl, rfl, rfl, trivial⟩ (fun _ h => h.all (by with_reducible repeat (first | exact PAll.nil | refine PAll.cons (by with_reducible repeat (first | exact Pick.head | apply Pick.tail)) ?_)))
    · rintro ⟨q2, l2⟩ hq2
      dsimp only at hq2 ⊢
      refine K.reg ?_
      refine KO.mv rfl rfl ?_
      refine KO.add rfl rfl rfl (by omega) rfl ?_
      refine KO.as rfl rfl ?_
      refine KO.nil ?_
      exact KQ.round (i + 1, q2, l2) ⟨by dsimp only; omega, by dsimp only; exact hq2⟩ (by dsimp only; omega) ⟨rfl, rfl, rfl, rfl, trivial⟩ (fun _ h => h)
  · repeat (first | (with_reducible refine K.seq ?_) | (with_reducible refine KQ.next ?_) | (with_reducible refine KQ.then_exit ?_) | (with_reducible refine KQ.blk_exit ?_) | (with_reducible refine K.exit ?_))
    refine K.reg ?_
    refine KO.as rfl rfl ?_
    refine KO.nil ?_
    repeat (first | (with_reducible refine KQ.next ?_) | (with_reducible refine K.ret ?_))
    refine KQ.ret1 rfl rfl (fun w' hs => fin w' _ hs)
end Go.Proofs.YtjhogocabcdjbaaGreatDoor
/- rows that say 'leaving', of calls in which one goroutine runs from the first step to the last -/
namespace WB
open Go
theorem leaving_of_handed {a : Assume} {C : Checked} {os : Os} {f : FuncId} {r : Reach} {Pre : World → Array Value → Prop} {Post : World → Array Value → Value → World → Prop}
    (h : ReturnsInHanded a C os f r Pre Post) : ReturnsInLeavingWide a C os f r Pre Post := fun enter => by
  obtain ⟨h1, h2, h3, h4, h5⟩ := h enter
  refine ⟨h1, h2, h3, h4, fun w tape i hf => ?_⟩
  obtain ⟨n, v, w', k1, k2, k3, k4, ⟨j, last, k5, k6, k7⟩, k8⟩ := h5 w tape i hf
  exact ⟨n, v, w', k1, k2, k3, k4, ⟨j, last, k5, k6, k7.2.1, onlyLeaving_of_quiet k7.1, k7.2.2⟩, k8⟩
theorem holds_tied_goes (Lk : Looks) {p : Pinned} {s : OpenSpec} {c : OpenClaim} (kinds : List LaidKind) (tests : Bool) (har : Bool × String) (lk : Bool)
    (hc : c.holds p s) (hw : c.wfByText s = true) (htie : c.laidByTextAt Lk p kinds tests)
    (hst : c.start = .entering) (hnb : c.noBlocks = false ∧ c.again = false) (hm : p.checked.prog.mainIs = some (har.1, har.2.toList)) (hn : (!har.1 && har.2.isEmpty && !lk) = false)
    (hl : ∀ f fn, p.checked.prog.funcNamed c.func = some f → p.checked.prog.funcs[f]? = some fn → lk = p.checked.prog.looks [] ∧ ∀ (j : Nat) t, fn.params[j]? = some t → p.checked.prog.wantsStandIn t = false)
    (hg : true = c.goesBy p.checked.prog) :
    Claim7.holds p (.plain s) { stood := { row := c, standIns := [], harness := har, looks := lk }, kinds := [], alts := [], goes := true, laidByText := true, laidKinds := kinds, laidTests := tests, laidLooks := Lk } := by
  have h6 : Claim7.isSixth { stood := { row := c, standIns := [], harness := har, looks := lk }, kinds := [] } = false := by simpa [Claim7.isSixth] using hn
  exact ⟨Claim7.tied_new_at Lk kinds tests (Claim7.new_of_sixth hc har lk hst hnb hm h6 hl) hw, (fun D hD => by cases hD), htie, (fun h => by cases h), hg⟩
/-- the row's closed facts, reckoned apart -/
theorem joined_of {P : Program} {f : FuncId} {fn : Func} {s : ChangeSpec} {c : OpenClaim}
    (a1 : (c.wf (OpenSpec.ofChange s) && laidOutB P && mapsRowed P) = true)
    (a2 : (fn.params.all (P.readableRec ·) && namedTie P c.named s.vars && (c.stops == []) && (P.stops == []) && (c.knobs == []) && (P.stopKnobs == [])) = true)
    (a3 : (c.inPlace == P.inPlace f) = true) (a4 : (c.unfollowed == P.unfollowed f) = true) (a5 : (c.recurses == P.recurses f) = true) (a6 : (c.named == P.varsNamed f) = true)
    (a7 : ((c.maps == (fn.params.toList ++ s.plain.varTypes P).any (P.mapsRec ·)) && (c.ifaces == (fn.params.toList ++ s.plain.varTypes P).any (P.ifacesRec ·)) && (c.mapsOut == P.mapsAmong fn.resultTypes.toList) &&
      (c.loops == (fn.params.toList ++ s.plain.varTypes P).any (P.loopsFrom ·)) && (c.wideKeys == (fn.params.toList ++ s.plain.varTypes P ++ fn.resultTypes.toList).any (P.wideKeysFrom ·)) &&
      s.vars.all (P.varReadable ·) && fn.resultTypes.all (fun t => P.readableRec t && decide (t < P.types.size)) && (c.ifacesOut == fn.resultTypes.toList.any (P.ifacesRec ·)) && (c.loopsOut == fn.resultTypes.toList.any (P.loopsFrom ·)) && (c.plainKeys == P.plainKeys) && c.shortTexts.isNone) = true)
    (a8 : (P.stopsHeard && P.mayEnter && (c.lifted == P.liftsFinal) && (P.make == some c.make)) = true)
    (a9 : ((c.kinds == (if c.domain.isEmpty then [] else fn.params.toList.map fun t => match P.underlying t with | some (.int k) => some k | _ => none)) && (c.pinned == c.pinnedBy) &&
      (c.veiled == (fn.params.toList ++ s.plain.varTypes P ++ fn.resultTypes.toList).any (P.veiledRec ·)) && c.veiledFits P fn.params.toList (fn.params.toList ++ s.plain.varTypes P ++ fn.resultTypes.toList)) = true) :
    joinedFacts P f fn s c = true := by
  unfold joinedFacts
  simp only [Bool.and_eq_true] at a1 a2 a7 a8 a9 ⊢
  grind
end WB
/- waybilllaw.QueuePlays: for every list of items the law returns true, on every schedule, and the list reads as it did. No condition. -/
namespace Go.Proofs.YtjhogocabcdjbaaGreatDoor.qplays
open Go Go.RowKit Go.ChangeShapes Go.WideShapes Go.ChangeAt Go.Deep WB
theorem own : ownKnob Tryz.prog.godebug = none := by kernel_rfl
theorem laidOut : laidOutB Tryz.prog = true := by kernel_rfl
theorem et : Tryz.prog.globalNamed "errors.errorType" = some 4 := by kernel_rfl
theorem rt : (Tryz.prog.cutTypes.find? (·.1 == "internal/reflectlite.rtype")).map (·.2) = some 300 := by kernel_rfl
theorem oneRow : ((List.range 482).filter fun t => Tryz.prog.rowNamed t [101, 114, 114, 111, 114]) = [37] := by kernel_rfl
theorem tsize : Tryz.prog.types.size = 482 := by kernel_rfl
theorem handle_of {W : World} (h : handlesMet Tryz.prog [("errors.errorType", Rows.laid_errors_errorType)] W) : ErrType W := by
  obtain ⟨name, u, ty, e1, e2, e3, e4, e5⟩ := h _ (List.mem_singleton.2 rfl)
  have en : name = [101, 114, 114, 111, 114] := (Option.some.inj e1).symm
  subst en
  obtain rfl := Option.some.inj (rt.symm.trans e2)
  have hm : ty ∈ (List.range 482).filter fun t => Tryz.prog.rowNamed t [101, 114, 114, 111, 114] := List.mem_filter.2 ⟨List.mem_range.2 (by rw [← tsize]; exact e3), e4⟩
  rw [oneRow] at hm
  obtain rfl := List.mem_singleton.1 hm
  have hh : typeHandle Tryz.prog 37 = .pointer (some ⟨10, 37, none⟩) := by kernel_rfl
  rw [hh] at e5
  have h1 := World.var?_cell et e5 0
  unfold ErrType
  simpa using h1
theorem handle_of_laid {W : World} (h : laidMetH Tryz.prog Rows.queuePlaysRow.laid W) : ErrType W := handle_of h.2
/-- a world in which the listed variables lie -/
noncomputable def hold (os : Os) : World :=
  let w0 := World.holding Tryz.prog os ⟨#[], #[], []⟩
  { w0 with heap := w0.heap.modify 4 fun
      | .cells _ t frozen => .cells #[.iface 300 (.agg #[.pointer (some ⟨10, 37, none⟩)])] t frozen
      | o => o }
def data : List (String × DataW Unit) := [("unicode/utf8.acceptRanges", Rows.laid_unicode_utf8_acceptRanges), ("unicode/utf8.first", Rows.laid_unicode_utf8_first)]
noncomputable def laidWorld (os : Os) : World := (hold os).layVars Tryz.prog data
theorem laidWorld_os (os : Os) : (laidWorld os).os = os := World.layVars_os _ _ _
set_option maxRecDepth 100000 in
theorem data_met (os : Os) (args : Array Value) : laidMet Tryz.prog data ((laidWorld os).forCall (fun _ _ => 0) ⟨#[], args, []⟩).memory := by
  have h : laidMet Tryz.prog data (laidWorld os) := laidMet_layVars (w0 := hold os) (data.map (·.1)) [] rfl (by kernel_rfl) (by kernel_rfl) LaidIn.none
  exact h.of_heap (by simp [World.memory, World.forCall, Input.heap])
set_option maxRecDepth 100000 in
theorem laid_met (os : Os) (args : Array Value) : laidMetH Tryz.prog Rows.queuePlaysRow.laid ((laidWorld os).forCall (fun _ _ => 0) ⟨#[], args, []⟩).memory :=
  laidMetH_of_parts (data_met os args) (by kernel_rfl)
set_option maxRecDepth 100000 in
theorem rd_item {H : Type} {enc : TypeId × Value → H} {W : World} {n : Nat} {cs : List Value} {y : DataW H × List MemPlace} (h : DataW.trod enc Tryz.prog W 0 (fun _ => true) true n 33 cs = some y) : ∃ x : Qi, (x.m.body.size ≤ maxLen ∧ x.m.queue.size ≤ maxLen) ∧ cs = qiC x := by
  have hci : Tryz.prog.cellsOf 3 = 1 := by kernel_rfl
  have hcs : Tryz.prog.cellsOf 9 = 1 := by kernel_rfl
  have hcm : Tryz.prog.cellsOf 31 = 5 := by kernel_rfl
  have hlen := trod_len Tryz.underlying33 h (show Tryz.prog.cellsOf 33 = 7 by kernel_rfl)
  obtain ⟨s0, e0, _⟩ := trod_i Tryz.underlying33 h 0 0 3 rfl hci Tryz.underlying3
  obtain ⟨s1, e1, _⟩ := trod_i Tryz.underlying33 h 1 1 3 rfl hci Tryz.underlying3
  obtain ⟨m, y', hm⟩ := trod_field Tryz.underlying33 h 2 2 31 5 rfl hcm
  match cs, hlen, e0, e1, hm with
  | [c0, c1, c2, c3, c4, c5, c6], _, e0, e1, hm =>
    simp only [List.drop_succ_cons, List.drop_zero, List.take_succ_cons, List.take_zero] at hm
    obtain ⟨s2, e2, _⟩ := trod_i Tryz.underlying31 hm 0 0 3 rfl hci Tryz.underlying3
    obtain ⟨s3, e3, _⟩ := trod_i Tryz.underlying31 hm 1 1 3 rfl hci Tryz.underlying3
    obtain ⟨s4, e4, w4⟩ := trod_str Tryz.underlying31 hm 2 2 9 rfl hcs Tryz.underlying9
    obtain ⟨s5, e5, w5⟩ := trod_str Tryz.underlying31 hm 3 3 9 rfl hcs Tryz.underlying9
    obtain ⟨s6, e6, _⟩ := trod_i Tryz.underlying31 hm 4 4 3 rfl hci Tryz.underlying3
    simp only [List.getElem?_cons_zero, List.getElem?_cons_succ, Option.some.injEq] at e0 e1 e2 e3 e4 e5 e6
    exact ⟨⟨s0, s1, ⟨s2, s3, s4, s5, s6⟩⟩, ⟨w4, w5⟩, by rw [e0, e1, e2, e3, e4, e5, e6]; rfl⟩
theorem rdA_ext {W W' : World} {v : Value} {xs : List Qi} (h : RdA W 7 qiC v xs) (e : Ext W W') : RdA W' 7 qiC v xs := by
  obtain ⟨a, cap, rfl, hc⟩ := h
  exact ⟨a, cap, rfl, fun i x hx => by obtain ⟨ad, rfl, hh⟩ := hc i x hx; exact ⟨ad, rfl, hh.ext e⟩⟩
set_option maxRecDepth 100000 in
theorem contract (H : Type) (enc : TypeId × Value → H) (W : World) (base : Nat) (args : Array Value) (ds gs : List (DataW H)) (before : List MemPlace)
    (hval : ∀ (j : Nat) t v, Tryz.f3.params[j]? = some t → args[j]? = some v → Value.okWide Tryz.prog W .any base t v)
    (hW : DataW.Whole enc Tryz.prog Tryz.f3.params.toList Rows.queuePlaysSpec.vars false W args.toList ds gs before) (hL : laidMetH Tryz.prog Rows.queuePlaysRow.laid W) :
    Calls Tryz.prog 3 args W fun e W' => ∃ v, e = .returned v ∧ Rows.queuePlaysSpec.post enc Tryz.prog Tryz.f3 false true false false W args v W' := by
  have hW' := hW
  obtain ⟨p, q, hA0, hV, rfl, hfz, hnd⟩ := hW
  have hA : DataW.TrodAll enc Tryz.prog W 0 (fun _ => true) true Tryz.f3.params.toList args.toList ds p := hA0
  have hA2 := hA
  rw [Tryz.params3] at hA hval
  obtain ⟨v0, d0, rfl, rfl, h0⟩ := trodAll_one hA
  obtain ⟨rfl, rfl⟩ := trodVars_none hV
  have hET := handle_of_laid hL
  obtain ⟨xs, hx, hsz⟩ := open_sl (φ := fun x : Qi => x.m.body.size ≤ maxLen ∧ x.m.queue.size ≤ maxLen) (cf := qiC) Tryz.underlying22 (hval 0 22 v0 rfl rfl) h0 (show Tryz.prog.cellsOf 33 = 7 by kernel_rfl) (fun n cs y h => rd_item h)
  have hlt : ∀ x ∈ p, x.block < W.heap.size := fun x hx => by
    have := hW'.lt x (List.mem_append_left _ hx)
    simpa using this
  have hwalk : Calls Tryz.prog 3 #[v0] W fun e W' => e = .returned (.bool true) ∧ Below W.heap.size W W' := by
    refine (plays_e W [] v0 xs (fun w hw => rdA_ext hx (Ext.of_below hw.below)) hsz hET W (St.init W)).mono ?_
    rintro e W' ⟨v, L', rfl, ⟨rfl, _⟩, _, hb⟩
    exact ⟨rfl, hb⟩
  refine hwalk.mono fun e W' ⟨he, hb⟩ => ?_
  subst he
  simp only [List.append_nil] at hW'
  exact ⟨_, rfl, _, _, _, [], p, [], hW', trodAll_mk1 (shut_bool Tryz.underlying4 _), law_args laidOut hb (by kernel_rfl) hA2 hlt, rfl, hb.frame _, fun h => by cases h⟩
set_option maxRecDepth 100000 in
theorem reads (os : Os) {H : Type} (enc : TypeId × Value → H) : ∃ places, DataW.whole enc Tryz.prog ((laidWorld os).forCall (fun _ _ => 0) ⟨#[], #[.slice none 0 0], []⟩).memory Tryz.f3.params.toList Rows.queuePlaysSpec.vars false (#[.slice none 0 0] : Array Value).toList 8 = some ([.nil], [], places) :=
  ⟨[], by kernel_rfl⟩
set_option maxRecDepth 100000 in
theorem lifted (os : Os) (started : os.Started) (H : Type) (enc : TypeId × Value → H) (F : Stop.Interp) :
    ReturnsInHanded {} Tryz.checked os 3 .any ((OpenSpec.ofChange Rows.queuePlaysSpec).preRow enc Tryz.prog Tryz.f3 Rows.queuePlaysRow.domain false Rows.queuePlaysRow.laid) (((OpenSpec.ofChange Rows.queuePlaysSpec).at F).post enc Tryz.prog Tryz.f3 false true false false) := by
  obtain ⟨places, hx⟩ := reads os enc
  refine returnsInHanded_of_row (C := Tryz.checked) (s := OpenSpec.ofChange Rows.queuePlaysSpec) own started (by kernel_rfl) Tryz.func3
    (witness_row_sh (enc := enc) (C := Tryz.checked) false (laidWorld os) #[.slice none 0 0] (laidWorld_os os) (World.shaped_of_ZipB (by kernel_rfl) (by kernel_rfl)) (by kernel_rfl)
      (OpenSpec.preRow_of_cond 8 hx (by kernel_rfl) (fun k hk => by cases hk) (by kernel_rfl) (laid_met os _))) ?_
  intro W base args ds gs before hval hW _ _ _ hL _ _
  exact contract H enc W base args ds gs before hval hW hL
theorem j1 : (Rows.queuePlaysRow.wf (OpenSpec.ofChange Rows.queuePlaysSpec) && laidOutB Tryz.prog && mapsRowed Tryz.prog) = true := by kernel_rfl
theorem j2 : (Tryz.f3.params.all (Tryz.prog.readableRec ·) && namedTie Tryz.prog Rows.queuePlaysRow.named Rows.queuePlaysSpec.vars && (Rows.queuePlaysRow.stops == []) && (Tryz.prog.stops == []) && (Rows.queuePlaysRow.knobs == []) && (Tryz.prog.stopKnobs == [])) = true := by kernel_rfl
theorem j3 : (Rows.queuePlaysRow.inPlace == Tryz.prog.inPlace 3) = true := by kernel_rfl
theorem j4 : (Rows.queuePlaysRow.unfollowed == Tryz.prog.unfollowed 3) = true := by kernel_rfl
theorem j5 : (Rows.queuePlaysRow.recurses == Tryz.prog.recurses 3) = true := by kernel_rfl
theorem j6 : (Rows.queuePlaysRow.named == Tryz.prog.varsNamed 3) = true := by kernel_rfl
theorem j8 : (Tryz.prog.stopsHeard && Tryz.prog.mayEnter && (Rows.queuePlaysRow.lifted == Tryz.prog.liftsFinal) && (Tryz.prog.make == some Rows.queuePlaysRow.make)) = true := by kernel_rfl
theorem closed : joinedFacts Tryz.prog 3 Tryz.f3 Rows.queuePlaysSpec Rows.queuePlaysRow = true := joined_of j1 j2 j3 j4 j5 j6 (by as_aux_lemma => kernel_rfl) j8 (by as_aux_lemma => kernel_rfl)
theorem said : Rows.QueuePlaysSaid :=
  OpenClaim.holds_of_wide_leaving 3 Tryz.f3 rfl rfl rfl rfl rfl rfl rfl ⟨rfl, rfl, rfl, rfl, rfl⟩ rfl rfl rfl rfl rfl (by kernel_rfl) Tryz.func3 closed
    (of_decide_eq_true (by kernel_rfl)) (by unfold Func.isWrapper; first | (rw [if_pos (by decide +kernel)]; kernel_rfl) | (rw [if_neg (by decide +kernel)]; exact ⟨rfl, rfl⟩))
    (fun os started H enc _ => by rw [OpenClaim.pre_eq_preRow]; exact leaving_of_handed (lifted os started H enc (fun _ _ _ => 0)))
set_option maxRecDepth 100000 in
theorem plain (f : FuncId) (fn : Func) (hf : Tryz.pinned.checked.prog.funcNamed "waybill/waybilllaw.QueuePlays" = some f) (hfn : Tryz.pinned.checked.prog.funcs[f]? = some fn) :
    true = Tryz.pinned.checked.prog.looks [] ∧ ∀ (j : Nat) t, fn.params[j]? = some t → Tryz.pinned.checked.prog.wantsStandIn t = false := by
  obtain rfl : f = 3 := Option.some.inj ((show Tryz.prog.funcNamed "waybill/waybilllaw.QueuePlays" = some 3 by kernel_rfl).symm.trans hf) |>.symm
  obtain rfl : fn = Tryz.f3 := (Option.some.inj (Tryz.func3.symm.trans hfn)).symm
  refine ⟨by kernel_rfl, fun j t ht => ?_⟩
  rw [Tryz.params3] at ht
  have hm : t ∈ [22] := by simpa using Array.mem_of_getElem? ht
  have hall : ([22].all fun u => !Tryz.prog.wantsStandIn u) = true := by kernel_rfl
  exact (show Tryz.prog.wantsStandIn t = false by simpa using List.all_eq_true.1 hall t hm)
set_option maxRecDepth 100000 in
/-- the card -/
theorem card : Rows.QueuePlaysCardSaid :=
  holds_tied_goes .later _ _ _ _ said (by kernel_rfl) queuePlays_row_tie rfl ⟨rfl, rfl⟩ (by kernel_rfl) rfl plain (by kernel_rfl)
end Go.Proofs.YtjhogocabcdjbaaGreatDoor.qplays
