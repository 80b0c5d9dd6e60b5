/- waybilllaw.NamesPlay: for every list of calls the law returns true, on every schedule, and the list reads as it did. No condition. -/
import Derived.Shelf.SlSortFuncK.WholeK
import Derived.Shelf.GgSortFunc.Tiny
import Derived.Lib.AppendIntMem
import Derived.Maps.OwnOps
import Derived.Conc.Holds
import Derived.Leaving
import Derived.SevenTiedAt
import Derived.Test.YtjhogocabcdjbaaGreatDoorCards
import Derived.Test.YtjhogocabcdjbaaGreatDoorTie
import Derived.Test.YtjhogocabcdjbaaGreatDoorB2
set_option linter.unusedSimpArgs false
set_option linter.unusedVariables false
/- the document's names: of, May, Drop, Set, Local. -/
namespace Go.Proofs.YtjhogocabcdjbaaGreatDoor
open Go Go.RowKit WB
section
variable (w0 : World) (L R R2 : List HP) (b off : Nat) (cs : List Value) (T : TypeId) (v : Value) (l : List Nm) (s : ByteArray) (x : Nm)
theorem rright_nm (h1 : x.name.size ≤ maxLen) (h2 : x.tgt.size ≤ maxLen) : KE Tryz.prog 42 #[.agg x.cells.toArray] w0 L (fun u M => u = .bool (rightNm x) ∧ M = L) := by
  refine KE.mk (n := 26) Tryz.func42 rfl Tryz.ntmps42 (by simp) ?_
  intro w hw
  obtain ⟨xn, xt, xh⟩ := x
  repeat ((with_reducible refine K.seq ?_))
  refine K.reg ?_
  refine KO.box rfl rfl (by exact rfl) rfl ?_; intro b1
  refine KO.as rfl rfl ?_
  refine KO.nil ?_
  repeat (first | (with_reducible refine K.seq ?_) | (with_reducible refine KQ.next ?_))
  generalize hc1 : wordB xn = c1
  cases c1
  · refine K.reg ?_
    refine KO.fo0 (off := 0) rfl Tryz.runUnderlying69 rfl rfl Tryz.sizeOf9 rfl ?_
    refine KO.ld rfl rfl Tryz.isAgg9 (by with_reducible (repeat (exact Pick.head))) (by exact rfl) rfl ?_
    refine KO.ce (cp := []) rfl rfl rfl Tryz.call64 rfl (rword_e w _ xn h1) ?_; rintro v' L' ⟨rfl, rfl⟩; rw [hc1]
    refine KO.mv rfl rfl ?_
    (refine KO.no rfl rfl ?_ rfl ?_; (focus rfl))
    (refine KO.no rfl rfl ?_ rfl ?_; (focus rfl))
    (refine KO.no rfl rfl ?_ rfl ?_; (focus rfl))
    (refine KO.pickF rfl ?_ rfl rfl ?_; (focus rfl))
    refine KO.mv rfl rfl ?_
    (refine KO.no rfl rfl ?_ rfl ?_; (focus rfl))
    (refine KO.no rfl rfl ?_ rfl ?_; (focus rfl))
    (refine KO.no rfl rfl ?_ rfl ?_; (focus rfl))
    (refine KO.no rfl rfl ?_ rfl ?_; (focus rfl))
    refine KO.no2 rfl rfl rfl ?_
    refine KO.no2 rfl rfl rfl ?_
    refine KO.no2 rfl rfl rfl ?_
    refine KO.no2 rfl rfl rfl ?_
    refine KO.no2 rfl rfl rfl ?_
    refine KO.no2 rfl rfl rfl ?_
    refine KO.no2 rfl rfl rfl ?_
    refine KO.no2 rfl rfl rfl ?_
    (refine KO.no rfl rfl ?_ rfl ?_; (focus rfl))
    (refine KO.pickF rfl ?_ rfl rfl ?_; (focus rfl))
    refine KO.as rfl rfl ?_
    refine KO.nil ?_
    repeat (first | (with_reducible refine KQ.next ?_) | (with_reducible refine K.ret ?_))
    refine KQ.ret1 rfl rfl (fun w' hs => ⟨_, _, rfl, ⟨?_, rfl⟩, hw.below_step hs.below, hs.below⟩)
    unfold rightNm; rw [hc1]; rfl
  generalize hc2 : (decide (-1 ≤ xh) && decide (xh ≤ 3)) = c2
  cases c2
  · refine K.reg ?_
    refine KO.fo0 (off := 0) rfl Tryz.runUnderlying69 rfl rfl Tryz.sizeOf9 rfl ?_
    refine KO.ld rfl rfl Tryz.isAgg9 (by with_reducible (repeat (exact Pick.head))) (by exact rfl) rfl ?_
    refine KO.ce (cp := []) rfl rfl rfl Tryz.call64 rfl (rword_e w _ xn h1) ?_; rintro v' L' ⟨rfl, rfl⟩; rw [hc1]
    refine KO.mv rfl rfl ?_
    (refine KO.on rfl rfl ?_ ?_; (focus rfl); (refine KO.fo0 (off := 2) rfl Tryz.runUnderlying69 rfl rfl Tryz.sizeOf3 rfl ?_))
    (refine KO.on rfl rfl ?_ ?_; (focus rfl); (refine KO.ld rfl rfl Tryz.isAgg3 (by with_reducible (repeat (exact Pick.head))) (by exact rfl) rfl ?_))
    refine KO.on rfl rfl rfl ?_; refine KO.ce (cp := []) rfl rfl rfl Tryz.call62 rfl (in_e w _ xh (-1) 3) ?_; rintro v' L' ⟨rfl, rfl⟩; rw [hc2]
    (refine KO.pickT rfl ?_ rfl rfl ?_; (focus rfl))
    refine KO.mv rfl rfl ?_
    (refine KO.no rfl rfl ?_ rfl ?_; (focus rfl))
    (refine KO.no rfl rfl ?_ rfl ?_; (focus rfl))
    (refine KO.no rfl rfl ?_ rfl ?_; (focus rfl))
    (refine KO.no rfl rfl ?_ rfl ?_; (focus rfl))
    refine KO.no2 rfl rfl rfl ?_
    refine KO.no2 rfl rfl rfl ?_
    refine KO.no2 rfl rfl rfl ?_
    refine KO.no2 rfl rfl rfl ?_
    refine KO.no2 rfl rfl rfl ?_
    refine KO.no2 rfl rfl rfl ?_
    refine KO.no2 rfl rfl rfl ?_
    refine KO.no2 rfl rfl rfl ?_
    (refine KO.no rfl rfl ?_ rfl ?_; (focus rfl))
    (refine KO.pickF rfl ?_ rfl rfl ?_; (focus rfl))
    refine KO.as rfl rfl ?_
    refine KO.nil ?_
    repeat (first | (with_reducible refine KQ.next ?_) | (with_reducible refine K.ret ?_))
    refine KQ.ret1 rfl rfl (fun w' hs => ⟨_, _, rfl, ⟨?_, rfl⟩, hw.below_step hs.below, hs.below⟩)
    unfold rightNm; rw [← Bool.and_assoc (decide (-1 ≤ xh)), hc2]; simp
  generalize hc3 : wordB xt = c3
  cases c3
  · by_cases he : xt = ⟨#[]⟩
    · refine K.reg ?_
      refine KO.fo0 (off := 0) rfl Tryz.runUnderlying69 rfl rfl Tryz.sizeOf9 rfl ?_
      refine KO.ld rfl rfl Tryz.isAgg9 (by with_reducible (repeat (exact Pick.head))) (by exact rfl) rfl ?_
      refine KO.ce (cp := []) rfl rfl rfl Tryz.call64 rfl (rword_e w _ xn h1) ?_; rintro v' L' ⟨rfl, rfl⟩; rw [hc1]
      refine KO.mv rfl rfl ?_
      (refine KO.on rfl rfl ?_ ?_; (focus rfl); (refine KO.fo0 (off := 2) rfl Tryz.runUnderlying69 rfl rfl Tryz.sizeOf3 rfl ?_))
      (refine KO.on rfl rfl ?_ ?_; (focus rfl); (refine KO.ld rfl rfl Tryz.isAgg3 (by with_reducible (repeat (exact Pick.head))) (by exact rfl) rfl ?_))
      refine KO.on rfl rfl rfl ?_; refine KO.ce (cp := []) rfl rfl rfl Tryz.call62 rfl (in_e w _ xh (-1) 3) ?_; rintro v' L' ⟨rfl, rfl⟩; rw [hc2]
      (refine KO.pickT rfl ?_ rfl rfl ?_; (focus rfl))
      refine KO.mv rfl rfl ?_
      (refine KO.on rfl rfl ?_ ?_; (focus rfl); (refine KO.fo0 (off := 1) rfl Tryz.runUnderlying69 rfl rfl Tryz.sizeOf9 rfl ?_))
      (refine KO.on rfl rfl ?_ ?_; (focus rfl); (refine KO.ld rfl rfl Tryz.isAgg9 (by with_reducible (repeat (exact Pick.head))) (by exact rfl) rfl ?_))
      refine KO.on rfl rfl rfl ?_; refine KO.ce (cp := []) rfl rfl rfl Tryz.call64 rfl (rword_e w _ xt h2) ?_; rintro v' L' ⟨rfl, rfl⟩; rw [hc3]
      (refine KO.on rfl rfl ?_ ?_; (focus rfl); (refine KO.mv rfl rfl ?_))
      (refine KO.on rfl rfl ?_ ?_; (focus rfl); (refine KO.fo0 (off := 1) rfl Tryz.runUnderlying69 rfl rfl Tryz.sizeOf9 rfl ?_))
      (refine KO.on rfl rfl ?_ ?_; (focus rfl); (refine KO.ld rfl rfl Tryz.isAgg9 (by with_reducible (repeat (exact Pick.head))) (by exact rfl) rfl ?_))
      refine KO.on rfl rfl rfl ?_; refine KO.eqS rfl rfl rfl ?_; rw [show decide (xt = ⟨#[]⟩) = true by simp [he]]
      (refine KO.on rfl rfl ?_ ?_; (focus rfl); (refine KO.mv rfl rfl ?_))
      (refine KO.on rfl rfl ?_ ?_; (focus rfl); (refine KO.fo0 (off := 2) rfl Tryz.runUnderlying69 rfl rfl Tryz.sizeOf3 rfl ?_))
      (refine KO.on rfl rfl ?_ ?_; (focus rfl); (refine KO.ld rfl rfl Tryz.isAgg3 (by with_reducible (repeat (exact Pick.head))) (by exact rfl) rfl ?_))
      (refine KO.on rfl rfl ?_ ?_; (focus rfl); (refine KO.eqI rfl rfl rfl ?_))
      (refine KO.on rfl rfl ?_ ?_; (focus rfl); ((refine KO.pickT rfl ?_ rfl rfl ?_; (focus rfl))))
      (refine KO.on rfl rfl ?_ ?_; (focus rfl); ((refine KO.pickF rfl ?_ rfl rfl ?_; (focus rfl))))
      (refine KO.pickT rfl ?_ rfl rfl ?_; (focus rfl))
      refine KO.as rfl rfl ?_
      refine KO.nil ?_
      repeat (first | (with_reducible refine KQ.next ?_) | (with_reducible refine K.ret ?_))
      refine KQ.ret1 rfl rfl (fun w' hs => ⟨_, _, rfl, ⟨?_, rfl⟩, hw.below_step hs.below, hs.below⟩)
      unfold rightNm; rw [← Bool.and_assoc (decide (-1 ≤ xh)), hc1, hc2, hc3, show emptyB xt = true by rw [he]; decide +kernel]
      simp only [Bool.true_and, Bool.false_or]
      by_cases hh : xh = -1 <;> simp [hh]
    · refine K.reg ?_
      refine KO.fo0 (off := 0) rfl Tryz.runUnderlying69 rfl rfl Tryz.sizeOf9 rfl ?_
      refine KO.ld rfl rfl Tryz.isAgg9 (by with_reducible (repeat (exact Pick.head))) (by exact rfl) rfl ?_
      refine KO.ce (cp := []) rfl rfl rfl Tryz.call64 rfl (rword_e w _ xn h1) ?_; rintro v' L' ⟨rfl, rfl⟩; rw [hc1]
      refine KO.mv rfl rfl ?_
      (refine KO.on rfl rfl ?_ ?_; (focus rfl); (refine KO.fo0 (off := 2) rfl Tryz.runUnderlying69 rfl rfl Tryz.sizeOf3 rfl ?_))
      (refine KO.on rfl rfl ?_ ?_; (focus rfl); (refine KO.ld rfl rfl Tryz.isAgg3 (by with_reducible (repeat (exact Pick.head))) (by exact rfl) rfl ?_))
      refine KO.on rfl rfl rfl ?_; refine KO.ce (cp := []) rfl rfl rfl Tryz.call62 rfl (in_e w _ xh (-1) 3) ?_; rintro v' L' ⟨rfl, rfl⟩; rw [hc2]
      (refine KO.pickT rfl ?_ rfl rfl ?_; (focus rfl))
      refine KO.mv rfl rfl ?_
      (refine KO.on rfl rfl ?_ ?_; (focus rfl); (refine KO.fo0 (off := 1) rfl Tryz.runUnderlying69 rfl rfl Tryz.sizeOf9 rfl ?_))
      (refine KO.on rfl rfl ?_ ?_; (focus rfl); (refine KO.ld rfl rfl Tryz.isAgg9 (by with_reducible (repeat (exact Pick.head))) (by exact rfl) rfl ?_))
      refine KO.on rfl rfl rfl ?_; refine KO.ce (cp := []) rfl rfl rfl Tryz.call64 rfl (rword_e w _ xt h2) ?_; rintro v' L' ⟨rfl, rfl⟩; rw [hc3]
      (refine KO.on rfl rfl ?_ ?_; (focus rfl); (refine KO.mv rfl rfl ?_))
      (refine KO.on rfl rfl ?_ ?_; (focus rfl); (refine KO.fo0 (off := 1) rfl Tryz.runUnderlying69 rfl rfl Tryz.sizeOf9 rfl ?_))
      (refine KO.on rfl rfl ?_ ?_; (focus rfl); (refine KO.ld rfl rfl Tryz.isAgg9 (by with_reducible (repeat (exact Pick.head))) (by exact rfl) rfl ?_))
      refine KO.on rfl rfl rfl ?_; refine KO.eqS rfl rfl rfl ?_; rw [show decide (xt = ⟨#[]⟩) = false by simp [he]]
      (refine KO.on rfl rfl ?_ ?_; (focus rfl); (refine KO.mv rfl rfl ?_))
      (refine KO.no rfl rfl ?_ rfl ?_; (focus rfl))
      (refine KO.no rfl rfl ?_ rfl ?_; (focus rfl))
      (refine KO.no rfl rfl ?_ rfl ?_; (focus rfl))
      (refine KO.on rfl rfl ?_ ?_; (focus rfl); ((refine KO.pickF rfl ?_ rfl rfl ?_; (focus rfl))))
      (refine KO.on rfl rfl ?_ ?_; (focus rfl); ((refine KO.pickF rfl ?_ rfl rfl ?_; (focus rfl))))
      (refine KO.pickT rfl ?_ rfl rfl ?_; (focus rfl))
      refine KO.as rfl rfl ?_
      refine KO.nil ?_
      repeat (first | (with_reducible refine KQ.next ?_) | (with_reducible refine K.ret ?_))
      refine KQ.ret1 rfl rfl (fun w' hs => ⟨_, _, rfl, ⟨?_, rfl⟩, hw.below_step hs.below, hs.below⟩)
      unfold rightNm; rw [hc1, hc3, show emptyB xt = false by rw [emptyB_eq]; simp [he]]; simp
  · refine K.reg ?_
    refine KO.fo0 (off := 0) rfl Tryz.runUnderlying69 rfl rfl Tryz.sizeOf9 rfl ?_
    refine KO.ld rfl rfl Tryz.isAgg9 (by with_reducible (repeat (exact Pick.head))) (by exact rfl) rfl ?_
    refine KO.ce (cp := []) rfl rfl rfl Tryz.call64 rfl (rword_e w _ xn h1) ?_; rintro v' L' ⟨rfl, rfl⟩; rw [hc1]
    refine KO.mv rfl rfl ?_
    (refine KO.on rfl rfl ?_ ?_; (focus rfl); (refine KO.fo0 (off := 2) rfl Tryz.runUnderlying69 rfl rfl Tryz.sizeOf3 rfl ?_))
    (refine KO.on rfl rfl ?_ ?_; (focus rfl); (refine KO.ld rfl rfl Tryz.isAgg3 (by with_reducible (repeat (exact Pick.head))) (by exact rfl) rfl ?_))
    refine KO.on rfl rfl rfl ?_; refine KO.ce (cp := []) rfl rfl rfl Tryz.call62 rfl (in_e w _ xh (-1) 3) ?_; rintro v' L' ⟨rfl, rfl⟩; rw [hc2]
    (refine KO.pickT rfl ?_ rfl rfl ?_; (focus rfl))
    refine KO.mv rfl rfl ?_
    (refine KO.on rfl rfl ?_ ?_; (focus rfl); (refine KO.fo0 (off := 1) rfl Tryz.runUnderlying69 rfl rfl Tryz.sizeOf9 rfl ?_))
    (refine KO.on rfl rfl ?_ ?_; (focus rfl); (refine KO.ld rfl rfl Tryz.isAgg9 (by with_reducible (repeat (exact Pick.head))) (by exact rfl) rfl ?_))
    refine KO.on rfl rfl rfl ?_; refine KO.ce (cp := []) rfl rfl rfl Tryz.call64 rfl (rword_e w _ xt h2) ?_; rintro v' L' ⟨rfl, rfl⟩; rw [hc3]
    (refine KO.on rfl rfl ?_ ?_; (focus rfl); (refine KO.mv rfl rfl ?_))
    (refine KO.no rfl rfl ?_ rfl ?_; (focus rfl))
    (refine KO.no rfl rfl ?_ rfl ?_; (focus rfl))
    (refine KO.no rfl rfl ?_ rfl ?_; (focus rfl))
    (refine KO.no rfl rfl ?_ rfl ?_; (focus rfl))
    refine KO.no2 rfl rfl rfl ?_
    refine KO.no2 rfl rfl rfl ?_
    refine KO.no2 rfl rfl rfl ?_
    (refine KO.no rfl rfl ?_ rfl ?_; (focus rfl))
    (refine KO.on rfl rfl ?_ ?_; (focus rfl); ((refine KO.pickT rfl ?_ rfl rfl ?_; (focus rfl))))
    (refine KO.pickT rfl ?_ rfl rfl ?_; (focus rfl))
    refine KO.as rfl rfl ?_
    refine KO.nil ?_
    repeat (first | (with_reducible refine KQ.next ?_) | (with_reducible refine K.ret ?_))
    refine KQ.ret1 rfl rfl (fun w' hs => ⟨_, _, rfl, ⟨?_, rfl⟩, hw.below_step hs.below, hs.below⟩)
    unfold rightNm; rw [← Bool.and_assoc (decide (-1 ≤ xh)), hc1, hc2, hc3]; rfl
theorem of_e (hp : Pick L (blk b (.cells cs.toArray T (0, 0))) R) (hq : Pick R (nmS v l) R2) (hc : cs[off]? = some v) (hl : l.length < 1000000) :
    KE Tryz.prog 89 #[.pointer (some ⟨b, off, none⟩), .string s] w0 L (fun u M => u = .tuple #[.agg (ofNm l s).cells.toArray, .bool (lk l s).isSome] ∧ M = L) := by
  refine KE.mk (n := 24) Tryz.func89 rfl Tryz.ntmps89 (by simp) ?_
  intro w hw
  have hcell : w.cell? ⟨b, off, none⟩ = some v := by rw [World.cell?, (hw.lookP hp).2]; simpa using hc
  obtain ⟨sa, cap, rfl, hsa⟩ := RdA.ofSL (cf := Nm.cells) (sz := 3) (E := 69) (fun _ => rfl) hq (hw.pick hp).drop
  repeat ((with_reducible refine K.seq ?_))
  refine K.reg ?_
  refine KO.alloc rfl Tryz.zeroValue69 (by exact rfl) rfl ?_; intro b4
  refine KO.as rfl rfl ?_
  refine KO.nil ?_
  repeat (first | (with_reducible refine K.seq ?_) | (with_reducible refine KQ.next ?_))
  refine K.reg ?_
  refine KO.mv rfl rfl ?_
  refine KO.nc rfl rfl ?_
  refine KO.fo (off := 0) rfl Tryz.runUnderlying67 rfl rfl Tryz.sizeOf62 rfl ?_
  refine KO.ld0 rfl rfl Tryz.isAgg62 hcell rfl ?_
  refine KO.len rfl Tryz.underlying62 rfl ?_
  refine KO.mv rfl rfl ?_
  refine KO.nil ?_
  repeat (first | (with_reducible refine KQ.next ?_) | (with_reducible refine K.block ?_))
  refine K.loop (fun k : Nat => [(0, .pointer (some ⟨b, off, none⟩)), (1, .string s), (4, .pointer (some ⟨b4, 0, none⟩)), (11, .slice sa l.length cap), (12, .int .i64 (l.length : Nat)), (13, .int .i64 (k : Nat))]) (fun _ => [blk b4 (.cells [.string ⟨#[]⟩, .string ⟨#[]⟩, .int .i64 0].toArray 69 (0, 0))]) (fun k => k ≤ l.length ∧ ∀ (j : Nat) y, j < k → l[j]? = some y → y.name ≠ s) (fun k => l.length - k) 0
    ⟨Nat.zero_le _, fun j y h => by omega⟩ ⟨rfl, rfl, rfl, rfl, rfl, rfl, trivial⟩ (fun _ h => h.all (by with_reducible repeat (exact PAll.refl))) ?_
  rintro k ⟨hk, hall⟩
  repeat ((with_reducible refine K.seq ?_))
  refine K.reg ?_
  refine KO.lss rfl rfl rfl ?_
  refine KO.nil ?_
  repeat (first | (with_reducible refine K.seq ?_) | (with_reducible refine KQ.next ?_))
  refine K.condD rfl (fun h => ?_) (fun h => ?_)
  · obtain ⟨y, hy⟩ : ∃ e, l[k]? = some e := ⟨l[k], List.getElem?_eq_getElem (by omega)⟩
    obtain ⟨ad, rfl, hh⟩ := hsa k y hy
    obtain ⟨yn, yt, yh⟩ := y
    repeat (first | (with_reducible refine K.seq ?_) | (with_reducible refine KQ.next ?_) | (with_reducible refine K.skip ?_) | (with_reducible refine K.block ?_))
    refine K.reg ?_
    refine KO.idxH rfl rfl Tryz.runUnderlying62 Tryz.sizeOf69 (by exact rfl) (by omega) rfl ?_
    refine KO.ldN0 (cs := (Nm.cells ⟨yn, yt, yh⟩).toArray) rfl rfl Tryz.isAgg69 Tryz.sizeOf69 rfl hh rfl ?_
    refine KO.alloc rfl Tryz.zeroValue69 (by exact rfl) rfl ?_; intro b7
    refine KO.sto0 rfl rfl rfl (by exact rfl) (by exact Tryz.sizeOf69) (by exact rfl) (by with_reducible (repeat (exact Pick.head))) (by exact rfl) ?_
    refine KO.nil ?_
    repeat (first | (with_reducible refine K.seq ?_) | (with_reducible refine KQ.next ?_))
    refine K.reg ?_
    refine KO.fo0 (off := 0) rfl Tryz.runUnderlying69 rfl rfl Tryz.sizeOf9 rfl ?_
    refine KO.ld rfl rfl Tryz.isAgg9 (by with_reducible (repeat (exact Pick.head))) (by exact rfl) rfl ?_
    refine KO.mv rfl rfl ?_
    refine KO.eqS rfl rfl rfl ?_
    refine KO.nil ?_
    repeat ((with_reducible refine KQ.next ?_))
    refine K.condD rfl (fun h5 => ?_) (fun h5 => ?_)
    · repeat ((with_reducible refine K.seq ?_))
      have hf : lk l s = some ⟨yn, yt, yh⟩ := lk_first hy h5 hall
      refine K.reg ?_
      refine KO.ldB0 rfl rfl Tryz.isAgg69 Tryz.sizeOf69 (by with_reducible (repeat (exact Pick.head))) (by exact rfl) rfl ?_
      refine KO.sto0 rfl rfl rfl (by exact rfl) (by exact Tryz.sizeOf69) (by exact rfl) (by with_reducible (repeat (first | exact Pick.head | apply Pick.tail))) (by exact rfl) ?_
      refine KO.as rfl rfl ?_
      refine KO.nil ?_
      repeat (first | (with_reducible refine KQ.next ?_) | (with_reducible refine KQ.then_ret ?_) | (with_reducible refine KQ.blk_ret ?_) | (with_reducible refine K.ret ?_))
      refine KQ.retCT rfl rfl Tryz.isAgg69 (by with_reducible (repeat (exact Pick.head))) (by exact Tryz.sizeOf69) rfl (fun w' hs => ⟨_, _, rfl, ⟨?_, rfl⟩, hw.below_step hs.below, hs.below⟩)
      unfold ofNm; rw [hf]; rfl
    · repeat (first | (with_reducible refine KQ.next ?_) | (with_reducible refine KQ.blk_normal ?_) | (with_reducible refine K.skip ?_))
      refine K.reg ?_
      refine KO.add rfl rfl rfl (by omega) rfl ?_
      refine KO.mv rfl rfl ?_
      refine KO.nil ?_
      refine KQ.round (k + 1) ⟨by omega, fun j z hj hz => ?_⟩ (by omega) ⟨rfl, rfl, rfl, rfl, rfl, rfl, trivial⟩ (fun _ h => h.all (by with_reducible repeat (first | exact PAll.nil | refine PAll.cons (by with_reducible repeat (first | exact Pick.head | apply Pick.tail)) ?_)))
      by_cases hjk : j = k
      · subst hjk; rw [hy] at hz; cases hz; exact h5
      · exact hall j z (by omega) hz
  · repeat (first | (with_reducible refine K.seq ?_) | (with_reducible refine KQ.next ?_) | (with_reducible refine KQ.then_exit ?_) | (with_reducible refine KQ.blk_exit ?_) | (with_reducible refine K.exit ?_))
    have hf : lk l s = none := lk_no fun j z hz => hall j z (by have := (List.getElem?_eq_some_iff.1 hz).1; omega) hz
    refine K.reg ?_
    refine KO.bldN (pl := [(0, 1), (1, 1), (2, 1)]) rfl Tryz.zeroValue69 Tryz.runUnderlying69 (by intro w; simp [Tryz.sizeOf3, Tryz.sizeOf9]) (by exact rfl) rfl ?_
    refine KO.sto0 rfl rfl rfl (by exact rfl) (by exact Tryz.sizeOf69) (by exact rfl) (by with_reducible (repeat (exact Pick.head))) (by exact rfl) ?_
    refine KO.as rfl rfl ?_
    refine KO.nil ?_
    repeat (first | (with_reducible refine KQ.next ?_) | (with_reducible refine K.ret ?_))
    refine KQ.retCT rfl rfl Tryz.isAgg69 (by with_reducible (repeat (exact Pick.head))) (by exact Tryz.sizeOf69) rfl (fun w' hs => ⟨_, _, rfl, ⟨?_, rfl⟩, hw.below_step hs.below, hs.below⟩)
    unfold ofNm; rw [hf]; rfl
theorem may_e (hp : Pick L (blk b (.cells cs.toArray T (0, 0))) R) (hq : Pick R (nmS v l) R2) (hc : cs[off]? = some v) (hl : l.length < 1000000) (h1 : x.name.size ≤ maxLen) (h2 : x.tgt.size ≤ maxLen) :
    KE Tryz.prog 87 #[.pointer (some ⟨b, off, none⟩), .agg x.cells.toArray] w0 L (fun u M => u = .int .i64 (mayErr l x) ∧ M = L) := by
  refine KE.mk (n := 27) Tryz.func87 rfl Tryz.ntmps87 (by simp) ?_
  intro w hw
  have hcell : w.cell? ⟨b, off, none⟩ = some v := by rw [World.cell?, (hw.lookP hp).2]; simpa using hc
  obtain ⟨sa, cap, rfl, hsa⟩ := RdA.ofSL (cf := Nm.cells) (sz := 3) (E := 69) (fun _ => rfl) hq (hw.pick hp).drop
  have hof := fun t => (of_e w0 L R R2 b off cs T (.slice sa l.length cap) l t hp hq hc hl)
  obtain ⟨xn, xt, xh⟩ := x
  repeat ((with_reducible refine K.seq ?_))
  refine K.reg ?_
  refine KO.box rfl rfl (by exact rfl) rfl ?_; intro b3
  refine KO.as rfl rfl ?_
  refine KO.nil ?_
  repeat (first | (with_reducible refine K.seq ?_) | (with_reducible refine KQ.next ?_))
  generalize hr : rightNm ⟨xn, xt, xh⟩ = r
  cases r
  · refine K.reg ?_
    refine KO.ldB0 rfl rfl Tryz.isAgg69 Tryz.sizeOf69 (by with_reducible (repeat (exact Pick.head))) (by exact rfl) rfl ?_
    refine KO.ce (cp := []) rfl rfl rfl Tryz.call42 rfl (rright_nm w _ ⟨xn, xt, xh⟩ h1 h2) ?_; rintro v' L' ⟨rfl, rfl⟩; rw [hr]
    refine KO.not rfl rfl ?_
    refine KO.nil ?_
    repeat ((with_reducible refine KQ.next ?_))
    refine K.condT rfl rfl ?_
    repeat ((with_reducible refine K.seq ?_))
    refine K.reg ?_
    refine KO.as rfl rfl ?_
    refine KO.nil ?_
    repeat (first | (with_reducible refine KQ.next ?_) | (with_reducible refine KQ.then_ret ?_) | (with_reducible refine K.ret ?_))
    refine KQ.ret1 rfl rfl (fun w' hs => ⟨_, _, rfl, ⟨?_, rfl⟩, hw.below_step hs.below, hs.below⟩)
    unfold mayErr; rw [hr]; rfl
  refine K.reg ?_
  refine KO.ldB0 rfl rfl Tryz.isAgg69 Tryz.sizeOf69 (by with_reducible (repeat (exact Pick.head))) (by exact rfl) rfl ?_
  refine KO.ce (cp := []) rfl rfl rfl Tryz.call42 rfl (rright_nm w _ ⟨xn, xt, xh⟩ h1 h2) ?_; rintro v' L' ⟨rfl, rfl⟩; rw [hr]
  refine KO.not rfl rfl ?_
  refine KO.nil ?_
  repeat ((with_reducible refine KQ.next ?_))
  refine K.condF rfl rfl ?_
  repeat (first | (with_reducible refine K.seq ?_) | (with_reducible refine KQ.next ?_) | (with_reducible refine K.skip ?_))
  refine K.reg ?_
  refine KO.mv rfl rfl ?_
  refine KO.fo0 (off := 0) rfl Tryz.runUnderlying69 rfl rfl Tryz.sizeOf9 rfl ?_
  refine KO.ld rfl rfl Tryz.isAgg9 (by with_reducible (repeat (exact Pick.head))) (by exact rfl) rfl ?_
  refine KO.ce (cp := []) rfl rfl rfl Tryz.call89 rfl ((hof xn).rebase hw) ?_; rintro v' L' ⟨rfl, rfl⟩
  refine KO.mv rfl rfl ?_
  refine KO.extrL rfl (by exact rfl) rfl ?_
  refine KO.extrL rfl (by exact rfl) rfl ?_
  refine KO.alloc rfl Tryz.zeroValue69 (by exact rfl) rfl ?_; intro b5
  refine KO.sto0 rfl rfl rfl (by exact rfl) (by exact Tryz.sizeOf69) (by exact rfl) (by with_reducible (repeat (exact Pick.head))) (by exact rfl) ?_
  refine KO.as rfl rfl ?_
  refine KO.nil ?_
  repeat (first | (with_reducible refine K.seq ?_) | (with_reducible refine KQ.next ?_))
  cases hk : lk l xn with
  | some y =>
    refine K.reg ?_
    refine KO.mv rfl rfl ?_
    refine KO.not rfl rfl ?_
    refine KO.mv rfl rfl ?_
    (refine KO.no rfl rfl ?_ rfl ?_; (focus rfl))
    (refine KO.no rfl rfl ?_ rfl ?_; (focus rfl))
    (refine KO.no rfl rfl ?_ rfl ?_; (focus rfl))
    (refine KO.no rfl rfl ?_ rfl ?_; (focus rfl))
    (refine KO.no rfl rfl ?_ rfl ?_; (focus rfl))
    (refine KO.no rfl rfl ?_ rfl ?_; (focus rfl))
    (refine KO.pickF rfl ?_ rfl rfl ?_; (focus rfl))
    refine KO.nil ?_
    repeat ((with_reducible refine KQ.next ?_))
    refine K.condF rfl rfl ?_
    repeat (first | (with_reducible refine K.seq ?_) | (with_reducible refine KQ.next ?_) | (with_reducible refine K.skip ?_))
    refine K.reg ?_
    refine KO.as rfl rfl ?_
    refine KO.nil ?_
    repeat (first | (with_reducible refine KQ.next ?_) | (with_reducible refine K.ret ?_))
    refine KQ.ret1 rfl rfl (fun w' hs => ⟨_, _, rfl, ⟨?_, rfl⟩, hw.below_step hs.below, hs.below⟩)
    simp [mayErr, hr, hk]
  | none =>
    by_cases h20 : 20 ≤ l.length
    · refine K.reg ?_
      refine KO.mv rfl rfl ?_
      refine KO.not rfl rfl ?_
      refine KO.mv rfl rfl ?_
      (refine KO.on rfl rfl ?_ ?_; (focus rfl); (refine KO.mv rfl rfl ?_))
      (refine KO.on rfl rfl ?_ ?_; (focus rfl); (refine KO.nc rfl rfl ?_))
      refine KO.on rfl rfl rfl ?_; refine KO.fo (off := 0) rfl Tryz.runUnderlying67 rfl rfl Tryz.sizeOf62 rfl ?_
      refine KO.on rfl rfl rfl ?_; refine KO.ld0 rfl rfl Tryz.isAgg62 hcell rfl ?_
      (refine KO.on rfl rfl ?_ ?_; (focus rfl); (refine KO.len rfl Tryz.underlying62 rfl ?_))
      (refine KO.on rfl rfl ?_ ?_; (focus rfl); (refine KO.geq rfl rfl rfl ?_))
      (refine KO.pickT rfl ?_ rfl rfl ?_; (focus rfl))
      refine KO.nil ?_
      repeat ((with_reducible refine KQ.next ?_))
      refine K.condT rfl (by simp; omega) ?_
      repeat ((with_reducible refine K.seq ?_))
      refine K.reg ?_
      refine KO.as rfl rfl ?_
      refine KO.nil ?_
      repeat (first | (with_reducible refine KQ.next ?_) | (with_reducible refine KQ.then_ret ?_) | (with_reducible refine K.ret ?_))
      refine KQ.ret1 rfl rfl (fun w' hs => ⟨_, _, rfl, ⟨?_, rfl⟩, hw.below_step hs.below, hs.below⟩)
      simp [mayErr, hr, hk, h20]
    · refine K.reg ?_
      refine KO.mv rfl rfl ?_
      refine KO.not rfl rfl ?_
      refine KO.mv rfl rfl ?_
      (refine KO.on rfl rfl ?_ ?_; (focus rfl); (refine KO.mv rfl rfl ?_))
      (refine KO.on rfl rfl ?_ ?_; (focus rfl); (refine KO.nc rfl rfl ?_))
      refine KO.on rfl rfl rfl ?_; refine KO.fo (off := 0) rfl Tryz.runUnderlying67 rfl rfl Tryz.sizeOf62 rfl ?_
      refine KO.on rfl rfl rfl ?_; refine KO.ld0 rfl rfl Tryz.isAgg62 hcell rfl ?_
      (refine KO.on rfl rfl ?_ ?_; (focus rfl); (refine KO.len rfl Tryz.underlying62 rfl ?_))
      (refine KO.on rfl rfl ?_ ?_; (focus rfl); (refine KO.geq rfl rfl rfl ?_))
      (refine KO.pickT rfl ?_ rfl rfl ?_; (focus rfl))
      refine KO.nil ?_
      repeat ((with_reducible refine KQ.next ?_))
      refine K.condF rfl (by simp; omega) ?_
      repeat (first | (with_reducible refine K.seq ?_) | (with_reducible refine KQ.next ?_) | (with_reducible refine K.skip ?_))
      refine K.reg ?_
      refine KO.as rfl rfl ?_
      refine KO.nil ?_
      repeat (first | (with_reducible refine KQ.next ?_) | (with_reducible refine K.ret ?_))
      refine KQ.ret1 rfl rfl (fun w' hs => ⟨_, _, rfl, ⟨?_, rfl⟩, hw.below_step hs.below, hs.below⟩)
      simp [mayErr, hr, hk, h20]
theorem rlocal_e (hp : Pick L (blk b (.cells cs.toArray T (0, 0))) R) (hq : Pick R (nmS v l) R2) (hc : cs[off]? = some v) (hl : l.length < 1000000) :
    KE Tryz.prog 40 #[.pointer (some ⟨b, off, none⟩), .string s] w0 L (fun u M => u = .bool (lkLocal l s) ∧ M = L) := by
  refine KE.mk (n := 19) Tryz.func40 rfl Tryz.ntmps40 (by simp) ?_
  intro w hw
  have hof := (of_e w0 L R R2 b off cs T v l s hp hq hc hl)
  repeat ((with_reducible refine K.seq ?_))
  refine K.reg ?_
  refine KO.as rfl rfl ?_
  refine KO.nil ?_
  repeat (first | (with_reducible refine K.seq ?_) | (with_reducible refine KQ.next ?_))
  cases hk : lk l s with
  | some y =>
    obtain ⟨yn, yt, yh⟩ := y
    have e1 : ofNm l s = ⟨yn, yt, yh⟩ := by unfold ofNm; rw [hk]; rfl
    refine K.reg ?_
    refine KO.mv rfl rfl ?_
    refine KO.mv rfl rfl ?_
    refine KO.ce (cp := []) rfl rfl rfl Tryz.call89 rfl (hof.rebase hw) ?_; rintro v' L' ⟨rfl, rfl⟩; rw [hk, e1]
    refine KO.mv rfl rfl ?_
    refine KO.extrL rfl (by exact rfl) rfl ?_
    refine KO.extrL rfl (by exact rfl) rfl ?_
    refine KO.alloc rfl Tryz.zeroValue69 (by exact rfl) rfl ?_; intro b5
    refine KO.sto0 rfl rfl rfl (by exact rfl) (by exact Tryz.sizeOf69) (by exact rfl) (by with_reducible (repeat (exact Pick.head))) (by exact rfl) ?_
    refine KO.as rfl rfl ?_
    refine KO.nil ?_
    repeat (first | (with_reducible refine K.seq ?_) | (with_reducible refine KQ.next ?_))
    refine K.reg ?_
    refine KO.mv rfl rfl ?_
    refine KO.mv rfl rfl ?_
    (refine KO.on rfl rfl ?_ ?_; (focus rfl); (refine KO.fo0 (off := 1) rfl Tryz.runUnderlying69 rfl rfl Tryz.sizeOf9 rfl ?_))
    (refine KO.on rfl rfl ?_ ?_; (focus rfl); (refine KO.ld rfl rfl Tryz.isAgg9 (by with_reducible (repeat (exact Pick.head))) (by exact rfl) rfl ?_))
    (refine KO.on rfl rfl ?_ ?_; (focus rfl); (refine KO.eqS rfl rfl rfl ?_))
    (refine KO.pickT rfl ?_ rfl rfl ?_; (focus rfl))
    refine KO.as rfl rfl ?_
    refine KO.nil ?_
    repeat (first | (with_reducible refine KQ.next ?_) | (with_reducible refine K.ret ?_))
    refine KQ.ret1 rfl rfl (fun w' hs => ⟨_, _, rfl, ⟨?_, rfl⟩, hw.below_step hs.below, hs.below⟩)
    simp [lkLocal, hk]
  | none =>
    refine K.reg ?_
    refine KO.mv rfl rfl ?_
    refine KO.mv rfl rfl ?_
    refine KO.ce (cp := []) rfl rfl rfl Tryz.call89 rfl (hof.rebase hw) ?_; rintro v' L' ⟨rfl, rfl⟩; rw [hk]
    refine KO.mv rfl rfl ?_
    refine KO.extrL rfl (by exact rfl) rfl ?_
    refine KO.extrL rfl (by exact rfl) rfl ?_
    refine KO.alloc rfl Tryz.zeroValue69 (by exact rfl) rfl ?_; intro b5
    refine KO.sto0 rfl rfl rfl (by exact rfl) (by exact Tryz.sizeOf69) (by exact rfl) (by with_reducible (repeat (exact Pick.head))) (by exact rfl) ?_
    refine KO.as rfl rfl ?_
    refine KO.nil ?_
    repeat (first | (with_reducible refine K.seq ?_) | (with_reducible refine KQ.next ?_))
    refine K.reg ?_
    refine KO.mv rfl rfl ?_
    refine KO.mv rfl rfl ?_
    (refine KO.no rfl rfl ?_ rfl ?_; (focus rfl))
    (refine KO.no rfl rfl ?_ rfl ?_; (focus rfl))
    (refine KO.no rfl rfl ?_ rfl ?_; (focus rfl))
    (refine KO.pickF rfl ?_ rfl rfl ?_; (focus rfl))
    refine KO.as rfl rfl ?_
    refine KO.nil ?_
    repeat (first | (with_reducible refine KQ.next ?_) | (with_reducible refine K.ret ?_))
    refine KQ.ret1 rfl rfl (fun w' hs => ⟨_, _, rfl, ⟨?_, rfl⟩, hw.below_step hs.below, hs.below⟩)
    simp [lkLocal, hk]
set_option maxRecDepth 100000 in
set_option maxHeartbeats 2000000 in
theorem rndrop_c (hp : Pick L (blk b (.cells cs.toArray T (0, 0))) R) (hq : Pick R (nmS v l) R2) (hc : cs[off]? = some v) (hl : l.length < 900000) :
    KC Tryz.prog 36 #[.pointer (some ⟨b, off, none⟩), .string s] w0 L (fun u M => u = .int .i64 (lkDropE l s) ∧ ∃ v', M = blk b (.cells (cs.set off v').toArray T (0, 0)) :: nmS v' (lkDrop l s) :: R2) := by
  refine KC.perm (L' := blk b (.cells cs.toArray T (0, 0)) :: nmS v l :: R2) (fun w hw => hw.pick2 hp hq) ?_
  have hoff := (List.getElem?_eq_some_iff.1 hc).1
  refine KC.pre (fun w hw => SL_form hw.drop) ?_
  rintro ⟨sa, cap, rfl, hsa⟩
  refine KC.mk (n := 41) Tryz.func36 rfl Tryz.ntmps36 (by simp) ?_
  repeat ((with_reducible refine K.seq ?_))
  refine K.reg ?_
  refine KO.as rfl rfl ?_
  refine KO.nil ?_
  repeat (first | (with_reducible refine K.seq ?_) | (with_reducible refine KQ.next ?_))
  refine K.reg ?_
  refine KO.mv rfl rfl ?_
  refine KO.nc rfl rfl ?_
  refine KO.fo (off := 0) rfl Tryz.runUnderlying67 rfl rfl Tryz.sizeOf62 rfl ?_
  refine KO.ldAt (i := off) rfl rfl Tryz.isAgg62 (by with_reducible (repeat (exact Pick.head))) rfl hc rfl ?_
  refine KO.len rfl Tryz.underlying62 rfl ?_
  refine KO.mv rfl rfl ?_
  refine KO.nil ?_
  repeat (first | (with_reducible refine KQ.next ?_) | (with_reducible refine K.block ?_))
  refine K.loop (fun k : Nat => [(0, .pointer (some ⟨b, off, none⟩)), (1, .string s), (10, .slice sa l.length cap), (11, .int .i64 (l.length : Nat)), (12, .int .i64 (k : Nat))]) (fun _ => blk b (.cells cs.toArray T (0, 0)) :: nmS (.slice sa l.length cap) l :: R2) (fun k => k ≤ l.length ∧ ∀ (j : Nat) y, j < k → l[j]? = some y → y.name ≠ s) (fun k => l.length - k) 0
    ⟨Nat.zero_le _, fun j y h => by omega⟩ ⟨rfl, rfl, rfl, rfl, rfl, trivial⟩ (fun _ h => (h.pick2 (by with_reducible (repeat (exact Pick.head))) (by with_reducible (repeat (exact Pick.head)))).gc2 (by with_reducible repeat (exact LSub.refl))) ?_
  rintro k ⟨hk, hall⟩
  repeat ((with_reducible refine K.seq ?_))
  refine K.reg ?_
  refine KO.lss rfl rfl rfl ?_
  refine KO.nil ?_
  repeat (first | (with_reducible refine K.seq ?_) | (with_reducible refine KQ.next ?_))
  refine K.condD rfl (fun h => ?_) (fun h => ?_)
  · obtain ⟨g, rfl⟩ := hsa (by omega)
    obtain ⟨y, hy⟩ : ∃ e, l[k]? = some e := ⟨l[k], List.getElem?_eq_getElem (by omega)⟩
    obtain ⟨yn, yt, yh⟩ := y
    repeat (first | (with_reducible refine K.seq ?_) | (with_reducible refine KQ.next ?_) | (with_reducible refine K.skip ?_) | (with_reducible refine K.block ?_))
    refine K.reg ?_
    refine KO.mv rfl rfl ?_
    refine KO.idx0 rfl rfl Tryz.runUnderlying62 Tryz.sizeOf69 (by exact rfl) (by omega) rfl ?_
    refine KO.ldEN rfl rfl Tryz.isAgg69 Tryz.sizeOf69 (by with_reducible (repeat (first | exact Pick.head | apply Pick.tail))) (fun _ => rfl) (by assumption) rfl ?_
    refine KO.alloc rfl Tryz.zeroValue69 (by exact rfl) rfl ?_; intro b6
    refine KO.as rfl rfl ?_
    refine KO.sto0 rfl rfl rfl (by exact rfl) (by exact Tryz.sizeOf69) (by exact rfl) (by with_reducible (repeat (exact Pick.head))) (by exact rfl) ?_
    refine KO.nil ?_
    repeat (first | (with_reducible refine K.seq ?_) | (with_reducible refine KQ.next ?_))
    refine K.reg ?_
    refine KO.fo0 (off := 0) rfl Tryz.runUnderlying69 rfl rfl Tryz.sizeOf9 rfl ?_
    refine KO.ld rfl rfl Tryz.isAgg9 (by with_reducible (repeat (exact Pick.head))) (by exact rfl) rfl ?_
    refine KO.mv rfl rfl ?_
    refine KO.eqS rfl rfl rfl ?_
    refine KO.nil ?_
    repeat ((with_reducible refine KQ.next ?_))
    refine K.condD rfl (fun h5 => ?_) (fun h5 => ?_)
    · have hi := lk_idx hy h5 hall
      have e1 : lkDropE l s = 0 := by unfold lkDropE; rw [hi]
      have e2 : lkDrop l s = l.eraseIdx k := by unfold lkDrop; rw [hi]
      refine K.fact (fun w hw => SL_cap (hw.pick (A := nmS (.slice (some ⟨g, 0, none⟩) l.length cap) l) (by with_reducible (repeat (first | exact Pick.head | apply Pick.tail))))) ?_
      rintro ⟨-, hcap⟩
      repeat ((with_reducible refine K.seq ?_))
      refine K.drawX [.pure, .keep, .pure, .pure, .pure, .read, .pure, .pure, .write, .pure, .pure, .pure, .read, .pure, .pure, .pure, .write, .pure, .pure, .write] [(8, 12)] [[0, 2, 3, 4, 5, 6, 7, 9, 10, 11, 13, 14, 1, 8, 12, 15, 16, 17, 18, 19], [0, 2, 3, 4, 5, 6, 7, 9, 10, 11, 12, 13, 14, 15, 1, 8, 16, 17, 18, 19]] (by kernel_rfl) (by kernel_rfl) (by kernel_rfl) ⟨?_, ?_, trivial⟩
      focus
        show KO _ _ _ _ _ _ _ _ _ _
        refine KO.mv rfl rfl ?_
        refine KO.mv rfl rfl ?_
        refine KO.nc rfl rfl ?_
        refine KO.fo (off := 0) rfl Tryz.runUnderlying67 rfl rfl Tryz.sizeOf62 rfl ?_
        refine KO.ldAt (i := off) rfl rfl Tryz.isAgg62 (by with_reducible (repeat (first | exact Pick.head | apply Pick.tail))) rfl hc rfl ?_
        refine KO.mv rfl rfl ?_
        refine KO.cutTo (hi := k) rfl rfl Tryz.underlying62 Tryz.sizeOf69 rfl (by omega) rfl ?_
        refine KO.mv rfl rfl ?_
        refine KO.nc rfl rfl ?_
        refine KO.fo (off := 0) rfl Tryz.runUnderlying67 rfl rfl Tryz.sizeOf62 rfl ?_
        refine KO.mv rfl rfl ?_
        refine KO.add rfl rfl rfl (by omega) rfl ?_
        refine KO.bs0 Nm.cells rfl Tryz.underlying62 Tryz.sizeOf69 rfl ?_; intro b22
        refine KO.appS (cf := Nm.cells) (E := 69) (z := Value.agg #[.string ⟨#[]⟩, .string ⟨#[]⟩, .int .i64 0]) (sz := 3) (by' := 40) (xs := []) (ys := l.take k) rfl rfl rfl (by with_reducible (repeat (exact Pick.head))) (fun w hw => (Src.of (E := 69) (sz := 3) (xs := l) (by with_reducible (repeat (first | exact Pick.head | apply Pick.tail))) w hw).take k (by omega)) Tryz.underlying62 nm_info rfl (fun _ => rfl) nm_one (by simp; omega) (by decide) rfl ?_; intro v29; rw [List.nil_append]; refine KO.fact (fun _ hs => SL_form hs) ?_; rintro ⟨a8, c8, rfl, -⟩
        refine KO.ldAt (i := off) rfl rfl Tryz.isAgg62 (by with_reducible (repeat (first | exact Pick.head | apply Pick.tail))) rfl hc rfl ?_
        refine KO.cutFrom (lo := k + 1) rfl rfl Tryz.underlying62 Tryz.sizeOf69 (by omega) (by omega) (by omega) rfl ?_
        refine KO.appS (cf := Nm.cells) (E := 69) (z := Value.agg #[.string ⟨#[]⟩, .string ⟨#[]⟩, .int .i64 0]) (sz := 3) (by' := 40) (xs := l.take k) (ys := l.drop (k + 1)) rfl rfl rfl (by with_reducible (repeat (exact Pick.head))) (fun w hw => Src.cut (cf := Nm.cells) (sz := 3) (fun _ => rfl) (Src.of (E := 69) (sz := 3) (cf := Nm.cells) (v := .slice (some ⟨g, 0, none⟩) l.length cap) (xs := l) (by with_reducible (repeat (first | exact Pick.head | apply Pick.tail))) w hw) (k + 1) (by omega) hcap) Tryz.underlying62 nm_info rfl (fun _ => rfl) nm_one (by simp; omega) (by decide) rfl ?_; intro v37; refine KO.fact (fun _ hs => SL_form hs) ?_; rintro ⟨a', c', rfl, -⟩
        refine KO.nc rfl rfl ?_
        refine KO.fo (off := 0) rfl Tryz.runUnderlying67 rfl rfl Tryz.sizeOf62 rfl ?_
        refine KO.stAt (i := off) rfl rfl rfl (by exact rfl) (by exact Tryz.sizeOf62) rfl (by with_reducible (repeat (first | exact Pick.head | apply Pick.tail))) rfl hoff ?_
        refine KO.nil ?_
        repeat (first | (with_reducible refine K.seq ?_) | (with_reducible refine KQ.next ?_))
      rotate_left
      focus
        show KO _ _ _ _ _ _ _ _ _ _
        refine KO.mv rfl rfl ?_
        refine KO.mv rfl rfl ?_
        refine KO.nc rfl rfl ?_
        refine KO.fo (off := 0) rfl Tryz.runUnderlying67 rfl rfl Tryz.sizeOf62 rfl ?_
        refine KO.ldAt (i := off) rfl rfl Tryz.isAgg62 (by with_reducible (repeat (first | exact Pick.head | apply Pick.tail))) rfl hc rfl ?_
        refine KO.mv rfl rfl ?_
        refine KO.cutTo (hi := k) rfl rfl Tryz.underlying62 Tryz.sizeOf69 rfl (by omega) rfl ?_
        refine KO.mv rfl rfl ?_
        refine KO.nc rfl rfl ?_
        refine KO.fo (off := 0) rfl Tryz.runUnderlying67 rfl rfl Tryz.sizeOf62 rfl ?_
        refine KO.ldAt (i := off) rfl rfl Tryz.isAgg62 (by with_reducible (repeat (first | exact Pick.head | apply Pick.tail))) rfl hc rfl ?_
        refine KO.mv rfl rfl ?_
        refine KO.add rfl rfl rfl (by omega) rfl ?_
        refine KO.cutFrom (lo := k + 1) rfl rfl Tryz.underlying62 Tryz.sizeOf69 (by omega) (by omega) (by omega) rfl ?_
        refine KO.bs0 Nm.cells rfl Tryz.underlying62 Tryz.sizeOf69 rfl ?_; intro b22
        refine KO.appS (cf := Nm.cells) (E := 69) (z := Value.agg #[.string ⟨#[]⟩, .string ⟨#[]⟩, .int .i64 0]) (sz := 3) (by' := 40) (xs := []) (ys := l.take k) rfl rfl rfl (by with_reducible (repeat (exact Pick.head))) (fun w hw => (Src.of (E := 69) (sz := 3) (xs := l) (by with_reducible (repeat (first | exact Pick.head | apply Pick.tail))) w hw).take k (by omega)) Tryz.underlying62 nm_info rfl (fun _ => rfl) nm_one (by simp; omega) (by decide) rfl ?_; intro v29; rw [List.nil_append]; refine KO.fact (fun _ hs => SL_form hs) ?_; rintro ⟨a8, c8, rfl, -⟩
        refine KO.appS (cf := Nm.cells) (E := 69) (z := Value.agg #[.string ⟨#[]⟩, .string ⟨#[]⟩, .int .i64 0]) (sz := 3) (by' := 40) (xs := l.take k) (ys := l.drop (k + 1)) rfl rfl rfl (by with_reducible (repeat (exact Pick.head))) (fun w hw => Src.cut (cf := Nm.cells) (sz := 3) (fun _ => rfl) (Src.of (E := 69) (sz := 3) (cf := Nm.cells) (v := .slice (some ⟨g, 0, none⟩) l.length cap) (xs := l) (by with_reducible (repeat (first | exact Pick.head | apply Pick.tail))) w hw) (k + 1) (by omega) hcap) Tryz.underlying62 nm_info rfl (fun _ => rfl) nm_one (by simp; omega) (by decide) rfl ?_; intro v37; refine KO.fact (fun _ hs => SL_form hs) ?_; rintro ⟨a', c', rfl, -⟩
        refine KO.nc rfl rfl ?_
        refine KO.fo (off := 0) rfl Tryz.runUnderlying67 rfl rfl Tryz.sizeOf62 rfl ?_
        refine KO.stAt (i := off) rfl rfl rfl (by exact rfl) (by exact Tryz.sizeOf62) rfl (by with_reducible (repeat (first | exact Pick.head | apply Pick.tail))) rfl hoff ?_
        refine KO.nil ?_
        repeat (first | (with_reducible refine K.seq ?_) | (with_reducible refine KQ.next ?_))
      rotate_left
      all_goals (
        refine K.reg ?_
        refine KO.as rfl rfl ?_
        refine KO.nil ?_
        repeat (first | (with_reducible refine KQ.next ?_) | (with_reducible refine KQ.then_ret ?_) | (with_reducible refine KQ.blk_ret ?_) | (with_reducible refine K.ret ?_))
        refine KQ.ret1 rfl rfl (fun w' hs => ⟨_, _, rfl, ⟨?_, .slice a' (l.take k ++ l.drop (k + 1)).length c', rfl⟩, ?_⟩)
        · rw [e1]
        · rw [e2, List.eraseIdx_eq_take_drop_succ]; exact (hs.pick2 (by with_reducible (repeat (exact Pick.head))) (by with_reducible (repeat (exact Pick.head)))).gc2 (by with_reducible repeat (first | exact LSub.refl | apply LSub.drop)))
    · repeat (first | (with_reducible refine KQ.next ?_) | (with_reducible refine KQ.blk_normal ?_) | (with_reducible refine K.skip ?_))
      refine K.reg ?_
      refine KO.add rfl rfl rfl (by omega) rfl ?_
      refine KO.mv rfl rfl ?_
      refine KO.nil ?_
      refine KQ.round (k + 1) ⟨by omega, fun j z hj hz => ?_⟩ (by omega) ⟨rfl, rfl, rfl, rfl, rfl, trivial⟩ (fun _ h => (h.pick2 (by with_reducible (repeat (first | exact Pick.head | apply Pick.tail))) (by with_reducible (repeat (first | exact Pick.head | apply Pick.tail)))).gc2 (by with_reducible repeat (first | exact LSub.refl | apply LSub.drop)))
      by_cases hjk : j = k
      · subst hjk; rw [hy] at hz; cases hz; exact h5
      · exact hall j z (by omega) hz
  · have hi := lk_idx_no (l := l) (s := s) fun j z hz => hall j z (by have := (List.getElem?_eq_some_iff.1 hz).1; omega) hz
    repeat (first | (with_reducible refine K.seq ?_) | (with_reducible refine KQ.next ?_) | (with_reducible refine KQ.then_exit ?_) | (with_reducible refine KQ.blk_exit ?_) | (with_reducible refine K.exit ?_))
    refine K.reg ?_
    refine KO.as rfl rfl ?_
    refine KO.nil ?_
    repeat (first | (with_reducible refine KQ.next ?_) | (with_reducible refine K.ret ?_))
    refine KQ.ret1 rfl rfl (fun w' hs => ⟨_, _, rfl, ⟨?_, .slice sa l.length cap, rfl⟩, ?_⟩)
    · unfold lkDropE; rw [hi]
    · unfold lkDrop; rw [hi]; simp only; rw [List.set_getElem_of hc]; exact hs
set_option maxRecDepth 100000 in
theorem rnset_c (hp : Pick L (blk b (.cells cs.toArray T (0, 0))) R) (hq : Pick R (nmS v l) R2) (hc : cs[off]? = some v) (hl : l.length < 900000) (h1 : x.name.size ≤ maxLen) (h2 : x.tgt.size ≤ maxLen) :
    KC Tryz.prog 34 #[.pointer (some ⟨b, off, none⟩), .agg x.cells.toArray] w0 L (fun u M => u = .int .i64 (mayErr l x) ∧ ∃ v', M = blk b (.cells (cs.set off v').toArray T (0, 0)) :: nmS v' (lkSet l x) :: R2) := by
  refine KC.perm (L' := blk b (.cells cs.toArray T (0, 0)) :: nmS v l :: R2) (fun w hw => hw.pick2 hp hq) ?_
  have hoff := (List.getElem?_eq_some_iff.1 hc).1
  have hdl := lkDrop_len l x.name
  obtain ⟨xn, xt, xh⟩ := x
  dsimp only at h1 h2 hdl
  refine KC.mk (n := 26) Tryz.func34 rfl Tryz.ntmps34 (by simp) ?_
  repeat ((with_reducible refine K.seq ?_))
  refine K.reg ?_
  refine KO.box rfl rfl (by exact rfl) rfl ?_; intro b3
  refine KO.as rfl rfl ?_
  refine KO.nil ?_
  repeat (first | (with_reducible refine K.seq ?_) | (with_reducible refine KQ.next ?_))
  refine K.reg ?_
  refine KO.mv rfl rfl ?_
  refine KO.ldB0 rfl rfl Tryz.isAgg69 Tryz.sizeOf69 (by with_reducible (repeat (exact Pick.head))) (by exact rfl) rfl ?_
  refine KO.ce (cp := []) rfl rfl rfl Tryz.call87 rfl (may_e w0 _ _ _ b off cs T v l ⟨xn, xt, xh⟩ (.tail .head) (.tail .head) hc (by omega) h1 h2) ?_; rintro v' L' ⟨rfl, rfl⟩
  refine KO.as rfl rfl ?_
  refine KO.nil ?_
  repeat (first | (with_reducible refine K.seq ?_) | (with_reducible refine KQ.next ?_))
  refine K.reg ?_
  refine KO.mv rfl rfl ?_
  refine KO.neI rfl rfl rfl ?_
  refine KO.nil ?_
  repeat ((with_reducible refine KQ.next ?_))
  refine K.condD rfl (fun h => ?_) (fun h => ?_)
  · repeat ((with_reducible refine K.seq ?_))
    refine K.reg ?_
    refine KO.mv rfl rfl ?_
    refine KO.as rfl rfl ?_
    refine KO.nil ?_
    repeat (first | (with_reducible refine KQ.next ?_) | (with_reducible refine KQ.then_ret ?_) | (with_reducible refine K.ret ?_))
    refine KQ.ret1 rfl rfl (fun w' hs => ⟨_, _, rfl, ⟨rfl, v, rfl⟩, ?_⟩)
    unfold lkSet; rw [if_neg h, List.set_getElem_of hc]; exact (hs.pick2 (by with_reducible (repeat (first | exact Pick.head | apply Pick.tail))) (by with_reducible (repeat (first | exact Pick.head | apply Pick.tail)))).gc2 (by with_reducible repeat (first | exact LSub.refl | apply LSub.drop))
  · have h0 : mayErr l ⟨xn, xt, xh⟩ = 0 := by simpa using h
    repeat (first | (with_reducible refine K.seq ?_) | (with_reducible refine KQ.next ?_) | (with_reducible refine K.skip ?_))
    refine K.reg ?_
    refine KO.mv rfl rfl ?_
    refine KO.fo0 (off := 0) rfl Tryz.runUnderlying69 rfl rfl Tryz.sizeOf9 rfl ?_
    refine KO.ld rfl rfl Tryz.isAgg9 (by with_reducible (repeat (exact Pick.head))) (by exact rfl) rfl ?_
    refine KO.cl (cp := []) rfl rfl rfl Tryz.call36 rfl (KC.pk2 (by with_reducible (repeat (first | exact Pick.head | apply Pick.tail))) (by with_reducible (repeat (first | exact Pick.head | apply Pick.tail))) (rndrop_c w0 _ _ _ b off cs T v l xn .head .head hc hl)) ?_; rintro v' L' ⟨rfl, v2, rfl⟩; refine KO.fact (fun _ hs => SL_form hs.drop) ?_; rintro ⟨a', c', rfl, -⟩
    refine KO.nil ?_
    repeat (first | (with_reducible refine K.seq ?_) | (with_reducible refine KQ.next ?_))
    have hc2 : (cs.set off (.slice a' (lkDrop l xn).length c'))[off]? = some (.slice a' (lkDrop l xn).length c') := by rw [List.getElem?_set_self hoff]
    refine K.draw [.pure, .pure, .pure, .pure, .read, .read, .keep, .write, .pure, .pure, .write] [0, 1, 2, 3, 4, 5, 6, 7, 8, 9, 10] (by kernel_rfl) (by kernel_rfl) ?_
    refine KO.mv rfl rfl ?_
    refine KO.mv rfl rfl ?_
    refine KO.nc rfl rfl ?_
    refine KO.fo (off := 0) rfl Tryz.runUnderlying67 rfl rfl Tryz.sizeOf62 rfl ?_
    refine KO.ldAt (i := off) rfl rfl Tryz.isAgg62 (by with_reducible (repeat (exact Pick.head))) rfl hc2 rfl ?_
    refine KO.ldB0 rfl rfl Tryz.isAgg69 Tryz.sizeOf69 (by with_reducible (repeat (first | exact Pick.head | apply Pick.tail))) (by exact rfl) rfl ?_
    refine KO.bs1 (z := (Value.agg #[.string ⟨#[]⟩, .string ⟨#[]⟩, .int .i64 0])) (sz := 3) (by' := 40) rfl rfl Tryz.underlying62 (by kernel_rfl) (by exact rfl) (by exact rfl) (by decide) (by decide) rfl ?_; intro b22
    refine KO.app (z := Value.agg #[.string ⟨#[]⟩, .string ⟨#[]⟩, .int .i64 0]) (sz := 3) (by' := 40) rfl rfl rfl (by with_reducible (repeat (first | exact Pick.head | apply Pick.tail))) (by with_reducible (repeat (exact Pick.head))) Tryz.underlying62 nm_info rfl (⟨xn, xt, xh⟩ : Nm) (by exact rfl) (by exact rfl) (by exact rfl) (by omega) (by decide) rfl ?_; intro v'; refine KO.fact (fun _ hs => SL_form hs) ?_; rintro ⟨a2, c2, rfl, -⟩
    refine KO.nc rfl rfl ?_
    refine KO.fo (off := 0) rfl Tryz.runUnderlying67 rfl rfl Tryz.sizeOf62 rfl ?_
    refine KO.stAt (i := off) rfl rfl rfl (by exact rfl) (by exact Tryz.sizeOf62) rfl (by with_reducible (repeat (first | exact Pick.head | apply Pick.tail))) rfl (by simpa using hoff) ?_
    refine KO.nil ?_
    repeat (first | (with_reducible refine K.seq ?_) | (with_reducible refine KQ.next ?_))
    refine K.reg ?_
    refine KO.as rfl rfl ?_
    refine KO.nil ?_
    repeat (first | (with_reducible refine KQ.next ?_) | (with_reducible refine K.ret ?_))
    refine KQ.ret1 rfl rfl (fun w' hs => ⟨_, _, rfl, ⟨by rw [h0], .slice a2 (lkDrop l xn ++ [(⟨xn, xt, xh⟩ : Nm)]).length c2, rfl⟩, ?_⟩)
    unfold lkSet; rw [if_pos h0]
    rw [List.set_set] at hs
    exact (hs.pick2 (by with_reducible (repeat (exact Pick.head))) (by with_reducible (repeat (exact Pick.head)))).gc2 (by with_reducible repeat (first | exact LSub.refl | apply LSub.drop))
end
end Go.Proofs.YtjhogocabcdjbaaGreatDoor
/- sort.Slice at structs, told by parts -/
namespace WB
open Go Go.RowKit Go.Sort Go.Shelf Go.Proofs
section
variable {w0 w : World} {L R : List HP} {E : TypeId} {α : Type} [Inhabited α] {cf : α → List Value} {k : Nat} {xs ys : List α} {v : Value} {g n cap : Nat}
theorem flatK_get (hk : ∀ x, (cf x).length = k) (xs : List α) (j : Nat) (hj : j < xs.length * k) : (xs.flatMap cf)[j]? = some (flatK cf k xs.toArray)[j]! := by
  have hk0 : 0 < k := by rcases Nat.eq_zero_or_pos k with h | h; · subst h; simp at hj
                         · exact h
  have hd : j / k < xs.length := (Nat.div_lt_iff_lt_mul hk0).2 hj
  have hm : j % k < k := Nat.mod_lt _ hk0
  rw [get_flatK _ _ _ _ (by simpa using hj)]
  have := flat_get cf k hk default xs (j / k) (j % k) hd hm
  rw [Nat.div_add_mod'] at this
  rw [this]
  have e1 : xs.toArray[j / k]! = xs.getD (j / k) default := by simp [List.getD_eq_getElem?_getD, hd]
  rw [e1, List.getElem?_eq_getElem (by rw [hk]; exact hm), List.getElem!_eq_getElem?_getD, List.getElem?_eq_getElem (by rw [hk]; exact hm)]
  rfl
theorem holdsK_of (hk : ∀ x, (cf x).length = k) (h : St w0 (SL E k cf (.slice (some ⟨g, 0, none⟩) n cap) xs :: R) w) : HoldsK cf k w g 0 xs.toArray := by
  obtain ⟨rfl, h2, _, cur, h4, h5, h6⟩ := SL_open h
  intro j hj
  have hj' : j < xs.length * k := by simpa using hj
  have hl := h6.look.2
  refine ⟨?_, ?_⟩
  · rw [Nat.zero_add, World.cell?, hl]
    have := flatK_get (cf := cf) hk xs j hj'
    rw [← h5, List.getElem?_take, if_pos hj'] at this
    simpa using this
  · rw [World.frozen?, hl]; simp
theorem St.grow (h : St w0 L w) (q : Nat) (os : Array Obj) : St w0 L (Sort.grow (Sort.ahead w q) os) := h.below_step (Lib.below_grow w.heap.size w (Nat.le_refl _) q os)
theorem St.sorted (hk : ∀ x, (cf x).length = k) (h : St w0 (SL E k cf (.slice (some ⟨g, 0, none⟩) n cap) xs :: R) w) (hl : ys.length = xs.length) (q : Nat) (os : Array Obj) :
    St w0 (SL E k cf (.slice (some ⟨g, 0, none⟩) n cap) ys :: R) (Sort.grow (putRowK cf k (Sort.ahead w q) g 0 ys.toArray) os) := by
  obtain ⟨rfl, h2, h3, cur, h4, h5, h6⟩ := SL_open h
  have hlk := h6.look.2
  have hle : xs.length * k ≤ cap * k := Nat.mul_le_mul_right _ h2
  have hup : St w0 (blk g (.cells (putCells id 0 (flatK cf k ys.toArray) cur) E (0, 0)) :: R) (putRowK cf k (Sort.ahead w q) g 0 ys.toArray) := by
    refine h6.upd rfl rfl rfl (by simp [putRowK]) ?_ ?_
    · simp [putRowK, putRow, mapBlock, Array.getElem?_modify, hlk, onCells]
    · intro b hb
      simp [putRowK, putRow, mapBlock, Array.getElem?_modify, Ne.symm hb]
  have hs : (putCells id 0 (flatK cf k ys.toArray) cur).size = cap * k := by simp [putCells, h4]
  have hr := SL_mk (cf := cf) (sz := k) (xs := ys) hup (by omega) h3 hs ?_
  · rw [hl] at hr
    exact hr.grow 0 os
  · apply List.ext_getElem?
    intro j
    rw [List.getElem?_take]
    by_cases hj : j < ys.length * k
    · rw [if_pos hj, flatK_get hk ys j hj]
      have hjc : j < cur.size := by rw [h4]; rw [hl] at hj; omega
      simp [putCells, hjc, hj]
    · rw [if_neg hj, List.getElem?_eq_none (by rw [flatC_len hk]; omega)]
end
section
variable {P : Program} {ρ : Ren} {α : Type} [Inhabited α]
/-- the closure, wherever the row holds dk -/
def LessAt (P : Program) (f : Nat) (cf : α → List Value) (k : Nat) (lt : α → α → Bool) (Bs : Nat) : Prop :=
  ∀ (W : World) (g n c : Nat) (dk : Array α), dk.size = n → W.cell? ⟨Bs, 0, none⟩ = some (.slice (some ⟨g, 0, none⟩) n c) → HoldsK cf k W g 0 dk → ∀ i j : Nat, i < n → j < n →
    Calls P f #[.int .i64 i, .int .i64 j, .pointer (some ⟨Bs, 0, none⟩)] W fun e w' => e = .returned (.bool (lt dk[i]! dk[j]!)) ∧ ∃ q, w' = W.drewN q
theorem sortSlice_c (Lg : LaysGg.n6 P ρ) (t E T : TypeId) (i ie : TypeInfo) (hi : P.info? t = some i) (hd : i.desc = .slice E) (hpk : P.packed t = false) (hie : P.info? E = some ie) (ke : Nat) (hke : ∀ w, (Extern.Rtype.kind E).run P w = .ok ke w)
    (cf : α → List Value) (k : Nat) (hk : ∀ x, (cf x).length = k) (hs1 : ie.size = k) (hagg : ∀ w, (isAgg E).run P w = .ok true w) (h1 : ∀ x, (cf x).all Value.oneCell' = true) (lt : α → α → Bool) (hO : SWO lt) (f : Nat)
    (eg : ∀ args w, (callFunc f args).run P w = .ok (.enter f args) w) (s1 s2 s9 : Nat) (hf1 : P.funcs.findIdx? (·.name == "internal/reflectlite" ++ ".Swapper$" ++ toString (1 : Nat)) = some s1) (hf2 : P.funcs.findIdx? (·.name == "internal/reflectlite" ++ ".Swapper$" ++ toString (2 : Nat)) = some s2)
    (hK : ∀ n, 2 ≤ n → Lib.swapperK n ie ke = 9) (hf9 : P.funcs.findIdx? (·.name == "internal/reflectlite" ++ ".Swapper$" ++ toString (9 : Nat)) = some s9)
    (hx : ∀ args W, (callFunc s9 args).run P W = ((Extern.ReflectliteSwapper.swap false args).run P W).andThen fun v w' => .ok (.value v) w')
    (w0 : World) (L : List HP) (v : Value) (xs : List α) (Bs : Nat) (hless : LessAt P f cf k lt Bs) (hsz : xs.length < 1000000) :
    KC P (ρ.f 6) #[.iface t v, .func (.func f) #[] #[.pointer (some ⟨Bs, 0, none⟩)]] w0 (SL E k cf v xs :: blk Bs (.cells [v].toArray T (0, 0)) :: L)
      (fun u M => u = .tuple #[] ∧ ∃ ys : List α, ys.Perm xs ∧ (ys.Pairwise fun a b => lt b a = false) ∧ M = SL E k cf v ys :: blk Bs (.cells [v].toArray T (0, 0)) :: L) := fun w hw => by
  obtain ⟨a, cap, rfl, ha⟩ := SL_form hw
  by_cases h2 : 2 ≤ xs.length
  · obtain ⟨g, rfl⟩ := ha (by omega)
    have hH := holdsK_of hk hw
    obtain ⟨hB0, hBl⟩ := hw.drop.look
    have hBs : w.cell? ⟨Bs, 0, none⟩ = some (.slice (some ⟨g, 0, none⟩) xs.length cap) := by rw [World.cell?, hBl]; rfl
    have hB1 : Bs < w.heap.size := hw.drop.lt
    obtain ⟨-, -, -, cur, -, -, h6⟩ := SL_open hw
    have hB2 : Bs ≠ g := h6.ne.symm
    have hblk : g < w.heap.size := h6.lt
    have hLR : LessReadsK P f #[.pointer (some ⟨Bs, 0, none⟩)] cf k lt g 0 xs.toArray.size w := by
      intro m os dk hs p q hp hq
      have e : sortWorldK cf k w g 0 m dk os = putRowK cf k (Sort.grow (Sort.ahead w m) os) g 0 dk := by
        unfold sortWorldK; rw [putRowK_grow _ _ (Sort.ahead w m) _ g 0 _ hblk]
      have hHg : HoldsK cf k (Sort.grow (Sort.ahead w m) os) g 0 xs.toArray := holdsK_grow _ _ _ _ g 0 _ hblk (holdsK_ahead _ _ _ _ _ _ _ hH)
      refine hless _ g xs.length cap dk (by simpa using hs) ?_ ?_ p q (by simpa using hp) (by simpa using hq)
      · rw [e, cell?_putRowK_other _ _ _ g 0 dk _ (by exact hB2), cell?_grow _ _ _ (by exact hB1)]; exact hBs
      · rw [e]; exact holdsK_putRowK _ _ _ g 0 _ dk hHg hs
    have hc := Any.sort_Slice_cells_sorted Lg t E i ie hi hd hpk hie ke hke cf k hk hs1 hagg (fun x u hu => List.all_eq_true.1 (h1 x) u hu) lt hO f _ eg g 0 cap xs.toArray (by simpa using h2) (by simp; omega) s9 (by rw [hK _ (by simpa using h2)]; exact hf9) false hx w hLR hH hblk
    have hc2 : Calls P (ρ.f 6) #[.iface t (.slice (some ⟨g, 0, none⟩) xs.length cap), .func (.func f) #[] #[.pointer (some ⟨Bs, 0, none⟩)]] w fun e w' => e = .returned (.tuple #[]) ∧ ∃ d' n os, PermIn 0 xs.toArray.size xs.toArray d' ∧ SortedIn lt 0 xs.toArray.size d' ∧ w' = Sort.grow (putRowK cf k (Sort.ahead w n) g 0 d') os := by
      simpa using hc
    refine hc2.mono ?_
    rintro e w' ⟨rfl, d', q, os, ⟨hds, -, hp⟩, hso, rfl⟩
    have hdl : d'.toList.length = xs.length := by simpa using hds
    refine ⟨_, _, rfl, ⟨rfl, d'.toList, ?_, ?_, rfl⟩, ?_⟩
    · have e1 : (d'.extract 0 xs.toArray.size).toList = d'.toList := by rw [← hds]; simp
      have e2 : (xs.toArray.extract 0 xs.toArray.size).toList = xs := by simp
      rw [e1, e2] at hp; exact hp
    · rw [List.pairwise_iff_getElem]
      intro p q hp hq hpq
      have := hso p q (Nat.zero_le _) hpq (by rw [hdl] at hq; simpa using hq)
      simp only [Array.length_toList] at hp hq
      rw [getElem!_pos d' q hq, getElem!_pos d' p hp] at this
      simpa using this
    · have := hw.sorted (ys := d'.toList) hk hdl q os
      simpa using this
  · have hf : P.funcs.findIdx? (·.name == "internal/reflectlite" ++ ".Swapper$" ++ toString (Lib.swapperK xs.length ie ke)) = some (if xs.length = 0 then s1 else s2) := by
      by_cases h0 : xs.length = 0
      · rw [if_pos h0, show Lib.swapperK xs.length ie ke = 1 by rw [h0]; rfl]; exact hf1
      · rw [if_neg h0, show Lib.swapperK xs.length ie ke = 2 by rw [show xs.length = 1 by omega]; rfl]; exact hf2
    refine (Any.sort_Slice_tiny Lg t E i ie hi hd hpk hie ke hke a xs.length cap (by omega) _ hf (.func f) #[] _ w).mono ?_
    rintro e w' ⟨rfl, os, rfl⟩
    refine ⟨_, _, rfl, ⟨rfl, xs, .refl _, ?_, rfl⟩, ?_⟩
    · match xs, h2 with
      | [], _ => exact .nil
      | [a], _ => simp
      | a :: b :: r, h => exact absurd (by simp) h
    · exact hw.grow 0 os
end
end WB
/- maps that the call has made, keyed by texts or by numbers -/
namespace WB
open Go Go.RowKit Go.ChangeMaps Go.MapKept
theorem List.map_modify_same (s v : Value) : ∀ (l : List MapEntry) (j : Nat), (l.modify j fun e => { e with key := s, val := v }).map (·.born) = l.map (·.born)
  | [], _ => by simp
  | _ :: _, 0 => by simp
  | _ :: l, j + 1 => by simp [List.map_modify_same s v l j]
structure KeyLaw {κ : Type} (d : TypeDesc) (kv : κ → Value) : Prop where
  isKey : ∀ k, IsKey d (kv k)
  inj : ∀ a b, kv a = kv b → a = b
theorem strKey : KeyLaw (κ := ByteArray) .string Value.string := ⟨fun _ => ⟨⟩, fun _ _ h => by cases h; rfl⟩
theorem intKey : KeyLaw (κ := Int) (.int .i64) (Value.int .i64) := ⟨fun _ => rfl, fun _ _ h => by cases h; rfl⟩
section
variable {κ : Type} [DecidableEq κ]
def getK {β : Type} (m : List (κ × β)) (k : κ) : Option β := match m with
  | [] => none
  | x :: r => if x.1 = k then some x.2 else getK r k
def putK {β : Type} (m : List (κ × β)) (k : κ) (v : β) : List (κ × β) := match m with
  | [] => [(k, v)]
  | x :: r => if x.1 = k then (x.1, v) :: r else x :: putK r k v
def delK {β : Type} (m : List (κ × β)) (k : κ) : List (κ × β) := match m with
  | [] => []
  | x :: r => if x.1 = k then r else x :: delK r k
theorem getK_putK {β : Type} (s t : κ) (v : β) : ∀ m : List (κ × β), getK (putK m s v) t = if s = t then some v else getK m t
  | [] => rfl
  | x :: r => by
    unfold putK
    by_cases h : x.1 = s
    · rw [if_pos h, getK, getK, h]; by_cases h2 : s = t <;> simp [h2]
    · rw [if_neg h, getK, getK, getK_putK s t v r]
      by_cases h2 : x.1 = t
      · have : ¬ s = t := fun e => h (h2.trans e.symm)
        simp [h2, this]
      · simp [h2]
variable {d : TypeDesc} {kv : κ → Value}
def esK (kv : κ → Value) (es : List MapEntry) (m : List (κ × Value)) : Prop := es.map (fun e => (e.key, e.val)) = m.map (fun x => (kv x.1, x.2))
/-- .. and its stamps are apart, and old -/
structure esB (kv : κ → Value) (es : List MapEntry) (clk : Nat) (m : List (κ × Value)) : Prop where
  ents : esK kv es m
  old : ∀ e ∈ es, e.born < clk
  nodup : (es.map (·.born)).Nodup
def omapK (kv : κ → Value) (b : Nat) (m : List (κ × Value)) : HP := ex fun es : Array MapEntry => ex fun clk : Nat => sep (pur (esB kv es.toList clk m)) (blk b (.map es clk))
theorem findK (K : KeyLaw d kv) (s : κ) : ∀ (es : List MapEntry) (m : List (κ × Value)) (i : Nat), esK kv es m →
    (getK m s = none ∧ Instr.findNow d (kv s) es i = some none ∧ (∀ v clk, esK kv (es ++ [{ key := kv s, val := v, born := clk }]) (putK m s v)) ∧ delK m s = m) ∨
    ∃ j e, getK m s = some e.val ∧ es[j]? = some e ∧ e.key = kv s ∧ Instr.findNow d (kv s) es i = some (some (i + j, e.val)) ∧
      (∀ v, esK kv (es.modify j fun e => { e with key := kv s, val := v }) (putK m s v)) ∧ esK kv (es.eraseIdx j) (delK m s)
  | [], [], i, _ => Or.inl ⟨rfl, rfl, fun v clk => rfl, rfl⟩
  | [], _ :: _, _, h => by simp [esK] at h
  | _ :: _, [], _, h => by simp [esK] at h
  | e :: es, x :: m, i, h => by
    unfold esK at h
    simp only [List.map_cons, List.cons.injEq, Prod.mk.injEq] at h
    obtain ⟨⟨hk, hv⟩, hr⟩ := h
    obtain ⟨r, hr1, hr2⟩ := sameNow_of_keys (K.isKey s) (show IsKey d e.key by rw [hk]; exact K.isKey x.1)
    by_cases hx : x.1 = s
    · have hrt : r = true := hr2.2 (by rw [hk, hx])
      refine Or.inr ⟨0, e, by simp [getK, hx, hv], rfl, by rw [hk, hx], ?_, fun v => ?_, ?_⟩
      · unfold Instr.findNow
        rw [hr1, hrt]; rfl
      · unfold esK
        simp [putK, hx]
        exact hr
      · unfold esK
        simp [delK, hx]
        exact hr
    · have hrf : r = false := by
        cases r with
        | false => rfl
        | true => exact absurd (K.inj _ _ ((hr2.1 rfl).trans hk)) (fun e => hx e.symm)
      have hf : Instr.findNow d (kv s) (e :: es) i = Instr.findNow d (kv s) es (i + 1) := by
        conv => lhs; unfold Instr.findNow
        rw [hr1, hrf]
      rcases findK K s es m (i + 1) hr with ⟨h1, h2, h3, h4⟩ | ⟨j, e0, h1, h2, h3, h4, h5, h6⟩
      · refine Or.inl ⟨by simp [getK, hx, h1], by rw [hf, h2], fun v clk => ?_, by simp [delK, hx, h4]⟩
        have := h3 v clk
        unfold esK at this ⊢
        simp [putK, hx, hk, hv] at this ⊢
        exact this
      · refine Or.inr ⟨j + 1, e0, by simp [getK, hx, h1], by simpa using h2, h3, by rw [hf, h4]; simp; omega, fun v => ?_, ?_⟩
        · have := h5 v
          unfold esK at this ⊢
          simp [putK, hx, hk, hv] at this ⊢
          exact this
        · unfold esK at h6 ⊢
          simp [delK, hx, hk, hv] at h6 ⊢
          exact h6
variable {w0 w : World} {L : List HP} {P : Program} {b : Nat} {m : List (κ × Value)}
omit [DecidableEq κ] in
theorem omapK_make (h : St w0 L w) : St w0 (omapK kv w.heap.size [] :: L) (w.alloc (.map #[] 0)) :=
  St.exi #[] (St.exi 0 (St.join (St.puri (p := esB kv (#[] : Array MapEntry).toList 0 []) ⟨rfl, (fun e h => by cases h), .nil⟩ (h.alloc (.map #[] 0)))))
theorem omapK_look (K : KeyLaw d kv) (h : St w0 (omapK kv b m :: L) w) {w1 : World} (he : Ext w w1) {t k E : TypeId} (ht : P.underlying t = some (.map k E)) (hk : P.underlying k = some d) {z : Value} (hz : (zeroValue E).run P w1 = .ok z w1) (s : κ) (ok : Bool) :
    (Instr.lookup t (.map (some b)) (kv s) ok).run P w1 = .ok (if ok then .tuple #[(getK m s).getD z, .bool (getK m s).isSome] else (getK m s).getD z) w1 := by
  obtain ⟨es, h⟩ := h.exs
  obtain ⟨clk, h⟩ := h.exs
  obtain ⟨hr, h⟩ := h.split.purs
  have hlt := h.lt
  obtain ⟨_, hb⟩ := h.look
  have hb : w1.heap[b]? = some (.map es clk) := by rw [he.2 b hlt]; exact hb
  rcases findK K s _ m 0 hr.ents with ⟨h2, h3, _, _⟩ | ⟨j, e, h2, h3, h4, h5, _, _⟩
  · cases ok <;> simp [Instr.lookup, run_underlying ht, run_getObj_map hb, run_checkKey hk (K.isKey s), run_findKey hk h3, Result.andThen, h2, hz]
  · cases ok <;> simp [Instr.lookup, run_underlying ht, run_getObj_map hb, run_checkKey hk (K.isKey s), run_findKey hk h5, Result.andThen, h2]
theorem omapK_put (K : KeyLaw d kv) (h : St w0 (omapK kv b m :: L) w) {t k E : TypeId} (ht : P.underlying t = some (.map k E)) (hk : P.underlying k = some d) (s : κ) (v : Value) :
    ∃ w', (Instr.mapUpdate t (.map (some b)) (kv s) v).run P w = .ok () w' ∧ St w0 (omapK kv b (putK m s v) :: L) w' := by
  obtain ⟨es, h⟩ := h.exs
  obtain ⟨clk, h⟩ := h.exs
  obtain ⟨hr, h⟩ := h.split.purs
  obtain ⟨_, hb⟩ := h.look
  have up : ∀ (o : Obj), St w0 (blk b o :: L) { w with heap := w.heap.setIfInBounds b o } := fun o =>
    h.upd rfl rfl rfl (by simp) (by have := h.lt; simp [this]) (fun k hk => by simp [Array.getElem?_setIfInBounds, Ne.symm hk])
  rcases findK K s _ m 0 hr.ents with ⟨_, h3, h4, _⟩ | ⟨j, e, _, h3, h4, h5, h6, _⟩
  · refine ⟨_, ?_, St.exi (es.push { key := kv s, val := v, born := clk }) (St.exi (clk + 1) (St.join (St.puri (p := esB kv (es.push { key := kv s, val := v, born := clk }).toList (clk + 1) (putK m s v)) ?_ (up (.map (es.push { key := kv s, val := v, born := clk }) (clk + 1))))))⟩
    · simp [Instr.mapUpdate, run_underlying ht, run_getObj_map hb, run_checkKey hk (K.isKey s), run_findKey hk h3, run_setObj_map _ hb, Result.andThen]
    · refine ⟨by simpa using h4 v clk, fun e he => ?_, ?_⟩
      · rw [Array.toList_push] at he
        rcases List.mem_append.1 he with he | he
        · have := hr.old e he; omega
        · simp at he; subst he; exact Nat.lt_succ_self _
      · rw [Array.toList_push, List.map_append, List.map_cons, List.map_nil, List.nodup_append]
        refine ⟨hr.nodup, by simp, fun a ha b hb => ?_⟩
        obtain ⟨e, he, rfl⟩ := List.mem_map.1 ha
        simp at hb; subst hb
        have := hr.old e he; omega
  · have hj : es[j]? = some e := by simpa using h3
    refine ⟨_, ?_, St.exi (es.modify j fun e => { e with key := kv s, val := v }) (St.exi clk (St.join (St.puri (p := esB kv (es.modify j fun e => { e with key := kv s, val := v }).toList clk (putK m s v)) ?_ (up (.map (es.modify j fun e => { e with key := kv s, val := v }) clk)))))⟩
    · simp [Instr.mapUpdate, run_underlying ht, run_getObj_map hb, run_checkKey hk (K.isKey s), run_findKey hk h5, hj, h4, run_keyThatStays (K.isKey s), run_setObj_map _ hb, Result.andThen]
    · have hm : ((es.modify j fun e => { e with key := kv s, val := v }).toList.map (·.born)) = es.toList.map (·.born) := by
        rw [Array.toList_modify, List.map_modify_same]
      refine ⟨by simpa using h6 v, fun e he => ?_, by rw [hm]; exact hr.nodup⟩
      have hb : e.born ∈ es.toList.map (·.born) := by rw [← hm]; exact List.mem_map_of_mem he
      obtain ⟨e2, he2, hb2⟩ := List.mem_map.1 hb
      rw [← hb2]; exact hr.old e2 he2
omit [DecidableEq κ] in
theorem omapK_len (h : St w0 (omapK kv b m :: L) w) {w1 : World} (he : Ext w w1) {t k E ty : TypeId} (ht : P.underlying t = some (.map k E)) :
    (Builtin.len_ #[t] ty #[.map (some b)]).run P w1 = .ok (goInt m.length) w1 := by
  obtain ⟨es, h⟩ := h.exs
  obtain ⟨clk, h⟩ := h.exs
  obtain ⟨hr, h⟩ := h.split.purs
  have hlt := h.lt
  obtain ⟨_, hb⟩ := h.look
  have hb : w1.heap[b]? = some (.map es clk) := by rw [he.2 b hlt]; exact hb
  have hl : es.size = m.length := by have := congrArg List.length hr.ents; simpa using this
  simp [Builtin.len_, run_underlying ht, run_getObj_map hb, hl]
end
section
variable {κ : Type} [DecidableEq κ] {kd : TypeDesc} {kv : κ → Value}
variable {P : Program} {ops : Array Oper} {d : Bool} {Q : Exit → Act → World → Prop} {n : Nat} {D : List Deferred} {w0 : World} {G : Env} {L R : List HP} {l : List (Kd × Oper)} {k : Kd}
  {t : Nat} {ty T KT E : TypeId} {pos : String} {af : Array Edge} {x y u : Operand} {v z : Value} {b : Nat} {m : List (κ × Value)}
omit [DecidableEq κ] in
theorem KO.mkm (kv : κ → Value) (hk : (!d || (k == .keep || k == .write)) = true) (ht : Nat.blt t n = true) (h : ∀ bb, KO P ops d Q n D w0 ((t, .map (some bb)) :: G) (omapK kv bb [] :: L) l) :
    KO P ops d Q n D w0 G L ((k, ⟨some t, .makeMap T none, ty, pos, af, none⟩) :: l) :=
  KO.keepRun hk (F := fun bb => .map (some bb)) (N := fun bb => omapK kv bb [] :: L) (fun a w ha hw => ⟨w.heap.size, w.alloc (.map #[] 0), by simp [execOp, run_makeMap], Ext.alloc w _, omapK_make hw⟩) ht h
theorem KO.lkm (K : KeyLaw kd kv) (s : κ) (hk : (!d || k != .pure) = true) (hx : ev G x = some (.map (some b))) (hy : ev G y = some (kv s)) (hT : P.underlying T = some (.map KT E)) (hK : P.underlying KT = some kd) (hz : ∀ w, (zeroValue E).run P w = .ok z w) (hp : Pick L (omapK kv b m) R) (ht : Nat.blt t n = true)
    (h : KO P ops d Q n D w0 ((t, (getK m s).getD z) :: G) L l) : KO P ops d Q n D w0 G L ((k, ⟨some t, .lookup T x y false, ty, pos, af, none⟩) :: l) :=
  KO.rd hk (fun a w w' ha hw e => by
    have := omapK_look (P := P) K (hw.pick hp) e hT hK (hz w') s false
    simp [execOp, ha.eval hx, ha.eval hy, this]) ht h
theorem KO.lkmOk (K : KeyLaw kd kv) (s : κ) (hk : (!d || k != .pure) = true) (hx : ev G x = some (.map (some b))) (hy : ev G y = some (kv s)) (hT : P.underlying T = some (.map KT E)) (hK : P.underlying KT = some kd) (hz : ∀ w, (zeroValue E).run P w = .ok z w) (hp : Pick L (omapK kv b m) R) (ht : Nat.blt t n = true)
    (h : KO P ops d Q n D w0 ((t, .tuple #[(getK m s).getD z, .bool (getK m s).isSome]) :: G) L l) : KO P ops d Q n D w0 G L ((k, ⟨some t, .lookup T x y true, ty, pos, af, none⟩) :: l) :=
  KO.rd hk (fun a w w' ha hw e => by
    have := omapK_look (P := P) K (hw.pick hp) e hT hK (hz w') s true
    simp [execOp, ha.eval hx, ha.eval hy, this]) ht h
theorem KO.upm (K : KeyLaw kd kv) (s : κ) (hk : (!d || k == .write) = true) (hx : ev G x = some (.map (some b))) (hy : ev G y = some (kv s)) (hu : ev G u = some v) (hT : P.underlying T = some (.map KT E)) (hK : P.underlying KT = some kd) (hp : Pick L (omapK kv b m) R)
    (h : KO P ops d Q n D w0 G (omapK kv b (putK m s v) :: R) l) : KO P ops d Q n D w0 G L ((k, ⟨none, .mapUpdate T x y u, ty, pos, af, none⟩) :: l) :=
  KO.wrRun hk (fun a w ha hw => by
    obtain ⟨w', hr, hs⟩ := omapK_put (P := P) K (hw.pick hp) hT hK s v
    exact ⟨w', by simp [execOp, ha.eval hx, ha.eval hy, ha.eval hu, hr], hs⟩) h
omit [DecidableEq κ] in
theorem KO.lenM (hk : (!d || k != .pure) = true) (hx : ev G x = some (.map (some b))) (hT : P.underlying T = some (.map KT E)) (hp : Pick L (omapK kv b m) R) (ht : Nat.blt t n = true) (h : KO P ops d Q n D w0 ((t, .int .i64 (m.length : Nat)) :: G) L l) :
    KO P ops d Q n D w0 G L ((k, ⟨some t, .call ⟨.builtin .len, #[x], #[T]⟩, ty, pos, af, none⟩) :: l) :=
  KO.rd hk (fun a w w' ha hw e => by
    have := omapK_len (P := P) (ty := ty) (hw.pick hp) e hT
    simp [execOp, resolve, invoke, builtin, ha.eval hx, this, goInt]) ht h
end
end WB
/- the document's names: Resolve, All. -/
namespace Go.Proofs.YtjhogocabcdjbaaGreatDoor
open Go Go.RowKit WB
def mapB (seen : List ByteArray) (m : List (ByteArray × Value)) : Prop := ∀ t, (getK m t).getD (.bool false) = .bool (decide (t ∈ seen))
theorem mapB_put {seen : List ByteArray} {m : List (ByteArray × Value)} (h : mapB seen m) (s : ByteArray) : mapB (s :: seen) (putK m s (.bool true)) := by
  intro t
  rw [getK_putK]
  by_cases e : s = t
  · subst e; simp
  · rw [if_neg e, h t]; simp [Ne.symm e]
section
variable (w0 : World) (L R R2 : List HP) (b off : Nat) (cs : List Value) (T : TypeId) (v : Value) (l : List Nm) (s : ByteArray) (x : Nm)
set_option maxRecDepth 100000 in
theorem rresolve_e (hp : Pick L (blk b (.cells cs.toArray T (0, 0))) R) (hq : Pick R (nmS v l) R2) (hc : cs[off]? = some v) (hl : l.length < 1000000) :
    KE Tryz.prog 37 #[.pointer (some ⟨b, off, none⟩), .string s] w0 L (fun u M => u = .tuple #[.string (resR l (l.length + 1) [] s).1, .int .i64 (resR l (l.length + 1) [] s).2.1, .int .i64 (resR l (l.length + 1) [] s).2.2] ∧ M = L) := by
  refine KE.mk (n := 37) Tryz.func37 rfl Tryz.ntmps37 (by simp) ?_
  intro w hw
  have hof := fun t => (of_e w0 L R R2 b off cs T v l t hp hq hc hl)
  repeat ((with_reducible refine K.seq ?_))
  refine K.reg ?_
  refine KO.as rfl rfl ?_
  refine KO.as rfl rfl ?_
  refine KO.as rfl rfl ?_
  refine KO.nil ?_
  repeat (first | (with_reducible refine K.seq ?_) | (with_reducible refine KQ.next ?_))
  refine K.reg ?_
  refine KO.mkm (Value.string) rfl rfl ?_; intro b10
  refine KO.as rfl rfl ?_
  refine KO.nil ?_
  repeat (first | (with_reducible refine KQ.next ?_) | (with_reducible refine K.block ?_))
  refine K.loop (fun k : List ByteArray × ByteArray × List (ByteArray × Value) => [(0, .pointer (some ⟨b, off, none⟩)), (1, .string k.2.1), (7, .map (some b10))]) (fun k => [omapK Value.string b10 k.2.2]) (fun k => mapB k.1 k.2.2 ∧ k.1.Nodup ∧ (∀ u ∈ k.1, u ∈ l.map Nm.name) ∧ resR l (l.length + 1 - k.1.length) k.1 k.2.1 = resR l (l.length + 1) [] s) (fun k => l.length + 1 - k.1.length) ([], s, [])
    ⟨fun t => by simp [getK], .nil, (fun u h => by cases h), rfl⟩ ⟨rfl, rfl, rfl, trivial⟩ (fun _ h => h.all (by with_reducible repeat (exact PAll.refl))) ?_
  rintro ⟨seen, t, m⟩ ⟨hm, hnd, hsub, hres⟩
  dsimp only at hm hnd hsub hres ⊢
  have hlen : seen.length ≤ l.length := by
    have := nodup_len hnd hsub
    simpa using this
  obtain ⟨q, hq2⟩ : ∃ q, l.length + 1 - seen.length = q + 1 := ⟨l.length - seen.length, by omega⟩
  rw [hq2, resR] at hres
  refine K.block ?_
  repeat ((with_reducible refine K.seq ?_))
  refine K.reg ?_
  refine KO.mv rfl rfl ?_
  refine KO.mv rfl rfl ?_
  refine KO.lkm strKey _ rfl rfl rfl Tryz.underlying159 Tryz.underlying9 Tryz.zeroValue4 (by with_reducible (repeat (exact Pick.head))) rfl ?_
  refine KO.nil ?_
  repeat ((with_reducible refine KQ.next ?_))
  rw [hm t]
  refine K.cond rfl (fun h => ?_) (fun h => ?_)
  · have hts : t ∈ seen := by simpa using h
    rw [if_pos hts] at hres
    repeat ((with_reducible refine K.seq ?_))
    refine K.reg ?_
    refine KO.as rfl rfl ?_
    refine KO.as rfl rfl ?_
    refine KO.as rfl rfl ?_
    refine KO.nil ?_
    repeat (first | (with_reducible refine KQ.next ?_) | (with_reducible refine KQ.then_ret ?_) | (with_reducible refine KQ.blk_ret ?_) | (with_reducible refine K.ret ?_))
    refine KQ.ret3 rfl rfl rfl rfl (fun w' hs => ⟨_, _, rfl, ⟨?_, rfl⟩, hw.below_step hs.below, hs.below⟩)
    rw [← hres]
  have hts : ¬ t ∈ seen := by simpa using h
  rw [if_neg hts] at hres
  repeat (first | (with_reducible refine K.seq ?_) | (with_reducible refine KQ.next ?_) | (with_reducible refine K.skip ?_))
  refine K.reg ?_
  refine KO.mv rfl rfl ?_
  refine KO.mv rfl rfl ?_
  refine KO.upm strKey _ rfl rfl rfl rfl Tryz.underlying159 Tryz.underlying9 (by with_reducible (repeat (exact Pick.head))) ?_
  refine KO.nil ?_
  repeat (first | (with_reducible refine K.seq ?_) | (with_reducible refine KQ.next ?_))
  refine K.reg ?_
  refine KO.mv rfl rfl ?_
  refine KO.mv rfl rfl ?_
  refine KO.ce (cp := []) rfl rfl rfl Tryz.call89 rfl ((hof t).rebase hw) ?_; rintro v' L' ⟨rfl, rfl⟩
  refine KO.mv rfl rfl ?_
  refine KO.extrL rfl (by exact rfl) rfl ?_
  refine KO.extrL rfl (by exact rfl) rfl ?_
  refine KO.alloc rfl Tryz.zeroValue69 (by exact rfl) rfl ?_; intro b8
  refine KO.sto0 rfl rfl rfl (by exact rfl) (by exact Tryz.sizeOf69) (by exact rfl) (by with_reducible (repeat (exact Pick.head))) (by exact rfl) ?_
  refine KO.as rfl rfl ?_
  refine KO.nil ?_
  repeat (first | (with_reducible refine K.seq ?_) | (with_reducible refine KQ.next ?_))
  cases hk : lk l t with
  | none =>
    rw [hk] at hres
    refine K.reg ?_
    refine KO.mv rfl rfl ?_
    refine KO.not rfl rfl ?_
    refine KO.nil ?_
    repeat ((with_reducible refine KQ.next ?_))
    refine K.condT rfl rfl ?_
    repeat ((with_reducible refine K.seq ?_))
    refine K.reg ?_
    refine KO.as rfl rfl ?_
    refine KO.as rfl rfl ?_
    refine KO.as rfl rfl ?_
    refine KO.nil ?_
    repeat (first | (with_reducible refine KQ.next ?_) | (with_reducible refine KQ.then_ret ?_) | (with_reducible refine KQ.blk_ret ?_) | (with_reducible refine K.ret ?_))
    refine KQ.ret3 rfl rfl rfl rfl (fun w' hs => ⟨_, _, rfl, ⟨?_, rfl⟩, hw.below_step hs.below, hs.below⟩)
    rw [← hres]
  | some y =>
    obtain ⟨yn, yt, yh⟩ := y
    rw [hk] at hres
    simp only at hres
    have e1 : ofNm l t = ⟨yn, yt, yh⟩ := by unfold ofNm; rw [hk]; rfl
    rw [e1]
    refine K.reg ?_
    refine KO.mv rfl rfl ?_
    refine KO.not rfl rfl ?_
    refine KO.nil ?_
    repeat ((with_reducible refine KQ.next ?_))
    refine K.condF rfl rfl ?_
    repeat (first | (with_reducible refine K.seq ?_) | (with_reducible refine KQ.next ?_) | (with_reducible refine K.skip ?_))
    refine K.reg ?_
    refine KO.fo0 (off := 1) rfl Tryz.runUnderlying69 rfl rfl Tryz.sizeOf9 rfl ?_
    refine KO.ld rfl rfl Tryz.isAgg9 (by with_reducible (repeat (exact Pick.head))) (by exact rfl) rfl ?_
    refine KO.eqS rfl rfl rfl ?_
    refine KO.nil ?_
    repeat ((with_reducible refine KQ.next ?_))
    by_cases h5 : yt = ⟨#[]⟩
    · rw [if_pos h5] at hres
      refine K.condT rfl (by simpa using h5) ?_
      repeat ((with_reducible refine K.seq ?_))
      refine K.reg ?_
      refine KO.mv rfl rfl ?_
      refine KO.as rfl rfl ?_
      refine KO.as rfl rfl ?_
      refine KO.as rfl rfl ?_
      refine KO.nil ?_
      repeat (first | (with_reducible refine KQ.next ?_) | (with_reducible refine KQ.then_ret ?_) | (with_reducible refine KQ.blk_ret ?_) | (with_reducible refine K.ret ?_))
      refine KQ.ret3 rfl rfl rfl rfl (fun w' hs => ⟨_, _, rfl, ⟨?_, rfl⟩, hw.below_step hs.below, hs.below⟩)
      rw [← hres]
    rw [if_neg h5] at hres
    refine K.condF rfl (by simpa using h5) ?_
    repeat (first | (with_reducible refine K.seq ?_) | (with_reducible refine KQ.next ?_) | (with_reducible refine K.skip ?_))
    refine K.reg ?_
    refine KO.fo0 (off := 2) rfl Tryz.runUnderlying69 rfl rfl Tryz.sizeOf3 rfl ?_
    refine KO.ld rfl rfl Tryz.isAgg3 (by with_reducible (repeat (exact Pick.head))) (by exact rfl) rfl ?_
    refine KO.geq rfl rfl rfl ?_
    refine KO.nil ?_
    repeat ((with_reducible refine KQ.next ?_))
    by_cases h6 : 0 ≤ yh
    · rw [if_pos h6] at hres
      refine K.condT rfl (by simpa using h6) ?_
      repeat ((with_reducible refine K.seq ?_))
      refine K.draw [.pure, .read, .pure, .read, .pure, .pure, .pure] [0, 1, 2, 3, 4, 5, 6] (by kernel_rfl) (by kernel_rfl) ?_
      refine KO.fo0 (off := 1) rfl Tryz.runUnderlying69 rfl rfl Tryz.sizeOf9 rfl ?_
      refine KO.ld rfl rfl Tryz.isAgg9 (by with_reducible (repeat (exact Pick.head))) (by exact rfl) rfl ?_
      refine KO.fo0 (off := 2) rfl Tryz.runUnderlying69 rfl rfl Tryz.sizeOf3 rfl ?_
      refine KO.ld rfl rfl Tryz.isAgg3 (by with_reducible (repeat (exact Pick.head))) (by exact rfl) rfl ?_
      refine KO.as rfl rfl ?_
      refine KO.as rfl rfl ?_
      refine KO.as rfl rfl ?_
      refine KO.nil ?_
      repeat (first | (with_reducible refine KQ.next ?_) | (with_reducible refine KQ.then_ret ?_) | (with_reducible refine KQ.blk_ret ?_) | (with_reducible refine K.ret ?_))
      refine KQ.ret3 rfl rfl rfl rfl (fun w' hs => ⟨_, _, rfl, ⟨?_, rfl⟩, hw.below_step hs.below, hs.below⟩)
      rw [← hres]
    rw [if_neg h6] at hres
    refine K.condF rfl (by simpa using h6) ?_
    repeat (first | (with_reducible refine KQ.next ?_) | (with_reducible refine K.skip ?_))
    refine K.reg ?_
    refine KO.fo0 (off := 1) rfl Tryz.runUnderlying69 rfl rfl Tryz.sizeOf9 rfl ?_
    refine KO.ld rfl rfl Tryz.isAgg9 (by with_reducible (repeat (exact Pick.head))) (by exact rfl) rfl ?_
    refine KO.as rfl rfl ?_
    refine KO.nil ?_
    repeat ((with_reducible refine KQ.blk_normal ?_))
    have hmem : t ∈ l.map Nm.name := by
      obtain ⟨h1, h2⟩ := lk_some hk
      exact List.mem_map.2 ⟨_, h1, h2⟩
    refine KQ.round (t :: seen, yt, putK m t (.bool true)) ⟨mapB_put hm t, List.nodup_cons.2 ⟨hts, hnd⟩, fun u hu => ?_, ?_⟩ ?_ ⟨rfl, rfl, rfl, trivial⟩ (fun _ h => h.all (by with_reducible repeat (first | exact PAll.nil | refine PAll.cons (by with_reducible repeat (first | exact Pick.head | apply Pick.tail)) ?_)))
    · rcases List.mem_cons.1 hu with rfl | hu
      · exact hmem
      · exact hsub u hu
    · dsimp only; rw [← hres, List.length_cons, show l.length + 1 - (seen.length + 1) = q by omega]
    · dsimp only; rw [List.length_cons]; omega
theorem swoNm : Go.Sort.SWO (fun a b : Nm => decide (cmpN a.name b.name < 0)) := {
  irrefl x := by simp [cmpN_self]
  trans x y z h1 h2 := by
    simp only [decide_eq_true_eq] at *
    exact cmpN_trans h1 h2
  ntrans x y z h1 h2 := by
    simp only [decide_eq_false_iff_not, Int.not_lt] at *
    have a1 := cmpN_anti x.name y.name
    have a2 := cmpN_anti y.name z.name
    have a3 := cmpN_anti x.name z.name
    rcases Decidable.em (cmpN x.name z.name < 0) with h | h
    · exfalso
      by_cases e : cmpN y.name x.name = 0
      · rw [cmpN_eq e] at h2; omega
      · have := cmpN_trans (show cmpN y.name x.name < 0 by omega) h
        omega
    · omega
  }
noncomputable def svT : TypeInfo := (Tryz.prog.info? 62).get (by kernel_rfl)
noncomputable def svE : TypeInfo := (Tryz.prog.info? 69).get (by kernel_rfl)
theorem svK (n : Nat) (h2 : 2 ≤ n) : Lib.swapperK n svE 25 = 9 := by
  have a : svE.hasPointers = true := by kernel_rfl
  have b : svE.bytes = 40 := by kernel_rfl
  have c : (n == 0) = false := by simp; omega
  have d : (n == 1) = false := by simp; omega
  simp [Lib.swapperK, a, b, c, d]
theorem bless_cmp : ∀ x y : List UInt8, Op.bytesLess x y = decide (Lib.compareBytes x y < 0)
  | [], [] => rfl
  | [], _ :: _ => by simp [Op.bytesLess, Lib.compareBytes]
  | _ :: _, [] => by simp [Op.bytesLess, Lib.compareBytes]
  | a :: x, b :: y => by
    unfold Op.bytesLess Lib.compareBytes
    rw [bless_cmp x y]
    by_cases h1 : a < b
    · simp [h1]
    · by_cases h2 : b < a
      · have h3 : a ≠ b := fun h => by subst h; exact h1 h2
        simp [h1, h2, h3]
      · have h3 : a = b := UInt8.le_antisymm (UInt8.not_lt.1 h2) (UInt8.not_lt.1 h1)
        subst h3; simp [h1]
set_option maxHeartbeats 2000000 in
theorem nmLess (Bs : Nat) : LessAt Tryz.prog 93 Nm.cells 3 (fun a b : Nm => decide (cmpN a.name b.name < 0)) Bs := by
  intro W g n c dk hn hs hH i j hi hj
  have ci := (hH.cell (i := i) (c := 0) (by omega) (by omega)).1
  have cj := (hH.cell (i := j) (c := 0) (by omega) (by omega)).1
  generalize dk[i]! = a at *
  generalize dk[j]! = d at *
  simp only [Nm.cells, List.getElem!_cons_zero, Nat.zero_add, Nat.add_zero] at ci cj
  have e : Op.bytesLess a.name.toList d.name.toList = decide (cmpN a.name d.name < 0) := by rw [bless_cmp, Lib.toList_data, Lib.toList_data]; rfl
  clear hH
  go_enter Tryz.func93, Tryz.ntmps93
  go_wp2
  go_quiet (fail)
  go_wp2
  go_ret
  exact ⟨rfl, nq, rfl⟩
theorem rsort_c (w0 : World) (L : List HP) (v : Value) (xs : List Nm) (Bs : Nat) (hsz : xs.length < 1000000) :
    KC Tryz.prog 92 #[.iface 62 v, .func (.func 93) #[] #[.pointer (some ⟨Bs, 0, none⟩)]] w0 (nmS v xs :: blk Bs (.cells [v].toArray 62 (0, 0)) :: L)
      (fun u M => u = .tuple #[] ∧ ∃ ys : List Nm, ys.Perm xs ∧ (ys.Pairwise fun a b => decide (cmpN b.name a.name < 0) = false) ∧ M = nmS v ys :: blk Bs (.cells [v].toArray 62 (0, 0)) :: L) :=
  sortSlice_c Tryz.laysGg6 62 69 62 svT svE (by kernel_rfl) (by kernel_rfl) (by kernel_rfl) (by kernel_rfl) 25 (fun _ => by kernel_rfl) Nm.cells 3 (fun _ => rfl) (by kernel_rfl) (fun _ => by kernel_rfl) nm_one _ swoNm 93 (fun args w => Tryz.call93 args w)
    230 231 238 (by kernel_rfl) (by kernel_rfl) svK (by kernel_rfl) (fun args W => run_callFunc_extern Tryz.func238 (by kernel_rfl) (by kernel_rfl) (by kernel_rfl) (e := Extern.ReflectliteSwapper.swap false) (by kernel_rfl) args W) w0 L v xs Bs (nmLess Bs) hsz
theorem rall_e (hp : Pick L (blk b (.cells cs.toArray T (0, 0))) R) (hq : Pick R (nmS v l) R2) (hc : cs[off]? = some v) (hl : l.length < 900000) :
    KE Tryz.prog 45 #[.pointer (some ⟨b, off, none⟩)] w0 L (fun u M => ∃ ys : List Nm, ys.Perm l ∧ (ys.Pairwise fun a b => decide (cmpN b.name a.name < 0) = false) ∧ M = nmS u ys :: L) := by
  refine KE.mk (n := 15) Tryz.func45 rfl Tryz.ntmps45 (by simp) ?_
  intro w hw
  have hcell : w.cell? ⟨b, off, none⟩ = some v := by rw [World.cell?, (hw.lookP hp).2]; simpa using hc
  have hsrc := Src.of hq w (hw.pick hp).drop
  repeat ((with_reducible refine K.seq ?_))
  refine K.reg ?_
  refine KO.as rfl rfl ?_
  refine KO.nil ?_
  repeat (first | (with_reducible refine K.seq ?_) | (with_reducible refine KQ.next ?_))
  refine K.reg ?_
  refine KO.bs0 Nm.cells rfl Tryz.underlying62 Tryz.sizeOf69 rfl ?_; intro b4
  refine KO.mv rfl rfl ?_
  refine KO.nc rfl rfl ?_
  refine KO.fo (off := 0) rfl Tryz.runUnderlying67 rfl rfl Tryz.sizeOf62 rfl ?_
  refine KO.ld0 rfl rfl Tryz.isAgg62 hcell rfl ?_
  refine KO.appS (z := Value.agg #[.string ⟨#[]⟩, .string ⟨#[]⟩, .int .i64 0]) (sz := 3) (by' := 40) (ys := l) rfl rfl rfl (by with_reducible (repeat (exact Pick.head))) (fun w' hs => hsrc.ext (Ext.of_below hs.below)) Tryz.underlying62 nm_info rfl (fun _ => rfl) nm_one (by simp; omega) (by decide) rfl ?_; intro v9; rw [List.nil_append]; refine KO.fact (fun _ hs => SL_form hs) ?_; rintro ⟨a9, c9, rfl, -⟩
  refine KO.alloc rfl Tryz.zeroValue62 (by exact rfl) rfl ?_; intro b3
  refine KO.sto0 rfl rfl rfl (by exact rfl) (by exact Tryz.sizeOf62) (by exact rfl) (by with_reducible (repeat (exact Pick.head))) (by exact rfl) ?_
  refine KO.nil ?_
  repeat (first | (with_reducible refine K.seq ?_) | (with_reducible refine KQ.next ?_))
  refine K.reg ?_
  refine KO.ld rfl rfl Tryz.isAgg62 (by with_reducible (repeat (exact Pick.head))) (by exact rfl) rfl ?_
  refine KO.mki rfl (by kernel_rfl) rfl ?_
  refine KO.mkc rfl rfl rfl ?_
  refine KO.cl rfl rfl rfl Tryz.call92 rfl (KC.pk2 (by with_reducible (repeat (first | exact Pick.head | apply Pick.tail))) (by with_reducible (repeat (exact Pick.head))) (rsort_c w _ _ l b3 (by omega))) ?_; rintro v' L' ⟨rfl, ys, hp1, hp2, rfl⟩
  refine KO.nil ?_
  repeat (first | (with_reducible refine K.seq ?_) | (with_reducible refine KQ.next ?_))
  refine K.reg ?_
  refine KO.ld rfl rfl Tryz.isAgg62 (by with_reducible (repeat (first | exact Pick.head | apply Pick.tail))) (by exact rfl) rfl ?_
  refine KO.as rfl rfl ?_
  refine KO.nil ?_
  repeat (first | (with_reducible refine KQ.next ?_) | (with_reducible refine K.ret ?_))
  refine KQ.ret1 rfl rfl (fun w' hs => ⟨_, _, rfl, ⟨ys, hp1, hp2, rfl⟩, ?_, hs.below⟩)
  rw [← hp1.length_eq] at hs ⊢
  exact hw.stack (M := [nmS _ ys]) (hs.all (by with_reducible repeat (first | exact PAll.nil | refine PAll.cons (by with_reducible repeat (exact Pick.head)) ?_)))
end
end Go.Proofs.YtjhogocabcdjbaaGreatDoor
/- waybilllaw.sameNames -/
namespace Go.Proofs.YtjhogocabcdjbaaGreatDoor
open Go Go.RowKit WB
theorem nmA_eq (a b : Nm) (w : World) : (Op.equalIn 10000 69 (.agg a.cells.toArray) (.agg b.cells.toArray)).run Tryz.prog w = .ok (decide (a = b)) w := by
  rw [run_equalIn_agg w 9999 69 _ _ (by kernel_rfl) (by kernel_rfl), ← nm_bools]
  simp only [Program.fieldsOf, Tryz.underlying69]
  refine eqF_str (by decide) Tryz.underlying9 (Tryz.isAgg9 w) rfl rfl (eqF_str (by decide) Tryz.underlying9 (Tryz.isAgg9 w) rfl rfl (eqF_int (by decide) Tryz.underlying3 (Tryz.isAgg3 w) rfl rfl eqF_nil))
theorem sameN_e (w0 : World) (L : List HP) (v1 v2 : Value) (xs ys : List Nm) (h1 : ∀ w, St w0 L w → RdA w 3 Nm.cells v1 xs) (h2 : ∀ w, St w0 L w → RdA w 3 Nm.cells v2 ys) (hx : xs.length < 1000000) (hy : ys.length < 1000000) :
    KE Tryz.prog 43 #[v1, v2] w0 L (fun u M => u = .bool (decide (xs = ys)) ∧ M = L) := by
  refine KE.mk (n := 26) Tryz.func43 rfl Tryz.ntmps43 (by simp) ?_
  intro w hw
  obtain ⟨a1, c1, rfl, hc1⟩ := h1 w hw
  obtain ⟨a2, c2, rfl, hc2⟩ := h2 w hw
  have fin : ∀ (b : Bool) (w' : World) (M : List HP), b = decide (xs = ys) → St w M w' → ∃ v L', Ending.returned (.bool b) = Ending.returned v ∧ (v = .bool (decide (xs = ys)) ∧ L' = L) ∧ St w0 L' w' ∧ Below w.heap.size w w' := fun b w' M e hs => ⟨_, _, rfl, ⟨by rw [e], rfl⟩, hw.below_step hs.below, hs.below⟩
  repeat ((with_reducible refine K.seq ?_))
  refine K.reg ?_
  refine KO.as rfl rfl ?_
  refine KO.nil ?_
  repeat (first | (with_reducible refine K.seq ?_) | (with_reducible refine KQ.next ?_))
  refine K.reg ?_
  refine KO.mv rfl rfl ?_
  refine KO.len rfl Tryz.underlying62 rfl ?_
  refine KO.mv rfl rfl ?_
  refine KO.len rfl Tryz.underlying62 rfl ?_
  refine KO.neI rfl rfl rfl ?_
  refine KO.nil ?_
  repeat ((with_reducible refine KQ.next ?_))
  refine K.condD rfl (fun h => ?_) (fun h => ?_)
  · repeat ((with_reducible refine K.seq ?_))
    refine K.reg ?_
    refine KO.as rfl rfl ?_
    refine KO.nil ?_
    repeat (first | (with_reducible refine KQ.next ?_) | (with_reducible refine KQ.then_ret ?_) | (with_reducible refine K.ret ?_))
    refine KQ.ret1 rfl rfl (fun w' hs => fin _ w' _ (by rw [eq_comm, decide_eq_false_iff_not]; rintro rfl; exact h rfl) hs)
  · have hlen : xs.length = ys.length := by omega
    repeat (first | (with_reducible refine K.seq ?_) | (with_reducible refine KQ.next ?_) | (with_reducible refine K.skip ?_))
    refine K.reg ?_
    refine KO.as rfl rfl ?_
    refine KO.nil ?_
    repeat (first | (with_reducible refine KQ.next ?_) | (with_reducible refine K.block ?_))
    refine K.loop (fun k : Nat => [(0, .slice a1 xs.length c1), (1, .slice a2 ys.length c2), (5, .int .i64 (k : Nat))]) (fun _ => []) (fun k => k ≤ xs.length ∧ xs.take k = ys.take k) (fun k => xs.length - k) 0
      ⟨Nat.zero_le _, rfl⟩ ⟨rfl, rfl, rfl, trivial⟩ (fun _ h => h) ?_
    rintro k ⟨hk, hkk⟩
    repeat ((with_reducible refine K.seq ?_))
    refine K.reg ?_
    refine KO.mv rfl rfl ?_
    refine KO.mv rfl rfl ?_
    refine KO.len rfl Tryz.underlying62 rfl ?_
    refine KO.lss rfl rfl rfl ?_
    refine KO.nil ?_
    repeat ((with_reducible refine KQ.next ?_))
    refine K.condD rfl (fun h3 => ?_) (fun h3 => ?_)
    · obtain ⟨e1, he1⟩ : ∃ e, xs[k]? = some e := ⟨xs[k], List.getElem?_eq_getElem (by omega)⟩
      obtain ⟨e2, he2⟩ : ∃ e, ys[k]? = some e := ⟨ys[k], List.getElem?_eq_getElem (by omega)⟩
      obtain ⟨d1, rfl, hd1⟩ := hc1 k e1 he1
      obtain ⟨d2, rfl, hd2⟩ := hc2 k e2 he2
      repeat (first | (with_reducible refine K.seq ?_) | (with_reducible refine KQ.next ?_) | (with_reducible refine K.skip ?_) | (with_reducible refine K.block ?_))
      refine K.draw [.pure, .pure, .pure, .read, .pure, .pure, .pure, .read, .pure] [0, 1, 2, 3, 4, 5, 6, 7, 8] (by kernel_rfl) (by kernel_rfl) ?_
      refine KO.mv rfl rfl ?_
      refine KO.mv rfl rfl ?_
      refine KO.idxH rfl rfl Tryz.runUnderlying62 Tryz.sizeOf69 (by exact rfl) (by omega) rfl ?_
      refine KO.ldN0 (cs := e1.cells.toArray) rfl rfl Tryz.isAgg69 Tryz.sizeOf69 rfl hd1 rfl ?_
      refine KO.mv rfl rfl ?_
      refine KO.mv rfl rfl ?_
      refine KO.idxH rfl rfl Tryz.runUnderlying62 Tryz.sizeOf69 (by exact rfl) (by omega) rfl ?_
      refine KO.ldN0 (cs := e2.cells.toArray) rfl rfl Tryz.isAgg69 Tryz.sizeOf69 rfl hd2 rfl ?_
      refine KO.neA rfl rfl (by kernel_rfl) (nmA_eq e1 e2) rfl ?_
      refine KO.nil ?_
      repeat ((with_reducible refine KQ.next ?_))
      refine K.cond rfl (fun h4 => ?_) (fun h4 => ?_)
      · repeat ((with_reducible refine K.seq ?_))
        refine K.reg ?_
        refine KO.as rfl rfl ?_
        refine KO.nil ?_
        repeat (first | (with_reducible refine KQ.next ?_) | (with_reducible refine KQ.then_ret ?_) | (with_reducible refine KQ.blk_ret ?_) | (with_reducible refine K.ret ?_))
        refine KQ.ret1 rfl rfl (fun w' hs => fin _ w' _ ?_ hs)
        rw [eq_comm, decide_eq_false_iff_not]
        rintro rfl
        rw [he1] at he2
        simp only [Option.some.injEq] at he2
        simp [he2] at h4
      · have e12 : e1 = e2 := by simpa using h4
        repeat (first | (with_reducible refine KQ.next ?_) | (with_reducible refine KQ.blk_normal ?_) | (with_reducible refine K.skip ?_))
        refine K.reg ?_
        refine KO.mv rfl rfl ?_
        refine KO.add rfl rfl rfl (by omega) rfl ?_
        refine KO.as rfl rfl ?_
        refine KO.nil ?_
        refine KQ.round (k + 1) ⟨by omega, by rw [take_succ_some he1, take_succ_some he2, hkk, e12]⟩ (by omega) ⟨rfl, rfl, rfl, trivial⟩ (fun _ hs => hs)
    · have hkl : k = xs.length := by omega
      repeat (first | (with_reducible refine K.seq ?_) | (with_reducible refine KQ.next ?_) | (with_reducible refine KQ.then_exit ?_) | (with_reducible refine KQ.blk_exit ?_) | (with_reducible refine K.exit ?_))
      refine K.reg ?_
      refine KO.as rfl rfl ?_
      refine KO.nil ?_
      repeat (first | (with_reducible refine KQ.next ?_) | (with_reducible refine K.ret ?_))
      refine KQ.ret1 rfl rfl (fun w' hs => fin _ w' _ ?_ hs)
      rw [eq_comm, decide_eq_true_eq]
      rw [hkl, List.take_length, hlen, List.take_length] at hkk
      exact hkk
end Go.Proofs.YtjhogocabcdjbaaGreatDoor
/- waybilllaw.NamesPlay: the walk -/
namespace Go.Proofs.YtjhogocabcdjbaaGreatDoor
open Go Go.RowKit WB
structure Cl where
  what : Int
  n : Nm
def clC (x : Cl) : List Value := [.int .i64 x.what, .string x.n.name, .string x.n.tgt, .int .i64 x.n.house]
theorem rdN_of {L R : List HP} {w0 : World} {v : Value} {l : List Nm} (hp : Pick L (nmS v l) R) : ∀ w, St w0 L w → RdA w 3 Nm.cells v l := fun _ hw => RdA.ofSL (cf := Nm.cells) (sz := 3) (E := 69) (fun _ => rfl) hp hw
set_option maxRecDepth 100000 in
set_option maxHeartbeats 4000000 in
theorem nplay_e (w0 : World) (L : List HP) (v : Value) (xs : List Cl) (hin : ∀ w, St w0 L w → RdA w 4 clC v xs) (hsz : ∀ x ∈ xs, x.n.name.size ≤ maxLen ∧ x.n.tgt.size ≤ maxLen) (hg : ErrType w0) :
    KE Tryz.prog 6 #[v] w0 L (fun u M => u = .bool true ∧ M = L) := by
  refine KE.mk (n := 117) Tryz.func6 rfl Tryz.ntmps6 (by simp) ?_
  intro w hw
  have hgw : ErrType w := (Ext.of_below hw.below).cell hg
  obtain ⟨sa, cap, rfl, hc⟩ := hin w hw
  have fin : ∀ (w' : World) (M : List HP), St w M w' → ∃ v L', Ending.returned (.bool true) = Ending.returned v ∧ (v = .bool true ∧ L' = L) ∧ St w0 L' w' ∧ Below w.heap.size w w' := fun w' M hs => ⟨_, _, rfl, ⟨rfl, rfl⟩, hw.below_step hs.below, hs.below⟩
  repeat ((with_reducible refine K.seq ?_))
  refine K.reg ?_
  refine KO.as rfl rfl ?_
  refine KO.nil ?_
  repeat (first | (with_reducible refine K.seq ?_) | (with_reducible refine KQ.next ?_))
  refine K.reg ?_
  refine KO.mv rfl rfl ?_
  refine KO.len rfl Tryz.underlying61 rfl ?_
  refine KO.gtr rfl rfl rfl ?_
  refine KO.nil ?_
  repeat ((with_reducible refine KQ.next ?_))
  refine K.condD rfl (fun h => ?_) (fun h => ?_)
  · repeat ((with_reducible refine K.seq ?_))
    refine K.reg ?_
    refine KO.as rfl rfl ?_
    refine KO.nil ?_
    repeat (first | (with_reducible refine KQ.next ?_) | (with_reducible refine KQ.then_ret ?_) | (with_reducible refine K.ret ?_))
    refine KQ.ret1 rfl rfl (fun w' hs => fin w' _ hs)
  have hlen : xs.length ≤ 80 := by omega
  repeat (first | (with_reducible refine K.seq ?_) | (with_reducible refine KQ.next ?_) | (with_reducible refine K.skip ?_))
  refine K.reg ?_
  refine KO.alloc rfl Tryz.zeroValue64 (by exact rfl) rfl ?_; intro b3
  refine KO.nil ?_
  repeat (first | (with_reducible refine K.seq ?_) | (with_reducible refine KQ.next ?_))
  refine K.reg ?_
  refine KO.bldN (pl := [(0, 1)]) rfl Tryz.zeroValue67 Tryz.runUnderlying67 (by intro w; simp [Tryz.sizeOf62]) (by exact rfl) rfl ?_
  refine KO.box rfl rfl (by exact rfl) rfl ?_; intro b17
  refine KO.as rfl rfl ?_
  refine KO.nil ?_
  repeat (first | (with_reducible refine K.seq ?_) | (with_reducible refine KQ.next ?_))
  refine K.reg ?_
  refine KO.as rfl rfl ?_
  refine KO.nil ?_
  repeat (first | (with_reducible refine KQ.next ?_) | (with_reducible refine K.block ?_))
  refine K.loop (fun s : Nat × List Nm × List Nm × Value × Value => [(0, .slice sa xs.length cap), (3, .pointer (some ⟨b3, 0, none⟩)), (4, .pointer (some ⟨b17, 0, none⟩)), (5, .int .i64 (s.1 : Nat))])
    (fun s => [blk b3 (.cells [s.2.2.2.1].toArray 64 (0, 0)), nmS s.2.2.2.1 s.2.1, blk b17 (.cells [s.2.2.2.2].toArray 67 (0, 0)), nmS s.2.2.2.2 s.2.2.1]) (fun s => s.1 ≤ xs.length ∧ NRel s.2.1 s.2.2.1 ∧ s.2.1.length ≤ 20) (fun s => xs.length - s.1) (0, [], [], .slice none 0 0, .slice none 0 0)
    ⟨Nat.zero_le _, NRel.nil, by simp⟩ ⟨rfl, rfl, rfl, rfl, trivial⟩ (fun _ h => ?_) ?_
  · have h1 := SL_nil (E := 69) (sz := 3) (cf := Nm.cells) h
    have h2 := SL_nil (E := 69) (sz := 3) (cf := Nm.cells) h1
    dsimp only
    exact h2.all (by repeat (first | exact PAll.refl | refine PAll.cons (by repeat (first | exact Pick.head | apply Pick.tail)) ?_))
  rintro ⟨i, l, rl, vl, vr⟩ ⟨hi, hr, hl⟩
  dsimp only at hi hr hl ⊢
  repeat ((with_reducible refine K.seq ?_))
  refine K.reg ?_
  refine KO.mv rfl rfl ?_
  refine KO.mv rfl rfl ?_
  refine KO.len rfl Tryz.underlying61 rfl ?_
  refine KO.lss rfl rfl rfl ?_
  refine KO.nil ?_
  repeat ((with_reducible refine KQ.next ?_))
  refine K.condD rfl (fun h1 => ?_) (fun h1 => ?_)
  · refine K.skip ?_
    refine KQ.next ?_
    obtain ⟨x, hx⟩ : ∃ e, xs[i]? = some e := ⟨xs[i], List.getElem?_eq_getElem (by omega)⟩
    obtain ⟨ad, rfl, hcell⟩ := hc i x hx
    obtain ⟨hsb, hsq⟩ := hsz x (List.mem_of_getElem? hx)
    obtain ⟨wh, nn, nt, nh⟩ := x
    dsimp only at hsb hsq
    have hc0 : w.cell? ((ad.add (i * 4)).add 0) = some (.int .i64 wh) := hcell 0 _ rfl
    have hc1 : HasCells w ((ad.add (i * 4)).add 1) (Nm.cells ⟨nn, nt, nh⟩) := fun j c hj => by
      have := hcell (1 + j) c (by rw [Nat.add_comm]; exact hj)
      rw [Addr.add_add]
      exact this
    have hrl := hr.len
    have hso := hr.sorted
    refine K.mid (fun s : List Nm × List Nm × Value × Value => [(0, .slice (some ad) xs.length cap), (3, .pointer (some ⟨b3, 0, none⟩)), (4, .pointer (some ⟨b17, 0, none⟩)), (5, .int .i64 (i : Nat))]) (fun s => [blk b3 (.cells [s.2.2.1].toArray 64 (0, 0)), nmS s.2.2.1 s.1, blk b17 (.cells [s.2.2.2].toArray 67 (0, 0)), nmS s.2.2.2 s.2.1]) (fun s => NRel s.1 s.2.1 ∧ s.1.length ≤ 20) ?_ ?_
    · refine K.block ?_
      repeat ((with_reducible refine K.seq ?_))
      refine K.reg ?_
      refine KO.mv rfl rfl ?_
      refine KO.mv rfl rfl ?_
      refine KO.idxH rfl rfl Tryz.runUnderlying61 Tryz.sizeOf71 (by exact rfl) (by omega) rfl ?_
      refine KO.fldH (off := 1) rfl Tryz.runUnderlying71 rfl rfl Tryz.sizeOf69 rfl ?_
      refine KO.ldN0 (cs := (Nm.cells ⟨nn, nt, nh⟩).toArray) rfl rfl Tryz.isAgg69 Tryz.sizeOf69 rfl hc1 rfl ?_
      refine KO.alloc rfl Tryz.zeroValue69 (by exact rfl) rfl ?_; intro b6
      refine KO.sto0 rfl rfl rfl (by exact rfl) (by exact Tryz.sizeOf69) (by exact rfl) (by with_reducible (repeat (exact Pick.head))) (by exact rfl) ?_
      refine KO.nil ?_
      repeat (first | (with_reducible refine K.seq ?_) | (with_reducible refine KQ.next ?_))
      by_cases ha : (60 : Int) < nn.size
      · refine K.reg ?_
        refine KO.fo0 (off := 0) rfl Tryz.runUnderlying69 rfl rfl Tryz.sizeOf9 rfl ?_
        refine KO.ld rfl rfl Tryz.isAgg9 (by with_reducible (repeat (exact Pick.head))) (by exact rfl) rfl ?_
        refine KO.lenS rfl Tryz.underlying9 rfl ?_
        refine KO.gtr rfl rfl rfl ?_
        refine KO.mv rfl rfl ?_
        (refine KO.no rfl rfl ?_ rfl ?_; (focus (simp only [decide_eq_true_eq, decide_eq_false_iff_not, Bool.not_eq_true, Bool.not_true, Bool.not_false, ne_eq]; omega)))
        (refine KO.no rfl rfl ?_ rfl ?_; (focus (simp only [decide_eq_true_eq, decide_eq_false_iff_not, Bool.not_eq_true, Bool.not_true, Bool.not_false, ne_eq]; omega)))
        (refine KO.no rfl rfl ?_ rfl ?_; (focus (simp only [decide_eq_true_eq, decide_eq_false_iff_not, Bool.not_eq_true, Bool.not_true, Bool.not_false, ne_eq]; omega)))
        (refine KO.no rfl rfl ?_ rfl ?_; (focus (simp only [decide_eq_true_eq, decide_eq_false_iff_not, Bool.not_eq_true, Bool.not_true, Bool.not_false, ne_eq]; omega)))
        (refine KO.pickT rfl ?_ rfl rfl ?_; (focus (simp only [decide_eq_true_eq, decide_eq_false_iff_not, Bool.not_eq_true, Bool.not_true, Bool.not_false, ne_eq]; omega)))
        refine KO.nil ?_
        repeat ((with_reducible refine KQ.next ?_))
        refine K.condT rfl (by (simp; done)) ?_
        repeat (first | (with_reducible refine KQ.then_exit ?_) | (with_reducible refine KQ.blk_exit ?_) | (with_reducible refine K.exit ?_))
        exact KQ.mid (l, rl, vl, vr) ⟨hr, hl⟩ ⟨rfl, rfl, rfl, rfl, trivial⟩ (fun _ h => h.all (by with_reducible repeat (first | exact PAll.nil | refine PAll.cons (by with_reducible repeat (first | exact Pick.head | apply Pick.tail)) ?_)))
      by_cases hb : (60 : Int) < nt.size
      · refine K.reg ?_
        refine KO.fo0 (off := 0) rfl Tryz.runUnderlying69 rfl rfl Tryz.sizeOf9 rfl ?_
        refine KO.ld rfl rfl Tryz.isAgg9 (by with_reducible (repeat (exact Pick.head))) (by exact rfl) rfl ?_
        refine KO.lenS rfl Tryz.underlying9 rfl ?_
        refine KO.gtr rfl rfl rfl ?_
        refine KO.mv rfl rfl ?_
        (refine KO.on rfl rfl ?_ ?_; (focus (simp only [decide_eq_true_eq, decide_eq_false_iff_not, Bool.not_eq_true, Bool.not_true, Bool.not_false, ne_eq]; omega)); (refine KO.fo0 (off := 1) rfl Tryz.runUnderlying69 rfl rfl Tryz.sizeOf9 rfl ?_))
        (refine KO.on rfl rfl ?_ ?_; (focus (simp only [decide_eq_true_eq, decide_eq_false_iff_not, Bool.not_eq_true, Bool.not_true, Bool.not_false, ne_eq]; omega)); (refine KO.ld rfl rfl Tryz.isAgg9 (by with_reducible (repeat (exact Pick.head))) (by exact rfl) rfl ?_))
        (refine KO.on rfl rfl ?_ ?_; (focus (simp only [decide_eq_true_eq, decide_eq_false_iff_not, Bool.not_eq_true, Bool.not_true, Bool.not_false, ne_eq]; omega)); (refine KO.lenS rfl Tryz.underlying9 rfl ?_))
        (refine KO.on rfl rfl ?_ ?_; (focus (simp only [decide_eq_true_eq, decide_eq_false_iff_not, Bool.not_eq_true, Bool.not_true, Bool.not_false, ne_eq]; omega)); (refine KO.gtr rfl rfl rfl ?_))
        (refine KO.pickF rfl ?_ rfl rfl ?_; (focus (simp only [decide_eq_true_eq, decide_eq_false_iff_not, Bool.not_eq_true, Bool.not_true, Bool.not_false, ne_eq]; omega)))
        refine KO.nil ?_
        repeat ((with_reducible refine KQ.next ?_))
        refine K.condT rfl (by (simp; omega)) ?_
        repeat (first | (with_reducible refine KQ.then_exit ?_) | (with_reducible refine KQ.blk_exit ?_) | (with_reducible refine K.exit ?_))
        exact KQ.mid (l, rl, vl, vr) ⟨hr, hl⟩ ⟨rfl, rfl, rfl, rfl, trivial⟩ (fun _ h => h.all (by with_reducible repeat (first | exact PAll.nil | refine PAll.cons (by with_reducible repeat (first | exact Pick.head | apply Pick.tail)) ?_)))
      refine K.reg ?_
      refine KO.fo0 (off := 0) rfl Tryz.runUnderlying69 rfl rfl Tryz.sizeOf9 rfl ?_
      refine KO.ld rfl rfl Tryz.isAgg9 (by with_reducible (repeat (exact Pick.head))) (by exact rfl) rfl ?_
      refine KO.lenS rfl Tryz.underlying9 rfl ?_
      refine KO.gtr rfl rfl rfl ?_
      refine KO.mv rfl rfl ?_
      (refine KO.on rfl rfl ?_ ?_; (focus (simp only [decide_eq_true_eq, decide_eq_false_iff_not, Bool.not_eq_true, Bool.not_true, Bool.not_false, ne_eq]; omega)); (refine KO.fo0 (off := 1) rfl Tryz.runUnderlying69 rfl rfl Tryz.sizeOf9 rfl ?_))
      (refine KO.on rfl rfl ?_ ?_; (focus (simp only [decide_eq_true_eq, decide_eq_false_iff_not, Bool.not_eq_true, Bool.not_true, Bool.not_false, ne_eq]; omega)); (refine KO.ld rfl rfl Tryz.isAgg9 (by with_reducible (repeat (exact Pick.head))) (by exact rfl) rfl ?_))
      (refine KO.on rfl rfl ?_ ?_; (focus (simp only [decide_eq_true_eq, decide_eq_false_iff_not, Bool.not_eq_true, Bool.not_true, Bool.not_false, ne_eq]; omega)); (refine KO.lenS rfl Tryz.underlying9 rfl ?_))
      (refine KO.on rfl rfl ?_ ?_; (focus (simp only [decide_eq_true_eq, decide_eq_false_iff_not, Bool.not_eq_true, Bool.not_true, Bool.not_false, ne_eq]; omega)); (refine KO.gtr rfl rfl rfl ?_))
      (refine KO.pickF rfl ?_ rfl rfl ?_; (focus (simp only [decide_eq_true_eq, decide_eq_false_iff_not, Bool.not_eq_true, Bool.not_true, Bool.not_false, ne_eq]; omega)))
      refine KO.nil ?_
      repeat ((with_reducible refine KQ.next ?_))
      refine K.condF rfl (by (simp; omega)) ?_
      refine K.skip ?_
      refine KQ.next ?_
      refine K.mid (fun s : List Nm × List Nm × Value × Value => [(0, .slice (some ad) xs.length cap), (3, .pointer (some ⟨b3, 0, none⟩)), (4, .pointer (some ⟨b17, 0, none⟩)), (5, .int .i64 (i : Nat)), (6, .pointer (some ⟨b6, 0, none⟩))]) (fun s => [blk b3 (.cells [s.2.2.1].toArray 64 (0, 0)), nmS s.2.2.1 s.1, blk b17 (.cells [s.2.2.2].toArray 67 (0, 0)), nmS s.2.2.2 s.2.1, blk b6 (.cells [Value.string nn, .string nt, .int .i64 nh].toArray 69 (0, 0))]) (fun s => NRel s.1 s.2.1 ∧ s.1.length ≤ 20) ?_ ?_
      · repeat ((with_reducible refine K.seq ?_))
        refine K.reg ?_
        refine KO.mv rfl rfl ?_
        refine KO.mv rfl rfl ?_
        refine KO.idxH rfl rfl Tryz.runUnderlying61 Tryz.sizeOf71 (by exact rfl) (by omega) rfl ?_
        refine KO.fldH (off := 0) rfl Tryz.runUnderlying71 rfl rfl Tryz.sizeOf3 rfl ?_
        refine KO.ld0 rfl rfl Tryz.isAgg3 hc0 rfl ?_
        refine KO.nil ?_
        repeat (first | (with_reducible refine K.seq ?_) | (with_reducible refine KQ.next ?_) | (with_reducible refine K.block ?_))
        refine K.reg ?_
        refine KO.eqI rfl rfl rfl ?_
        refine KO.as rfl rfl ?_
        refine KO.nil ?_
        repeat ((with_reducible refine KQ.next ?_))
        refine K.condD rfl (fun hw0 => ?_) (fun hw0 => ?_)
        · repeat ((with_reducible refine K.seq ?_))
          refine K.drawX [.read, .write, .pure, .read, .write, .write, .pure] [(1, 3)] [[0, 2, 1, 3, 4, 5, 6], [0, 2, 3, 1, 4, 5, 6]] (by kernel_rfl) (by kernel_rfl) (by kernel_rfl) ⟨?_, ?_, trivial⟩
          focus
            show KO _ _ _ _ _ _ _ _ _ _
            refine KO.ldB0 rfl rfl Tryz.isAgg69 Tryz.sizeOf69 (by with_reducible (repeat (exact Pick.head))) (by exact rfl) rfl ?_
            refine KO.mv rfl rfl ?_
            refine KO.cl (cp := []) rfl rfl rfl Tryz.call33 rfl (nset_c w _ _ _ b3 0 [vl] 64 vl l ⟨nn, nt, nh⟩ (by with_reducible (repeat (first | exact Pick.head | apply Pick.tail))) (by with_reducible (repeat (first | exact Pick.head | apply Pick.tail))) rfl hsb hsq hl hso) ?_; rintro v' L' ⟨rfl, v2, rfl⟩; rw [show [vl].set 0 v2 = [v2] from rfl]
            refine KO.ldB0 rfl rfl Tryz.isAgg69 Tryz.sizeOf69 (by with_reducible (repeat (first | exact Pick.head | apply Pick.tail))) (by exact rfl) rfl ?_
            refine KO.cl (cp := []) rfl rfl rfl Tryz.call34 rfl (rnset_c w _ _ _ b17 0 [vr] 67 vr rl ⟨nn, nt, nh⟩ (by with_reducible (repeat (first | exact Pick.head | apply Pick.tail))) (by with_reducible (repeat (first | exact Pick.head | apply Pick.tail))) rfl (by omega) hsb hsq) ?_; rintro v' L' ⟨rfl, v3, rfl⟩; rw [show [vr].set 0 v3 = [v3] from rfl, hr.may]
            refine KO.ce (cp := []) rfl rfl rfl Tryz.call10 rfl (lbare_e w _ _ _ hgw) ?_; rintro v' L' ⟨rfl, rfl⟩
            refine KO.not rfl rfl ?_
            refine KO.nil ?_
            repeat ((with_reducible refine KQ.next ?_))
          rotate_left
          focus
            show KO _ _ _ _ _ _ _ _ _ _
            refine KO.ldB0 rfl rfl Tryz.isAgg69 Tryz.sizeOf69 (by with_reducible (repeat (exact Pick.head))) (by exact rfl) rfl ?_
            refine KO.mv rfl rfl ?_
            refine KO.ldB0 rfl rfl Tryz.isAgg69 Tryz.sizeOf69 (by with_reducible (repeat (exact Pick.head))) (by exact rfl) rfl ?_
            refine KO.cl (cp := []) rfl rfl rfl Tryz.call33 rfl (nset_c w _ _ _ b3 0 [vl] 64 vl l ⟨nn, nt, nh⟩ (by with_reducible (repeat (first | exact Pick.head | apply Pick.tail))) (by with_reducible (repeat (first | exact Pick.head | apply Pick.tail))) rfl hsb hsq hl hso) ?_; rintro v' L' ⟨rfl, v2, rfl⟩; rw [show [vl].set 0 v2 = [v2] from rfl]
            refine KO.cl (cp := []) rfl rfl rfl Tryz.call34 rfl (rnset_c w _ _ _ b17 0 [vr] 67 vr rl ⟨nn, nt, nh⟩ (by with_reducible (repeat (first | exact Pick.head | apply Pick.tail))) (by with_reducible (repeat (first | exact Pick.head | apply Pick.tail))) rfl (by omega) hsb hsq) ?_; rintro v' L' ⟨rfl, v3, rfl⟩; rw [show [vr].set 0 v3 = [v3] from rfl, hr.may]
            refine KO.ce (cp := []) rfl rfl rfl Tryz.call10 rfl (lbare_e w _ _ _ hgw) ?_; rintro v' L' ⟨rfl, rfl⟩
            refine KO.not rfl rfl ?_
            refine KO.nil ?_
            repeat ((with_reducible refine KQ.next ?_))
          rotate_left
          all_goals (
            refine K.condF rfl (by simp) ?_
            repeat (first | (with_reducible refine KQ.blk_normal ?_) | (with_reducible refine K.skip ?_))
            exact KQ.mid (setNm l ⟨nn, nt, nh⟩, lkSet rl ⟨nn, nt, nh⟩, v2, v3) ⟨hr.set _, Nat.le_trans (setNm_len _ _) (by omega)⟩ ⟨rfl, rfl, rfl, rfl, rfl, trivial⟩ (fun _ h => h.all (by repeat (first | exact PAll.refl | refine PAll.cons (by repeat (first | exact Pick.head | apply Pick.tail)) ?_))))
        · repeat ((with_reducible refine K.seq ?_))
          refine K.reg ?_
          refine KO.eqI rfl rfl rfl ?_
          refine KO.as rfl rfl ?_
          refine KO.nil ?_
          repeat ((with_reducible refine KQ.next ?_))
          refine K.condD rfl (fun hw1 => ?_) (fun hw1 => ?_)
          · repeat ((with_reducible refine K.seq ?_))
            refine K.drawX [.pure, .read, .write, .pure, .pure, .read, .write, .write, .pure] [(2, 5)] [[0, 1, 3, 4, 2, 5, 6, 7, 8], [0, 1, 3, 4, 5, 2, 6, 7, 8]] (by kernel_rfl) (by kernel_rfl) (by kernel_rfl) ⟨?_, ?_, trivial⟩
            focus
              show KO _ _ _ _ _ _ _ _ _ _
              refine KO.fo0 (off := 0) rfl Tryz.runUnderlying69 rfl rfl Tryz.sizeOf9 rfl ?_
              refine KO.ld rfl rfl Tryz.isAgg9 (by with_reducible (repeat (exact Pick.head))) (by exact rfl) rfl ?_
              refine KO.mv rfl rfl ?_
              refine KO.fo0 (off := 0) rfl Tryz.runUnderlying69 rfl rfl Tryz.sizeOf9 rfl ?_
              refine KO.cl (cp := []) rfl rfl rfl Tryz.call35 rfl (ndrop_c w _ _ _ b3 0 [vl] 64 vl l nn (by with_reducible (repeat (first | exact Pick.head | apply Pick.tail))) (by with_reducible (repeat (first | exact Pick.head | apply Pick.tail))) rfl (by omega) hso) ?_; rintro v' L' ⟨rfl, v2, rfl⟩; rw [show [vl].set 0 v2 = [v2] from rfl]
              refine KO.ld rfl rfl Tryz.isAgg9 (by with_reducible (repeat (first | exact Pick.head | apply Pick.tail))) (by exact rfl) rfl ?_
              refine KO.cl (cp := []) rfl rfl rfl Tryz.call36 rfl (rndrop_c w _ _ _ b17 0 [vr] 67 vr rl nn (by with_reducible (repeat (first | exact Pick.head | apply Pick.tail))) (by with_reducible (repeat (first | exact Pick.head | apply Pick.tail))) rfl (by omega)) ?_; rintro v' L' ⟨rfl, v3, rfl⟩; rw [show [vr].set 0 v3 = [v3] from rfl, hr.dropE]
              refine KO.ce (cp := []) rfl rfl rfl Tryz.call10 rfl (lbare_e w _ _ _ hgw) ?_; rintro v' L' ⟨rfl, rfl⟩
              refine KO.not rfl rfl ?_
              refine KO.nil ?_
              repeat ((with_reducible refine KQ.next ?_))
            rotate_left
            focus
              show KO _ _ _ _ _ _ _ _ _ _
              refine KO.fo0 (off := 0) rfl Tryz.runUnderlying69 rfl rfl Tryz.sizeOf9 rfl ?_
              refine KO.ld rfl rfl Tryz.isAgg9 (by with_reducible (repeat (exact Pick.head))) (by exact rfl) rfl ?_
              refine KO.mv rfl rfl ?_
              refine KO.fo0 (off := 0) rfl Tryz.runUnderlying69 rfl rfl Tryz.sizeOf9 rfl ?_
              refine KO.ld rfl rfl Tryz.isAgg9 (by with_reducible (repeat (exact Pick.head))) (by exact rfl) rfl ?_
              refine KO.cl (cp := []) rfl rfl rfl Tryz.call35 rfl (ndrop_c w _ _ _ b3 0 [vl] 64 vl l nn (by with_reducible (repeat (first | exact Pick.head | apply Pick.tail))) (by with_reducible (repeat (first | exact Pick.head | apply Pick.tail))) rfl (by omega) hso) ?_; rintro v' L' ⟨rfl, v2, rfl⟩; rw [show [vl].set 0 v2 = [v2] from rfl]
              refine KO.cl (cp := []) rfl rfl rfl Tryz.call36 rfl (rndrop_c w _ _ _ b17 0 [vr] 67 vr rl nn (by with_reducible (repeat (first | exact Pick.head | apply Pick.tail))) (by with_reducible (repeat (first | exact Pick.head | apply Pick.tail))) rfl (by omega)) ?_; rintro v' L' ⟨rfl, v3, rfl⟩; rw [show [vr].set 0 v3 = [v3] from rfl, hr.dropE]
              refine KO.ce (cp := []) rfl rfl rfl Tryz.call10 rfl (lbare_e w _ _ _ hgw) ?_; rintro v' L' ⟨rfl, rfl⟩
              refine KO.not rfl rfl ?_
              refine KO.nil ?_
              repeat ((with_reducible refine KQ.next ?_))
            rotate_left
            all_goals (
              refine K.condF rfl (by simp) ?_
              repeat (first | (with_reducible refine KQ.blk_normal ?_) | (with_reducible refine K.skip ?_))
              exact KQ.mid (dropNm l nn, lkDrop rl nn, v2, v3) ⟨hr.drop _, Nat.le_trans (dropNm_len _ _) hl⟩ ⟨rfl, rfl, rfl, rfl, rfl, trivial⟩ (fun _ h => h.all (by repeat (first | exact PAll.refl | refine PAll.cons (by repeat (first | exact Pick.head | apply Pick.tail)) ?_))))
          · repeat (first | (with_reducible refine KQ.blk_normal ?_) | (with_reducible refine K.skip ?_))
            exact KQ.mid (l, rl, vl, vr) ⟨hr, hl⟩ ⟨rfl, rfl, rfl, rfl, rfl, trivial⟩ (fun _ h => h.all (by repeat (first | exact PAll.refl | refine PAll.cons (by repeat (first | exact Pick.head | apply Pick.tail)) ?_)))
      · rintro ⟨l2, rl2, v2, v3⟩ ⟨hr2, hl2⟩
        dsimp only at hr2 hl2 ⊢
        have hrl2 := hr2.len
        have hso2 := hr2.sorted
        have hres := hr2.res nn
        generalize hrr : resN l2 (l2.length + 1) nn = rr at hres
        obtain ⟨r1, r2, r3⟩ := rr
        repeat ((with_reducible refine K.seq ?_))
        refine K.reg ?_
        refine KO.mv rfl rfl ?_
        refine KO.fo0 (off := 0) rfl Tryz.runUnderlying69 rfl rfl Tryz.sizeOf9 rfl ?_
        refine KO.ld rfl rfl Tryz.isAgg9 (by with_reducible (repeat (first | exact Pick.head | apply Pick.tail))) (by exact rfl) rfl ?_
        refine KO.ce (cp := []) rfl rfl rfl Tryz.call37 rfl (rresolve_e w _ _ _ b17 0 [v3] 67 v3 rl2 nn (by with_reducible (repeat (first | exact Pick.head | apply Pick.tail))) (by with_reducible (repeat (first | exact Pick.head | apply Pick.tail))) rfl (by omega)) ?_; rintro v' L' ⟨rfl, rfl⟩; rw [hres]
        refine KO.mv rfl rfl ?_
        refine KO.extrL rfl (by exact rfl) rfl ?_
        refine KO.extrL rfl (by exact rfl) rfl ?_
        refine KO.extrL rfl (by exact rfl) rfl ?_
        refine KO.as rfl rfl ?_
        refine KO.as rfl rfl ?_
        refine KO.as rfl rfl ?_
        refine KO.nil ?_
        repeat (first | (with_reducible refine K.seq ?_) | (with_reducible refine KQ.next ?_))
        refine K.reg ?_
        refine KO.fo0 (off := 0) rfl Tryz.runUnderlying69 rfl rfl Tryz.sizeOf9 rfl ?_
        refine KO.ld rfl rfl Tryz.isAgg9 (by with_reducible (repeat (first | exact Pick.head | apply Pick.tail))) (by exact rfl) rfl ?_
        refine KO.ce (cp := []) rfl rfl rfl Tryz.call38 rfl (resolve_e w _ _ _ b3 0 [v2] 64 v2 l2 nn (by with_reducible (repeat (exact Pick.head))) (by with_reducible (repeat (exact Pick.head))) rfl (by omega) hso2) ?_; rintro v' L' ⟨rfl, rfl⟩; rw [hrr]
        refine KO.mv rfl rfl ?_
        refine KO.extrL rfl (by exact rfl) rfl ?_
        refine KO.extrL rfl (by exact rfl) rfl ?_
        refine KO.extrL rfl (by exact rfl) rfl ?_
        refine KO.as rfl rfl ?_
        refine KO.as rfl rfl ?_
        refine KO.as rfl rfl ?_
        refine KO.nil ?_
        repeat (first | (with_reducible refine K.seq ?_) | (with_reducible refine KQ.next ?_))
        refine K.draw [.pure, .pure, .write, .pure, .pure, .pure, .pure, .pure, .pure, .pure, .pure, .pure, .pure, .pure, .pure, .pure, .read, .keep, .pure, .pure, .read, .write, .pure, .pure, .pure, .read, .keep, .read, .write, .pure, .pure, .pure, .write, .pure, .write, .write, .pure, .pure] [0, 1, 2, 3, 4, 5, 6, 7, 8, 9, 10, 11, 12, 13, 14, 15, 16, 18, 19, 20, 17, 21, 22, 23, 24, 25, 27, 26, 28, 29, 30, 31, 33, 32, 34, 35, 36, 37] (by kernel_rfl) (by kernel_rfl) ?_
        refine KO.mv rfl rfl ?_
        refine KO.mv rfl rfl ?_
        refine KO.ce (cp := []) rfl rfl rfl Tryz.call10 rfl (lbare_e w _ _ _ hgw) ?_; rintro v' L' ⟨rfl, rfl⟩
        refine KO.not rfl rfl ?_
        refine KO.mv rfl rfl ?_
        (refine KO.on rfl rfl ?_ ?_; (focus (simp; done)); (refine KO.mv rfl rfl ?_))
        (refine KO.on rfl rfl ?_ ?_; (focus (simp; done)); (refine KO.mv rfl rfl ?_))
        (refine KO.on rfl rfl ?_ ?_; (focus (simp; done)); (refine KO.neS rfl rfl rfl ?_))
        (refine KO.pickF rfl ?_ rfl rfl ?_; (focus (simp; done)))
        refine KO.mv rfl rfl ?_
        (refine KO.on rfl rfl ?_ ?_; (focus (simp; done)); (refine KO.mv rfl rfl ?_))
        (refine KO.on rfl rfl ?_ ?_; (focus (simp; done)); (refine KO.mv rfl rfl ?_))
        (refine KO.on rfl rfl ?_ ?_; (focus (simp; done)); (refine KO.neI rfl rfl rfl ?_))
        (refine KO.pickF rfl ?_ rfl rfl ?_; (focus (simp; done)))
        refine KO.mv rfl rfl ?_
        (refine KO.on rfl rfl ?_ ?_; (focus (simp; done)); (refine KO.fo0 (off := 0) rfl Tryz.runUnderlying69 rfl rfl Tryz.sizeOf9 rfl ?_))
        (refine KO.on rfl rfl ?_ ?_; (focus (simp; done)); (refine KO.ld rfl rfl Tryz.isAgg9 (by with_reducible (repeat (first | exact Pick.head | apply Pick.tail))) (by exact rfl) rfl ?_))
        (refine KO.on rfl rfl ?_ ?_; (focus (simp; done)); (refine KO.mv rfl rfl ?_))
        (refine KO.on rfl rfl ?_ ?_; (focus (simp; done)); (refine KO.fo0 (off := 0) rfl Tryz.runUnderlying69 rfl rfl Tryz.sizeOf9 rfl ?_))
        (refine KO.on rfl rfl ?_ ?_; (focus (simp; done)); (refine KO.ld rfl rfl Tryz.isAgg9 (by with_reducible (repeat (first | exact Pick.head | apply Pick.tail))) (by exact rfl) rfl ?_))
        refine KO.on rfl rfl (by simp) ?_; refine KO.ce (cp := []) rfl rfl rfl Tryz.call39 rfl (local_e w _ _ _ b3 0 [v2] 64 v2 l2 nn (by with_reducible (repeat (exact Pick.head))) (by with_reducible (repeat (exact Pick.head))) rfl (by omega) hso2) ?_; rintro v' L' ⟨rfl, rfl⟩
        refine KO.on rfl rfl (by simp) ?_; refine KO.ce (cp := []) rfl rfl rfl Tryz.call40 rfl (rlocal_e w _ _ _ b17 0 [v3] 67 v3 rl2 nn (by with_reducible (repeat (first | exact Pick.head | apply Pick.tail))) (by with_reducible (repeat (first | exact Pick.head | apply Pick.tail))) rfl (by omega)) ?_; rintro v' L' ⟨rfl, rfl⟩; rw [hr2.local]
        (refine KO.on rfl rfl ?_ ?_; (focus (simp; done)); (refine KO.neB rfl rfl Tryz.underlying4 rfl ?_))
        (refine KO.pickF rfl ?_ rfl rfl ?_; (focus (simp; done)))
        refine KO.mv rfl rfl ?_
        (refine KO.on rfl rfl ?_ ?_; (focus (simp; done)); (refine KO.ldB0 rfl rfl Tryz.isAgg69 Tryz.sizeOf69 (by with_reducible (repeat (first | exact Pick.head | apply Pick.tail))) (by exact rfl) rfl ?_))
        (refine KO.on rfl rfl ?_ ?_; (focus (simp; done)); (refine KO.ldB0 rfl rfl Tryz.isAgg69 Tryz.sizeOf69 (by with_reducible (repeat (first | exact Pick.head | apply Pick.tail))) (by exact rfl) rfl ?_))
        refine KO.on rfl rfl (by simp) ?_; refine KO.ce (cp := []) rfl rfl rfl Tryz.call41 rfl (nright_e w _ ⟨nn, nt, nh⟩ hsb hsq) ?_; rintro v' L' ⟨rfl, rfl⟩
        refine KO.on rfl rfl (by simp) ?_; refine KO.ce (cp := []) rfl rfl rfl Tryz.call42 rfl (rright_nm w _ ⟨nn, nt, nh⟩ hsb hsq) ?_; rintro v' L' ⟨rfl, rfl⟩
        (refine KO.on rfl rfl ?_ ?_; (focus (simp; done)); (refine KO.neB rfl rfl Tryz.underlying4 rfl ?_))
        (refine KO.pickF rfl ?_ rfl rfl ?_; (focus (simp; done)))
        refine KO.mv rfl rfl ?_
        (refine KO.on rfl rfl ?_ ?_; (focus (simp; done)); (refine KO.mv rfl rfl ?_))
        refine KO.on rfl rfl (by simp) ?_; refine KO.ce (cp := []) rfl rfl rfl Tryz.call44 rfl (nall_e w _ _ _ b3 0 [v2] 64 v2 l2 (by with_reducible (repeat (exact Pick.head))) (by with_reducible (repeat (exact Pick.head))) rfl (by omega)) ?_; rintro va L' rfl
        refine KO.on rfl rfl (by simp) ?_; refine KO.ce (cp := []) rfl rfl rfl Tryz.call45 rfl (rall_e w _ _ _ b17 0 [v3] 67 v3 rl2 (by with_reducible (repeat (first | exact Pick.head | apply Pick.tail))) (by with_reducible (repeat (first | exact Pick.head | apply Pick.tail))) rfl (by omega)) ?_; rintro vb L' ⟨ys, hp1, hp2, rfl⟩; obtain rfl := hr2.all hp1 hp2
        refine KO.on rfl rfl (by simp) ?_; refine KO.ce (cp := []) rfl rfl rfl Tryz.call43 rfl (sameN_e w _ va vb ys ys (rdN_of (by with_reducible (repeat (first | exact Pick.head | apply Pick.tail)))) (rdN_of .head) (by omega) (by omega)) ?_; rintro v' L' ⟨rfl, rfl⟩; rw [show decide (ys = ys) = true from decide_eq_true rfl]
        (refine KO.on rfl rfl ?_ ?_; (focus (simp; done)); (refine KO.not rfl rfl ?_))
        (refine KO.pickF rfl ?_ rfl rfl ?_; (focus (simp; done)))
        refine KO.nil ?_
        repeat ((with_reducible refine KQ.next ?_))
        refine K.condF rfl (by simp) ?_
        repeat (first | (with_reducible refine KQ.blk_normal ?_) | (with_reducible refine K.skip ?_))
        exact KQ.mid (_, rl2, v2, v3) ⟨hr2, hl2⟩ ⟨rfl, rfl, rfl, rfl, trivial⟩ (fun _ h => h.all (by with_reducible repeat (first | exact PAll.nil | refine PAll.cons (by with_reducible repeat (first | exact Pick.head | apply Pick.tail)) ?_)))
    · rintro ⟨l2, rl2, v2, v3⟩ ⟨hr2, hl2⟩
      dsimp only at hr2 hl2 ⊢
      refine K.reg ?_
      refine KO.mv rfl rfl ?_
      refine KO.add rfl rfl rfl (by omega) rfl ?_
      refine KO.as rfl rfl ?_
      refine KO.nil ?_
      exact KQ.round (i + 1, l2, rl2, v2, v3) ⟨by dsimp only; omega, by dsimp only; exact ⟨hr2, hl2⟩⟩ (by dsimp only; omega) ⟨rfl, rfl, rfl, rfl, trivial⟩ (fun _ h => h)
  · repeat (first | (with_reducible refine K.seq ?_) | (with_reducible refine KQ.next ?_) | (with_reducible refine KQ.then_exit ?_) | (with_reducible refine KQ.blk_exit ?_) | (with_reducible refine K.exit ?_))
    refine K.reg ?_
    refine KO.as rfl rfl ?_
    refine KO.nil ?_
    repeat (first | (with_reducible refine KQ.next ?_) | (with_reducible refine K.ret ?_))
    refine KQ.ret1 rfl rfl (fun w' hs => fin w' _ hs)
end Go.Proofs.YtjhogocabcdjbaaGreatDoor
/- rows that say 'leaving', of calls in which one goroutine runs from the first step to the last -/
namespace WB
open Go
theorem leaving_of_handed {a : Assume} {C : Checked} {os : Os} {f : FuncId} {r : Reach} {Pre : World → Array Value → Prop} {Post : World → Array Value → Value → World → Prop}
    (h : ReturnsInHanded a C os f r Pre Post) : ReturnsInLeavingWide a C os f r Pre Post := fun enter => by
  obtain ⟨h1, h2, h3, h4, h5⟩ := h enter
  refine ⟨h1, h2, h3, h4, fun w tape i hf => ?_⟩
  obtain ⟨n, v, w', k1, k2, k3, k4, ⟨j, last, k5, k6, k7⟩, k8⟩ := h5 w tape i hf
  exact ⟨n, v, w', k1, k2, k3, k4, ⟨j, last, k5, k6, k7.2.1, onlyLeaving_of_quiet k7.1, k7.2.2⟩, k8⟩
theorem holds_tied_goes (Lk : Looks) {p : Pinned} {s : OpenSpec} {c : OpenClaim} (kinds : List LaidKind) (tests : Bool) (har : Bool × String) (lk : Bool)
    (hc : c.holds p s) (hw : c.wfByText s = true) (htie : c.laidByTextAt Lk p kinds tests)
    (hst : c.start = .entering) (hnb : c.noBlocks = false ∧ c.again = false) (hm : p.checked.prog.mainIs = some (har.1, har.2.toList)) (hn : (!har.1 && har.2.isEmpty && !lk) = false)
    (hl : ∀ f fn, p.checked.prog.funcNamed c.func = some f → p.checked.prog.funcs[f]? = some fn → lk = p.checked.prog.looks [] ∧ ∀ (j : Nat) t, fn.params[j]? = some t → p.checked.prog.wantsStandIn t = false)
    (hg : true = c.goesBy p.checked.prog) :
    Claim7.holds p (.plain s) { stood := { row := c, standIns := [], harness := har, looks := lk }, kinds := [], alts := [], goes := true, laidByText := true, laidKinds := kinds, laidTests := tests, laidLooks := Lk } := by
  have h6 : Claim7.isSixth { stood := { row := c, standIns := [], harness := har, looks := lk }, kinds := [] } = false := by simpa [Claim7.isSixth] using hn
  exact ⟨Claim7.tied_new_at Lk kinds tests (Claim7.new_of_sixth hc har lk hst hnb hm h6 hl) hw, (fun D hD => by cases hD), htie, (fun h => by cases h), hg⟩
/-- the row's closed facts, reckoned apart -/
theorem joined_of {P : Program} {f : FuncId} {fn : Func} {s : ChangeSpec} {c : OpenClaim}
    (a1 : (c.wf (OpenSpec.ofChange s) && laidOutB P && mapsRowed P) = true)
    (a2 : (fn.params.all (P.readableRec ·) && namedTie P c.named s.vars && (c.stops == []) && (P.stops == []) && (c.knobs == []) && (P.stopKnobs == [])) = true)
    (a3 : (c.inPlace == P.inPlace f) = true) (a4 : (c.unfollowed == P.unfollowed f) = true) (a5 : (c.recurses == P.recurses f) = true) (a6 : (c.named == P.varsNamed f) = true)
    (a7 : ((c.maps == (fn.params.toList ++ s.plain.varTypes P).any (P.mapsRec ·)) && (c.ifaces == (fn.params.toList ++ s.plain.varTypes P).any (P.ifacesRec ·)) && (c.mapsOut == P.mapsAmong fn.resultTypes.toList) &&
      (c.loops == (fn.params.toList ++ s.plain.varTypes P).any (P.loopsFrom ·)) && (c.wideKeys == (fn.params.toList ++ s.plain.varTypes P ++ fn.resultTypes.toList).any (P.wideKeysFrom ·)) &&
      s.vars.all (P.varReadable ·) && fn.resultTypes.all (fun t => P.readableRec t && decide (t < P.types.size)) && (c.ifacesOut == fn.resultTypes.toList.any (P.ifacesRec ·)) && (c.loopsOut == fn.resultTypes.toList.any (P.loopsFrom ·)) && (c.plainKeys == P.plainKeys) && c.shortTexts.isNone) = true)
    (a8 : (P.stopsHeard && P.mayEnter && (c.lifted == P.liftsFinal) && (P.make == some c.make)) = true)
    (a9 : ((c.kinds == (if c.domain.isEmpty then [] else fn.params.toList.map fun t => match P.underlying t with | some (.int k) => some k | _ => none)) && (c.pinned == c.pinnedBy) &&
      (c.veiled == (fn.params.toList ++ s.plain.varTypes P ++ fn.resultTypes.toList).any (P.veiledRec ·)) && c.veiledFits P fn.params.toList (fn.params.toList ++ s.plain.varTypes P ++ fn.resultTypes.toList)) = true) :
    joinedFacts P f fn s c = true := by
  unfold joinedFacts
  simp only [Bool.and_eq_true] at a1 a2 a7 a8 a9 ⊢
  grind
end WB
/- waybilllaw.NamesPlay: for every list of calls the law returns true, on every schedule, and the list reads as it did. No condition. -/
namespace Go.Proofs.YtjhogocabcdjbaaGreatDoor.nplays
open Go Go.RowKit Go.ChangeShapes Go.WideShapes Go.ChangeAt Go.Deep WB
theorem own : ownKnob Tryz.prog.godebug = none := by kernel_rfl
theorem laidOut : laidOutB Tryz.prog = true := by kernel_rfl
theorem et : Tryz.prog.globalNamed "errors.errorType" = some 4 := by kernel_rfl
theorem rt : (Tryz.prog.cutTypes.find? (·.1 == "internal/reflectlite.rtype")).map (·.2) = some 300 := by kernel_rfl
theorem oneRow : ((List.range 482).filter fun t => Tryz.prog.rowNamed t [101, 114, 114, 111, 114]) = [37] := by kernel_rfl
theorem tsize : Tryz.prog.types.size = 482 := by kernel_rfl
theorem handle_of {W : World} (h : handlesMet Tryz.prog [("errors.errorType", Rows.laid_errors_errorType)] W) : ErrType W := by
  obtain ⟨name, u, ty, e1, e2, e3, e4, e5⟩ := h _ (List.mem_singleton.2 rfl)
  have en : name = [101, 114, 114, 111, 114] := (Option.some.inj e1).symm
  subst en
  obtain rfl := Option.some.inj (rt.symm.trans e2)
  have hm : ty ∈ (List.range 482).filter fun t => Tryz.prog.rowNamed t [101, 114, 114, 111, 114] := List.mem_filter.2 ⟨List.mem_range.2 (by rw [← tsize]; exact e3), e4⟩
  rw [oneRow] at hm
  obtain rfl := List.mem_singleton.1 hm
  have hh : typeHandle Tryz.prog 37 = .pointer (some ⟨10, 37, none⟩) := by kernel_rfl
  rw [hh] at e5
  have h1 := World.var?_cell et e5 0
  unfold ErrType
  simpa using h1
theorem handle_of_laid {W : World} (h : laidMetH Tryz.prog Rows.namesPlayRow.laid W) : ErrType W := handle_of h.2
/-- a world in which the listed variables lie -/
noncomputable def hold (os : Os) : World :=
  let w0 := World.holding Tryz.prog os ⟨#[], #[], []⟩
  { w0 with heap := w0.heap.modify 4 fun
      | .cells _ t frozen => .cells #[.iface 300 (.agg #[.pointer (some ⟨10, 37, none⟩)])] t frozen
      | o => o }
def data : List (String × DataW Unit) := [("unicode/utf8.acceptRanges", Rows.laid_unicode_utf8_acceptRanges), ("unicode/utf8.first", Rows.laid_unicode_utf8_first)]
noncomputable def laidWorld (os : Os) : World := (hold os).layVars Tryz.prog data
theorem laidWorld_os (os : Os) : (laidWorld os).os = os := World.layVars_os _ _ _
set_option maxRecDepth 100000 in
theorem data_met (os : Os) (args : Array Value) : laidMet Tryz.prog data ((laidWorld os).forCall (fun _ _ => 0) ⟨#[], args, []⟩).memory := by
  have h : laidMet Tryz.prog data (laidWorld os) := laidMet_layVars (w0 := hold os) (data.map (·.1)) [] rfl (by kernel_rfl) (by kernel_rfl) LaidIn.none
  exact h.of_heap (by simp [World.memory, World.forCall, Input.heap])
set_option maxRecDepth 100000 in
theorem laid_met (os : Os) (args : Array Value) : laidMetH Tryz.prog Rows.namesPlayRow.laid ((laidWorld os).forCall (fun _ _ => 0) ⟨#[], args, []⟩).memory :=
  laidMetH_of_parts (data_met os args) (by kernel_rfl)
set_option maxRecDepth 100000 in
theorem laid_of {W : World} (h : laidMetH Tryz.prog Rows.namesPlayRow.laid W) : laidMet Tryz.prog data W := by
  have h1 := h.1
  rwa [show ((Rows.namesPlayRow.laid).filter fun x => x.2.handleName?.isNone) = data from by kernel_rfl] at h1
set_option maxRecDepth 100000 in
theorem rd_call {H : Type} {enc : TypeId × Value → H} {W : World} {n : Nat} {cs : List Value} {y : DataW H × List MemPlace} (h : DataW.trod enc Tryz.prog W 0 (fun _ => true) true n 71 cs = some y) : ∃ x : Cl, (x.n.name.size ≤ maxLen ∧ x.n.tgt.size ≤ maxLen) ∧ cs = clC x := by
  have hci : Tryz.prog.cellsOf 3 = 1 := by kernel_rfl
  have hcs : Tryz.prog.cellsOf 9 = 1 := by kernel_rfl
  have hcm : Tryz.prog.cellsOf 69 = 3 := by kernel_rfl
  have hlen := trod_len Tryz.underlying71 h (show Tryz.prog.cellsOf 71 = 4 by kernel_rfl)
  obtain ⟨s0, e0, _⟩ := trod_i Tryz.underlying71 h 0 0 3 rfl hci Tryz.underlying3
  obtain ⟨m, y', hm⟩ := trod_field Tryz.underlying71 h 1 1 69 3 rfl hcm
  match cs, hlen, e0, hm with
  | [c0, c1, c2, c3], _, e0, hm =>
    simp only [List.drop_succ_cons, List.drop_zero, List.take_succ_cons, List.take_zero] at hm
    obtain ⟨s1, e1, w1⟩ := trod_str Tryz.underlying69 hm 0 0 9 rfl hcs Tryz.underlying9
    obtain ⟨s2, e2, w2⟩ := trod_str Tryz.underlying69 hm 1 1 9 rfl hcs Tryz.underlying9
    obtain ⟨s3, e3, _⟩ := trod_i Tryz.underlying69 hm 2 2 3 rfl hci Tryz.underlying3
    simp only [List.getElem?_cons_zero, List.getElem?_cons_succ, Option.some.injEq] at e0 e1 e2 e3
    exact ⟨⟨s0, ⟨s1, s2, s3⟩⟩, ⟨w1, w2⟩, by rw [e0, e1, e2, e3]; rfl⟩
theorem rdA_ext {W W' : World} {v : Value} {xs : List Cl} (h : RdA W 4 clC v xs) (e : Ext W W') : RdA W' 4 clC v xs := by
  obtain ⟨a, cap, rfl, hc⟩ := h
  exact ⟨a, cap, rfl, fun i x hx => by obtain ⟨ad, rfl, hh⟩ := hc i x hx; exact ⟨ad, rfl, hh.ext e⟩⟩
set_option maxRecDepth 100000 in
theorem contract (H : Type) (enc : TypeId × Value → H) (W : World) (base : Nat) (args : Array Value) (ds gs : List (DataW H)) (before : List MemPlace)
    (hval : ∀ (j : Nat) t v, Tryz.f6.params[j]? = some t → args[j]? = some v → Value.okWide Tryz.prog W .any base t v)
    (hW : DataW.Whole enc Tryz.prog Tryz.f6.params.toList Rows.namesPlaySpec.vars false W args.toList ds gs before) (hL : laidMetH Tryz.prog Rows.namesPlayRow.laid W) :
    Calls Tryz.prog 6 args W fun e W' => ∃ v, e = .returned v ∧ Rows.namesPlaySpec.post enc Tryz.prog Tryz.f6 false true false false W args v W' := by
  have hW' := hW
  obtain ⟨p, q, hA0, hV, rfl, hfz, hnd⟩ := hW
  have hA : DataW.TrodAll enc Tryz.prog W 0 (fun _ => true) true Tryz.f6.params.toList args.toList ds p := hA0
  have hA2 := hA
  rw [Tryz.params6] at hA hval
  obtain ⟨v0, d0, rfl, rfl, h0⟩ := trodAll_one hA
  obtain ⟨rfl, rfl⟩ := trodVars_none hV
  have hET := handle_of_laid hL
  obtain ⟨xs, hx, hsz⟩ := open_sl (φ := fun x : Cl => x.n.name.size ≤ maxLen ∧ x.n.tgt.size ≤ maxLen) (cf := clC) Tryz.underlying61 (hval 0 61 v0 rfl rfl) h0 (show Tryz.prog.cellsOf 71 = 4 by kernel_rfl) (fun n cs y h => rd_call h)
  have hlt : ∀ x ∈ p, x.block < W.heap.size := fun x hx => by
    have := hW'.lt x (List.mem_append_left _ hx)
    simpa using this
  have hwalk : Calls Tryz.prog 6 #[v0] W fun e W' => e = .returned (.bool true) ∧ Below W.heap.size W W' := by
    refine (nplay_e W [] v0 xs (fun w hw => rdA_ext hx (Ext.of_below hw.below)) hsz hET W (St.init W)).mono ?_
    rintro e W' ⟨v, L', rfl, ⟨rfl, _⟩, _, hb⟩
    exact ⟨rfl, hb⟩
  refine hwalk.mono fun e W' ⟨he, hb⟩ => ?_
  subst he
  simp only [List.append_nil] at hW'
  exact ⟨_, rfl, _, _, _, [], p, [], hW', trodAll_mk1 (shut_bool Tryz.underlying4 _), law_args laidOut hb (by kernel_rfl) hA2 hlt, rfl, hb.frame _, fun h => by cases h⟩
set_option maxRecDepth 100000 in
theorem reads (os : Os) {H : Type} (enc : TypeId × Value → H) : ∃ places, DataW.whole enc Tryz.prog ((laidWorld os).forCall (fun _ _ => 0) ⟨#[], #[.slice none 0 0], []⟩).memory Tryz.f6.params.toList Rows.namesPlaySpec.vars false (#[.slice none 0 0] : Array Value).toList 8 = some ([.nil], [], places) :=
  ⟨[], by kernel_rfl⟩
set_option maxRecDepth 100000 in
theorem lifted (os : Os) (started : os.Started) (H : Type) (enc : TypeId × Value → H) (F : Stop.Interp) :
    ReturnsInHanded {} Tryz.checked os 6 .any ((OpenSpec.ofChange Rows.namesPlaySpec).preRow enc Tryz.prog Tryz.f6 Rows.namesPlayRow.domain false Rows.namesPlayRow.laid) (((OpenSpec.ofChange Rows.namesPlaySpec).at F).post enc Tryz.prog Tryz.f6 false true false false) := by
  obtain ⟨places, hx⟩ := reads os enc
  refine returnsInHanded_of_row (C := Tryz.checked) (s := OpenSpec.ofChange Rows.namesPlaySpec) own started (by kernel_rfl) Tryz.func6
    (witness_row_sh (enc := enc) (C := Tryz.checked) false (laidWorld os) #[.slice none 0 0] (laidWorld_os os) (World.shaped_of_ZipB (by kernel_rfl) (by kernel_rfl)) (by kernel_rfl)
      (OpenSpec.preRow_of_cond 8 hx (by kernel_rfl) (fun k hk => by cases hk) (by kernel_rfl) (laid_met os _))) ?_
  intro W base args ds gs before hval hW _ _ _ hL _ _
  exact contract H enc W base args ds gs before hval hW hL
theorem j1 : (Rows.namesPlayRow.wf (OpenSpec.ofChange Rows.namesPlaySpec) && laidOutB Tryz.prog && mapsRowed Tryz.prog) = true := by kernel_rfl
theorem j2 : (Tryz.f6.params.all (Tryz.prog.readableRec ·) && namedTie Tryz.prog Rows.namesPlayRow.named Rows.namesPlaySpec.vars && (Rows.namesPlayRow.stops == []) && (Tryz.prog.stops == []) && (Rows.namesPlayRow.knobs == []) && (Tryz.prog.stopKnobs == [])) = true := by kernel_rfl
theorem j3 : (Rows.namesPlayRow.inPlace == Tryz.prog.inPlace 6) = true := by kernel_rfl
theorem j4 : (Rows.namesPlayRow.unfollowed == Tryz.prog.unfollowed 6) = true := by kernel_rfl
theorem j5 : (Rows.namesPlayRow.recurses == Tryz.prog.recurses 6) = true := by kernel_rfl
theorem j6 : (Rows.namesPlayRow.named == Tryz.prog.varsNamed 6) = true := by kernel_rfl
theorem j8 : (Tryz.prog.stopsHeard && Tryz.prog.mayEnter && (Rows.namesPlayRow.lifted == Tryz.prog.liftsFinal) && (Tryz.prog.make == some Rows.namesPlayRow.make)) = true := by kernel_rfl
theorem closed : joinedFacts Tryz.prog 6 Tryz.f6 Rows.namesPlaySpec Rows.namesPlayRow = true := joined_of j1 j2 j3 j4 j5 j6 (by as_aux_lemma => kernel_rfl) j8 (by as_aux_lemma => kernel_rfl)
theorem said : Rows.NamesPlaySaid :=
  OpenClaim.holds_of_wide_leaving 6 Tryz.f6 rfl rfl rfl rfl rfl rfl rfl ⟨rfl, rfl, rfl, rfl, rfl⟩ rfl rfl rfl rfl rfl (by kernel_rfl) Tryz.func6 closed
    (of_decide_eq_true (by kernel_rfl)) (by unfold Func.isWrapper; first | (rw [if_pos (by decide +kernel)]; kernel_rfl) | (rw [if_neg (by decide +kernel)]; exact ⟨rfl, rfl⟩))
    (fun os started H enc _ => by rw [OpenClaim.pre_eq_preRow]; exact leaving_of_handed (lifted os started H enc (fun _ _ _ => 0)))
set_option maxRecDepth 100000 in
theorem plain (f : FuncId) (fn : Func) (hf : Tryz.pinned.checked.prog.funcNamed "waybill/waybilllaw.NamesPlay" = some f) (hfn : Tryz.pinned.checked.prog.funcs[f]? = some fn) :
    true = Tryz.pinned.checked.prog.looks [] ∧ ∀ (j : Nat) t, fn.params[j]? = some t → Tryz.pinned.checked.prog.wantsStandIn t = false := by
  obtain rfl : f = 6 := Option.some.inj ((show Tryz.prog.funcNamed "waybill/waybilllaw.NamesPlay" = some 6 by kernel_rfl).symm.trans hf) |>.symm
  obtain rfl : fn = Tryz.f6 := (Option.some.inj (Tryz.func6.symm.trans hfn)).symm
  refine ⟨by kernel_rfl, fun j t ht => ?_⟩
  rw [Tryz.params6] at ht
  have hm : t ∈ [61] := by simpa using Array.mem_of_getElem? ht
  have hall : ([61].all fun u => !Tryz.prog.wantsStandIn u) = true := by kernel_rfl
  exact (show Tryz.prog.wantsStandIn t = false by simpa using List.all_eq_true.1 hall t hm)
set_option maxRecDepth 100000 in
/-- the card -/
theorem card : Rows.NamesPlayCardSaid :=
  holds_tied_goes .later _ _ _ _ said (by kernel_rfl) namesPlay_row_tie rfl ⟨rfl, rfl⟩ (by kernel_rfl) rfl plain (by kernel_rfl)
end Go.Proofs.YtjhogocabcdjbaaGreatDoor.nplays
