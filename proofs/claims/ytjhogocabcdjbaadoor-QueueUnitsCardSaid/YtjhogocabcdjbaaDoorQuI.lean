/- queue: what is asked of it; Get, Take. -/
import Derived.Test.YtjhogocabcdjbaaDoorQuH
set_option linter.unusedSimpArgs false
set_option linter.unusedVariables false
namespace Go.Proofs.YtjhogocabcdjbaaDoor
open Go Go.RowKit WB
theorem many_e (w0 : World) (L R : List HP) (b : Nat) (q : Qu) (hp : Pick L (quP b q) R) :
    KE Tryd.prog 16 #[.pointer (some ⟨b, 0, none⟩)] w0 L (fun v L' => v = .int .i64 (q.l.length : Nat) ∧ L' = L) := by
  refine KE.mk (n := 8) Tryd.func16 rfl Tryd.ntmps16 (by simp) ?_
  intro w hw0
  obtain ⟨v, hw⟩ := quP_open (hw0.pick hp)
  obtain ⟨sa, cap, rfl, hsa⟩ := SL_form hw.drop
  repeat (first | (with_reducible refine K.seq ?_) | (with_reducible refine KQ.next ?_) | (with_reducible refine KQ.then_ret ?_) | (with_reducible refine KQ.blk_ret ?_) | (with_reducible refine KQ.then_exit ?_) | (with_reducible refine KQ.blk_exit ?_) | (refine KQ.blk_pass rfl ?_) | (with_reducible refine KQ.blk_normal ?_) | (with_reducible refine K.ret ?_) | (with_reducible refine K.skip ?_) | (with_reducible refine K.exit ?_) | (with_reducible refine K.block ?_))
  refine K.reg ?_
  refine KO.as rfl rfl ?_
  refine KO.nil ?_
  repeat (first | (with_reducible refine K.seq ?_) | (with_reducible refine KQ.next ?_) | (with_reducible refine KQ.then_ret ?_) | (with_reducible refine KQ.blk_ret ?_) | (with_reducible refine KQ.then_exit ?_) | (with_reducible refine KQ.blk_exit ?_) | (refine KQ.blk_pass rfl ?_) | (with_reducible refine KQ.blk_normal ?_) | (with_reducible refine K.ret ?_) | (with_reducible refine K.skip ?_) | (with_reducible refine K.exit ?_) | (with_reducible refine K.block ?_))
  refine K.reg ?_
  refine KO.mv rfl rfl ?_
  first | refine KO.nc rfl rfl ?_ | refine KO.ncF rfl rfl ?_
  first | refine KO.fo0 (off := 0) rfl Tryd.runUnderlying44 rfl rfl Tryd.sizeOf42 rfl ?_ | refine KO.fo (off := 0) rfl Tryd.runUnderlying44 rfl rfl Tryd.sizeOf42 rfl ?_ | refine KO.fldH (off := 0) rfl Tryd.runUnderlying44 rfl rfl Tryd.sizeOf42 rfl ?_
  first | refine KO.ld rfl rfl Tryd.isAgg42 (by with_reducible first | assumption | (repeat (first | exact Pick.head | apply Pick.tail))) (by exact rfl) rfl ?_ | refine KO.ldE rfl rfl Tryd.isAgg42 (by with_reducible first | assumption | (repeat (first | exact Pick.head | apply Pick.tail))) (fun _ => rfl) (by assumption) (by exact rfl) (by exact rfl) rfl ?_ | refine KO.ldE0 rfl rfl Tryd.isAgg42 (by with_reducible first | assumption | (repeat (first | exact Pick.head | apply Pick.tail))) (fun _ => rfl) (by assumption) (by exact rfl) (by exact rfl) rfl ?_ | refine KO.ldb hw rfl rfl Tryd.isAgg42 (by with_reducible first | assumption | (repeat (first | exact Pick.head | apply Pick.tail))) (by exact rfl) rfl ?_ | refine KO.ldEb hw rfl rfl Tryd.isAgg42 (by with_reducible first | assumption | (repeat (first | exact Pick.head | apply Pick.tail))) (fun _ => rfl) (by assumption) (by exact rfl) (by exact rfl) rfl ?_ | refine KO.ldE0b hw rfl rfl Tryd.isAgg42 (by with_reducible first | assumption | (repeat (first | exact Pick.head | apply Pick.tail))) (fun _ => rfl) (by assumption) (by exact rfl) (by exact rfl) rfl ?_ | refine KO.ld0 rfl rfl Tryd.isAgg42 (by assumption) rfl ?_
  refine KO.len rfl Tryd.underlying42 rfl ?_
  refine KO.as rfl rfl ?_
  refine KO.nil ?_
  repeat (first | (with_reducible refine K.seq ?_) | (with_reducible refine KQ.next ?_) | (with_reducible refine KQ.then_ret ?_) | (with_reducible refine KQ.blk_ret ?_) | (with_reducible refine KQ.then_exit ?_) | (with_reducible refine KQ.blk_exit ?_) | (refine KQ.blk_pass rfl ?_) | (with_reducible refine KQ.blk_normal ?_) | (with_reducible refine K.ret ?_) | (with_reducible refine K.skip ?_) | (with_reducible refine K.exit ?_) | (with_reducible refine K.block ?_))
  refine KQ.ret1 rfl rfl (fun w' hs => ⟨_, _, rfl, ⟨rfl, rfl⟩, hw0.below_step hs.below, hs.below⟩)
theorem has1_e (w0 : World) (L R : List HP) (e : It) (b : Nat) (id : Int) (E : TypeId) (hp : Pick L (blk b (.cells [Value.int .i64 id].toArray E (0, 0))) R) :
    KE Tryd.prog 78 #[.agg (itC e).toArray, .pointer (some ⟨b, 0, none⟩)] w0 L (fun v L' => v = .bool (idB id e) ∧ L' = L) := by
  refine KE.mk (n := 9) Tryd.func78 rfl Tryd.ntmps78 (by simp) ?_
  intro w hw
  have hw := hw.pick hp
  repeat (first | (with_reducible refine K.seq ?_) | (with_reducible refine KQ.next ?_) | (with_reducible refine KQ.then_ret ?_) | (with_reducible refine KQ.blk_ret ?_) | (with_reducible refine KQ.then_exit ?_) | (with_reducible refine KQ.blk_exit ?_) | (refine KQ.blk_pass rfl ?_) | (with_reducible refine KQ.blk_normal ?_) | (with_reducible refine K.ret ?_) | (with_reducible refine K.skip ?_) | (with_reducible refine K.exit ?_) | (with_reducible refine K.block ?_))
  refine K.reg ?_
  refine KO.box rfl rfl (by exact rfl) rfl ?_; intro b2
  refine KO.as rfl rfl ?_
  refine KO.nil ?_
  repeat (first | (with_reducible refine K.seq ?_) | (with_reducible refine KQ.next ?_) | (with_reducible refine KQ.then_ret ?_) | (with_reducible refine KQ.blk_ret ?_) | (with_reducible refine KQ.then_exit ?_) | (with_reducible refine KQ.blk_exit ?_) | (refine KQ.blk_pass rfl ?_) | (with_reducible refine KQ.blk_normal ?_) | (with_reducible refine K.ret ?_) | (with_reducible refine K.skip ?_) | (with_reducible refine K.exit ?_) | (with_reducible refine K.block ?_))
  refine K.reg ?_
  first | refine KO.fo0 (off := 0) rfl Tryd.runUnderlying99 rfl rfl Tryd.sizeOf50 rfl ?_ | refine KO.fo (off := 0) rfl Tryd.runUnderlying99 rfl rfl Tryd.sizeOf50 rfl ?_ | refine KO.fldH (off := 0) rfl Tryd.runUnderlying99 rfl rfl Tryd.sizeOf50 rfl ?_
  first | refine KO.fo0 (off := 0) rfl Tryd.runUnderlying50 rfl rfl Tryd.sizeOf3 rfl ?_ | refine KO.fo (off := 0) rfl Tryd.runUnderlying50 rfl rfl Tryd.sizeOf3 rfl ?_ | refine KO.fldH (off := 0) rfl Tryd.runUnderlying50 rfl rfl Tryd.sizeOf3 rfl ?_
  first | refine KO.ld rfl rfl Tryd.isAgg3 (by with_reducible first | assumption | (repeat (first | exact Pick.head | apply Pick.tail))) (by exact rfl) rfl ?_ | refine KO.ldE rfl rfl Tryd.isAgg3 (by with_reducible first | assumption | (repeat (first | exact Pick.head | apply Pick.tail))) (fun _ => rfl) (by assumption) (by exact rfl) (by exact rfl) rfl ?_ | refine KO.ldE0 rfl rfl Tryd.isAgg3 (by with_reducible first | assumption | (repeat (first | exact Pick.head | apply Pick.tail))) (fun _ => rfl) (by assumption) (by exact rfl) (by exact rfl) rfl ?_ | refine KO.ldb hw rfl rfl Tryd.isAgg3 (by with_reducible first | assumption | (repeat (first | exact Pick.head | apply Pick.tail))) (by exact rfl) rfl ?_ | refine KO.ldEb hw rfl rfl Tryd.isAgg3 (by with_reducible first | assumption | (repeat (first | exact Pick.head | apply Pick.tail))) (fun _ => rfl) (by assumption) (by exact rfl) (by exact rfl) rfl ?_ | refine KO.ldE0b hw rfl rfl Tryd.isAgg3 (by with_reducible first | assumption | (repeat (first | exact Pick.head | apply Pick.tail))) (fun _ => rfl) (by assumption) (by exact rfl) (by exact rfl) rfl ?_ | refine KO.ld0 rfl rfl Tryd.isAgg3 (by assumption) rfl ?_
  first | refine KO.ld rfl rfl Tryd.isAgg3 (by with_reducible first | assumption | (repeat (first | exact Pick.head | apply Pick.tail))) (by exact rfl) rfl ?_ | refine KO.ldE rfl rfl Tryd.isAgg3 (by with_reducible first | assumption | (repeat (first | exact Pick.head | apply Pick.tail))) (fun _ => rfl) (by assumption) (by exact rfl) (by exact rfl) rfl ?_ | refine KO.ldE0 rfl rfl Tryd.isAgg3 (by with_reducible first | assumption | (repeat (first | exact Pick.head | apply Pick.tail))) (fun _ => rfl) (by assumption) (by exact rfl) (by exact rfl) rfl ?_ | refine KO.ldb hw rfl rfl Tryd.isAgg3 (by with_reducible first | assumption | (repeat (first | exact Pick.head | apply Pick.tail))) (by exact rfl) rfl ?_ | refine KO.ldEb hw rfl rfl Tryd.isAgg3 (by with_reducible first | assumption | (repeat (first | exact Pick.head | apply Pick.tail))) (fun _ => rfl) (by assumption) (by exact rfl) (by exact rfl) rfl ?_ | refine KO.ldE0b hw rfl rfl Tryd.isAgg3 (by with_reducible first | assumption | (repeat (first | exact Pick.head | apply Pick.tail))) (fun _ => rfl) (by assumption) (by exact rfl) (by exact rfl) rfl ?_ | refine KO.ld0 rfl rfl Tryd.isAgg3 (by assumption) rfl ?_
  refine KO.eqI rfl rfl rfl ?_
  refine KO.as rfl rfl ?_
  refine KO.nil ?_
  repeat (first | (with_reducible refine K.seq ?_) | (with_reducible refine KQ.next ?_) | (with_reducible refine KQ.then_ret ?_) | (with_reducible refine KQ.blk_ret ?_) | (with_reducible refine KQ.then_exit ?_) | (with_reducible refine KQ.blk_exit ?_) | (refine KQ.blk_pass rfl ?_) | (with_reducible refine KQ.blk_normal ?_) | (with_reducible refine K.ret ?_) | (with_reducible refine K.skip ?_) | (with_reducible refine K.exit ?_) | (with_reducible refine K.block ?_))
  refine KQ.ret1 rfl rfl (fun w' hs => ⟨_, _, rfl, ⟨rfl, rfl⟩, (hw.unpick hp).below_step hs.below, hs.below⟩)
theorem has_e (w0 : World) (L R : List HP) (b : Nat) (q : Qu) (id : Int) (hp : Pick L (quP b q) R) (hq : q.l.length < 900000) :
    KE Tryd.prog 48 #[.pointer (some ⟨b, 0, none⟩), .int .i64 id] w0 L (fun v L' => v = .bool (qhas q id) ∧ L' = L) := by
  refine KE.mk (n := 11) Tryd.func48 rfl Tryd.ntmps48 (by simp) ?_
  intro w hw0
  obtain ⟨v, hw⟩ := quP_open (hw0.pick hp)
  repeat (first | (with_reducible refine K.seq ?_) | (with_reducible refine KQ.next ?_) | (with_reducible refine KQ.then_ret ?_) | (with_reducible refine KQ.blk_ret ?_) | (with_reducible refine KQ.then_exit ?_) | (with_reducible refine KQ.blk_exit ?_) | (refine KQ.blk_pass rfl ?_) | (with_reducible refine KQ.blk_normal ?_) | (with_reducible refine K.ret ?_) | (with_reducible refine K.skip ?_) | (with_reducible refine K.exit ?_) | (with_reducible refine K.block ?_))
  refine K.reg ?_
  refine KO.box rfl rfl (by exact rfl) rfl ?_; intro b3
  refine KO.as rfl rfl ?_
  refine KO.nil ?_
  repeat (first | (with_reducible refine K.seq ?_) | (with_reducible refine KQ.next ?_) | (with_reducible refine KQ.then_ret ?_) | (with_reducible refine KQ.blk_ret ?_) | (with_reducible refine KQ.then_exit ?_) | (with_reducible refine KQ.blk_exit ?_) | (refine KQ.blk_pass rfl ?_) | (with_reducible refine KQ.blk_normal ?_) | (with_reducible refine K.ret ?_) | (with_reducible refine K.skip ?_) | (with_reducible refine K.exit ?_) | (with_reducible refine K.block ?_))
  refine K.reg ?_
  refine KO.mv rfl rfl ?_
  first | refine KO.nc rfl rfl ?_ | refine KO.ncF rfl rfl ?_
  first | refine KO.fo0 (off := 0) rfl Tryd.runUnderlying44 rfl rfl Tryd.sizeOf42 rfl ?_ | refine KO.fo (off := 0) rfl Tryd.runUnderlying44 rfl rfl Tryd.sizeOf42 rfl ?_ | refine KO.fldH (off := 0) rfl Tryd.runUnderlying44 rfl rfl Tryd.sizeOf42 rfl ?_
  first | refine KO.ld rfl rfl Tryd.isAgg42 (by with_reducible first | assumption | (repeat (first | exact Pick.head | apply Pick.tail))) (by exact rfl) rfl ?_ | refine KO.ldE rfl rfl Tryd.isAgg42 (by with_reducible first | assumption | (repeat (first | exact Pick.head | apply Pick.tail))) (fun _ => rfl) (by assumption) (by exact rfl) (by exact rfl) rfl ?_ | refine KO.ldE0 rfl rfl Tryd.isAgg42 (by with_reducible first | assumption | (repeat (first | exact Pick.head | apply Pick.tail))) (fun _ => rfl) (by assumption) (by exact rfl) (by exact rfl) rfl ?_ | refine KO.ldb hw rfl rfl Tryd.isAgg42 (by with_reducible first | assumption | (repeat (first | exact Pick.head | apply Pick.tail))) (by exact rfl) rfl ?_ | refine KO.ldEb hw rfl rfl Tryd.isAgg42 (by with_reducible first | assumption | (repeat (first | exact Pick.head | apply Pick.tail))) (fun _ => rfl) (by assumption) (by exact rfl) (by exact rfl) rfl ?_ | refine KO.ldE0b hw rfl rfl Tryd.isAgg42 (by with_reducible first | assumption | (repeat (first | exact Pick.head | apply Pick.tail))) (fun _ => rfl) (by assumption) (by exact rfl) (by exact rfl) rfl ?_ | refine KO.ld0 rfl rfl Tryd.isAgg42 (by assumption) rfl ?_
  refine KO.mkc rfl rfl rfl ?_
  refine KO.ce rfl rfl rfl Tryd.call77 rfl (conf_e w _ v q.l 78 [.pointer (some ⟨b3, 0, none⟩)] (idB id) (RdS.of (E := 99) (sz := 8) (cf := itC) (fun _ => rfl) Pick.head w hw.drop).base (by omega) Tryd.call78 (fun e _ => has1_e _ _ _ e b3 id _ (by with_reducible first | assumption | (repeat (first | exact Pick.head | apply Pick.tail))))) ?_; rintro v L' ⟨rfl, rfl⟩
  refine KO.as rfl rfl ?_
  refine KO.nil ?_
  repeat (first | (with_reducible refine K.seq ?_) | (with_reducible refine KQ.next ?_) | (with_reducible refine KQ.then_ret ?_) | (with_reducible refine KQ.blk_ret ?_) | (with_reducible refine KQ.then_exit ?_) | (with_reducible refine KQ.blk_exit ?_) | (refine KQ.blk_pass rfl ?_) | (with_reducible refine KQ.blk_normal ?_) | (with_reducible refine K.ret ?_) | (with_reducible refine K.skip ?_) | (with_reducible refine K.exit ?_) | (with_reducible refine K.block ?_))
  refine KQ.ret1 rfl rfl (fun w' hs => ⟨_, _, rfl, ⟨rfl, rfl⟩, hw0.below_step hs.below, hs.below⟩)
end Go.Proofs.YtjhogocabcdjbaaDoor
