/- queue: what is looked for. -/
import Derived.Test.YtjhogocabcdjbaaDoorQuA
set_option linter.unusedSimpArgs false
set_option linter.unusedVariables false
namespace Go.Proofs.YtjhogocabcdjbaaDoor
open Go Go.RowKit WB
abbrev itS (v : Value) (xs : List It) : HP := SL 99 8 itC v xs
theorem get1_e (w0 : World) (L : List HP) (e : It) :
    KE Tryd.prog 51 #[.agg (itC e).toArray] w0 L (fun v L' => v = .bool (decide (e.put < 0) && decide (e.got < 0)) ∧ L' = L) := by
  refine KE.mk (n := 11) Tryd.func51 rfl Tryd.ntmps51 (by simp) ?_
  intro w hw
  repeat (first | (with_reducible refine K.seq ?_) | (with_reducible refine KQ.next ?_) | (with_reducible refine KQ.then_ret ?_) | (with_reducible refine KQ.blk_ret ?_) | (with_reducible refine KQ.then_exit ?_) | (with_reducible refine KQ.blk_exit ?_) | (refine KQ.blk_pass rfl ?_) | (with_reducible refine KQ.blk_normal ?_) | (with_reducible refine K.ret ?_) | (with_reducible refine K.skip ?_) | (with_reducible refine K.exit ?_) | (with_reducible refine K.block ?_))
  refine K.reg ?_
  refine KO.box rfl rfl (by exact rfl) rfl ?_; intro b1
  refine KO.as rfl rfl ?_
  refine KO.nil ?_
  repeat (first | (with_reducible refine K.seq ?_) | (with_reducible refine KQ.next ?_) | (with_reducible refine KQ.then_ret ?_) | (with_reducible refine KQ.blk_ret ?_) | (with_reducible refine KQ.then_exit ?_) | (with_reducible refine KQ.blk_exit ?_) | (refine KQ.blk_pass rfl ?_) | (with_reducible refine KQ.blk_normal ?_) | (with_reducible refine K.ret ?_) | (with_reducible refine K.skip ?_) | (with_reducible refine K.exit ?_) | (with_reducible refine K.block ?_))
  by_cases h1 : e.put < 0
  · refine K.reg ?_
    first | refine KO.fo0 (off := 6) rfl Tryd.runUnderlying99 rfl rfl Tryd.sizeOf3 rfl ?_ | refine KO.fo (off := 6) rfl Tryd.runUnderlying99 rfl rfl Tryd.sizeOf3 rfl ?_ | refine KO.fldH (off := 6) rfl Tryd.runUnderlying99 rfl rfl Tryd.sizeOf3 rfl ?_
    first | refine KO.ld rfl rfl Tryd.isAgg3 (by with_reducible first | assumption | (repeat (first | exact Pick.head | apply Pick.tail))) (by exact rfl) rfl ?_ | refine KO.ldE rfl rfl Tryd.isAgg3 (by with_reducible first | assumption | (repeat (first | exact Pick.head | apply Pick.tail))) (fun _ => rfl) (by assumption) (by exact rfl) (by exact rfl) rfl ?_ | refine KO.ldE0 rfl rfl Tryd.isAgg3 (by with_reducible first | assumption | (repeat (first | exact Pick.head | apply Pick.tail))) (fun _ => rfl) (by assumption) (by exact rfl) (by exact rfl) rfl ?_ | refine KO.ldb hw rfl rfl Tryd.isAgg3 (by with_reducible first | assumption | (repeat (first | exact Pick.head | apply Pick.tail))) (by exact rfl) rfl ?_ | refine KO.ldEb hw rfl rfl Tryd.isAgg3 (by with_reducible first | assumption | (repeat (first | exact Pick.head | apply Pick.tail))) (fun _ => rfl) (by assumption) (by exact rfl) (by exact rfl) rfl ?_ | refine KO.ldE0b hw rfl rfl Tryd.isAgg3 (by with_reducible first | assumption | (repeat (first | exact Pick.head | apply Pick.tail))) (fun _ => rfl) (by assumption) (by exact rfl) (by exact rfl) rfl ?_ | refine KO.ld0 rfl rfl Tryd.isAgg3 (by assumption) rfl ?_
    refine KO.lss rfl rfl rfl ?_
    refine KO.mv rfl rfl ?_
    first | (refine KO.on rfl rfl ?_ ?_; (focus first | rfl | assumption | (simp; done) | (simp only [decide_eq_true_eq, decide_eq_false_iff_not, Bool.not_eq_true, Bool.not_true, Bool.not_false, ne_eq]; omega) | (simp_all; done)); (first | refine KO.fo0 (off := 7) rfl Tryd.runUnderlying99 rfl rfl Tryd.sizeOf3 rfl ?_ | refine KO.fo (off := 7) rfl Tryd.runUnderlying99 rfl rfl Tryd.sizeOf3 rfl ?_ | refine KO.fldH (off := 7) rfl Tryd.runUnderlying99 rfl rfl Tryd.sizeOf3 rfl ?_)) | (refine KO.no rfl rfl ?_ rfl ?_; (focus first | rfl | assumption | (simp; done) | (simp only [decide_eq_true_eq, decide_eq_false_iff_not, Bool.not_eq_true, Bool.not_true, Bool.not_false, ne_eq]; omega) | (simp_all; done))) | refine KO.no2 rfl rfl rfl ?_
    first | (refine KO.on rfl rfl ?_ ?_; (focus first | rfl | assumption | (simp; done) | (simp only [decide_eq_true_eq, decide_eq_false_iff_not, Bool.not_eq_true, Bool.not_true, Bool.not_false, ne_eq]; omega) | (simp_all; done)); (first | refine KO.ld rfl rfl Tryd.isAgg3 (by with_reducible first | assumption | (repeat (first | exact Pick.head | apply Pick.tail))) (by exact rfl) rfl ?_ | refine KO.ldE rfl rfl Tryd.isAgg3 (by with_reducible first | assumption | (repeat (first | exact Pick.head | apply Pick.tail))) (fun _ => rfl) (by assumption) (by exact rfl) (by exact rfl) rfl ?_ | refine KO.ldE0 rfl rfl Tryd.isAgg3 (by with_reducible first | assumption | (repeat (first | exact Pick.head | apply Pick.tail))) (fun _ => rfl) (by assumption) (by exact rfl) (by exact rfl) rfl ?_ | refine KO.ldb hw rfl rfl Tryd.isAgg3 (by with_reducible first | assumption | (repeat (first | exact Pick.head | apply Pick.tail))) (by exact rfl) rfl ?_ | refine KO.ldEb hw rfl rfl Tryd.isAgg3 (by with_reducible first | assumption | (repeat (first | exact Pick.head | apply Pick.tail))) (fun _ => rfl) (by assumption) (by exact rfl) (by exact rfl) rfl ?_ | refine KO.ldE0b hw rfl rfl Tryd.isAgg3 (by with_reducible first | assumption | (repeat (first | exact Pick.head | apply Pick.tail))) (fun _ => rfl) (by assumption) (by exact rfl) (by exact rfl) rfl ?_ | refine KO.ld0 rfl rfl Tryd.isAgg3 (by assumption) rfl ?_)) | (refine KO.no rfl rfl ?_ rfl ?_; (focus first | rfl | assumption | (simp; done) | (simp only [decide_eq_true_eq, decide_eq_false_iff_not, Bool.not_eq_true, Bool.not_true, Bool.not_false, ne_eq]; omega) | (simp_all; done))) | refine KO.no2 rfl rfl rfl ?_
    first | (refine KO.on rfl rfl ?_ ?_; (focus first | rfl | assumption | (simp; done) | (simp only [decide_eq_true_eq, decide_eq_false_iff_not, Bool.not_eq_true, Bool.not_true, Bool.not_false, ne_eq]; omega) | (simp_all; done)); (refine KO.lss rfl rfl rfl ?_)) | (refine KO.no rfl rfl ?_ rfl ?_; (focus first | rfl | assumption | (simp; done) | (simp only [decide_eq_true_eq, decide_eq_false_iff_not, Bool.not_eq_true, Bool.not_true, Bool.not_false, ne_eq]; omega) | (simp_all; done))) | refine KO.no2 rfl rfl rfl ?_
    first | (refine KO.pickT rfl ?_ rfl rfl ?_; (focus first | rfl | assumption | (simp; done) | (simp only [decide_eq_true_eq, decide_eq_false_iff_not, Bool.not_eq_true, Bool.not_true, Bool.not_false, ne_eq]; omega) | (simp_all; done))) | (refine KO.pickF rfl ?_ rfl rfl ?_; (focus first | rfl | assumption | (simp; done) | (simp only [decide_eq_true_eq, decide_eq_false_iff_not, Bool.not_eq_true, Bool.not_true, Bool.not_false, ne_eq]; omega) | (simp_all; done)))
    refine KO.as rfl rfl ?_
    refine KO.nil ?_
    repeat (first | (with_reducible refine K.seq ?_) | (with_reducible refine KQ.next ?_) | (with_reducible refine KQ.then_ret ?_) | (with_reducible refine KQ.blk_ret ?_) | (with_reducible refine KQ.then_exit ?_) | (with_reducible refine KQ.blk_exit ?_) | (refine KQ.blk_pass rfl ?_) | (with_reducible refine KQ.blk_normal ?_) | (with_reducible refine K.ret ?_) | (with_reducible refine K.skip ?_) | (with_reducible refine K.exit ?_) | (with_reducible refine K.block ?_))
    refine KQ.ret1 rfl rfl (fun w' hs => ⟨_, _, rfl, ⟨?_, rfl⟩, hw.below_step hs.below, hs.below⟩)
    simp [h1]
  · refine K.reg ?_
    first | refine KO.fo0 (off := 6) rfl Tryd.runUnderlying99 rfl rfl Tryd.sizeOf3 rfl ?_ | refine KO.fo (off := 6) rfl Tryd.runUnderlying99 rfl rfl Tryd.sizeOf3 rfl ?_ | refine KO.fldH (off := 6) rfl Tryd.runUnderlying99 rfl rfl Tryd.sizeOf3 rfl ?_
    first | refine KO.ld rfl rfl Tryd.isAgg3 (by with_reducible first | assumption | (repeat (first | exact Pick.head | apply Pick.tail))) (by exact rfl) rfl ?_ | refine KO.ldE rfl rfl Tryd.isAgg3 (by with_reducible first | assumption | (repeat (first | exact Pick.head | apply Pick.tail))) (fun _ => rfl) (by assumption) (by exact rfl) (by exact rfl) rfl ?_ | refine KO.ldE0 rfl rfl Tryd.isAgg3 (by with_reducible first | assumption | (repeat (first | exact Pick.head | apply Pick.tail))) (fun _ => rfl) (by assumption) (by exact rfl) (by exact rfl) rfl ?_ | refine KO.ldb hw rfl rfl Tryd.isAgg3 (by with_reducible first | assumption | (repeat (first | exact Pick.head | apply Pick.tail))) (by exact rfl) rfl ?_ | refine KO.ldEb hw rfl rfl Tryd.isAgg3 (by with_reducible first | assumption | (repeat (first | exact Pick.head | apply Pick.tail))) (fun _ => rfl) (by assumption) (by exact rfl) (by exact rfl) rfl ?_ | refine KO.ldE0b hw rfl rfl Tryd.isAgg3 (by with_reducible first | assumption | (repeat (first | exact Pick.head | apply Pick.tail))) (fun _ => rfl) (by assumption) (by exact rfl) (by exact rfl) rfl ?_ | refine KO.ld0 rfl rfl Tryd.isAgg3 (by assumption) rfl ?_
    refine KO.lss rfl rfl rfl ?_
    refine KO.mv rfl rfl ?_
    first | (refine KO.on rfl rfl ?_ ?_; (focus first | rfl | assumption | (simp; done) | (simp only [decide_eq_true_eq, decide_eq_false_iff_not, Bool.not_eq_true, Bool.not_true, Bool.not_false, ne_eq]; omega) | (simp_all; done)); (first | refine KO.fo0 (off := 7) rfl Tryd.runUnderlying99 rfl rfl Tryd.sizeOf3 rfl ?_ | refine KO.fo (off := 7) rfl Tryd.runUnderlying99 rfl rfl Tryd.sizeOf3 rfl ?_ | refine KO.fldH (off := 7) rfl Tryd.runUnderlying99 rfl rfl Tryd.sizeOf3 rfl ?_)) | (refine KO.no rfl rfl ?_ rfl ?_; (focus first | rfl | assumption | (simp; done) | (simp only [decide_eq_true_eq, decide_eq_false_iff_not, Bool.not_eq_true, Bool.not_true, Bool.not_false, ne_eq]; omega) | (simp_all; done))) | refine KO.no2 rfl rfl rfl ?_
    first | (refine KO.on rfl rfl ?_ ?_; (focus first | rfl | assumption | (simp; done) | (simp only [decide_eq_true_eq, decide_eq_false_iff_not, Bool.not_eq_true, Bool.not_true, Bool.not_false, ne_eq]; omega) | (simp_all; done)); (first | refine KO.ld rfl rfl Tryd.isAgg3 (by with_reducible first | assumption | (repeat (first | exact Pick.head | apply Pick.tail))) (by exact rfl) rfl ?_ | refine KO.ldE rfl rfl Tryd.isAgg3 (by with_reducible first | assumption | (repeat (first | exact Pick.head | apply Pick.tail))) (fun _ => rfl) (by assumption) (by exact rfl) (by exact rfl) rfl ?_ | refine KO.ldE0 rfl rfl Tryd.isAgg3 (by with_reducible first | assumption | (repeat (first | exact Pick.head | apply Pick.tail))) (fun _ => rfl) (by assumption) (by exact rfl) (by exact rfl) rfl ?_ | refine KO.ldb hw rfl rfl Tryd.isAgg3 (by with_reducible first | assumption | (repeat (first | exact Pick.head | apply Pick.tail))) (by exact rfl) rfl ?_ | refine KO.ldEb hw rfl rfl Tryd.isAgg3 (by with_reducible first | assumption | (repeat (first | exact Pick.head | apply Pick.tail))) (fun _ => rfl) (by assumption) (by exact rfl) (by exact rfl) rfl ?_ | refine KO.ldE0b hw rfl rfl Tryd.isAgg3 (by with_reducible first | assumption | (repeat (first | exact Pick.head | apply Pick.tail))) (fun _ => rfl) (by assumption) (by exact rfl) (by exact rfl) rfl ?_ | refine KO.ld0 rfl rfl Tryd.isAgg3 (by assumption) rfl ?_)) | (refine KO.no rfl rfl ?_ rfl ?_; (focus first | rfl | assumption | (simp; done) | (simp only [decide_eq_true_eq, decide_eq_false_iff_not, Bool.not_eq_true, Bool.not_true, Bool.not_false, ne_eq]; omega) | (simp_all; done))) | refine KO.no2 rfl rfl rfl ?_
    first | (refine KO.on rfl rfl ?_ ?_; (focus first | rfl | assumption | (simp; done) | (simp only [decide_eq_true_eq, decide_eq_false_iff_not, Bool.not_eq_true, Bool.not_true, Bool.not_false, ne_eq]; omega) | (simp_all; done)); (refine KO.lss rfl rfl rfl ?_)) | (refine KO.no rfl rfl ?_ rfl ?_; (focus first | rfl | assumption | (simp; done) | (simp only [decide_eq_true_eq, decide_eq_false_iff_not, Bool.not_eq_true, Bool.not_true, Bool.not_false, ne_eq]; omega) | (simp_all; done))) | refine KO.no2 rfl rfl rfl ?_
    first | (refine KO.pickT rfl ?_ rfl rfl ?_; (focus first | rfl | assumption | (simp; done) | (simp only [decide_eq_true_eq, decide_eq_false_iff_not, Bool.not_eq_true, Bool.not_true, Bool.not_false, ne_eq]; omega) | (simp_all; done))) | (refine KO.pickF rfl ?_ rfl rfl ?_; (focus first | rfl | assumption | (simp; done) | (simp only [decide_eq_true_eq, decide_eq_false_iff_not, Bool.not_eq_true, Bool.not_true, Bool.not_false, ne_eq]; omega) | (simp_all; done)))
    refine KO.as rfl rfl ?_
    refine KO.nil ?_
    repeat (first | (with_reducible refine K.seq ?_) | (with_reducible refine KQ.next ?_) | (with_reducible refine KQ.then_ret ?_) | (with_reducible refine KQ.blk_ret ?_) | (with_reducible refine KQ.then_exit ?_) | (with_reducible refine KQ.blk_exit ?_) | (refine KQ.blk_pass rfl ?_) | (with_reducible refine KQ.blk_normal ?_) | (with_reducible refine K.ret ?_) | (with_reducible refine K.skip ?_) | (with_reducible refine K.exit ?_) | (with_reducible refine K.block ?_))
    refine KQ.ret1 rfl rfl (fun w' hs => ⟨_, _, rfl, ⟨?_, rfl⟩, hw.below_step hs.below, hs.below⟩)
    simp [h1]
theorem idxf_e (w0 : World) (L : List HP) (v : Value) (xs : List It) (f : FuncId) (cp : List Value) (pf : It → Bool) (hr : ∀ w, St w0 L w → RdS w 8 itC v xs) (hlen : xs.length < 1000000) (hcall : ∀ args w, (callFunc f args).run Tryd.prog w = .ok (.enter f args) w)
    (hcl : ∀ e, e ∈ xs → KE Tryd.prog f ([] ++ ([Value.agg (itC e).toArray] ++ cp)).toArray w0 L (fun v L' => v = .bool (pf e) ∧ L' = L)) :
    KE Tryd.prog 50 #[v, .func (.func f) [].toArray cp.toArray] w0 L (fun v L' => v = .int .i64 (fidx pf xs) ∧ L' = L) := by
  refine KE.mk (n := 19) Tryd.func50 rfl Tryd.ntmps50 (by simp) ?_
  intro w hw
  obtain ⟨a, cap, rfl, ha, hc⟩ := hr w hw
  repeat (first | (with_reducible refine K.seq ?_) | (with_reducible refine KQ.next ?_) | (with_reducible refine KQ.then_ret ?_) | (with_reducible refine KQ.blk_ret ?_) | (with_reducible refine KQ.then_exit ?_) | (with_reducible refine KQ.blk_exit ?_) | (refine KQ.blk_pass rfl ?_) | (with_reducible refine KQ.blk_normal ?_) | (with_reducible refine K.ret ?_) | (with_reducible refine K.skip ?_) | (with_reducible refine K.exit ?_) | (with_reducible refine K.block ?_))
  refine K.reg ?_
  refine KO.as rfl rfl ?_
  refine KO.nil ?_
  repeat (first | (with_reducible refine K.seq ?_) | (with_reducible refine KQ.next ?_) | (with_reducible refine KQ.then_ret ?_) | (with_reducible refine KQ.blk_ret ?_) | (with_reducible refine KQ.then_exit ?_) | (with_reducible refine KQ.blk_exit ?_) | (refine KQ.blk_pass rfl ?_) | (with_reducible refine KQ.blk_normal ?_) | (with_reducible refine K.ret ?_) | (with_reducible refine K.skip ?_) | (with_reducible refine K.exit ?_) | (with_reducible refine K.block ?_))
  refine K.reg ?_
  refine KO.mv rfl rfl ?_
  refine KO.len rfl Tryd.underlying42 rfl ?_
  refine KO.mv rfl rfl ?_
  refine KO.nil ?_
  repeat (first | (with_reducible refine K.seq ?_) | (with_reducible refine KQ.next ?_) | (with_reducible refine KQ.then_ret ?_) | (with_reducible refine KQ.blk_ret ?_) | (with_reducible refine KQ.then_exit ?_) | (with_reducible refine KQ.blk_exit ?_) | (refine KQ.blk_pass rfl ?_) | (with_reducible refine KQ.blk_normal ?_) | (with_reducible refine K.ret ?_) | (with_reducible refine K.skip ?_) | (with_reducible refine K.exit ?_) | (with_reducible refine K.block ?_))
  refine K.loop (fun k : Nat => [(0, .slice a xs.length cap), (1, .func (.func f) [].toArray cp.toArray), (7, .int .i64 (xs.length : Nat)), (8, .int .i64 (k : Nat))]) (fun _ => []) (fun k => k ≤ xs.length ∧ ∀ (j : Nat) (u : It), j < k → xs[j]? = some u → pf u = false) (fun k => xs.length - k) 0 ⟨by omega, fun j u h => by omega⟩ ⟨rfl, rfl, rfl, rfl, trivial⟩ (fun _ h => h) ?_
  rintro k ⟨hk, hno⟩
  repeat (first | (with_reducible refine K.seq ?_) | (with_reducible refine KQ.next ?_) | (with_reducible refine KQ.then_ret ?_) | (with_reducible refine KQ.blk_ret ?_) | (with_reducible refine KQ.then_exit ?_) | (with_reducible refine KQ.blk_exit ?_) | (refine KQ.blk_pass rfl ?_) | (with_reducible refine KQ.blk_normal ?_) | (with_reducible refine K.ret ?_) | (with_reducible refine K.skip ?_) | (with_reducible refine K.exit ?_) | (with_reducible refine K.block ?_))
  refine K.reg ?_
  refine KO.lss rfl rfl rfl ?_
  refine KO.nil ?_
  repeat (first | (with_reducible refine K.seq ?_) | (with_reducible refine KQ.next ?_) | (with_reducible refine KQ.then_ret ?_) | (with_reducible refine KQ.blk_ret ?_) | (with_reducible refine KQ.then_exit ?_) | (with_reducible refine KQ.blk_exit ?_) | (refine KQ.blk_pass rfl ?_) | (with_reducible refine KQ.blk_normal ?_) | (with_reducible refine K.ret ?_) | (with_reducible refine K.skip ?_) | (with_reducible refine K.exit ?_) | (with_reducible refine K.block ?_))
  refine K.condD rfl (fun h => ?_) (fun h => ?_)
  · have hlt : k < xs.length := by omega
    obtain ⟨g, rfl⟩ := ha (by omega)
    obtain ⟨e, he⟩ : ∃ e, xs[k]? = some e := ⟨xs[k], List.getElem?_eq_getElem hlt⟩
    repeat (first | (with_reducible refine K.seq ?_) | (with_reducible refine KQ.next ?_) | (with_reducible refine KQ.then_ret ?_) | (with_reducible refine KQ.blk_ret ?_) | (with_reducible refine KQ.then_exit ?_) | (with_reducible refine KQ.blk_exit ?_) | (refine KQ.blk_pass rfl ?_) | (with_reducible refine KQ.blk_normal ?_) | (with_reducible refine K.ret ?_) | (with_reducible refine K.skip ?_) | (with_reducible refine K.exit ?_) | (with_reducible refine K.block ?_))
    refine K.reg ?_
    refine KO.mv rfl rfl ?_
    refine KO.as rfl rfl ?_
    refine KO.nil ?_
    repeat (first | (with_reducible refine K.seq ?_) | (with_reducible refine KQ.next ?_) | (with_reducible refine KQ.then_ret ?_) | (with_reducible refine KQ.blk_ret ?_) | (with_reducible refine KQ.then_exit ?_) | (with_reducible refine KQ.blk_exit ?_) | (refine KQ.blk_pass rfl ?_) | (with_reducible refine KQ.blk_normal ?_) | (with_reducible refine K.ret ?_) | (with_reducible refine K.skip ?_) | (with_reducible refine K.exit ?_) | (with_reducible refine K.block ?_))
    refine K.reg ?_
    refine KO.mv rfl rfl ?_
    refine KO.mv rfl rfl ?_
    refine KO.mv rfl rfl ?_
    first | refine KO.idx0 rfl rfl Tryd.runUnderlying42 Tryd.sizeOf99 (by first | exact rfl | exact (rfl : (0 : Int) = ((0 : Nat) : Int))) (by omega) rfl ?_ | refine KO.idxH rfl rfl Tryd.runUnderlying42 Tryd.sizeOf99 (by first | exact rfl | exact (rfl : (0 : Int) = ((0 : Nat) : Int))) (by omega) rfl ?_
    refine KO.ldN0 (cs := (itC e).toArray) rfl rfl Tryd.isAgg99 Tryd.sizeOf99 rfl (hc g rfl k e he) rfl ?_
    refine KO.ce rfl rfl rfl hcall rfl ((hcl e (List.mem_of_getElem? he)).rebase hw) ?_; rintro v L' ⟨rfl, rfl⟩
    refine KO.nil ?_
    repeat (first | (with_reducible refine K.seq ?_) | (with_reducible refine KQ.next ?_) | (with_reducible refine KQ.then_ret ?_) | (with_reducible refine KQ.blk_ret ?_) | (with_reducible refine KQ.then_exit ?_) | (with_reducible refine KQ.blk_exit ?_) | (refine KQ.blk_pass rfl ?_) | (with_reducible refine KQ.blk_normal ?_) | (with_reducible refine K.ret ?_) | (with_reducible refine K.skip ?_) | (with_reducible refine K.exit ?_) | (with_reducible refine K.block ?_))
    refine K.cond rfl (fun h1 => ?_) (fun h1 => ?_)
    · repeat (first | (with_reducible refine K.seq ?_) | (with_reducible refine KQ.next ?_) | (with_reducible refine KQ.then_ret ?_) | (with_reducible refine KQ.blk_ret ?_) | (with_reducible refine KQ.then_exit ?_) | (with_reducible refine KQ.blk_exit ?_) | (refine KQ.blk_pass rfl ?_) | (with_reducible refine KQ.blk_normal ?_) | (with_reducible refine K.ret ?_) | (with_reducible refine K.skip ?_) | (with_reducible refine K.exit ?_) | (with_reducible refine K.block ?_))
      refine K.reg ?_
      refine KO.mv rfl rfl ?_
      refine KO.as rfl rfl ?_
      refine KO.nil ?_
      repeat (first | (with_reducible refine K.seq ?_) | (with_reducible refine KQ.next ?_) | (with_reducible refine KQ.then_ret ?_) | (with_reducible refine KQ.blk_ret ?_) | (with_reducible refine KQ.then_exit ?_) | (with_reducible refine KQ.blk_exit ?_) | (refine KQ.blk_pass rfl ?_) | (with_reducible refine KQ.blk_normal ?_) | (with_reducible refine K.ret ?_) | (with_reducible refine K.skip ?_) | (with_reducible refine K.exit ?_) | (with_reducible refine K.block ?_))
      refine KQ.ret1 rfl rfl (fun w' hs => ⟨_, _, rfl, ⟨?_, rfl⟩, hw.below_step hs.below, hs.below⟩)
      rw [fidx_hit he h1 hno]
    · repeat (first | (with_reducible refine K.seq ?_) | (with_reducible refine KQ.next ?_) | (with_reducible refine KQ.then_ret ?_) | (with_reducible refine KQ.blk_ret ?_) | (with_reducible refine KQ.then_exit ?_) | (with_reducible refine KQ.blk_exit ?_) | (refine KQ.blk_pass rfl ?_) | (with_reducible refine KQ.blk_normal ?_) | (with_reducible refine K.ret ?_) | (with_reducible refine K.skip ?_) | (with_reducible refine K.exit ?_) | (with_reducible refine K.block ?_))
      refine K.reg ?_
      refine KO.add rfl rfl rfl (by omega) rfl ?_
      refine KO.mv rfl rfl ?_
      refine KO.nil ?_
      repeat (first | (with_reducible refine K.seq ?_) | (with_reducible refine KQ.next ?_) | (with_reducible refine KQ.then_ret ?_) | (with_reducible refine KQ.blk_ret ?_) | (with_reducible refine KQ.then_exit ?_) | (with_reducible refine KQ.blk_exit ?_) | (refine KQ.blk_pass rfl ?_) | (with_reducible refine KQ.blk_normal ?_) | (with_reducible refine K.ret ?_) | (with_reducible refine K.skip ?_) | (with_reducible refine K.exit ?_) | (with_reducible refine K.block ?_))
      refine KQ.round (k + 1) ⟨by omega, fun j u hj hu => ?_⟩ (by omega) ⟨rfl, rfl, rfl, rfl, trivial⟩ (fun _ h => h)
      by_cases hjk : j = k
      · subst hjk; rw [he] at hu; simp only [Option.some.injEq] at hu; rw [← hu]; exact h1
      · exact hno j u (by omega) hu
  · repeat (first | (with_reducible refine K.seq ?_) | (with_reducible refine KQ.next ?_) | (with_reducible refine KQ.then_ret ?_) | (with_reducible refine KQ.blk_ret ?_) | (with_reducible refine KQ.then_exit ?_) | (with_reducible refine KQ.blk_exit ?_) | (refine KQ.blk_pass rfl ?_) | (with_reducible refine KQ.blk_normal ?_) | (with_reducible refine K.ret ?_) | (with_reducible refine K.skip ?_) | (with_reducible refine K.exit ?_) | (with_reducible refine K.block ?_))
    refine K.reg ?_
    refine KO.as rfl rfl ?_
    refine KO.nil ?_
    repeat (first | (with_reducible refine K.seq ?_) | (with_reducible refine KQ.next ?_) | (with_reducible refine KQ.then_ret ?_) | (with_reducible refine KQ.blk_ret ?_) | (with_reducible refine KQ.then_exit ?_) | (with_reducible refine KQ.blk_exit ?_) | (refine KQ.blk_pass rfl ?_) | (with_reducible refine KQ.blk_normal ?_) | (with_reducible refine K.ret ?_) | (with_reducible refine K.skip ?_) | (with_reducible refine K.exit ?_) | (with_reducible refine K.block ?_))
    refine KQ.ret1 rfl rfl (fun w' hs => ⟨_, _, rfl, ⟨?_, rfl⟩, hw.below_step hs.below, hs.below⟩)
    rw [fidx_miss fun j u hu => hno j u (by have := (List.getElem?_eq_some_iff.1 hu).1; omega) hu]
theorem conf_e (w0 : World) (L : List HP) (v : Value) (xs : List It) (f : FuncId) (cp : List Value) (pf : It → Bool) (hr : ∀ w, St w0 L w → RdS w 8 itC v xs) (hlen : xs.length < 1000000) (hcall : ∀ args w, (callFunc f args).run Tryd.prog w = .ok (.enter f args) w)
    (hcl : ∀ e, e ∈ xs → KE Tryd.prog f ([] ++ ([Value.agg (itC e).toArray] ++ cp)).toArray w0 L (fun v L' => v = .bool (pf e) ∧ L' = L)) :
    KE Tryd.prog 77 #[v, .func (.func f) [].toArray cp.toArray] w0 L (fun v L' => v = .bool (xs.any pf) ∧ L' = L) := by
  refine KE.mk (n := 9) Tryd.func77 rfl Tryd.ntmps77 (by simp) ?_
  intro w hw
  repeat (first | (with_reducible refine K.seq ?_) | (with_reducible refine KQ.next ?_) | (with_reducible refine KQ.then_ret ?_) | (with_reducible refine KQ.blk_ret ?_) | (with_reducible refine KQ.then_exit ?_) | (with_reducible refine KQ.blk_exit ?_) | (refine KQ.blk_pass rfl ?_) | (with_reducible refine KQ.blk_normal ?_) | (with_reducible refine K.ret ?_) | (with_reducible refine K.skip ?_) | (with_reducible refine K.exit ?_) | (with_reducible refine K.block ?_))
  refine K.reg ?_
  refine KO.as rfl rfl ?_
  refine KO.nil ?_
  repeat (first | (with_reducible refine K.seq ?_) | (with_reducible refine KQ.next ?_) | (with_reducible refine KQ.then_ret ?_) | (with_reducible refine KQ.blk_ret ?_) | (with_reducible refine KQ.then_exit ?_) | (with_reducible refine KQ.blk_exit ?_) | (refine KQ.blk_pass rfl ?_) | (with_reducible refine KQ.blk_normal ?_) | (with_reducible refine K.ret ?_) | (with_reducible refine K.skip ?_) | (with_reducible refine K.exit ?_) | (with_reducible refine K.block ?_))
  refine K.reg ?_
  refine KO.mv rfl rfl ?_
  refine KO.mv rfl rfl ?_
  refine KO.ce rfl rfl rfl Tryd.call50 rfl ((idxf_e w0 L v xs f cp pf hr hlen hcall hcl).rebase hw) ?_; rintro v L' ⟨rfl, rfl⟩
  refine KO.geq rfl rfl rfl ?_
  refine KO.as rfl rfl ?_
  refine KO.nil ?_
  repeat (first | (with_reducible refine K.seq ?_) | (with_reducible refine KQ.next ?_) | (with_reducible refine KQ.then_ret ?_) | (with_reducible refine KQ.blk_ret ?_) | (with_reducible refine KQ.then_exit ?_) | (with_reducible refine KQ.blk_exit ?_) | (refine KQ.blk_pass rfl ?_) | (with_reducible refine KQ.blk_normal ?_) | (with_reducible refine K.ret ?_) | (with_reducible refine K.skip ?_) | (with_reducible refine K.exit ?_) | (with_reducible refine K.block ?_))
  refine KQ.ret1 rfl rfl (fun w' hs => ⟨_, _, rfl, ⟨?_, rfl⟩, hw.below_step hs.below, hs.below⟩)
  rw [fidx_any]
end Go.Proofs.YtjhogocabcdjbaaDoor
