/- waybillkeep.lined -/
import Derived.Test.YtjhogocabcdjbaaDoorQuN
import Derived.Test.YtjhogocabcdjbaaDoorWbQb
set_option linter.unusedSimpArgs false
set_option linter.unusedVariables false
namespace Go.Proofs.YtjhogocabcdjbaaDoor
open Go Go.RowKit WB
theorem quP_new {w0 w : World} {b : Nat} {L : List HP} (h : St w0 (blk b (.cells [Value.slice none 0 0, .int .i64 0].toArray 44 (0, 0)) :: L) w) : St w0 (quP b ⟨[], 0⟩ :: L) w :=
  quP_mk (v := .slice none 0 0) ((SL_nil (E := 99) (sz := 8) (cf := itC) h).pick (.tail .head))
theorem qin_new : QIn 0 ⟨[], 0⟩ := ⟨.nil, (fun _ h => by cases h), (fun _ h => by cases h), (fun _ h => by cases h), (by decide), ⟨by decide, by decide⟩⟩
def lm1 : Ms := ⟨1, 2, ⟨#[97]⟩, ⟨#[113]⟩, 0⟩
def lm2 : Ms := ⟨2, 5, ⟨#[98]⟩, ⟨#[113]⟩, 0⟩
def lq1 : Qu := qpush ⟨[], 0⟩ lm1 (-1)
def lq2 : Qu := qpush lq1 lm2 0
def lq3 : Qu := qends lq2 0 false
def lq4 : Qu := qget lq3 1
theorem lr1 : msRight lm1 = true := by decide +kernel
theorem lr2 : msRight lm2 = true := by decide +kernel
theorem li0 : QIn 1 ⟨[], 0⟩ := qin_new.le (by decide)
theorem li1 : QIn 2 lq1 := li0.pushed rfl (by decide) (by decide) (by decide) _
theorem li2 : QIn 3 lq2 := li1.pushed rfl (by decide) (by decide) (by decide) _
theorem lput1 : qput ⟨[], 0⟩ lm1 (-1) = lq1 := by unfold qput; rw [if_pos (li0.putE rfl lr1 (by decide))]; rfl
theorem lput2 : qput lq1 lm2 0 = lq2 := by unfold qput; rw [if_pos (li1.putE rfl lr2 (by decide))]; rfl
theorem lth2 : qthere lq2 = [lm1] := by decide +kernel
theorem lth4 : qthere lq4 = [lm1] := by decide +kernel
theorem lln4 : lq4.l.length = 2 := by decide +kernel
theorem lined_e (w0 : World) (L : List HP) : KE Tryd.prog 15 #[] w0 L (fun u L' => u = .bool true ∧ L' = L) := by
  refine KE.mk (n := 40) Tryd.func15 rfl Tryd.ntmps15 (by simp) ?_
  intro w hw
  repeat (first | (with_reducible refine K.seq ?_) | (with_reducible refine KQ.next ?_) | (with_reducible refine KQ.then_ret ?_) | (with_reducible refine KQ.blk_ret ?_) | (with_reducible refine KQ.then_exit ?_) | (with_reducible refine KQ.blk_exit ?_) | (refine KQ.blk_pass rfl ?_) | (with_reducible refine KQ.blk_normal ?_) | (with_reducible refine K.ret ?_) | (with_reducible refine K.skip ?_) | (with_reducible refine K.exit ?_) | (with_reducible refine K.block ?_))
  refine K.reg ?_
  refine KO.as rfl rfl ?_
  refine KO.nil ?_
  repeat (first | (with_reducible refine K.seq ?_) | (with_reducible refine KQ.next ?_) | (with_reducible refine KQ.then_ret ?_) | (with_reducible refine KQ.blk_ret ?_) | (with_reducible refine KQ.then_exit ?_) | (with_reducible refine KQ.blk_exit ?_) | (refine KQ.blk_pass rfl ?_) | (with_reducible refine KQ.blk_normal ?_) | (with_reducible refine K.ret ?_) | (with_reducible refine K.skip ?_) | (with_reducible refine K.exit ?_) | (with_reducible refine K.block ?_))
  refine K.reg ?_
  refine KO.alloc rfl Tryd.zeroValue44 (by exact rfl) rfl ?_; intro b1
  refine KO.nil ?_
  repeat (first | (with_reducible refine K.seq ?_) | (with_reducible refine KQ.next ?_) | (with_reducible refine KQ.then_ret ?_) | (with_reducible refine KQ.blk_ret ?_) | (with_reducible refine KQ.then_exit ?_) | (with_reducible refine KQ.blk_exit ?_) | (refine KQ.blk_pass rfl ?_) | (with_reducible refine KQ.blk_normal ?_) | (with_reducible refine K.ret ?_) | (with_reducible refine K.skip ?_) | (with_reducible refine K.exit ?_) | (with_reducible refine K.block ?_))
  refine K.conv (L' := quP b1 ⟨[], 0⟩ :: []) (fun _ h => quP_new h) ?_
  refine K.reg ?_
  refine KO.bldN (pl := [(0, 1), (1, 1), (2, 1), (3, 1), (4, 1)]) rfl Tryd.zeroValue50 Tryd.runUnderlying50 (by intro w; simp [Tryd.sizeOf3, Tryd.sizeOf9]) (by exact rfl) rfl ?_
  refine KO.cl (cp := []) rfl rfl rfl Tryd.call17 rfl (KC.pk1 (by with_reducible first | assumption | (repeat (first | exact Pick.head | apply Pick.tail))) (put_c w _ b1 ⟨[], 0⟩ lm1 (-1) (li0.ok (by decide)) (by decide) (by decide))) ?_; rintro v L' ⟨rfl, rfl⟩; rw [li0.putE rfl lr1 (by decide), lput1]
  refine KO.neN rfl (by kernel_rfl) rfl ?_
  refine KO.mv rfl rfl ?_
  first | (refine KO.on rfl rfl ?_ ?_; (focus first | rfl | assumption | (simp; done) | (simp only [decide_eq_true_eq, decide_eq_false_iff_not, Bool.not_eq_true, Bool.not_true, Bool.not_false, ne_eq]; omega) | (simp_all; done)); (refine KO.bldN (pl := [(0, 1), (1, 1), (2, 1), (3, 1), (4, 1)]) rfl Tryd.zeroValue50 Tryd.runUnderlying50 (by intro w; simp [Tryd.sizeOf3, Tryd.sizeOf9]) (by exact rfl) rfl ?_)) | (refine KO.no rfl rfl ?_ rfl ?_; (focus first | rfl | assumption | (simp; done) | (simp only [decide_eq_true_eq, decide_eq_false_iff_not, Bool.not_eq_true, Bool.not_true, Bool.not_false, ne_eq]; omega) | (simp_all; done))) | refine KO.no2 rfl rfl rfl ?_
  refine KO.on rfl rfl rfl ?_; refine KO.cl (cp := []) rfl rfl rfl Tryd.call17 rfl (KC.pk1 (by with_reducible first | assumption | (repeat (first | exact Pick.head | apply Pick.tail))) (put_c w _ b1 lq1 lm2 0 (li1.ok (by decide)) (by decide) (by decide))) ?_; rintro v L' ⟨rfl, rfl⟩; rw [li1.putE rfl lr2 (by decide), lput2]
  first | (refine KO.on rfl rfl ?_ ?_; (focus first | rfl | assumption | (simp; done) | (simp only [decide_eq_true_eq, decide_eq_false_iff_not, Bool.not_eq_true, Bool.not_true, Bool.not_false, ne_eq]; omega) | (simp_all; done)); (refine KO.neN rfl (by kernel_rfl) rfl ?_)) | (refine KO.no rfl rfl ?_ rfl ?_; (focus first | rfl | assumption | (simp; done) | (simp only [decide_eq_true_eq, decide_eq_false_iff_not, Bool.not_eq_true, Bool.not_true, Bool.not_false, ne_eq]; omega) | (simp_all; done))) | refine KO.no2 rfl rfl rfl ?_
  first | (refine KO.pickT rfl ?_ rfl rfl ?_; (focus first | rfl | assumption | (simp; done) | (simp only [decide_eq_true_eq, decide_eq_false_iff_not, Bool.not_eq_true, Bool.not_true, Bool.not_false, ne_eq]; omega) | (simp_all; done))) | (refine KO.pickF rfl ?_ rfl rfl ?_; (focus first | rfl | assumption | (simp; done) | (simp only [decide_eq_true_eq, decide_eq_false_iff_not, Bool.not_eq_true, Bool.not_true, Bool.not_false, ne_eq]; omega) | (simp_all; done)))
  refine KO.nil ?_
  repeat (first | (with_reducible refine K.seq ?_) | (with_reducible refine KQ.next ?_) | (with_reducible refine KQ.then_ret ?_) | (with_reducible refine KQ.blk_ret ?_) | (with_reducible refine KQ.then_exit ?_) | (with_reducible refine KQ.blk_exit ?_) | (refine KQ.blk_pass rfl ?_) | (with_reducible refine KQ.blk_normal ?_) | (with_reducible refine K.ret ?_) | (with_reducible refine K.skip ?_) | (with_reducible refine K.exit ?_) | (with_reducible refine K.block ?_))
  refine K.condF rfl rfl ?_
  repeat (first | (with_reducible refine K.seq ?_) | (with_reducible refine KQ.next ?_) | (with_reducible refine KQ.then_ret ?_) | (with_reducible refine KQ.blk_ret ?_) | (with_reducible refine KQ.then_exit ?_) | (with_reducible refine KQ.blk_exit ?_) | (refine KQ.blk_pass rfl ?_) | (with_reducible refine KQ.blk_normal ?_) | (with_reducible refine K.ret ?_) | (with_reducible refine K.skip ?_) | (with_reducible refine K.exit ?_) | (with_reducible refine K.block ?_))
  refine K.reg ?_
  refine KO.ce (cp := []) rfl rfl rfl Tryd.call21 rfl (there_e w _ _ b1 lq2 (by with_reducible first | assumption | (repeat (first | exact Pick.head | apply Pick.tail))) (by decide)) ?_; rintro v L' rfl; rw [lth2]; refine KO.fact (fun _ hs => SL_form hs) ?_; rintro ⟨a', c', rfl, -⟩
  refine KO.as rfl rfl ?_
  refine KO.nil ?_
  repeat (first | (with_reducible refine K.seq ?_) | (with_reducible refine KQ.next ?_) | (with_reducible refine KQ.then_ret ?_) | (with_reducible refine KQ.blk_ret ?_) | (with_reducible refine KQ.then_exit ?_) | (with_reducible refine KQ.blk_exit ?_) | (refine KQ.blk_pass rfl ?_) | (with_reducible refine KQ.blk_normal ?_) | (with_reducible refine K.ret ?_) | (with_reducible refine K.skip ?_) | (with_reducible refine K.exit ?_) | (with_reducible refine K.block ?_))
  refine K.reg ?_
  refine KO.cl (cp := []) rfl rfl rfl Tryd.call19 rfl (KC.pk1 (by with_reducible first | assumption | (repeat (first | exact Pick.head | apply Pick.tail))) (ends_c w _ b1 lq2 0 false (by decide))) ?_; rintro v L' ⟨rfl, rfl⟩; rw [show qends lq2 0 false = lq3 from rfl]
  refine KO.nil ?_
  repeat (first | (with_reducible refine K.seq ?_) | (with_reducible refine KQ.next ?_) | (with_reducible refine KQ.then_ret ?_) | (with_reducible refine KQ.blk_ret ?_) | (with_reducible refine KQ.then_exit ?_) | (with_reducible refine KQ.blk_exit ?_) | (refine KQ.blk_pass rfl ?_) | (with_reducible refine KQ.blk_normal ?_) | (with_reducible refine K.ret ?_) | (with_reducible refine K.skip ?_) | (with_reducible refine K.exit ?_) | (with_reducible refine K.block ?_))
  refine K.reg ?_
  refine KO.cl (cp := []) rfl rfl rfl Tryd.call18 rfl (KC.pk1 (by with_reducible first | assumption | (repeat (first | exact Pick.head | apply Pick.tail))) (get_c w _ b1 lq3 1 (by decide))) ?_; rintro v L' ⟨rfl, rfl⟩; rw [show qget lq3 1 = lq4 from rfl, show qgetE lq3 = 0 from rfl, show qgetM lq3 = lm2 from rfl]
  refine KO.mv rfl rfl ?_
  first | refine KO.extrL rfl (by exact rfl) rfl ?_ | refine KO.extr rfl (by exact rfl) rfl ?_
  first | refine KO.extrL rfl (by exact rfl) rfl ?_ | refine KO.extr rfl (by exact rfl) rfl ?_
  refine KO.alloc rfl Tryd.zeroValue50 (by exact rfl) rfl ?_; intro b3
  first | refine KO.sto0 rfl rfl rfl (by exact rfl) (by exact Tryd.sizeOf50) (by exact rfl) (by with_reducible first | assumption | (repeat (first | exact Pick.head | apply Pick.tail))) (by exact rfl) ?_ | refine KO.sto rfl rfl rfl (by exact rfl) (by exact Tryd.sizeOf50) (by exact rfl) (by with_reducible first | assumption | (repeat (first | exact Pick.head | apply Pick.tail))) (by exact rfl) (by (try simp only [putL, List.drop_succ_cons, List.drop_zero, List.drop_nil, List.cons_append, List.nil_append, List.length_cons, List.length_nil, Nat.zero_add, Nat.reduceAdd]); (try exact rfl)) ?_
  refine KO.as rfl rfl ?_
  refine KO.nil ?_
  repeat (first | (with_reducible refine K.seq ?_) | (with_reducible refine KQ.next ?_) | (with_reducible refine KQ.then_ret ?_) | (with_reducible refine KQ.blk_ret ?_) | (with_reducible refine KQ.then_exit ?_) | (with_reducible refine KQ.blk_exit ?_) | (refine KQ.blk_pass rfl ?_) | (with_reducible refine KQ.blk_normal ?_) | (with_reducible refine K.ret ?_) | (with_reducible refine K.skip ?_) | (with_reducible refine K.exit ?_) | (with_reducible refine K.block ?_))
  refine K.reg ?_
  refine KO.mv rfl rfl ?_
  refine KO.len rfl Tryd.underlying57 rfl ?_
  refine KO.eqI rfl rfl rfl ?_
  refine KO.mv rfl rfl ?_
  first | (refine KO.on rfl rfl ?_ ?_; (focus first | rfl | assumption | (simp; done) | (simp only [decide_eq_true_eq, decide_eq_false_iff_not, Bool.not_eq_true, Bool.not_true, Bool.not_false, ne_eq]; omega) | (simp_all; done)); (refine KO.mv rfl rfl ?_)) | (refine KO.no rfl rfl ?_ rfl ?_; (focus first | rfl | assumption | (simp; done) | (simp only [decide_eq_true_eq, decide_eq_false_iff_not, Bool.not_eq_true, Bool.not_true, Bool.not_false, ne_eq]; omega) | (simp_all; done))) | refine KO.no2 rfl rfl rfl ?_
  first | (refine KO.on rfl rfl ?_ ?_; (focus first | rfl | assumption | (simp; done) | (simp only [decide_eq_true_eq, decide_eq_false_iff_not, Bool.not_eq_true, Bool.not_true, Bool.not_false, ne_eq]; omega) | (simp_all; done)); (refine KO.eqN rfl (by kernel_rfl) rfl ?_)) | (refine KO.no rfl rfl ?_ rfl ?_; (focus first | rfl | assumption | (simp; done) | (simp only [decide_eq_true_eq, decide_eq_false_iff_not, Bool.not_eq_true, Bool.not_true, Bool.not_false, ne_eq]; omega) | (simp_all; done))) | refine KO.no2 rfl rfl rfl ?_
  first | (refine KO.pickT rfl ?_ rfl rfl ?_; (focus first | rfl | assumption | (simp; done) | (simp only [decide_eq_true_eq, decide_eq_false_iff_not, Bool.not_eq_true, Bool.not_true, Bool.not_false, ne_eq]; omega) | (simp_all; done))) | (refine KO.pickF rfl ?_ rfl rfl ?_; (focus first | rfl | assumption | (simp; done) | (simp only [decide_eq_true_eq, decide_eq_false_iff_not, Bool.not_eq_true, Bool.not_true, Bool.not_false, ne_eq]; omega) | (simp_all; done)))
  refine KO.mv rfl rfl ?_
  first | (refine KO.on rfl rfl ?_ ?_; (focus first | rfl | assumption | (simp; done) | (simp only [decide_eq_true_eq, decide_eq_false_iff_not, Bool.not_eq_true, Bool.not_true, Bool.not_false, ne_eq]; omega) | (simp_all; done)); (first | refine KO.fo0 (off := 0) rfl Tryd.runUnderlying50 rfl rfl Tryd.sizeOf3 rfl ?_ | refine KO.fo (off := 0) rfl Tryd.runUnderlying50 rfl rfl Tryd.sizeOf3 rfl ?_ | refine KO.fldH (off := 0) rfl Tryd.runUnderlying50 rfl rfl Tryd.sizeOf3 rfl ?_)) | (refine KO.no rfl rfl ?_ rfl ?_; (focus first | rfl | assumption | (simp; done) | (simp only [decide_eq_true_eq, decide_eq_false_iff_not, Bool.not_eq_true, Bool.not_true, Bool.not_false, ne_eq]; omega) | (simp_all; done))) | refine KO.no2 rfl rfl rfl ?_
  first | (refine KO.on rfl rfl ?_ ?_; (focus first | rfl | assumption | (simp; done) | (simp only [decide_eq_true_eq, decide_eq_false_iff_not, Bool.not_eq_true, Bool.not_true, Bool.not_false, ne_eq]; omega) | (simp_all; done)); (first | refine KO.ld rfl rfl Tryd.isAgg3 (by with_reducible first | assumption | (repeat (first | exact Pick.head | apply Pick.tail))) (by exact rfl) rfl ?_ | refine KO.ldE rfl rfl Tryd.isAgg3 (by with_reducible first | assumption | (repeat (first | exact Pick.head | apply Pick.tail))) (fun _ => rfl) (by assumption) (by exact rfl) (by exact rfl) rfl ?_ | refine KO.ldE0 rfl rfl Tryd.isAgg3 (by with_reducible first | assumption | (repeat (first | exact Pick.head | apply Pick.tail))) (fun _ => rfl) (by assumption) (by exact rfl) (by exact rfl) rfl ?_ | refine KO.ldb hw rfl rfl Tryd.isAgg3 (by with_reducible first | assumption | (repeat (first | exact Pick.head | apply Pick.tail))) (by exact rfl) rfl ?_ | refine KO.ldEb hw rfl rfl Tryd.isAgg3 (by with_reducible first | assumption | (repeat (first | exact Pick.head | apply Pick.tail))) (fun _ => rfl) (by assumption) (by exact rfl) (by exact rfl) rfl ?_ | refine KO.ldE0b hw rfl rfl Tryd.isAgg3 (by with_reducible first | assumption | (repeat (first | exact Pick.head | apply Pick.tail))) (fun _ => rfl) (by assumption) (by exact rfl) (by exact rfl) rfl ?_ | refine KO.ld0 rfl rfl Tryd.isAgg3 (by assumption) rfl ?_)) | (refine KO.no rfl rfl ?_ rfl ?_; (focus first | rfl | assumption | (simp; done) | (simp only [decide_eq_true_eq, decide_eq_false_iff_not, Bool.not_eq_true, Bool.not_true, Bool.not_false, ne_eq]; omega) | (simp_all; done))) | refine KO.no2 rfl rfl rfl ?_
  first | (refine KO.on rfl rfl ?_ ?_; (focus first | rfl | assumption | (simp; done) | (simp only [decide_eq_true_eq, decide_eq_false_iff_not, Bool.not_eq_true, Bool.not_true, Bool.not_false, ne_eq]; omega) | (simp_all; done)); (refine KO.eqI rfl rfl rfl ?_)) | (refine KO.no rfl rfl ?_ rfl ?_; (focus first | rfl | assumption | (simp; done) | (simp only [decide_eq_true_eq, decide_eq_false_iff_not, Bool.not_eq_true, Bool.not_true, Bool.not_false, ne_eq]; omega) | (simp_all; done))) | refine KO.no2 rfl rfl rfl ?_
  first | (refine KO.pickT rfl ?_ rfl rfl ?_; (focus first | rfl | assumption | (simp; done) | (simp only [decide_eq_true_eq, decide_eq_false_iff_not, Bool.not_eq_true, Bool.not_true, Bool.not_false, ne_eq]; omega) | (simp_all; done))) | (refine KO.pickF rfl ?_ rfl rfl ?_; (focus first | rfl | assumption | (simp; done) | (simp only [decide_eq_true_eq, decide_eq_false_iff_not, Bool.not_eq_true, Bool.not_true, Bool.not_false, ne_eq]; omega) | (simp_all; done)))
  refine KO.mv rfl rfl ?_
  refine KO.on rfl rfl rfl ?_; refine KO.ce (cp := []) rfl rfl rfl Tryd.call16 rfl (many_e w _ _ b1 lq4 (by with_reducible first | assumption | (repeat (first | exact Pick.head | apply Pick.tail)))) ?_; rintro v L' ⟨rfl, rfl⟩; rw [lln4]
  first | (refine KO.on rfl rfl ?_ ?_; (focus first | rfl | assumption | (simp; done) | (simp only [decide_eq_true_eq, decide_eq_false_iff_not, Bool.not_eq_true, Bool.not_true, Bool.not_false, ne_eq]; omega) | (simp_all; done)); (refine KO.eqI rfl rfl rfl ?_)) | (refine KO.no rfl rfl ?_ rfl ?_; (focus first | rfl | assumption | (simp; done) | (simp only [decide_eq_true_eq, decide_eq_false_iff_not, Bool.not_eq_true, Bool.not_true, Bool.not_false, ne_eq]; omega) | (simp_all; done))) | refine KO.no2 rfl rfl rfl ?_
  first | (refine KO.pickT rfl ?_ rfl rfl ?_; (focus first | rfl | assumption | (simp; done) | (simp only [decide_eq_true_eq, decide_eq_false_iff_not, Bool.not_eq_true, Bool.not_true, Bool.not_false, ne_eq]; omega) | (simp_all; done))) | (refine KO.pickF rfl ?_ rfl rfl ?_; (focus first | rfl | assumption | (simp; done) | (simp only [decide_eq_true_eq, decide_eq_false_iff_not, Bool.not_eq_true, Bool.not_true, Bool.not_false, ne_eq]; omega) | (simp_all; done)))
  refine KO.mv rfl rfl ?_
  refine KO.on rfl rfl rfl ?_; refine KO.ce (cp := []) rfl rfl rfl Tryd.call21 rfl (there_e w _ _ b1 lq4 (by with_reducible first | assumption | (repeat (first | exact Pick.head | apply Pick.tail))) (by decide)) ?_; rintro v L' rfl; rw [lth4]; refine KO.fact (fun _ hs => SL_form hs) ?_; rintro ⟨a2, c2, rfl, -⟩
  first | (refine KO.on rfl rfl ?_ ?_; (focus first | rfl | assumption | (simp; done) | (simp only [decide_eq_true_eq, decide_eq_false_iff_not, Bool.not_eq_true, Bool.not_true, Bool.not_false, ne_eq]; omega) | (simp_all; done)); (refine KO.len rfl Tryd.underlying57 rfl ?_)) | (refine KO.no rfl rfl ?_ rfl ?_; (focus first | rfl | assumption | (simp; done) | (simp only [decide_eq_true_eq, decide_eq_false_iff_not, Bool.not_eq_true, Bool.not_true, Bool.not_false, ne_eq]; omega) | (simp_all; done))) | refine KO.no2 rfl rfl rfl ?_
  first | (refine KO.on rfl rfl ?_ ?_; (focus first | rfl | assumption | (simp; done) | (simp only [decide_eq_true_eq, decide_eq_false_iff_not, Bool.not_eq_true, Bool.not_true, Bool.not_false, ne_eq]; omega) | (simp_all; done)); (refine KO.eqI rfl rfl rfl ?_)) | (refine KO.no rfl rfl ?_ rfl ?_; (focus first | rfl | assumption | (simp; done) | (simp only [decide_eq_true_eq, decide_eq_false_iff_not, Bool.not_eq_true, Bool.not_true, Bool.not_false, ne_eq]; omega) | (simp_all; done))) | refine KO.no2 rfl rfl rfl ?_
  first | (refine KO.pickT rfl ?_ rfl rfl ?_; (focus first | rfl | assumption | (simp; done) | (simp only [decide_eq_true_eq, decide_eq_false_iff_not, Bool.not_eq_true, Bool.not_true, Bool.not_false, ne_eq]; omega) | (simp_all; done))) | (refine KO.pickF rfl ?_ rfl rfl ?_; (focus first | rfl | assumption | (simp; done) | (simp only [decide_eq_true_eq, decide_eq_false_iff_not, Bool.not_eq_true, Bool.not_true, Bool.not_false, ne_eq]; omega) | (simp_all; done)))
  refine KO.as rfl rfl ?_
  refine KO.nil ?_
  repeat (first | (with_reducible refine K.seq ?_) | (with_reducible refine KQ.next ?_) | (with_reducible refine KQ.then_ret ?_) | (with_reducible refine KQ.blk_ret ?_) | (with_reducible refine KQ.then_exit ?_) | (with_reducible refine KQ.blk_exit ?_) | (refine KQ.blk_pass rfl ?_) | (with_reducible refine KQ.blk_normal ?_) | (with_reducible refine K.ret ?_) | (with_reducible refine K.skip ?_) | (with_reducible refine K.exit ?_) | (with_reducible refine K.block ?_))
  refine KQ.ret1 rfl rfl (fun w' hs => ⟨_, _, rfl, ⟨rfl, rfl⟩, hw.below_step hs.below, hs.below⟩)
end Go.Proofs.YtjhogocabcdjbaaDoor
