/- waybilllaw.FrameWrites: for every frame the law returns true, and the frame's list reads as it did. No condition. -/
import Derived.Test.YtjhogocabcdjbaaDoorCards
import Derived.Test.YtjhogocabcdjbaaDoorTie
import Derived.Test.YtjhogocabcdjbaaDoorB2
set_option linter.unusedSimpArgs false
set_option linter.unusedVariables false
/- frames' text: the program's and the document's -/
namespace Go.Proofs.YtjhogocabcdjbaaDoor
open Go Go.RowKit WB
theorem strS_blk {w0 w : World} {L : List HP} {b k : Nat} {xs : List ByteArray} {vs : List Value} (h : St w0 (blk b (.cells vs.toArray 9 (0, 0)) :: L) w) (hvs : vs = xs.map Value.string) (hk : xs.length = k) (hle : k ≤ 1000) : St w0 (strS (.slice (some ⟨b, 0, none⟩) k k) xs :: L) w := by
  subst hk
  have hf : xs.flatMap strC = vs := by rw [hvs]; clear hvs h hle; induction xs with
    | nil => rfl
    | cons a l ih => rw [List.flatMap_cons, ih]; rfl
  refine h.osl_mk (Nat.le_refl _) (by unfold maxLen; omega) ?_ ?_
  · rw [hvs]; simp
  · rw [hf, hvs, Nat.mul_one]; exact List.take_of_length_le (by simp)
set_option maxRecDepth 100000 in
set_option maxHeartbeats 4000000 in
theorem fw_e (w0 : World) (L : List HP) (f : Fr) (v : Value) (xs : List Ms) (hr0 : ∀ w, St w0 L w → RdA w 5 msC v xs) (hT0 : Tab w0) (hsz : ∀ m ∈ xs, m.body.size ≤ maxLen ∧ m.queue.size ≤ maxLen) :
    KE Tryd.prog 37 #[.agg (frC f v).toArray] w0 L (fun u M => u = .tuple #[.string (fwT f xs), errV 37 (fwE f xs)] ∧ M = L) := by
  refine KE.mk (n := 62) Tryd.func37 rfl Tryd.ntmps37 (by simp) ?_
  intro w hw
  have hT := hT0.ext (Ext.of_below hw.below)
  have hr := hr0 w hw
  have hr1 := hr
  obtain ⟨sa, cap, rfl, hc⟩ := hr1
  have fin : ∀ (e : Int) (t : ByteArray) (w' : World) (M : List HP), e = fwE f xs → t = fwT f xs → St w M w' → ∃ v L', Ending.returned (.tuple #[.string t, errV 37 e]) = Ending.returned v ∧ (v = .tuple #[.string (fwT f xs), errV 37 (fwE f xs)] ∧ L' = L) ∧ St w0 L' w' ∧ Below w.heap.size w w' := fun e t w' M h1 h2 hs => ⟨_, _, rfl, ⟨by rw [h1, h2], rfl⟩, hw.below_step hs.below, hs.below⟩
  repeat ((with_reducible refine K.seq ?_))
  refine K.reg ?_
  refine KO.box rfl rfl (by exact rfl) rfl ?_; intro b1
  refine KO.as rfl rfl ?_
  refine KO.as rfl rfl ?_
  refine KO.nil ?_
  repeat (first | (with_reducible refine K.seq ?_) | (with_reducible refine KQ.next ?_))
  by_cases a1 : f.frm < 0
  · have hbad := fw_bad (f := f) (xs := xs) (fun h => by unfold okF at h; omega)
    refine K.reg ?_
    refine KO.fo0 (off := 0) rfl Tryd.runUnderlying72 rfl rfl Tryd.sizeOf3 rfl ?_
    refine KO.ld rfl rfl Tryd.isAgg3 (by with_reducible (repeat (exact Pick.head))) (by exact rfl) rfl ?_
    refine KO.lss rfl rfl rfl ?_
    refine KO.mv rfl rfl ?_
    (refine KO.no rfl rfl ?_ rfl ?_; (focus (simp only [decide_eq_true_eq, decide_eq_false_iff_not, Bool.not_eq_true, Bool.not_true, Bool.not_false, ne_eq]; omega)))
    (refine KO.no rfl rfl ?_ rfl ?_; (focus (simp only [decide_eq_true_eq, decide_eq_false_iff_not, Bool.not_eq_true, Bool.not_true, Bool.not_false, ne_eq]; omega)))
    (refine KO.no rfl rfl ?_ rfl ?_; (focus (simp only [decide_eq_true_eq, decide_eq_false_iff_not, Bool.not_eq_true, Bool.not_true, Bool.not_false, ne_eq]; omega)))
    (refine KO.pickT rfl ?_ rfl rfl ?_; (focus (simp only [decide_eq_true_eq, decide_eq_false_iff_not, Bool.not_eq_true, Bool.not_true, Bool.not_false, ne_eq]; omega)))
    refine KO.mv rfl rfl ?_
    (refine KO.no rfl rfl ?_ rfl ?_; (focus rfl))
    (refine KO.no rfl rfl ?_ rfl ?_; (focus rfl))
    (refine KO.no rfl rfl ?_ rfl ?_; (focus rfl))
    (refine KO.pickT rfl ?_ rfl rfl ?_; (focus rfl))
    refine KO.mv rfl rfl ?_
    (refine KO.no rfl rfl ?_ rfl ?_; (focus rfl))
    (refine KO.no rfl rfl ?_ rfl ?_; (focus rfl))
    (refine KO.no rfl rfl ?_ rfl ?_; (focus rfl))
    (refine KO.pickT rfl ?_ rfl rfl ?_; (focus rfl))
    refine KO.mv rfl rfl ?_
    (refine KO.no rfl rfl ?_ rfl ?_; (focus rfl))
    (refine KO.no rfl rfl ?_ rfl ?_; (focus rfl))
    (refine KO.no rfl rfl ?_ rfl ?_; (focus rfl))
    (refine KO.no rfl rfl ?_ rfl ?_; (focus rfl))
    (refine KO.no rfl rfl ?_ rfl ?_; (focus rfl))
    (refine KO.no rfl rfl ?_ rfl ?_; (focus rfl))
    (refine KO.no rfl rfl ?_ rfl ?_; (focus rfl))
    (refine KO.pickT rfl ?_ rfl rfl ?_; (focus rfl))
    refine KO.mv rfl rfl ?_
    (refine KO.no rfl rfl ?_ rfl ?_; (focus rfl))
    (refine KO.no rfl rfl ?_ rfl ?_; (focus rfl))
    (refine KO.no rfl rfl ?_ rfl ?_; (focus rfl))
    (refine KO.no rfl rfl ?_ rfl ?_; (focus rfl))
    (refine KO.pickT rfl ?_ rfl rfl ?_; (focus rfl))
    refine KO.nil ?_
    repeat ((with_reducible refine KQ.next ?_))
    refine K.condT rfl rfl ?_
    repeat ((with_reducible refine K.seq ?_))
    refine K.reg ?_
    refine KO.mki rfl (by kernel_rfl) rfl ?_
    refine KO.as rfl rfl ?_
    refine KO.as rfl rfl ?_
    refine KO.nil ?_
    repeat (first | (with_reducible refine KQ.next ?_) | (with_reducible refine KQ.then_ret ?_) | (with_reducible refine K.ret ?_))
    refine KQ.ret2 rfl rfl rfl (fun w' hs => fin 1 ⟨#[]⟩ w' _ hbad.1.symm hbad.2.symm hs)
  by_cases a2 : 4 ≤ f.frm
  · have hbad := fw_bad (f := f) (xs := xs) (fun h => by unfold okF at h; omega)
    refine K.reg ?_
    refine KO.fo0 (off := 0) rfl Tryd.runUnderlying72 rfl rfl Tryd.sizeOf3 rfl ?_
    refine KO.ld rfl rfl Tryd.isAgg3 (by with_reducible (repeat (exact Pick.head))) (by exact rfl) rfl ?_
    refine KO.lss rfl rfl rfl ?_
    refine KO.mv rfl rfl ?_
    (refine KO.on rfl rfl ?_ ?_; (focus (simp only [decide_eq_true_eq, decide_eq_false_iff_not, Bool.not_eq_true, Bool.not_true, Bool.not_false, ne_eq]; omega)); (refine KO.fo0 (off := 0) rfl Tryd.runUnderlying72 rfl rfl Tryd.sizeOf3 rfl ?_))
    (refine KO.on rfl rfl ?_ ?_; (focus (simp only [decide_eq_true_eq, decide_eq_false_iff_not, Bool.not_eq_true, Bool.not_true, Bool.not_false, ne_eq]; omega)); (refine KO.ld rfl rfl Tryd.isAgg3 (by with_reducible (repeat (exact Pick.head))) (by exact rfl) rfl ?_))
    (refine KO.on rfl rfl ?_ ?_; (focus (simp only [decide_eq_true_eq, decide_eq_false_iff_not, Bool.not_eq_true, Bool.not_true, Bool.not_false, ne_eq]; omega)); (refine KO.geq rfl rfl rfl ?_))
    (refine KO.pickF rfl ?_ rfl rfl ?_; (focus (simp only [decide_eq_true_eq, decide_eq_false_iff_not, Bool.not_eq_true, Bool.not_true, Bool.not_false, ne_eq]; omega)))
    refine KO.mv rfl rfl ?_
    (refine KO.no rfl rfl ?_ rfl ?_; (focus (simp only [decide_eq_true_eq, decide_eq_false_iff_not, Bool.not_eq_true, Bool.not_true, Bool.not_false, ne_eq]; omega)))
    (refine KO.no rfl rfl ?_ rfl ?_; (focus (simp only [decide_eq_true_eq, decide_eq_false_iff_not, Bool.not_eq_true, Bool.not_true, Bool.not_false, ne_eq]; omega)))
    (refine KO.no rfl rfl ?_ rfl ?_; (focus (simp only [decide_eq_true_eq, decide_eq_false_iff_not, Bool.not_eq_true, Bool.not_true, Bool.not_false, ne_eq]; omega)))
    (refine KO.pickT rfl ?_ rfl rfl ?_; (focus (simp only [decide_eq_true_eq, decide_eq_false_iff_not, Bool.not_eq_true, Bool.not_true, Bool.not_false, ne_eq]; omega)))
    refine KO.mv rfl rfl ?_
    (refine KO.no rfl rfl ?_ rfl ?_; (focus rfl))
    (refine KO.no rfl rfl ?_ rfl ?_; (focus rfl))
    (refine KO.no rfl rfl ?_ rfl ?_; (focus rfl))
    (refine KO.pickT rfl ?_ rfl rfl ?_; (focus rfl))
    refine KO.mv rfl rfl ?_
    (refine KO.no rfl rfl ?_ rfl ?_; (focus rfl))
    (refine KO.no rfl rfl ?_ rfl ?_; (focus rfl))
    (refine KO.no rfl rfl ?_ rfl ?_; (focus rfl))
    (refine KO.no rfl rfl ?_ rfl ?_; (focus rfl))
    (refine KO.no rfl rfl ?_ rfl ?_; (focus rfl))
    (refine KO.no rfl rfl ?_ rfl ?_; (focus rfl))
    (refine KO.no rfl rfl ?_ rfl ?_; (focus rfl))
    (refine KO.pickT rfl ?_ rfl rfl ?_; (focus rfl))
    refine KO.mv rfl rfl ?_
    (refine KO.no rfl rfl ?_ rfl ?_; (focus rfl))
    (refine KO.no rfl rfl ?_ rfl ?_; (focus rfl))
    (refine KO.no rfl rfl ?_ rfl ?_; (focus rfl))
    (refine KO.no rfl rfl ?_ rfl ?_; (focus rfl))
    (refine KO.pickT rfl ?_ rfl rfl ?_; (focus rfl))
    refine KO.nil ?_
    repeat ((with_reducible refine KQ.next ?_))
    refine K.condT rfl (by simp [a2]) ?_
    repeat ((with_reducible refine K.seq ?_))
    refine K.reg ?_
    refine KO.mki rfl (by kernel_rfl) rfl ?_
    refine KO.as rfl rfl ?_
    refine KO.as rfl rfl ?_
    refine KO.nil ?_
    repeat (first | (with_reducible refine KQ.next ?_) | (with_reducible refine KQ.then_ret ?_) | (with_reducible refine K.ret ?_))
    refine KQ.ret2 rfl rfl rfl (fun w' hs => fin 1 ⟨#[]⟩ w' _ hbad.1.symm hbad.2.symm hs)
  by_cases a3 : f.num < 0
  · have hbad := fw_bad (f := f) (xs := xs) (fun h => by unfold okF at h; omega)
    refine K.reg ?_
    refine KO.fo0 (off := 0) rfl Tryd.runUnderlying72 rfl rfl Tryd.sizeOf3 rfl ?_
    refine KO.ld rfl rfl Tryd.isAgg3 (by with_reducible (repeat (exact Pick.head))) (by exact rfl) rfl ?_
    refine KO.lss rfl rfl rfl ?_
    refine KO.mv rfl rfl ?_
    (refine KO.on rfl rfl ?_ ?_; (focus (simp only [decide_eq_true_eq, decide_eq_false_iff_not, Bool.not_eq_true, Bool.not_true, Bool.not_false, ne_eq]; omega)); (refine KO.fo0 (off := 0) rfl Tryd.runUnderlying72 rfl rfl Tryd.sizeOf3 rfl ?_))
    (refine KO.on rfl rfl ?_ ?_; (focus (simp only [decide_eq_true_eq, decide_eq_false_iff_not, Bool.not_eq_true, Bool.not_true, Bool.not_false, ne_eq]; omega)); (refine KO.ld rfl rfl Tryd.isAgg3 (by with_reducible (repeat (exact Pick.head))) (by exact rfl) rfl ?_))
    (refine KO.on rfl rfl ?_ ?_; (focus (simp only [decide_eq_true_eq, decide_eq_false_iff_not, Bool.not_eq_true, Bool.not_true, Bool.not_false, ne_eq]; omega)); (refine KO.geq rfl rfl rfl ?_))
    (refine KO.pickF rfl ?_ rfl rfl ?_; (focus (simp only [decide_eq_true_eq, decide_eq_false_iff_not, Bool.not_eq_true, Bool.not_true, Bool.not_false, ne_eq]; omega)))
    refine KO.mv rfl rfl ?_
    (refine KO.on rfl rfl ?_ ?_; (focus (simp only [decide_eq_true_eq, decide_eq_false_iff_not, Bool.not_eq_true, Bool.not_true, Bool.not_false, ne_eq]; omega)); (refine KO.fo0 (off := 1) rfl Tryd.runUnderlying72 rfl rfl Tryd.sizeOf3 rfl ?_))
    (refine KO.on rfl rfl ?_ ?_; (focus (simp only [decide_eq_true_eq, decide_eq_false_iff_not, Bool.not_eq_true, Bool.not_true, Bool.not_false, ne_eq]; omega)); (refine KO.ld rfl rfl Tryd.isAgg3 (by with_reducible (repeat (exact Pick.head))) (by exact rfl) rfl ?_))
    (refine KO.on rfl rfl ?_ ?_; (focus (simp only [decide_eq_true_eq, decide_eq_false_iff_not, Bool.not_eq_true, Bool.not_true, Bool.not_false, ne_eq]; omega)); (refine KO.lss rfl rfl rfl ?_))
    (refine KO.pickF rfl ?_ rfl rfl ?_; (focus (simp only [decide_eq_true_eq, decide_eq_false_iff_not, Bool.not_eq_true, Bool.not_true, Bool.not_false, ne_eq]; omega)))
    refine KO.mv rfl rfl ?_
    (refine KO.no rfl rfl ?_ rfl ?_; (focus (simp only [decide_eq_true_eq, decide_eq_false_iff_not, Bool.not_eq_true, Bool.not_true, Bool.not_false, ne_eq]; omega)))
    (refine KO.no rfl rfl ?_ rfl ?_; (focus (simp only [decide_eq_true_eq, decide_eq_false_iff_not, Bool.not_eq_true, Bool.not_true, Bool.not_false, ne_eq]; omega)))
    (refine KO.no rfl rfl ?_ rfl ?_; (focus (simp only [decide_eq_true_eq, decide_eq_false_iff_not, Bool.not_eq_true, Bool.not_true, Bool.not_false, ne_eq]; omega)))
    (refine KO.pickT rfl ?_ rfl rfl ?_; (focus (simp only [decide_eq_true_eq, decide_eq_false_iff_not, Bool.not_eq_true, Bool.not_true, Bool.not_false, ne_eq]; omega)))
    refine KO.mv rfl rfl ?_
    (refine KO.no rfl rfl ?_ rfl ?_; (focus rfl))
    (refine KO.no rfl rfl ?_ rfl ?_; (focus rfl))
    (refine KO.no rfl rfl ?_ rfl ?_; (focus rfl))
    (refine KO.no rfl rfl ?_ rfl ?_; (focus rfl))
    (refine KO.no rfl rfl ?_ rfl ?_; (focus rfl))
    (refine KO.no rfl rfl ?_ rfl ?_; (focus rfl))
    (refine KO.no rfl rfl ?_ rfl ?_; (focus rfl))
    (refine KO.pickT rfl ?_ rfl rfl ?_; (focus rfl))
    refine KO.mv rfl rfl ?_
    (refine KO.no rfl rfl ?_ rfl ?_; (focus rfl))
    (refine KO.no rfl rfl ?_ rfl ?_; (focus rfl))
    (refine KO.no rfl rfl ?_ rfl ?_; (focus rfl))
    (refine KO.no rfl rfl ?_ rfl ?_; (focus rfl))
    (refine KO.pickT rfl ?_ rfl rfl ?_; (focus rfl))
    refine KO.nil ?_
    repeat ((with_reducible refine KQ.next ?_))
    refine K.condT rfl (by simp [a3]) ?_
    repeat ((with_reducible refine K.seq ?_))
    refine K.reg ?_
    refine KO.mki rfl (by kernel_rfl) rfl ?_
    refine KO.as rfl rfl ?_
    refine KO.as rfl rfl ?_
    refine KO.nil ?_
    repeat (first | (with_reducible refine KQ.next ?_) | (with_reducible refine KQ.then_ret ?_) | (with_reducible refine K.ret ?_))
    refine KQ.ret2 rfl rfl rfl (fun w' hs => fin 1 ⟨#[]⟩ w' _ hbad.1.symm hbad.2.symm hs)
  by_cases a4 : 1099511627776 < f.num
  · have hbad := fw_bad (f := f) (xs := xs) (fun h => by unfold okF at h; omega)
    refine K.reg ?_
    refine KO.fo0 (off := 0) rfl Tryd.runUnderlying72 rfl rfl Tryd.sizeOf3 rfl ?_
    refine KO.ld rfl rfl Tryd.isAgg3 (by with_reducible (repeat (exact Pick.head))) (by exact rfl) rfl ?_
    refine KO.lss rfl rfl rfl ?_
    refine KO.mv rfl rfl ?_
    (refine KO.on rfl rfl ?_ ?_; (focus (simp only [decide_eq_true_eq, decide_eq_false_iff_not, Bool.not_eq_true, Bool.not_true, Bool.not_false, ne_eq]; omega)); (refine KO.fo0 (off := 0) rfl Tryd.runUnderlying72 rfl rfl Tryd.sizeOf3 rfl ?_))
    (refine KO.on rfl rfl ?_ ?_; (focus (simp only [decide_eq_true_eq, decide_eq_false_iff_not, Bool.not_eq_true, Bool.not_true, Bool.not_false, ne_eq]; omega)); (refine KO.ld rfl rfl Tryd.isAgg3 (by with_reducible (repeat (exact Pick.head))) (by exact rfl) rfl ?_))
    (refine KO.on rfl rfl ?_ ?_; (focus (simp only [decide_eq_true_eq, decide_eq_false_iff_not, Bool.not_eq_true, Bool.not_true, Bool.not_false, ne_eq]; omega)); (refine KO.geq rfl rfl rfl ?_))
    (refine KO.pickF rfl ?_ rfl rfl ?_; (focus (simp only [decide_eq_true_eq, decide_eq_false_iff_not, Bool.not_eq_true, Bool.not_true, Bool.not_false, ne_eq]; omega)))
    refine KO.mv rfl rfl ?_
    (refine KO.on rfl rfl ?_ ?_; (focus (simp only [decide_eq_true_eq, decide_eq_false_iff_not, Bool.not_eq_true, Bool.not_true, Bool.not_false, ne_eq]; omega)); (refine KO.fo0 (off := 1) rfl Tryd.runUnderlying72 rfl rfl Tryd.sizeOf3 rfl ?_))
    (refine KO.on rfl rfl ?_ ?_; (focus (simp only [decide_eq_true_eq, decide_eq_false_iff_not, Bool.not_eq_true, Bool.not_true, Bool.not_false, ne_eq]; omega)); (refine KO.ld rfl rfl Tryd.isAgg3 (by with_reducible (repeat (exact Pick.head))) (by exact rfl) rfl ?_))
    (refine KO.on rfl rfl ?_ ?_; (focus (simp only [decide_eq_true_eq, decide_eq_false_iff_not, Bool.not_eq_true, Bool.not_true, Bool.not_false, ne_eq]; omega)); (refine KO.lss rfl rfl rfl ?_))
    (refine KO.pickF rfl ?_ rfl rfl ?_; (focus (simp only [decide_eq_true_eq, decide_eq_false_iff_not, Bool.not_eq_true, Bool.not_true, Bool.not_false, ne_eq]; omega)))
    refine KO.mv rfl rfl ?_
    (refine KO.on rfl rfl ?_ ?_; (focus (simp only [decide_eq_true_eq, decide_eq_false_iff_not, Bool.not_eq_true, Bool.not_true, Bool.not_false, ne_eq]; omega)); (refine KO.fo0 (off := 1) rfl Tryd.runUnderlying72 rfl rfl Tryd.sizeOf3 rfl ?_))
    (refine KO.on rfl rfl ?_ ?_; (focus (simp only [decide_eq_true_eq, decide_eq_false_iff_not, Bool.not_eq_true, Bool.not_true, Bool.not_false, ne_eq]; omega)); (refine KO.ld rfl rfl Tryd.isAgg3 (by with_reducible (repeat (exact Pick.head))) (by exact rfl) rfl ?_))
    (refine KO.on rfl rfl ?_ ?_; (focus (simp only [decide_eq_true_eq, decide_eq_false_iff_not, Bool.not_eq_true, Bool.not_true, Bool.not_false, ne_eq]; omega)); (refine KO.gtr rfl rfl rfl ?_))
    (refine KO.pickF rfl ?_ rfl rfl ?_; (focus (simp only [decide_eq_true_eq, decide_eq_false_iff_not, Bool.not_eq_true, Bool.not_true, Bool.not_false, ne_eq]; omega)))
    refine KO.mv rfl rfl ?_
    (refine KO.no rfl rfl ?_ rfl ?_; (focus (simp only [decide_eq_true_eq, decide_eq_false_iff_not, Bool.not_eq_true, Bool.not_true, Bool.not_false, ne_eq]; omega)))
    (refine KO.no rfl rfl ?_ rfl ?_; (focus (simp only [decide_eq_true_eq, decide_eq_false_iff_not, Bool.not_eq_true, Bool.not_true, Bool.not_false, ne_eq]; omega)))
    (refine KO.no rfl rfl ?_ rfl ?_; (focus (simp only [decide_eq_true_eq, decide_eq_false_iff_not, Bool.not_eq_true, Bool.not_true, Bool.not_false, ne_eq]; omega)))
    (refine KO.no rfl rfl ?_ rfl ?_; (focus (simp only [decide_eq_true_eq, decide_eq_false_iff_not, Bool.not_eq_true, Bool.not_true, Bool.not_false, ne_eq]; omega)))
    (refine KO.no rfl rfl ?_ rfl ?_; (focus (simp only [decide_eq_true_eq, decide_eq_false_iff_not, Bool.not_eq_true, Bool.not_true, Bool.not_false, ne_eq]; omega)))
    (refine KO.no rfl rfl ?_ rfl ?_; (focus (simp only [decide_eq_true_eq, decide_eq_false_iff_not, Bool.not_eq_true, Bool.not_true, Bool.not_false, ne_eq]; omega)))
    (refine KO.no rfl rfl ?_ rfl ?_; (focus (simp only [decide_eq_true_eq, decide_eq_false_iff_not, Bool.not_eq_true, Bool.not_true, Bool.not_false, ne_eq]; omega)))
    (refine KO.pickT rfl ?_ rfl rfl ?_; (focus (simp only [decide_eq_true_eq, decide_eq_false_iff_not, Bool.not_eq_true, Bool.not_true, Bool.not_false, ne_eq]; omega)))
    refine KO.mv rfl rfl ?_
    (refine KO.no rfl rfl ?_ rfl ?_; (focus rfl))
    (refine KO.no rfl rfl ?_ rfl ?_; (focus rfl))
    (refine KO.no rfl rfl ?_ rfl ?_; (focus rfl))
    (refine KO.no rfl rfl ?_ rfl ?_; (focus rfl))
    (refine KO.pickT rfl ?_ rfl rfl ?_; (focus rfl))
    refine KO.nil ?_
    repeat ((with_reducible refine KQ.next ?_))
    refine K.condT rfl (by simp [a4]) ?_
    repeat ((with_reducible refine K.seq ?_))
    refine K.reg ?_
    refine KO.mki rfl (by kernel_rfl) rfl ?_
    refine KO.as rfl rfl ?_
    refine KO.as rfl rfl ?_
    refine KO.nil ?_
    repeat (first | (with_reducible refine KQ.next ?_) | (with_reducible refine KQ.then_ret ?_) | (with_reducible refine K.ret ?_))
    refine KQ.ret2 rfl rfl rfl (fun w' hs => fin 1 ⟨#[]⟩ w' _ hbad.1.symm hbad.2.symm hs)
  have hz : decide ((xs.length : Int) = 0) = decide (xs.length = 0) := decide_eq_decide.2 (by omega)
  by_cases a5 : f.ack = decide ((xs.length : Int) = 0)
  case neg =>
    have hbad := fw_bad (f := f) (xs := xs) (fun h => by unfold okF at h; rw [hz] at a5; exact a5 h.2.2.2.2.1)
    have a6 : (f.ack != decide ((xs.length : Int) = 0)) = true := by simpa using a5
    refine K.reg ?_
    refine KO.fo0 (off := 0) rfl Tryd.runUnderlying72 rfl rfl Tryd.sizeOf3 rfl ?_
    refine KO.ld rfl rfl Tryd.isAgg3 (by with_reducible (repeat (exact Pick.head))) (by exact rfl) rfl ?_
    refine KO.lss rfl rfl rfl ?_
    refine KO.mv rfl rfl ?_
    (refine KO.on rfl rfl ?_ ?_; (focus (simp only [decide_eq_true_eq, decide_eq_false_iff_not, Bool.not_eq_true, Bool.not_true, Bool.not_false, ne_eq]; omega)); (refine KO.fo0 (off := 0) rfl Tryd.runUnderlying72 rfl rfl Tryd.sizeOf3 rfl ?_))
    (refine KO.on rfl rfl ?_ ?_; (focus (simp only [decide_eq_true_eq, decide_eq_false_iff_not, Bool.not_eq_true, Bool.not_true, Bool.not_false, ne_eq]; omega)); (refine KO.ld rfl rfl Tryd.isAgg3 (by with_reducible (repeat (exact Pick.head))) (by exact rfl) rfl ?_))
    (refine KO.on rfl rfl ?_ ?_; (focus (simp only [decide_eq_true_eq, decide_eq_false_iff_not, Bool.not_eq_true, Bool.not_true, Bool.not_false, ne_eq]; omega)); (refine KO.geq rfl rfl rfl ?_))
    (refine KO.pickF rfl ?_ rfl rfl ?_; (focus (simp only [decide_eq_true_eq, decide_eq_false_iff_not, Bool.not_eq_true, Bool.not_true, Bool.not_false, ne_eq]; omega)))
    refine KO.mv rfl rfl ?_
    (refine KO.on rfl rfl ?_ ?_; (focus (simp only [decide_eq_true_eq, decide_eq_false_iff_not, Bool.not_eq_true, Bool.not_true, Bool.not_false, ne_eq]; omega)); (refine KO.fo0 (off := 1) rfl Tryd.runUnderlying72 rfl rfl Tryd.sizeOf3 rfl ?_))
    (refine KO.on rfl rfl ?_ ?_; (focus (simp only [decide_eq_true_eq, decide_eq_false_iff_not, Bool.not_eq_true, Bool.not_true, Bool.not_false, ne_eq]; omega)); (refine KO.ld rfl rfl Tryd.isAgg3 (by with_reducible (repeat (exact Pick.head))) (by exact rfl) rfl ?_))
    (refine KO.on rfl rfl ?_ ?_; (focus (simp only [decide_eq_true_eq, decide_eq_false_iff_not, Bool.not_eq_true, Bool.not_true, Bool.not_false, ne_eq]; omega)); (refine KO.lss rfl rfl rfl ?_))
    (refine KO.pickF rfl ?_ rfl rfl ?_; (focus (simp only [decide_eq_true_eq, decide_eq_false_iff_not, Bool.not_eq_true, Bool.not_true, Bool.not_false, ne_eq]; omega)))
    refine KO.mv rfl rfl ?_
    (refine KO.on rfl rfl ?_ ?_; (focus (simp only [decide_eq_true_eq, decide_eq_false_iff_not, Bool.not_eq_true, Bool.not_true, Bool.not_false, ne_eq]; omega)); (refine KO.fo0 (off := 1) rfl Tryd.runUnderlying72 rfl rfl Tryd.sizeOf3 rfl ?_))
    (refine KO.on rfl rfl ?_ ?_; (focus (simp only [decide_eq_true_eq, decide_eq_false_iff_not, Bool.not_eq_true, Bool.not_true, Bool.not_false, ne_eq]; omega)); (refine KO.ld rfl rfl Tryd.isAgg3 (by with_reducible (repeat (exact Pick.head))) (by exact rfl) rfl ?_))
    (refine KO.on rfl rfl ?_ ?_; (focus (simp only [decide_eq_true_eq, decide_eq_false_iff_not, Bool.not_eq_true, Bool.not_true, Bool.not_false, ne_eq]; omega)); (refine KO.gtr rfl rfl rfl ?_))
    (refine KO.pickF rfl ?_ rfl rfl ?_; (focus (simp only [decide_eq_true_eq, decide_eq_false_iff_not, Bool.not_eq_true, Bool.not_true, Bool.not_false, ne_eq]; omega)))
    refine KO.mv rfl rfl ?_
    (refine KO.on rfl rfl ?_ ?_; (focus (simp only [decide_eq_true_eq, decide_eq_false_iff_not, Bool.not_eq_true, Bool.not_true, Bool.not_false, ne_eq]; omega)); (refine KO.fo0 (off := 2) rfl Tryd.runUnderlying72 rfl rfl Tryd.sizeOf4 rfl ?_))
    (refine KO.on rfl rfl ?_ ?_; (focus (simp only [decide_eq_true_eq, decide_eq_false_iff_not, Bool.not_eq_true, Bool.not_true, Bool.not_false, ne_eq]; omega)); (refine KO.ld rfl rfl Tryd.isAgg4 (by with_reducible (repeat (exact Pick.head))) (by exact rfl) rfl ?_))
    (refine KO.on rfl rfl ?_ ?_; (focus (simp only [decide_eq_true_eq, decide_eq_false_iff_not, Bool.not_eq_true, Bool.not_true, Bool.not_false, ne_eq]; omega)); (refine KO.fo0 (off := 3) rfl Tryd.runUnderlying72 rfl rfl Tryd.sizeOf57 rfl ?_))
    (refine KO.on rfl rfl ?_ ?_; (focus (simp only [decide_eq_true_eq, decide_eq_false_iff_not, Bool.not_eq_true, Bool.not_true, Bool.not_false, ne_eq]; omega)); (refine KO.ld rfl rfl Tryd.isAgg57 (by with_reducible (repeat (exact Pick.head))) (by exact rfl) rfl ?_))
    (refine KO.on rfl rfl ?_ ?_; (focus (simp only [decide_eq_true_eq, decide_eq_false_iff_not, Bool.not_eq_true, Bool.not_true, Bool.not_false, ne_eq]; omega)); (refine KO.len rfl Tryd.underlying57 rfl ?_))
    (refine KO.on rfl rfl ?_ ?_; (focus (simp only [decide_eq_true_eq, decide_eq_false_iff_not, Bool.not_eq_true, Bool.not_true, Bool.not_false, ne_eq]; omega)); (refine KO.eqI rfl rfl rfl ?_))
    (refine KO.on rfl rfl ?_ ?_; (focus (simp only [decide_eq_true_eq, decide_eq_false_iff_not, Bool.not_eq_true, Bool.not_true, Bool.not_false, ne_eq]; omega)); (refine KO.neB rfl rfl Tryd.underlying4 rfl ?_))
    (refine KO.pickF rfl ?_ rfl rfl ?_; (focus (simp only [decide_eq_true_eq, decide_eq_false_iff_not, Bool.not_eq_true, Bool.not_true, Bool.not_false, ne_eq]; omega)))
    refine KO.mv rfl rfl ?_
    (refine KO.no rfl rfl ?_ rfl ?_; (focus assumption))
    (refine KO.no rfl rfl ?_ rfl ?_; (focus assumption))
    (refine KO.no rfl rfl ?_ rfl ?_; (focus assumption))
    (refine KO.no rfl rfl ?_ rfl ?_; (focus assumption))
    (refine KO.pickT rfl ?_ rfl rfl ?_; (focus assumption))
    refine KO.nil ?_
    repeat ((with_reducible refine KQ.next ?_))
    refine K.condT rfl (by simp [a6]) ?_
    repeat ((with_reducible refine K.seq ?_))
    refine K.reg ?_
    refine KO.mki rfl (by kernel_rfl) rfl ?_
    refine KO.as rfl rfl ?_
    refine KO.as rfl rfl ?_
    refine KO.nil ?_
    repeat (first | (with_reducible refine KQ.next ?_) | (with_reducible refine KQ.then_ret ?_) | (with_reducible refine K.ret ?_))
    refine KQ.ret2 rfl rfl rfl (fun w' hs => fin 1 ⟨#[]⟩ w' _ hbad.1.symm hbad.2.symm hs)
  have a6 : (f.ack != decide ((xs.length : Int) = 0)) = false := by simpa using a5
  by_cases a7 : 3 < (xs.length : Int)
  · have hbad := fw_bad (f := f) (xs := xs) (fun h => by unfold okF at h; omega)
    refine K.reg ?_
    refine KO.fo0 (off := 0) rfl Tryd.runUnderlying72 rfl rfl Tryd.sizeOf3 rfl ?_
    refine KO.ld rfl rfl Tryd.isAgg3 (by with_reducible (repeat (exact Pick.head))) (by exact rfl) rfl ?_
    refine KO.lss rfl rfl rfl ?_
    refine KO.mv rfl rfl ?_
    (refine KO.on rfl rfl ?_ ?_; (focus (simp only [decide_eq_true_eq, decide_eq_false_iff_not, Bool.not_eq_true, Bool.not_true, Bool.not_false, ne_eq]; omega)); (refine KO.fo0 (off := 0) rfl Tryd.runUnderlying72 rfl rfl Tryd.sizeOf3 rfl ?_))
    (refine KO.on rfl rfl ?_ ?_; (focus (simp only [decide_eq_true_eq, decide_eq_false_iff_not, Bool.not_eq_true, Bool.not_true, Bool.not_false, ne_eq]; omega)); (refine KO.ld rfl rfl Tryd.isAgg3 (by with_reducible (repeat (exact Pick.head))) (by exact rfl) rfl ?_))
    (refine KO.on rfl rfl ?_ ?_; (focus (simp only [decide_eq_true_eq, decide_eq_false_iff_not, Bool.not_eq_true, Bool.not_true, Bool.not_false, ne_eq]; omega)); (refine KO.geq rfl rfl rfl ?_))
    (refine KO.pickF rfl ?_ rfl rfl ?_; (focus (simp only [decide_eq_true_eq, decide_eq_false_iff_not, Bool.not_eq_true, Bool.not_true, Bool.not_false, ne_eq]; omega)))
    refine KO.mv rfl rfl ?_
    (refine KO.on rfl rfl ?_ ?_; (focus (simp only [decide_eq_true_eq, decide_eq_false_iff_not, Bool.not_eq_true, Bool.not_true, Bool.not_false, ne_eq]; omega)); (refine KO.fo0 (off := 1) rfl Tryd.runUnderlying72 rfl rfl Tryd.sizeOf3 rfl ?_))
    (refine KO.on rfl rfl ?_ ?_; (focus (simp only [decide_eq_true_eq, decide_eq_false_iff_not, Bool.not_eq_true, Bool.not_true, Bool.not_false, ne_eq]; omega)); (refine KO.ld rfl rfl Tryd.isAgg3 (by with_reducible (repeat (exact Pick.head))) (by exact rfl) rfl ?_))
    (refine KO.on rfl rfl ?_ ?_; (focus (simp only [decide_eq_true_eq, decide_eq_false_iff_not, Bool.not_eq_true, Bool.not_true, Bool.not_false, ne_eq]; omega)); (refine KO.lss rfl rfl rfl ?_))
    (refine KO.pickF rfl ?_ rfl rfl ?_; (focus (simp only [decide_eq_true_eq, decide_eq_false_iff_not, Bool.not_eq_true, Bool.not_true, Bool.not_false, ne_eq]; omega)))
    refine KO.mv rfl rfl ?_
    (refine KO.on rfl rfl ?_ ?_; (focus (simp only [decide_eq_true_eq, decide_eq_false_iff_not, Bool.not_eq_true, Bool.not_true, Bool.not_false, ne_eq]; omega)); (refine KO.fo0 (off := 1) rfl Tryd.runUnderlying72 rfl rfl Tryd.sizeOf3 rfl ?_))
    (refine KO.on rfl rfl ?_ ?_; (focus (simp only [decide_eq_true_eq, decide_eq_false_iff_not, Bool.not_eq_true, Bool.not_true, Bool.not_false, ne_eq]; omega)); (refine KO.ld rfl rfl Tryd.isAgg3 (by with_reducible (repeat (exact Pick.head))) (by exact rfl) rfl ?_))
    (refine KO.on rfl rfl ?_ ?_; (focus (simp only [decide_eq_true_eq, decide_eq_false_iff_not, Bool.not_eq_true, Bool.not_true, Bool.not_false, ne_eq]; omega)); (refine KO.gtr rfl rfl rfl ?_))
    (refine KO.pickF rfl ?_ rfl rfl ?_; (focus (simp only [decide_eq_true_eq, decide_eq_false_iff_not, Bool.not_eq_true, Bool.not_true, Bool.not_false, ne_eq]; omega)))
    refine KO.mv rfl rfl ?_
    (refine KO.on rfl rfl ?_ ?_; (focus (simp only [decide_eq_true_eq, decide_eq_false_iff_not, Bool.not_eq_true, Bool.not_true, Bool.not_false, ne_eq]; omega)); (refine KO.fo0 (off := 2) rfl Tryd.runUnderlying72 rfl rfl Tryd.sizeOf4 rfl ?_))
    (refine KO.on rfl rfl ?_ ?_; (focus (simp only [decide_eq_true_eq, decide_eq_false_iff_not, Bool.not_eq_true, Bool.not_true, Bool.not_false, ne_eq]; omega)); (refine KO.ld rfl rfl Tryd.isAgg4 (by with_reducible (repeat (exact Pick.head))) (by exact rfl) rfl ?_))
    (refine KO.on rfl rfl ?_ ?_; (focus (simp only [decide_eq_true_eq, decide_eq_false_iff_not, Bool.not_eq_true, Bool.not_true, Bool.not_false, ne_eq]; omega)); (refine KO.fo0 (off := 3) rfl Tryd.runUnderlying72 rfl rfl Tryd.sizeOf57 rfl ?_))
    (refine KO.on rfl rfl ?_ ?_; (focus (simp only [decide_eq_true_eq, decide_eq_false_iff_not, Bool.not_eq_true, Bool.not_true, Bool.not_false, ne_eq]; omega)); (refine KO.ld rfl rfl Tryd.isAgg57 (by with_reducible (repeat (exact Pick.head))) (by exact rfl) rfl ?_))
    (refine KO.on rfl rfl ?_ ?_; (focus (simp only [decide_eq_true_eq, decide_eq_false_iff_not, Bool.not_eq_true, Bool.not_true, Bool.not_false, ne_eq]; omega)); (refine KO.len rfl Tryd.underlying57 rfl ?_))
    (refine KO.on rfl rfl ?_ ?_; (focus (simp only [decide_eq_true_eq, decide_eq_false_iff_not, Bool.not_eq_true, Bool.not_true, Bool.not_false, ne_eq]; omega)); (refine KO.eqI rfl rfl rfl ?_))
    (refine KO.on rfl rfl ?_ ?_; (focus (simp only [decide_eq_true_eq, decide_eq_false_iff_not, Bool.not_eq_true, Bool.not_true, Bool.not_false, ne_eq]; omega)); (refine KO.neB rfl rfl Tryd.underlying4 rfl ?_))
    (refine KO.pickF rfl ?_ rfl rfl ?_; (focus (simp only [decide_eq_true_eq, decide_eq_false_iff_not, Bool.not_eq_true, Bool.not_true, Bool.not_false, ne_eq]; omega)))
    refine KO.mv rfl rfl ?_
    (refine KO.on rfl rfl ?_ ?_; (focus assumption); (refine KO.fo0 (off := 3) rfl Tryd.runUnderlying72 rfl rfl Tryd.sizeOf57 rfl ?_))
    (refine KO.on rfl rfl ?_ ?_; (focus assumption); (refine KO.ld rfl rfl Tryd.isAgg57 (by with_reducible (repeat (exact Pick.head))) (by exact rfl) rfl ?_))
    (refine KO.on rfl rfl ?_ ?_; (focus assumption); (refine KO.len rfl Tryd.underlying57 rfl ?_))
    (refine KO.on rfl rfl ?_ ?_; (focus assumption); (refine KO.gtr rfl rfl rfl ?_))
    (refine KO.pickF rfl ?_ rfl rfl ?_; (focus assumption))
    refine KO.nil ?_
    repeat ((with_reducible refine KQ.next ?_))
    refine K.condT rfl (by simp [a7]) ?_
    repeat ((with_reducible refine K.seq ?_))
    refine K.reg ?_
    refine KO.mki rfl (by kernel_rfl) rfl ?_
    refine KO.as rfl rfl ?_
    refine KO.as rfl rfl ?_
    refine KO.nil ?_
    repeat (first | (with_reducible refine KQ.next ?_) | (with_reducible refine KQ.then_ret ?_) | (with_reducible refine K.ret ?_))
    refine KQ.ret2 rfl rfl rfl (fun w' hs => fin 1 ⟨#[]⟩ w' _ hbad.1.symm hbad.2.symm hs)
  refine K.reg ?_
  refine KO.fo0 (off := 0) rfl Tryd.runUnderlying72 rfl rfl Tryd.sizeOf3 rfl ?_
  refine KO.ld rfl rfl Tryd.isAgg3 (by with_reducible (repeat (exact Pick.head))) (by exact rfl) rfl ?_
  refine KO.lss rfl rfl rfl ?_
  refine KO.mv rfl rfl ?_
  (refine KO.on rfl rfl ?_ ?_; (focus (simp only [decide_eq_true_eq, decide_eq_false_iff_not, Bool.not_eq_true, Bool.not_true, Bool.not_false, ne_eq]; omega)); (refine KO.fo0 (off := 0) rfl Tryd.runUnderlying72 rfl rfl Tryd.sizeOf3 rfl ?_))
  (refine KO.on rfl rfl ?_ ?_; (focus (simp only [decide_eq_true_eq, decide_eq_false_iff_not, Bool.not_eq_true, Bool.not_true, Bool.not_false, ne_eq]; omega)); (refine KO.ld rfl rfl Tryd.isAgg3 (by with_reducible (repeat (exact Pick.head))) (by exact rfl) rfl ?_))
  (refine KO.on rfl rfl ?_ ?_; (focus (simp only [decide_eq_true_eq, decide_eq_false_iff_not, Bool.not_eq_true, Bool.not_true, Bool.not_false, ne_eq]; omega)); (refine KO.geq rfl rfl rfl ?_))
  (refine KO.pickF rfl ?_ rfl rfl ?_; (focus (simp only [decide_eq_true_eq, decide_eq_false_iff_not, Bool.not_eq_true, Bool.not_true, Bool.not_false, ne_eq]; omega)))
  refine KO.mv rfl rfl ?_
  (refine KO.on rfl rfl ?_ ?_; (focus (simp only [decide_eq_true_eq, decide_eq_false_iff_not, Bool.not_eq_true, Bool.not_true, Bool.not_false, ne_eq]; omega)); (refine KO.fo0 (off := 1) rfl Tryd.runUnderlying72 rfl rfl Tryd.sizeOf3 rfl ?_))
  (refine KO.on rfl rfl ?_ ?_; (focus (simp only [decide_eq_true_eq, decide_eq_false_iff_not, Bool.not_eq_true, Bool.not_true, Bool.not_false, ne_eq]; omega)); (refine KO.ld rfl rfl Tryd.isAgg3 (by with_reducible (repeat (exact Pick.head))) (by exact rfl) rfl ?_))
  (refine KO.on rfl rfl ?_ ?_; (focus (simp only [decide_eq_true_eq, decide_eq_false_iff_not, Bool.not_eq_true, Bool.not_true, Bool.not_false, ne_eq]; omega)); (refine KO.lss rfl rfl rfl ?_))
  (refine KO.pickF rfl ?_ rfl rfl ?_; (focus (simp only [decide_eq_true_eq, decide_eq_false_iff_not, Bool.not_eq_true, Bool.not_true, Bool.not_false, ne_eq]; omega)))
  refine KO.mv rfl rfl ?_
  (refine KO.on rfl rfl ?_ ?_; (focus (simp only [decide_eq_true_eq, decide_eq_false_iff_not, Bool.not_eq_true, Bool.not_true, Bool.not_false, ne_eq]; omega)); (refine KO.fo0 (off := 1) rfl Tryd.runUnderlying72 rfl rfl Tryd.sizeOf3 rfl ?_))
  (refine KO.on rfl rfl ?_ ?_; (focus (simp only [decide_eq_true_eq, decide_eq_false_iff_not, Bool.not_eq_true, Bool.not_true, Bool.not_false, ne_eq]; omega)); (refine KO.ld rfl rfl Tryd.isAgg3 (by with_reducible (repeat (exact Pick.head))) (by exact rfl) rfl ?_))
  (refine KO.on rfl rfl ?_ ?_; (focus (simp only [decide_eq_true_eq, decide_eq_false_iff_not, Bool.not_eq_true, Bool.not_true, Bool.not_false, ne_eq]; omega)); (refine KO.gtr rfl rfl rfl ?_))
  (refine KO.pickF rfl ?_ rfl rfl ?_; (focus (simp only [decide_eq_true_eq, decide_eq_false_iff_not, Bool.not_eq_true, Bool.not_true, Bool.not_false, ne_eq]; omega)))
  refine KO.mv rfl rfl ?_
  (refine KO.on rfl rfl ?_ ?_; (focus (simp only [decide_eq_true_eq, decide_eq_false_iff_not, Bool.not_eq_true, Bool.not_true, Bool.not_false, ne_eq]; omega)); (refine KO.fo0 (off := 2) rfl Tryd.runUnderlying72 rfl rfl Tryd.sizeOf4 rfl ?_))
  (refine KO.on rfl rfl ?_ ?_; (focus (simp only [decide_eq_true_eq, decide_eq_false_iff_not, Bool.not_eq_true, Bool.not_true, Bool.not_false, ne_eq]; omega)); (refine KO.ld rfl rfl Tryd.isAgg4 (by with_reducible (repeat (exact Pick.head))) (by exact rfl) rfl ?_))
  (refine KO.on rfl rfl ?_ ?_; (focus (simp only [decide_eq_true_eq, decide_eq_false_iff_not, Bool.not_eq_true, Bool.not_true, Bool.not_false, ne_eq]; omega)); (refine KO.fo0 (off := 3) rfl Tryd.runUnderlying72 rfl rfl Tryd.sizeOf57 rfl ?_))
  (refine KO.on rfl rfl ?_ ?_; (focus (simp only [decide_eq_true_eq, decide_eq_false_iff_not, Bool.not_eq_true, Bool.not_true, Bool.not_false, ne_eq]; omega)); (refine KO.ld rfl rfl Tryd.isAgg57 (by with_reducible (repeat (exact Pick.head))) (by exact rfl) rfl ?_))
  (refine KO.on rfl rfl ?_ ?_; (focus (simp only [decide_eq_true_eq, decide_eq_false_iff_not, Bool.not_eq_true, Bool.not_true, Bool.not_false, ne_eq]; omega)); (refine KO.len rfl Tryd.underlying57 rfl ?_))
  (refine KO.on rfl rfl ?_ ?_; (focus (simp only [decide_eq_true_eq, decide_eq_false_iff_not, Bool.not_eq_true, Bool.not_true, Bool.not_false, ne_eq]; omega)); (refine KO.eqI rfl rfl rfl ?_))
  (refine KO.on rfl rfl ?_ ?_; (focus (simp only [decide_eq_true_eq, decide_eq_false_iff_not, Bool.not_eq_true, Bool.not_true, Bool.not_false, ne_eq]; omega)); (refine KO.neB rfl rfl Tryd.underlying4 rfl ?_))
  (refine KO.pickF rfl ?_ rfl rfl ?_; (focus (simp only [decide_eq_true_eq, decide_eq_false_iff_not, Bool.not_eq_true, Bool.not_true, Bool.not_false, ne_eq]; omega)))
  refine KO.mv rfl rfl ?_
  (refine KO.on rfl rfl ?_ ?_; (focus assumption); (refine KO.fo0 (off := 3) rfl Tryd.runUnderlying72 rfl rfl Tryd.sizeOf57 rfl ?_))
  (refine KO.on rfl rfl ?_ ?_; (focus assumption); (refine KO.ld rfl rfl Tryd.isAgg57 (by with_reducible (repeat (exact Pick.head))) (by exact rfl) rfl ?_))
  (refine KO.on rfl rfl ?_ ?_; (focus assumption); (refine KO.len rfl Tryd.underlying57 rfl ?_))
  (refine KO.on rfl rfl ?_ ?_; (focus assumption); (refine KO.gtr rfl rfl rfl ?_))
  (refine KO.pickF rfl ?_ rfl rfl ?_; (focus assumption))
  refine KO.nil ?_
  repeat ((with_reducible refine KQ.next ?_))
  refine K.condF rfl (by simp [a7]) ?_
  repeat (first | (with_reducible refine K.seq ?_) | (with_reducible refine KQ.next ?_) | (with_reducible refine K.skip ?_))
  cases hb : badI xs with
  | some k =>
    have hbad := fw_bad (f := f) (xs := xs) (fun h => by unfold okF at h; rw [hb] at h; exact absurd h.2.2.2.2.2.2 (by simp))
    refine K.reg ?_
    refine KO.fo0 (off := 3) rfl Tryd.runUnderlying72 rfl rfl Tryd.sizeOf57 rfl ?_
    refine KO.ld rfl rfl Tryd.isAgg57 (by with_reducible (repeat (exact Pick.head))) (by exact rfl) rfl ?_
    refine KO.ce (cp := []) rfl rfl rfl Tryd.call26 rfl (mwrite_e w _ _ xs (fun w' hw' => rdA_extM hr (Ext.of_below hw'.below)) hT hsz (by omega)) ?_; rintro v' L' hR; unfold MwR at hR; rw [hb] at hR; obtain ⟨be, rfl, rfl⟩ := hR; unfold atV
    refine KO.mv rfl rfl ?_
    refine KO.extrL rfl (by exact rfl) rfl ?_
    refine KO.extrL rfl (by exact rfl) rfl ?_
    refine KO.as rfl rfl ?_
    refine KO.as rfl rfl ?_
    refine KO.nil ?_
    repeat (first | (with_reducible refine K.seq ?_) | (with_reducible refine KQ.next ?_))
    refine K.reg ?_
    refine KO.mv rfl rfl ?_
    refine KO.neIf rfl (by kernel_rfl) rfl ?_
    refine KO.nil ?_
    repeat ((with_reducible refine KQ.next ?_))
    refine K.condT rfl rfl ?_
    repeat ((with_reducible refine K.seq ?_))
    refine K.reg ?_
    refine KO.mki rfl (by kernel_rfl) rfl ?_
    refine KO.as rfl rfl ?_
    refine KO.as rfl rfl ?_
    refine KO.nil ?_
    repeat (first | (with_reducible refine KQ.next ?_) | (with_reducible refine KQ.then_ret ?_) | (with_reducible refine K.ret ?_))
    refine KQ.ret2 rfl rfl rfl (fun w' hs => fin 1 ⟨#[]⟩ w' _ hbad.1.symm hbad.2.symm hs)
  | none =>
    have hok : okF f xs := by unfold okF; exact ⟨by omega, by omega, by omega, by omega, by rw [a5, hz], by omega, hb⟩
    obtain ⟨e1, e2⟩ := fw_ok hok
    have i1 : intB f.frm := ⟨by omega, by omega⟩
    have i2 : intB f.num := ⟨by omega, by omega⟩
    have s1 := itoaS_size i1
    have s2 := itoaS_size i2
    have s3 := writeS_size (badI_all hb)
    refine K.reg ?_
    refine KO.fo0 (off := 3) rfl Tryd.runUnderlying72 rfl rfl Tryd.sizeOf57 rfl ?_
    refine KO.ld rfl rfl Tryd.isAgg57 (by with_reducible (repeat (exact Pick.head))) (by exact rfl) rfl ?_
    refine KO.ce (cp := []) rfl rfl rfl Tryd.call26 rfl (mwrite_e w _ _ xs (fun w' hw' => rdA_extM hr (Ext.of_below hw'.below)) hT hsz (by omega)) ?_; rintro v' L' hR; unfold MwR at hR; rw [hb] at hR; obtain ⟨rfl, rfl⟩ := hR
    refine KO.mv rfl rfl ?_
    refine KO.extrL rfl (by exact rfl) rfl ?_
    refine KO.extrL rfl (by exact rfl) rfl ?_
    refine KO.as rfl rfl ?_
    refine KO.as rfl rfl ?_
    refine KO.nil ?_
    repeat (first | (with_reducible refine K.seq ?_) | (with_reducible refine KQ.next ?_))
    refine K.reg ?_
    refine KO.mv rfl rfl ?_
    refine KO.neI0 rfl (by kernel_rfl) rfl ?_
    refine KO.nil ?_
    repeat ((with_reducible refine KQ.next ?_))
    refine K.condF rfl rfl ?_
    repeat (first | (with_reducible refine K.seq ?_) | (with_reducible refine KQ.next ?_) | (with_reducible refine K.skip ?_))
    refine K.reg ?_
    refine KO.as rfl rfl ?_
    refine KO.nil ?_
    repeat (first | (with_reducible refine K.seq ?_) | (with_reducible refine KQ.next ?_))
    refine K.reg ?_
    refine KO.fo0 (off := 2) rfl Tryd.runUnderlying72 rfl rfl Tryd.sizeOf4 rfl ?_
    refine KO.ld rfl rfl Tryd.isAgg4 (by with_reducible (repeat (exact Pick.head))) (by exact rfl) rfl ?_
    refine KO.nil ?_
    repeat ((with_reducible refine KQ.next ?_))
    have hks : (kindS f.ack).size ≤ 1 := by unfold kindS; split <;> decide
    have hjz : (joinS [kindS f.ack, itoaS f.frm, itoaS f.num, writeS xs] colon).size ≤ 1000000 := by
      have := joinS_size colon 1000 [kindS f.ack, itoaS f.frm, itoaS f.num, writeS xs] (by intro x hx; simp at hx; rcases hx with rfl | rfl | rfl | rfl <;> omega)
      have h2 : colon.size = 1 := rfl
      simp at this; omega
    refine K.cut (fun _ : Unit => [(1, .pointer (some ⟨b1, 0, none⟩)), (4, .string (writeS xs)), (6, .string (kindS f.ack))]) (fun _ => [blk b1 (.cells (frC f (.slice sa xs.length cap)).toArray 72 (0, 0))]) (fun _ => True) ?_ ?_
    · refine K.cond rfl (fun h => ?_) (fun h => ?_)
      · refine K.reg ?_
        refine KO.as rfl rfl ?_
        refine KO.nil ?_
        exact KQ.mid () trivial ⟨rfl, rfl, by rw [h]; rfl, trivial⟩ (fun _ h => h.all (by with_reducible repeat (exact PAll.refl)))
      · refine K.skip ?_
        exact KQ.mid () trivial ⟨rfl, rfl, by rw [h]; rfl, trivial⟩ (fun _ h => h.all (by with_reducible repeat (exact PAll.refl)))
    rintro _ _
    repeat ((with_reducible refine K.seq ?_))
    refine K.draw [.pure, .pure, .read, .keep, .pure, .read, .keep, .pure, .keep, .keep, .pure, .pure] [0, 1, 2, 4, 5, 7, 3, 6, 8, 9, 10, 11] (by kernel_rfl) (by kernel_rfl) ?_
    refine KO.mv rfl rfl ?_
    refine KO.fo0 (off := 0) rfl Tryd.runUnderlying72 rfl rfl Tryd.sizeOf3 rfl ?_
    refine KO.ld rfl rfl Tryd.isAgg3 (by with_reducible (repeat (exact Pick.head))) (by exact rfl) rfl ?_
    refine KO.fo0 (off := 1) rfl Tryd.runUnderlying72 rfl rfl Tryd.sizeOf3 rfl ?_
    refine KO.ld rfl rfl Tryd.isAgg3 (by with_reducible (repeat (exact Pick.head))) (by exact rfl) rfl ?_
    refine KO.mv rfl rfl ?_
    refine KO.ce (cp := []) rfl rfl rfl Tryd.call59 rfl (itoa_e w _ f.frm hT i1) ?_; rintro v' L' ⟨rfl, rfl⟩
    refine KO.ce (cp := []) rfl rfl rfl Tryd.call59 rfl (itoa_e w _ f.num hT i2) ?_; rintro v' L' ⟨rfl, rfl⟩
    refine KO.bsF (z := (Value.string ⟨#[]⟩)) (by' := 16) rfl [.tmp 52, .tmp 55, .tmp 58, .tmp 59] rfl rfl Tryd.underlying24 (by kernel_rfl) (by exact rfl) (by exact rfl) (by decide) (by decide) (by exact rfl) rfl ?_; intro b60
    refine KO.conv (fun w' hw' => strS_blk (b := b60) (vs := [.string (kindS f.ack), .string (itoaS f.frm), .string (itoaS f.num), .string (writeS xs)]) (xs := [kindS f.ack, itoaS f.frm, itoaS f.num, writeS xs]) (k := 4) (hw'.pick (by with_reducible (repeat (exact Pick.head)))) rfl rfl (by omega)) ?_; refine KO.ce (cp := []) rfl rfl rfl Tryd.call60 rfl (join_e w _ _ (.slice (some ⟨b60, 0, none⟩) 4 4) [kindS f.ack, itoaS f.frm, itoaS f.num, writeS xs] colon .head (by simp) (by omega)) ?_; rintro v' L' ⟨rfl, rfl⟩
    refine KO.as rfl rfl ?_
    refine KO.as rfl rfl ?_
    refine KO.nil ?_
    repeat (first | (with_reducible refine KQ.next ?_) | (with_reducible refine K.ret ?_))
    refine KQ.ret2 rfl rfl rfl (fun w' hs => fin 0 (frS f xs) w' _ e1.symm e2.symm hs)
set_option maxRecDepth 100000 in
set_option maxHeartbeats 40000000 in
theorem rfw_e (w0 : World) (L : List HP) (f : Fr) (v : Value) (xs : List Ms) (hr0 : ∀ w, St w0 L w → RdA w 5 msC v xs) (hT0 : Tab w0) (hsz : ∀ m ∈ xs, m.body.size ≤ maxLen ∧ m.queue.size ≤ maxLen) (hl : xs.length ≤ 100000) :
    KE Tryd.prog 35 #[.agg (frC f v).toArray] w0 L (fun u M => u = .tuple #[.string (fwT f xs), .int .i64 (fwE f xs)] ∧ M = L) := by
  refine KE.mk (n := 72) Tryd.func35 rfl Tryd.ntmps35 (by simp) ?_
  intro w hw
  have hT := hT0.ext (Ext.of_below hw.below)
  have hr := hr0 w hw
  have hr1 := hr
  obtain ⟨sa, cap, rfl, hc⟩ := hr1
  have fin : ∀ (e : Int) (t : ByteArray) (w' : World) (M : List HP), e = fwE f xs → t = fwT f xs → St w M w' → ∃ v L', Ending.returned (.tuple #[.string t, .int .i64 e]) = Ending.returned v ∧ (v = .tuple #[.string (fwT f xs), .int .i64 (fwE f xs)] ∧ L' = L) ∧ St w0 L' w' ∧ Below w.heap.size w w' := fun e t w' M h1 h2 hs => ⟨_, _, rfl, ⟨by rw [h1, h2], rfl⟩, hw.below_step hs.below, hs.below⟩
  generalize hc1 : (decide (0 ≤ f.frm) && decide (f.frm ≤ 3)) = c1
  generalize hc2 : (decide (0 ≤ f.num) && decide (f.num ≤ 1099511627776)) = c2
  have d1 : c1 = true → 0 ≤ f.frm ∧ f.frm ≤ 3 := fun h => by rw [← hc1] at h; simpa using h
  have d1' : c1 = false → ¬ okF f xs := fun h hk => by rw [← hc1] at h; unfold okF at hk; simp at h; omega
  have d2 : c2 = true → 0 ≤ f.num ∧ f.num ≤ 1099511627776 := fun h => by rw [← hc2] at h; simpa using h
  have d2' : c2 = false → ¬ okF f xs := fun h hk => by rw [← hc2] at h; unfold okF at hk; simp at h; omega
  repeat ((with_reducible refine K.seq ?_))
  refine K.reg ?_
  refine KO.box rfl rfl (by exact rfl) rfl ?_; intro b1
  refine KO.as rfl rfl ?_
  refine KO.as rfl rfl ?_
  refine KO.nil ?_
  repeat (first | (with_reducible refine K.seq ?_) | (with_reducible refine KQ.next ?_))
  refine K.reg ?_
  refine KO.fo0 (off := 3) rfl Tryd.runUnderlying75 rfl rfl Tryd.sizeOf57 rfl ?_
  refine KO.ld rfl rfl Tryd.isAgg57 (by with_reducible (repeat (exact Pick.head))) (by exact rfl) rfl ?_
  refine KO.ce (cp := []) rfl rfl rfl Tryd.call25 rfl (rwrite_e w _ _ xs (fun w' hw' => rdA_extM hr (Ext.of_below hw'.below)) hT hsz (by omega)) ?_; rintro v' L' ⟨rfl, rfl⟩
  refine KO.mv rfl rfl ?_
  refine KO.extrL rfl (by exact rfl) rfl ?_
  refine KO.extrL rfl (by exact rfl) rfl ?_
  refine KO.alloc rfl Tryd.zeroValue63 (by exact rfl) rfl ?_; intro b5
  refine KO.as rfl rfl ?_
  refine KO.sto0 rfl rfl rfl (by exact rfl) (by exact Tryd.sizeOf63) (by exact rfl) (by with_reducible (repeat (exact Pick.head))) (by exact rfl) ?_
  refine KO.nil ?_
  repeat (first | (with_reducible refine K.seq ?_) | (with_reducible refine KQ.next ?_))
  cases c1
  · have hbad := fw_bad (d1' rfl)
    refine K.reg ?_
    refine KO.fo0 (off := 0) rfl Tryd.runUnderlying75 rfl rfl Tryd.sizeOf3 rfl ?_
    refine KO.ld rfl rfl Tryd.isAgg3 (by with_reducible (repeat (first | exact Pick.head | apply Pick.tail))) (by exact rfl) rfl ?_
    refine KO.ce (cp := []) rfl rfl rfl Tryd.call62 rfl (in_e w _ f.frm 0 3) ?_; rintro v' L' ⟨rfl, rfl⟩; rw [hc1]
    refine KO.not rfl rfl ?_
    refine KO.mv rfl rfl ?_
    (refine KO.no rfl rfl ?_ rfl ?_; (focus rfl))
    (refine KO.no rfl rfl ?_ rfl ?_; (focus rfl))
    (refine KO.no rfl rfl ?_ rfl ?_; (focus rfl))
    (refine KO.no rfl rfl ?_ rfl ?_; (focus rfl))
    (refine KO.pickT rfl ?_ rfl rfl ?_; (focus rfl))
    refine KO.mv rfl rfl ?_
    (refine KO.no rfl rfl ?_ rfl ?_; (focus rfl))
    (refine KO.no rfl rfl ?_ rfl ?_; (focus rfl))
    (refine KO.no rfl rfl ?_ rfl ?_; (focus rfl))
    (refine KO.no rfl rfl ?_ rfl ?_; (focus rfl))
    (refine KO.pickT rfl ?_ rfl rfl ?_; (focus rfl))
    refine KO.mv rfl rfl ?_
    (refine KO.no rfl rfl ?_ rfl ?_; (focus rfl))
    (refine KO.no rfl rfl ?_ rfl ?_; (focus rfl))
    (refine KO.no rfl rfl ?_ rfl ?_; (focus rfl))
    (refine KO.pickT rfl ?_ rfl rfl ?_; (focus rfl))
    refine KO.mv rfl rfl ?_
    (refine KO.no rfl rfl ?_ rfl ?_; (focus rfl))
    (refine KO.no rfl rfl ?_ rfl ?_; (focus rfl))
    (refine KO.no rfl rfl ?_ rfl ?_; (focus rfl))
    refine KO.no2 rfl rfl rfl ?_
    refine KO.no2 rfl rfl rfl ?_
    refine KO.no2 rfl rfl rfl ?_
    refine KO.no2 rfl rfl rfl ?_
    (refine KO.no rfl rfl ?_ rfl ?_; (focus rfl))
    (refine KO.pickT rfl ?_ rfl rfl ?_; (focus rfl))
    refine KO.mv rfl rfl ?_
    (refine KO.no rfl rfl ?_ rfl ?_; (focus rfl))
    (refine KO.no rfl rfl ?_ rfl ?_; (focus rfl))
    (refine KO.no rfl rfl ?_ rfl ?_; (focus rfl))
    (refine KO.no rfl rfl ?_ rfl ?_; (focus rfl))
    refine KO.no2 rfl rfl rfl ?_
    refine KO.no2 rfl rfl rfl ?_
    refine KO.no2 rfl rfl rfl ?_
    refine KO.no2 rfl rfl rfl ?_
    (refine KO.no rfl rfl ?_ rfl ?_; (focus rfl))
    (refine KO.pickT rfl ?_ rfl rfl ?_; (focus rfl))
    refine KO.nil ?_
    repeat ((with_reducible refine KQ.next ?_))
    refine K.condT rfl rfl ?_
    repeat ((with_reducible refine K.seq ?_))
    refine K.reg ?_
    refine KO.as rfl rfl ?_
    refine KO.as rfl rfl ?_
    refine KO.nil ?_
    repeat (first | (with_reducible refine KQ.next ?_) | (with_reducible refine KQ.then_ret ?_) | (with_reducible refine K.ret ?_))
    refine KQ.ret2 rfl rfl rfl (fun w' hs => fin 1 ⟨#[]⟩ w' _ hbad.1.symm hbad.2.symm hs)
  cases c2
  · have hbad := fw_bad (d2' rfl)
    refine K.reg ?_
    refine KO.fo0 (off := 0) rfl Tryd.runUnderlying75 rfl rfl Tryd.sizeOf3 rfl ?_
    refine KO.ld rfl rfl Tryd.isAgg3 (by with_reducible (repeat (first | exact Pick.head | apply Pick.tail))) (by exact rfl) rfl ?_
    refine KO.ce (cp := []) rfl rfl rfl Tryd.call62 rfl (in_e w _ f.frm 0 3) ?_; rintro v' L' ⟨rfl, rfl⟩; rw [hc1]
    refine KO.not rfl rfl ?_
    refine KO.mv rfl rfl ?_
    (refine KO.on rfl rfl ?_ ?_; (focus rfl); (refine KO.fo0 (off := 1) rfl Tryd.runUnderlying75 rfl rfl Tryd.sizeOf3 rfl ?_))
    (refine KO.on rfl rfl ?_ ?_; (focus rfl); (refine KO.ld rfl rfl Tryd.isAgg3 (by with_reducible (repeat (first | exact Pick.head | apply Pick.tail))) (by exact rfl) rfl ?_))
    refine KO.on rfl rfl rfl ?_; refine KO.ce (cp := []) rfl rfl rfl Tryd.call62 rfl (in_e w _ f.num 0 1099511627776) ?_; rintro v' L' ⟨rfl, rfl⟩; rw [hc2]
    (refine KO.on rfl rfl ?_ ?_; (focus rfl); (refine KO.not rfl rfl ?_))
    (refine KO.pickF rfl ?_ rfl rfl ?_; (focus rfl))
    refine KO.mv rfl rfl ?_
    (refine KO.no rfl rfl ?_ rfl ?_; (focus rfl))
    (refine KO.no rfl rfl ?_ rfl ?_; (focus rfl))
    (refine KO.no rfl rfl ?_ rfl ?_; (focus rfl))
    (refine KO.no rfl rfl ?_ rfl ?_; (focus rfl))
    (refine KO.pickT rfl ?_ rfl rfl ?_; (focus rfl))
    refine KO.mv rfl rfl ?_
    (refine KO.no rfl rfl ?_ rfl ?_; (focus rfl))
    (refine KO.no rfl rfl ?_ rfl ?_; (focus rfl))
    (refine KO.no rfl rfl ?_ rfl ?_; (focus rfl))
    (refine KO.pickT rfl ?_ rfl rfl ?_; (focus rfl))
    refine KO.mv rfl rfl ?_
    (refine KO.no rfl rfl ?_ rfl ?_; (focus rfl))
    (refine KO.no rfl rfl ?_ rfl ?_; (focus rfl))
    (refine KO.no rfl rfl ?_ rfl ?_; (focus rfl))
    refine KO.no2 rfl rfl rfl ?_
    refine KO.no2 rfl rfl rfl ?_
    refine KO.no2 rfl rfl rfl ?_
    refine KO.no2 rfl rfl rfl ?_
    (refine KO.no rfl rfl ?_ rfl ?_; (focus rfl))
    (refine KO.pickT rfl ?_ rfl rfl ?_; (focus rfl))
    refine KO.mv rfl rfl ?_
    (refine KO.no rfl rfl ?_ rfl ?_; (focus rfl))
    (refine KO.no rfl rfl ?_ rfl ?_; (focus rfl))
    (refine KO.no rfl rfl ?_ rfl ?_; (focus rfl))
    (refine KO.no rfl rfl ?_ rfl ?_; (focus rfl))
    refine KO.no2 rfl rfl rfl ?_
    refine KO.no2 rfl rfl rfl ?_
    refine KO.no2 rfl rfl rfl ?_
    refine KO.no2 rfl rfl rfl ?_
    (refine KO.no rfl rfl ?_ rfl ?_; (focus rfl))
    (refine KO.pickT rfl ?_ rfl rfl ?_; (focus rfl))
    refine KO.nil ?_
    repeat ((with_reducible refine KQ.next ?_))
    refine K.condT rfl rfl ?_
    repeat ((with_reducible refine K.seq ?_))
    refine K.reg ?_
    refine KO.as rfl rfl ?_
    refine KO.as rfl rfl ?_
    refine KO.nil ?_
    repeat (first | (with_reducible refine KQ.next ?_) | (with_reducible refine KQ.then_ret ?_) | (with_reducible refine K.ret ?_))
    refine KQ.ret2 rfl rfl rfl (fun w' hs => fin 1 ⟨#[]⟩ w' _ hbad.1.symm hbad.2.symm hs)
  by_cases a3 : 3 < (xs.length : Int)
  · have hbad := fw_bad (f := f) (xs := xs) (fun h => by unfold okF at h; omega)
    refine K.reg ?_
    refine KO.fo0 (off := 0) rfl Tryd.runUnderlying75 rfl rfl Tryd.sizeOf3 rfl ?_
    refine KO.ld rfl rfl Tryd.isAgg3 (by with_reducible (repeat (first | exact Pick.head | apply Pick.tail))) (by exact rfl) rfl ?_
    refine KO.ce (cp := []) rfl rfl rfl Tryd.call62 rfl (in_e w _ f.frm 0 3) ?_; rintro v' L' ⟨rfl, rfl⟩; rw [hc1]
    refine KO.not rfl rfl ?_
    refine KO.mv rfl rfl ?_
    (refine KO.on rfl rfl ?_ ?_; (focus rfl); (refine KO.fo0 (off := 1) rfl Tryd.runUnderlying75 rfl rfl Tryd.sizeOf3 rfl ?_))
    (refine KO.on rfl rfl ?_ ?_; (focus rfl); (refine KO.ld rfl rfl Tryd.isAgg3 (by with_reducible (repeat (first | exact Pick.head | apply Pick.tail))) (by exact rfl) rfl ?_))
    refine KO.on rfl rfl rfl ?_; refine KO.ce (cp := []) rfl rfl rfl Tryd.call62 rfl (in_e w _ f.num 0 1099511627776) ?_; rintro v' L' ⟨rfl, rfl⟩; rw [hc2]
    (refine KO.on rfl rfl ?_ ?_; (focus rfl); (refine KO.not rfl rfl ?_))
    (refine KO.pickF rfl ?_ rfl rfl ?_; (focus rfl))
    refine KO.mv rfl rfl ?_
    (refine KO.on rfl rfl ?_ ?_; (focus rfl); (refine KO.fo0 (off := 3) rfl Tryd.runUnderlying75 rfl rfl Tryd.sizeOf57 rfl ?_))
    (refine KO.on rfl rfl ?_ ?_; (focus rfl); (refine KO.ld rfl rfl Tryd.isAgg57 (by with_reducible (repeat (first | exact Pick.head | apply Pick.tail))) (by exact rfl) rfl ?_))
    (refine KO.on rfl rfl ?_ ?_; (focus rfl); (refine KO.len rfl Tryd.underlying57 rfl ?_))
    (refine KO.on rfl rfl ?_ ?_; (focus rfl); (refine KO.gtr rfl rfl rfl ?_))
    (refine KO.pickF rfl ?_ rfl rfl ?_; (focus rfl))
    refine KO.mv rfl rfl ?_
    (refine KO.no rfl rfl ?_ rfl ?_; (focus (simp only [decide_eq_true_eq, decide_eq_false_iff_not, Bool.not_eq_true, Bool.not_true, Bool.not_false, ne_eq]; omega)))
    (refine KO.no rfl rfl ?_ rfl ?_; (focus (simp only [decide_eq_true_eq, decide_eq_false_iff_not, Bool.not_eq_true, Bool.not_true, Bool.not_false, ne_eq]; omega)))
    (refine KO.no rfl rfl ?_ rfl ?_; (focus (simp only [decide_eq_true_eq, decide_eq_false_iff_not, Bool.not_eq_true, Bool.not_true, Bool.not_false, ne_eq]; omega)))
    (refine KO.pickT rfl ?_ rfl rfl ?_; (focus (simp only [decide_eq_true_eq, decide_eq_false_iff_not, Bool.not_eq_true, Bool.not_true, Bool.not_false, ne_eq]; omega)))
    refine KO.mv rfl rfl ?_
    (refine KO.no rfl rfl ?_ rfl ?_; (focus rfl))
    (refine KO.no rfl rfl ?_ rfl ?_; (focus rfl))
    (refine KO.no rfl rfl ?_ rfl ?_; (focus rfl))
    refine KO.no2 rfl rfl rfl ?_
    refine KO.no2 rfl rfl rfl ?_
    refine KO.no2 rfl rfl rfl ?_
    refine KO.no2 rfl rfl rfl ?_
    (refine KO.no rfl rfl ?_ rfl ?_; (focus rfl))
    (refine KO.pickT rfl ?_ rfl rfl ?_; (focus rfl))
    refine KO.mv rfl rfl ?_
    (refine KO.no rfl rfl ?_ rfl ?_; (focus rfl))
    (refine KO.no rfl rfl ?_ rfl ?_; (focus rfl))
    (refine KO.no rfl rfl ?_ rfl ?_; (focus rfl))
    (refine KO.no rfl rfl ?_ rfl ?_; (focus rfl))
    refine KO.no2 rfl rfl rfl ?_
    refine KO.no2 rfl rfl rfl ?_
    refine KO.no2 rfl rfl rfl ?_
    refine KO.no2 rfl rfl rfl ?_
    (refine KO.no rfl rfl ?_ rfl ?_; (focus rfl))
    (refine KO.pickT rfl ?_ rfl rfl ?_; (focus rfl))
    refine KO.nil ?_
    repeat ((with_reducible refine KQ.next ?_))
    refine K.condT rfl (by simp [a3]) ?_
    repeat ((with_reducible refine K.seq ?_))
    refine K.reg ?_
    refine KO.as rfl rfl ?_
    refine KO.as rfl rfl ?_
    refine KO.nil ?_
    repeat (first | (with_reducible refine KQ.next ?_) | (with_reducible refine KQ.then_ret ?_) | (with_reducible refine K.ret ?_))
    refine KQ.ret2 rfl rfl rfl (fun w' hs => fin 1 ⟨#[]⟩ w' _ hbad.1.symm hbad.2.symm hs)
  by_cases a4 : badI xs = none
  case neg =>
    have hbad := fw_bad (f := f) (xs := xs) (fun h => by unfold okF at h; exact a4 h.2.2.2.2.2.2)
    rw [writeE_bad a4]
    refine K.reg ?_
    refine KO.fo0 (off := 0) rfl Tryd.runUnderlying75 rfl rfl Tryd.sizeOf3 rfl ?_
    refine KO.ld rfl rfl Tryd.isAgg3 (by with_reducible (repeat (first | exact Pick.head | apply Pick.tail))) (by exact rfl) rfl ?_
    refine KO.ce (cp := []) rfl rfl rfl Tryd.call62 rfl (in_e w _ f.frm 0 3) ?_; rintro v' L' ⟨rfl, rfl⟩; rw [hc1]
    refine KO.not rfl rfl ?_
    refine KO.mv rfl rfl ?_
    (refine KO.on rfl rfl ?_ ?_; (focus rfl); (refine KO.fo0 (off := 1) rfl Tryd.runUnderlying75 rfl rfl Tryd.sizeOf3 rfl ?_))
    (refine KO.on rfl rfl ?_ ?_; (focus rfl); (refine KO.ld rfl rfl Tryd.isAgg3 (by with_reducible (repeat (first | exact Pick.head | apply Pick.tail))) (by exact rfl) rfl ?_))
    refine KO.on rfl rfl rfl ?_; refine KO.ce (cp := []) rfl rfl rfl Tryd.call62 rfl (in_e w _ f.num 0 1099511627776) ?_; rintro v' L' ⟨rfl, rfl⟩; rw [hc2]
    (refine KO.on rfl rfl ?_ ?_; (focus rfl); (refine KO.not rfl rfl ?_))
    (refine KO.pickF rfl ?_ rfl rfl ?_; (focus rfl))
    refine KO.mv rfl rfl ?_
    (refine KO.on rfl rfl ?_ ?_; (focus rfl); (refine KO.fo0 (off := 3) rfl Tryd.runUnderlying75 rfl rfl Tryd.sizeOf57 rfl ?_))
    (refine KO.on rfl rfl ?_ ?_; (focus rfl); (refine KO.ld rfl rfl Tryd.isAgg57 (by with_reducible (repeat (first | exact Pick.head | apply Pick.tail))) (by exact rfl) rfl ?_))
    (refine KO.on rfl rfl ?_ ?_; (focus rfl); (refine KO.len rfl Tryd.underlying57 rfl ?_))
    (refine KO.on rfl rfl ?_ ?_; (focus rfl); (refine KO.gtr rfl rfl rfl ?_))
    (refine KO.pickF rfl ?_ rfl rfl ?_; (focus rfl))
    refine KO.mv rfl rfl ?_
    (refine KO.on rfl rfl ?_ ?_; (focus (simp only [decide_eq_true_eq, decide_eq_false_iff_not, Bool.not_eq_true, Bool.not_true, Bool.not_false, ne_eq]; omega)); (refine KO.fo0 (off := 0) rfl Tryd.runUnderlying63 rfl rfl Tryd.sizeOf37 rfl ?_))
    (refine KO.on rfl rfl ?_ ?_; (focus (simp only [decide_eq_true_eq, decide_eq_false_iff_not, Bool.not_eq_true, Bool.not_true, Bool.not_false, ne_eq]; omega)); (refine KO.ld rfl rfl Tryd.isAgg37 (by with_reducible (repeat (exact Pick.head))) (by exact rfl) rfl ?_))
    (refine KO.on rfl rfl ?_ ?_; (focus (simp only [decide_eq_true_eq, decide_eq_false_iff_not, Bool.not_eq_true, Bool.not_true, Bool.not_false, ne_eq]; omega)); (refine KO.neI rfl rfl rfl ?_))
    (refine KO.pickF rfl ?_ rfl rfl ?_; (focus (simp only [decide_eq_true_eq, decide_eq_false_iff_not, Bool.not_eq_true, Bool.not_true, Bool.not_false, ne_eq]; omega)))
    refine KO.mv rfl rfl ?_
    (refine KO.no rfl rfl ?_ rfl ?_; (focus rfl))
    (refine KO.no rfl rfl ?_ rfl ?_; (focus rfl))
    (refine KO.no rfl rfl ?_ rfl ?_; (focus rfl))
    refine KO.no2 rfl rfl rfl ?_
    refine KO.no2 rfl rfl rfl ?_
    refine KO.no2 rfl rfl rfl ?_
    refine KO.no2 rfl rfl rfl ?_
    (refine KO.no rfl rfl ?_ rfl ?_; (focus rfl))
    (refine KO.pickT rfl ?_ rfl rfl ?_; (focus rfl))
    refine KO.mv rfl rfl ?_
    (refine KO.no rfl rfl ?_ rfl ?_; (focus rfl))
    (refine KO.no rfl rfl ?_ rfl ?_; (focus rfl))
    (refine KO.no rfl rfl ?_ rfl ?_; (focus rfl))
    (refine KO.no rfl rfl ?_ rfl ?_; (focus rfl))
    refine KO.no2 rfl rfl rfl ?_
    refine KO.no2 rfl rfl rfl ?_
    refine KO.no2 rfl rfl rfl ?_
    refine KO.no2 rfl rfl rfl ?_
    (refine KO.no rfl rfl ?_ rfl ?_; (focus rfl))
    (refine KO.pickT rfl ?_ rfl rfl ?_; (focus rfl))
    refine KO.nil ?_
    repeat ((with_reducible refine KQ.next ?_))
    refine K.condT rfl (by simp) ?_
    repeat ((with_reducible refine K.seq ?_))
    refine K.reg ?_
    refine KO.as rfl rfl ?_
    refine KO.as rfl rfl ?_
    refine KO.nil ?_
    repeat (first | (with_reducible refine KQ.next ?_) | (with_reducible refine KQ.then_ret ?_) | (with_reducible refine K.ret ?_))
    refine KQ.ret2 rfl rfl rfl (fun w' hs => fin 1 ⟨#[]⟩ w' _ hbad.1.symm hbad.2.symm hs)
  obtain ⟨wt, we⟩ := writeT_ok a4
  rw [wt, we]
  by_cases a5 : f.ack = decide (xs.length = 0)
  case neg =>
    have hbad := fw_bad (f := f) (xs := xs) (fun h => by unfold okF at h; exact a5 h.2.2.2.2.1)
    cases hk : f.ack
    · have a6 : (xs.length : Int) = 0 := by rw [hk] at a5; rcases Decidable.em (xs.length = 0) with h0 | h0 <;> first | omega | exact absurd (decide_eq_false h0).symm a5
      refine K.reg ?_
      refine KO.fo0 (off := 0) rfl Tryd.runUnderlying75 rfl rfl Tryd.sizeOf3 rfl ?_
      refine KO.ld rfl rfl Tryd.isAgg3 (by with_reducible (repeat (first | exact Pick.head | apply Pick.tail))) (by exact rfl) rfl ?_
      refine KO.ce (cp := []) rfl rfl rfl Tryd.call62 rfl (in_e w _ f.frm 0 3) ?_; rintro v' L' ⟨rfl, rfl⟩; rw [hc1]
      refine KO.not rfl rfl ?_
      refine KO.mv rfl rfl ?_
      (refine KO.on rfl rfl ?_ ?_; (focus rfl); (refine KO.fo0 (off := 1) rfl Tryd.runUnderlying75 rfl rfl Tryd.sizeOf3 rfl ?_))
      (refine KO.on rfl rfl ?_ ?_; (focus rfl); (refine KO.ld rfl rfl Tryd.isAgg3 (by with_reducible (repeat (first | exact Pick.head | apply Pick.tail))) (by exact rfl) rfl ?_))
      refine KO.on rfl rfl rfl ?_; refine KO.ce (cp := []) rfl rfl rfl Tryd.call62 rfl (in_e w _ f.num 0 1099511627776) ?_; rintro v' L' ⟨rfl, rfl⟩; rw [hc2]
      (refine KO.on rfl rfl ?_ ?_; (focus rfl); (refine KO.not rfl rfl ?_))
      (refine KO.pickF rfl ?_ rfl rfl ?_; (focus rfl))
      refine KO.mv rfl rfl ?_
      (refine KO.on rfl rfl ?_ ?_; (focus rfl); (refine KO.fo0 (off := 3) rfl Tryd.runUnderlying75 rfl rfl Tryd.sizeOf57 rfl ?_))
      (refine KO.on rfl rfl ?_ ?_; (focus rfl); (refine KO.ld rfl rfl Tryd.isAgg57 (by with_reducible (repeat (first | exact Pick.head | apply Pick.tail))) (by exact rfl) rfl ?_))
      (refine KO.on rfl rfl ?_ ?_; (focus rfl); (refine KO.len rfl Tryd.underlying57 rfl ?_))
      (refine KO.on rfl rfl ?_ ?_; (focus rfl); (refine KO.gtr rfl rfl rfl ?_))
      (refine KO.pickF rfl ?_ rfl rfl ?_; (focus rfl))
      refine KO.mv rfl rfl ?_
      (refine KO.on rfl rfl ?_ ?_; (focus (simp only [decide_eq_true_eq, decide_eq_false_iff_not, Bool.not_eq_true, Bool.not_true, Bool.not_false, ne_eq]; omega)); (refine KO.fo0 (off := 0) rfl Tryd.runUnderlying63 rfl rfl Tryd.sizeOf37 rfl ?_))
      (refine KO.on rfl rfl ?_ ?_; (focus (simp only [decide_eq_true_eq, decide_eq_false_iff_not, Bool.not_eq_true, Bool.not_true, Bool.not_false, ne_eq]; omega)); (refine KO.ld rfl rfl Tryd.isAgg37 (by with_reducible (repeat (exact Pick.head))) (by exact rfl) rfl ?_))
      (refine KO.on rfl rfl ?_ ?_; (focus (simp only [decide_eq_true_eq, decide_eq_false_iff_not, Bool.not_eq_true, Bool.not_true, Bool.not_false, ne_eq]; omega)); (refine KO.neI rfl rfl rfl ?_))
      (refine KO.pickF rfl ?_ rfl rfl ?_; (focus (simp only [decide_eq_true_eq, decide_eq_false_iff_not, Bool.not_eq_true, Bool.not_true, Bool.not_false, ne_eq]; omega)))
      refine KO.mv rfl rfl ?_
      (refine KO.on rfl rfl ?_ ?_; (focus rfl); (refine KO.fo0 (off := 2) rfl Tryd.runUnderlying75 rfl rfl Tryd.sizeOf4 rfl ?_))
      (refine KO.on rfl rfl ?_ ?_; (focus rfl); (refine KO.ld rfl rfl Tryd.isAgg4 (by with_reducible (repeat (first | exact Pick.head | apply Pick.tail))) (by exact rfl) rfl ?_))
      (refine KO.on rfl rfl ?_ ?_; (focus rfl); (refine KO.mv rfl rfl ?_))
      (refine KO.no rfl rfl ?_ rfl ?_; (focus assumption))
      (refine KO.no rfl rfl ?_ rfl ?_; (focus assumption))
      (refine KO.no rfl rfl ?_ rfl ?_; (focus assumption))
      (refine KO.no rfl rfl ?_ rfl ?_; (focus assumption))
      (refine KO.on rfl rfl ?_ ?_; (focus rfl); ((refine KO.pickF rfl ?_ rfl rfl ?_; (focus assumption))))
      (refine KO.pickF rfl ?_ rfl rfl ?_; (focus rfl))
      refine KO.mv rfl rfl ?_
      (refine KO.on rfl rfl ?_ ?_; (focus rfl); (refine KO.fo0 (off := 2) rfl Tryd.runUnderlying75 rfl rfl Tryd.sizeOf4 rfl ?_))
      (refine KO.on rfl rfl ?_ ?_; (focus rfl); (refine KO.ld rfl rfl Tryd.isAgg4 (by with_reducible (repeat (first | exact Pick.head | apply Pick.tail))) (by exact rfl) rfl ?_))
      (refine KO.on rfl rfl ?_ ?_; (focus rfl); (refine KO.not rfl rfl ?_))
      (refine KO.on rfl rfl ?_ ?_; (focus rfl); (refine KO.mv rfl rfl ?_))
      (refine KO.on rfl rfl ?_ ?_; (focus (simp_all; done)); (refine KO.fo0 (off := 3) rfl Tryd.runUnderlying75 rfl rfl Tryd.sizeOf57 rfl ?_))
      (refine KO.on rfl rfl ?_ ?_; (focus (simp_all; done)); (refine KO.ld rfl rfl Tryd.isAgg57 (by with_reducible (repeat (first | exact Pick.head | apply Pick.tail))) (by exact rfl) rfl ?_))
      (refine KO.on rfl rfl ?_ ?_; (focus (simp_all; done)); (refine KO.len rfl Tryd.underlying57 rfl ?_))
      (refine KO.on rfl rfl ?_ ?_; (focus (simp_all; done)); (refine KO.eqI rfl rfl rfl ?_))
      (refine KO.on rfl rfl ?_ ?_; (focus rfl); ((refine KO.pickT rfl ?_ rfl rfl ?_; (focus (simp_all; done)))))
      (refine KO.pickF rfl ?_ rfl rfl ?_; (focus rfl))
      refine KO.nil ?_
      repeat ((with_reducible refine KQ.next ?_))
      refine K.condT rfl (by simp [a6]) ?_
      repeat ((with_reducible refine K.seq ?_))
      refine K.reg ?_
      refine KO.as rfl rfl ?_
      refine KO.as rfl rfl ?_
      refine KO.nil ?_
      repeat (first | (with_reducible refine KQ.next ?_) | (with_reducible refine KQ.then_ret ?_) | (with_reducible refine K.ret ?_))
      refine KQ.ret2 rfl rfl rfl (fun w' hs => fin 1 ⟨#[]⟩ w' _ hbad.1.symm hbad.2.symm hs)
    · have a6 : 0 < (xs.length : Int) := by rw [hk] at a5; rcases Decidable.em (xs.length = 0) with h0 | h0 <;> first | omega | exact absurd (decide_eq_true h0).symm a5
      refine K.reg ?_
      refine KO.fo0 (off := 0) rfl Tryd.runUnderlying75 rfl rfl Tryd.sizeOf3 rfl ?_
      refine KO.ld rfl rfl Tryd.isAgg3 (by with_reducible (repeat (first | exact Pick.head | apply Pick.tail))) (by exact rfl) rfl ?_
      refine KO.ce (cp := []) rfl rfl rfl Tryd.call62 rfl (in_e w _ f.frm 0 3) ?_; rintro v' L' ⟨rfl, rfl⟩; rw [hc1]
      refine KO.not rfl rfl ?_
      refine KO.mv rfl rfl ?_
      (refine KO.on rfl rfl ?_ ?_; (focus rfl); (refine KO.fo0 (off := 1) rfl Tryd.runUnderlying75 rfl rfl Tryd.sizeOf3 rfl ?_))
      (refine KO.on rfl rfl ?_ ?_; (focus rfl); (refine KO.ld rfl rfl Tryd.isAgg3 (by with_reducible (repeat (first | exact Pick.head | apply Pick.tail))) (by exact rfl) rfl ?_))
      refine KO.on rfl rfl rfl ?_; refine KO.ce (cp := []) rfl rfl rfl Tryd.call62 rfl (in_e w _ f.num 0 1099511627776) ?_; rintro v' L' ⟨rfl, rfl⟩; rw [hc2]
      (refine KO.on rfl rfl ?_ ?_; (focus rfl); (refine KO.not rfl rfl ?_))
      (refine KO.pickF rfl ?_ rfl rfl ?_; (focus rfl))
      refine KO.mv rfl rfl ?_
      (refine KO.on rfl rfl ?_ ?_; (focus rfl); (refine KO.fo0 (off := 3) rfl Tryd.runUnderlying75 rfl rfl Tryd.sizeOf57 rfl ?_))
      (refine KO.on rfl rfl ?_ ?_; (focus rfl); (refine KO.ld rfl rfl Tryd.isAgg57 (by with_reducible (repeat (first | exact Pick.head | apply Pick.tail))) (by exact rfl) rfl ?_))
      (refine KO.on rfl rfl ?_ ?_; (focus rfl); (refine KO.len rfl Tryd.underlying57 rfl ?_))
      (refine KO.on rfl rfl ?_ ?_; (focus rfl); (refine KO.gtr rfl rfl rfl ?_))
      (refine KO.pickF rfl ?_ rfl rfl ?_; (focus rfl))
      refine KO.mv rfl rfl ?_
      (refine KO.on rfl rfl ?_ ?_; (focus (simp only [decide_eq_true_eq, decide_eq_false_iff_not, Bool.not_eq_true, Bool.not_true, Bool.not_false, ne_eq]; omega)); (refine KO.fo0 (off := 0) rfl Tryd.runUnderlying63 rfl rfl Tryd.sizeOf37 rfl ?_))
      (refine KO.on rfl rfl ?_ ?_; (focus (simp only [decide_eq_true_eq, decide_eq_false_iff_not, Bool.not_eq_true, Bool.not_true, Bool.not_false, ne_eq]; omega)); (refine KO.ld rfl rfl Tryd.isAgg37 (by with_reducible (repeat (exact Pick.head))) (by exact rfl) rfl ?_))
      (refine KO.on rfl rfl ?_ ?_; (focus (simp only [decide_eq_true_eq, decide_eq_false_iff_not, Bool.not_eq_true, Bool.not_true, Bool.not_false, ne_eq]; omega)); (refine KO.neI rfl rfl rfl ?_))
      (refine KO.pickF rfl ?_ rfl rfl ?_; (focus (simp only [decide_eq_true_eq, decide_eq_false_iff_not, Bool.not_eq_true, Bool.not_true, Bool.not_false, ne_eq]; omega)))
      refine KO.mv rfl rfl ?_
      (refine KO.on rfl rfl ?_ ?_; (focus rfl); (refine KO.fo0 (off := 2) rfl Tryd.runUnderlying75 rfl rfl Tryd.sizeOf4 rfl ?_))
      (refine KO.on rfl rfl ?_ ?_; (focus rfl); (refine KO.ld rfl rfl Tryd.isAgg4 (by with_reducible (repeat (first | exact Pick.head | apply Pick.tail))) (by exact rfl) rfl ?_))
      (refine KO.on rfl rfl ?_ ?_; (focus rfl); (refine KO.mv rfl rfl ?_))
      (refine KO.on rfl rfl ?_ ?_; (focus assumption); (refine KO.fo0 (off := 3) rfl Tryd.runUnderlying75 rfl rfl Tryd.sizeOf57 rfl ?_))
      (refine KO.on rfl rfl ?_ ?_; (focus assumption); (refine KO.ld rfl rfl Tryd.isAgg57 (by with_reducible (repeat (first | exact Pick.head | apply Pick.tail))) (by exact rfl) rfl ?_))
      (refine KO.on rfl rfl ?_ ?_; (focus assumption); (refine KO.len rfl Tryd.underlying57 rfl ?_))
      (refine KO.on rfl rfl ?_ ?_; (focus assumption); (refine KO.gtr rfl rfl rfl ?_))
      (refine KO.on rfl rfl ?_ ?_; (focus rfl); ((refine KO.pickT rfl ?_ rfl rfl ?_; (focus assumption))))
      (refine KO.pickF rfl ?_ rfl rfl ?_; (focus rfl))
      refine KO.mv rfl rfl ?_
      (refine KO.no rfl rfl ?_ rfl ?_; (focus (simp only [decide_eq_true_eq, decide_eq_false_iff_not, Bool.not_eq_true, Bool.not_true, Bool.not_false, ne_eq]; omega)))
      (refine KO.no rfl rfl ?_ rfl ?_; (focus (simp only [decide_eq_true_eq, decide_eq_false_iff_not, Bool.not_eq_true, Bool.not_true, Bool.not_false, ne_eq]; omega)))
      (refine KO.no rfl rfl ?_ rfl ?_; (focus (simp only [decide_eq_true_eq, decide_eq_false_iff_not, Bool.not_eq_true, Bool.not_true, Bool.not_false, ne_eq]; omega)))
      (refine KO.no rfl rfl ?_ rfl ?_; (focus (simp only [decide_eq_true_eq, decide_eq_false_iff_not, Bool.not_eq_true, Bool.not_true, Bool.not_false, ne_eq]; omega)))
      refine KO.no2 rfl rfl rfl ?_
      refine KO.no2 rfl rfl rfl ?_
      refine KO.no2 rfl rfl rfl ?_
      refine KO.no2 rfl rfl rfl ?_
      (refine KO.no rfl rfl ?_ rfl ?_; (focus (simp only [decide_eq_true_eq, decide_eq_false_iff_not, Bool.not_eq_true, Bool.not_true, Bool.not_false, ne_eq]; omega)))
      (refine KO.pickT rfl ?_ rfl rfl ?_; (focus (simp only [decide_eq_true_eq, decide_eq_false_iff_not, Bool.not_eq_true, Bool.not_true, Bool.not_false, ne_eq]; omega)))
      refine KO.nil ?_
      repeat ((with_reducible refine KQ.next ?_))
      refine K.condT rfl (by simp [a6]) ?_
      repeat ((with_reducible refine K.seq ?_))
      refine K.reg ?_
      refine KO.as rfl rfl ?_
      refine KO.as rfl rfl ?_
      refine KO.nil ?_
      repeat (first | (with_reducible refine KQ.next ?_) | (with_reducible refine KQ.then_ret ?_) | (with_reducible refine K.ret ?_))
      refine KQ.ret2 rfl rfl rfl (fun w' hs => fin 1 ⟨#[]⟩ w' _ hbad.1.symm hbad.2.symm hs)
  obtain ⟨b1', b2'⟩ := d1 rfl
  obtain ⟨b3', b4'⟩ := d2 rfl
  have hok : okF f xs := by unfold okF; exact ⟨b1', b2', b3', b4', a5, by omega, a4⟩
  obtain ⟨e1, e2⟩ := fw_ok hok
  have i1 : intB f.frm := ⟨by omega, by omega⟩
  have i2 : intB f.num := ⟨by omega, by omega⟩
  have z1 := itoaS_size i1
  have z2 := itoaS_size i2
  have z6 : (⟨#[58]⟩ : ByteArray).size = 1 := rfl
  have z7 : colon.size = 1 := rfl
  have s3 := writeS_size (badI_all a4)
  have hW1 : joinS ([f.frm].map itoaS) sp = itoaS f.frm := joinS_one _ _
  have hW2 : joinS ([f.num].map itoaS) sp = itoaS f.num := joinS_one _ _
  refine K.cut (fun _ : Unit => [(54, .bool false), (1, .pointer (some ⟨b1, 0, none⟩)), (4, .string (writeS xs))]) (fun _ => [blk b1 (.cells (frC f (.slice sa xs.length cap)).toArray 75 (0, 0))]) (fun _ => True) ?_ ?_
  · cases hk : f.ack
    · have a6 : ¬ (xs.length : Int) = 0 := by rw [hk] at a5; simp at a5; have := List.length_pos_iff.2 a5; omega
      refine K.reg ?_
      refine KO.fo0 (off := 0) rfl Tryd.runUnderlying75 rfl rfl Tryd.sizeOf3 rfl ?_
      refine KO.ld rfl rfl Tryd.isAgg3 (by with_reducible (repeat (first | exact Pick.head | apply Pick.tail))) (by exact rfl) rfl ?_
      refine KO.ce (cp := []) rfl rfl rfl Tryd.call62 rfl (in_e w _ f.frm 0 3) ?_; rintro v' L' ⟨rfl, rfl⟩; rw [hc1]
      refine KO.not rfl rfl ?_
      refine KO.mv rfl rfl ?_
      (refine KO.on rfl rfl ?_ ?_; (focus rfl); (refine KO.fo0 (off := 1) rfl Tryd.runUnderlying75 rfl rfl Tryd.sizeOf3 rfl ?_))
      (refine KO.on rfl rfl ?_ ?_; (focus rfl); (refine KO.ld rfl rfl Tryd.isAgg3 (by with_reducible (repeat (first | exact Pick.head | apply Pick.tail))) (by exact rfl) rfl ?_))
      refine KO.on rfl rfl rfl ?_; refine KO.ce (cp := []) rfl rfl rfl Tryd.call62 rfl (in_e w _ f.num 0 1099511627776) ?_; rintro v' L' ⟨rfl, rfl⟩; rw [hc2]
      (refine KO.on rfl rfl ?_ ?_; (focus rfl); (refine KO.not rfl rfl ?_))
      (refine KO.pickF rfl ?_ rfl rfl ?_; (focus rfl))
      refine KO.mv rfl rfl ?_
      (refine KO.on rfl rfl ?_ ?_; (focus rfl); (refine KO.fo0 (off := 3) rfl Tryd.runUnderlying75 rfl rfl Tryd.sizeOf57 rfl ?_))
      (refine KO.on rfl rfl ?_ ?_; (focus rfl); (refine KO.ld rfl rfl Tryd.isAgg57 (by with_reducible (repeat (first | exact Pick.head | apply Pick.tail))) (by exact rfl) rfl ?_))
      (refine KO.on rfl rfl ?_ ?_; (focus rfl); (refine KO.len rfl Tryd.underlying57 rfl ?_))
      (refine KO.on rfl rfl ?_ ?_; (focus rfl); (refine KO.gtr rfl rfl rfl ?_))
      (refine KO.pickF rfl ?_ rfl rfl ?_; (focus rfl))
      refine KO.mv rfl rfl ?_
      (refine KO.on rfl rfl ?_ ?_; (focus (simp only [decide_eq_true_eq, decide_eq_false_iff_not, Bool.not_eq_true, Bool.not_true, Bool.not_false, ne_eq]; omega)); (refine KO.fo0 (off := 0) rfl Tryd.runUnderlying63 rfl rfl Tryd.sizeOf37 rfl ?_))
      (refine KO.on rfl rfl ?_ ?_; (focus (simp only [decide_eq_true_eq, decide_eq_false_iff_not, Bool.not_eq_true, Bool.not_true, Bool.not_false, ne_eq]; omega)); (refine KO.ld rfl rfl Tryd.isAgg37 (by with_reducible (repeat (exact Pick.head))) (by exact rfl) rfl ?_))
      (refine KO.on rfl rfl ?_ ?_; (focus (simp only [decide_eq_true_eq, decide_eq_false_iff_not, Bool.not_eq_true, Bool.not_true, Bool.not_false, ne_eq]; omega)); (refine KO.neI rfl rfl rfl ?_))
      (refine KO.pickF rfl ?_ rfl rfl ?_; (focus (simp only [decide_eq_true_eq, decide_eq_false_iff_not, Bool.not_eq_true, Bool.not_true, Bool.not_false, ne_eq]; omega)))
      refine KO.mv rfl rfl ?_
      (refine KO.on rfl rfl ?_ ?_; (focus rfl); (refine KO.fo0 (off := 2) rfl Tryd.runUnderlying75 rfl rfl Tryd.sizeOf4 rfl ?_))
      (refine KO.on rfl rfl ?_ ?_; (focus rfl); (refine KO.ld rfl rfl Tryd.isAgg4 (by with_reducible (repeat (first | exact Pick.head | apply Pick.tail))) (by exact rfl) rfl ?_))
      (refine KO.on rfl rfl ?_ ?_; (focus rfl); (refine KO.mv rfl rfl ?_))
      (refine KO.no rfl rfl ?_ rfl ?_; (focus assumption))
      (refine KO.no rfl rfl ?_ rfl ?_; (focus assumption))
      (refine KO.no rfl rfl ?_ rfl ?_; (focus assumption))
      (refine KO.no rfl rfl ?_ rfl ?_; (focus assumption))
      (refine KO.on rfl rfl ?_ ?_; (focus rfl); ((refine KO.pickF rfl ?_ rfl rfl ?_; (focus assumption))))
      (refine KO.pickF rfl ?_ rfl rfl ?_; (focus rfl))
      refine KO.mv rfl rfl ?_
      (refine KO.on rfl rfl ?_ ?_; (focus rfl); (refine KO.fo0 (off := 2) rfl Tryd.runUnderlying75 rfl rfl Tryd.sizeOf4 rfl ?_))
      (refine KO.on rfl rfl ?_ ?_; (focus rfl); (refine KO.ld rfl rfl Tryd.isAgg4 (by with_reducible (repeat (first | exact Pick.head | apply Pick.tail))) (by exact rfl) rfl ?_))
      (refine KO.on rfl rfl ?_ ?_; (focus rfl); (refine KO.not rfl rfl ?_))
      (refine KO.on rfl rfl ?_ ?_; (focus rfl); (refine KO.mv rfl rfl ?_))
      (refine KO.on rfl rfl ?_ ?_; (focus (simp_all; done)); (refine KO.fo0 (off := 3) rfl Tryd.runUnderlying75 rfl rfl Tryd.sizeOf57 rfl ?_))
      (refine KO.on rfl rfl ?_ ?_; (focus (simp_all; done)); (refine KO.ld rfl rfl Tryd.isAgg57 (by with_reducible (repeat (first | exact Pick.head | apply Pick.tail))) (by exact rfl) rfl ?_))
      (refine KO.on rfl rfl ?_ ?_; (focus (simp_all; done)); (refine KO.len rfl Tryd.underlying57 rfl ?_))
      (refine KO.on rfl rfl ?_ ?_; (focus (simp_all; done)); (refine KO.eqI rfl rfl rfl ?_))
      (refine KO.on rfl rfl ?_ ?_; (focus rfl); ((refine KO.pickT rfl ?_ rfl rfl ?_; (focus (simp_all; done)))))
      (refine KO.pickF rfl ?_ rfl rfl ?_; (focus rfl))
      refine KO.nil ?_
      exact KQ.mid () trivial ⟨by simp [envAt, a3, hk]; exact fun h => a6 (by rw [h]; rfl), rfl, rfl, trivial⟩ (fun _ h => h.all (by with_reducible repeat (first | exact PAll.nil | refine PAll.cons (by with_reducible repeat (first | exact Pick.head | apply Pick.tail)) ?_)))
    · have a6 : ¬ 0 < (xs.length : Int) := by rw [hk] at a5; simp at a5; rw [a5]; simp
      refine K.reg ?_
      refine KO.fo0 (off := 0) rfl Tryd.runUnderlying75 rfl rfl Tryd.sizeOf3 rfl ?_
      refine KO.ld rfl rfl Tryd.isAgg3 (by with_reducible (repeat (first | exact Pick.head | apply Pick.tail))) (by exact rfl) rfl ?_
      refine KO.ce (cp := []) rfl rfl rfl Tryd.call62 rfl (in_e w _ f.frm 0 3) ?_; rintro v' L' ⟨rfl, rfl⟩; rw [hc1]
      refine KO.not rfl rfl ?_
      refine KO.mv rfl rfl ?_
      (refine KO.on rfl rfl ?_ ?_; (focus rfl); (refine KO.fo0 (off := 1) rfl Tryd.runUnderlying75 rfl rfl Tryd.sizeOf3 rfl ?_))
      (refine KO.on rfl rfl ?_ ?_; (focus rfl); (refine KO.ld rfl rfl Tryd.isAgg3 (by with_reducible (repeat (first | exact Pick.head | apply Pick.tail))) (by exact rfl) rfl ?_))
      refine KO.on rfl rfl rfl ?_; refine KO.ce (cp := []) rfl rfl rfl Tryd.call62 rfl (in_e w _ f.num 0 1099511627776) ?_; rintro v' L' ⟨rfl, rfl⟩; rw [hc2]
      (refine KO.on rfl rfl ?_ ?_; (focus rfl); (refine KO.not rfl rfl ?_))
      (refine KO.pickF rfl ?_ rfl rfl ?_; (focus rfl))
      refine KO.mv rfl rfl ?_
      (refine KO.on rfl rfl ?_ ?_; (focus rfl); (refine KO.fo0 (off := 3) rfl Tryd.runUnderlying75 rfl rfl Tryd.sizeOf57 rfl ?_))
      (refine KO.on rfl rfl ?_ ?_; (focus rfl); (refine KO.ld rfl rfl Tryd.isAgg57 (by with_reducible (repeat (first | exact Pick.head | apply Pick.tail))) (by exact rfl) rfl ?_))
      (refine KO.on rfl rfl ?_ ?_; (focus rfl); (refine KO.len rfl Tryd.underlying57 rfl ?_))
      (refine KO.on rfl rfl ?_ ?_; (focus rfl); (refine KO.gtr rfl rfl rfl ?_))
      (refine KO.pickF rfl ?_ rfl rfl ?_; (focus rfl))
      refine KO.mv rfl rfl ?_
      (refine KO.on rfl rfl ?_ ?_; (focus (simp only [decide_eq_true_eq, decide_eq_false_iff_not, Bool.not_eq_true, Bool.not_true, Bool.not_false, ne_eq]; omega)); (refine KO.fo0 (off := 0) rfl Tryd.runUnderlying63 rfl rfl Tryd.sizeOf37 rfl ?_))
      (refine KO.on rfl rfl ?_ ?_; (focus (simp only [decide_eq_true_eq, decide_eq_false_iff_not, Bool.not_eq_true, Bool.not_true, Bool.not_false, ne_eq]; omega)); (refine KO.ld rfl rfl Tryd.isAgg37 (by with_reducible (repeat (exact Pick.head))) (by exact rfl) rfl ?_))
      (refine KO.on rfl rfl ?_ ?_; (focus (simp only [decide_eq_true_eq, decide_eq_false_iff_not, Bool.not_eq_true, Bool.not_true, Bool.not_false, ne_eq]; omega)); (refine KO.neI rfl rfl rfl ?_))
      (refine KO.pickF rfl ?_ rfl rfl ?_; (focus (simp only [decide_eq_true_eq, decide_eq_false_iff_not, Bool.not_eq_true, Bool.not_true, Bool.not_false, ne_eq]; omega)))
      refine KO.mv rfl rfl ?_
      (refine KO.on rfl rfl ?_ ?_; (focus rfl); (refine KO.fo0 (off := 2) rfl Tryd.runUnderlying75 rfl rfl Tryd.sizeOf4 rfl ?_))
      (refine KO.on rfl rfl ?_ ?_; (focus rfl); (refine KO.ld rfl rfl Tryd.isAgg4 (by with_reducible (repeat (first | exact Pick.head | apply Pick.tail))) (by exact rfl) rfl ?_))
      (refine KO.on rfl rfl ?_ ?_; (focus rfl); (refine KO.mv rfl rfl ?_))
      (refine KO.on rfl rfl ?_ ?_; (focus assumption); (refine KO.fo0 (off := 3) rfl Tryd.runUnderlying75 rfl rfl Tryd.sizeOf57 rfl ?_))
      (refine KO.on rfl rfl ?_ ?_; (focus assumption); (refine KO.ld rfl rfl Tryd.isAgg57 (by with_reducible (repeat (first | exact Pick.head | apply Pick.tail))) (by exact rfl) rfl ?_))
      (refine KO.on rfl rfl ?_ ?_; (focus assumption); (refine KO.len rfl Tryd.underlying57 rfl ?_))
      (refine KO.on rfl rfl ?_ ?_; (focus assumption); (refine KO.gtr rfl rfl rfl ?_))
      (refine KO.on rfl rfl ?_ ?_; (focus rfl); ((refine KO.pickT rfl ?_ rfl rfl ?_; (focus assumption))))
      (refine KO.pickF rfl ?_ rfl rfl ?_; (focus rfl))
      refine KO.mv rfl rfl ?_
      (refine KO.on rfl rfl ?_ ?_; (focus (simp only [decide_eq_true_eq, decide_eq_false_iff_not, Bool.not_eq_true, Bool.not_true, Bool.not_false, ne_eq]; omega)); (refine KO.fo0 (off := 2) rfl Tryd.runUnderlying75 rfl rfl Tryd.sizeOf4 rfl ?_))
      (refine KO.on rfl rfl ?_ ?_; (focus (simp only [decide_eq_true_eq, decide_eq_false_iff_not, Bool.not_eq_true, Bool.not_true, Bool.not_false, ne_eq]; omega)); (refine KO.ld rfl rfl Tryd.isAgg4 (by with_reducible (repeat (first | exact Pick.head | apply Pick.tail))) (by exact rfl) rfl ?_))
      (refine KO.on rfl rfl ?_ ?_; (focus (simp only [decide_eq_true_eq, decide_eq_false_iff_not, Bool.not_eq_true, Bool.not_true, Bool.not_false, ne_eq]; omega)); (refine KO.not rfl rfl ?_))
      (refine KO.on rfl rfl ?_ ?_; (focus (simp only [decide_eq_true_eq, decide_eq_false_iff_not, Bool.not_eq_true, Bool.not_true, Bool.not_false, ne_eq]; omega)); (refine KO.mv rfl rfl ?_))
      (refine KO.no rfl rfl ?_ rfl ?_; (focus (simp_all; done)))
      (refine KO.no rfl rfl ?_ rfl ?_; (focus (simp_all; done)))
      (refine KO.no rfl rfl ?_ rfl ?_; (focus (simp_all; done)))
      (refine KO.no rfl rfl ?_ rfl ?_; (focus (simp_all; done)))
      (refine KO.on rfl rfl ?_ ?_; (focus (simp only [decide_eq_true_eq, decide_eq_false_iff_not, Bool.not_eq_true, Bool.not_true, Bool.not_false, ne_eq]; omega)); ((refine KO.pickF rfl ?_ rfl rfl ?_; (focus (simp_all; done)))))
      (refine KO.pickF rfl ?_ rfl rfl ?_; (focus (simp only [decide_eq_true_eq, decide_eq_false_iff_not, Bool.not_eq_true, Bool.not_true, Bool.not_false, ne_eq]; omega)))
      refine KO.nil ?_
      exact KQ.mid () trivial ⟨by simp [envAt, a3, a6, hk], rfl, rfl, trivial⟩ (fun _ h => h.all (by with_reducible repeat (first | exact PAll.nil | refine PAll.cons (by with_reducible repeat (first | exact Pick.head | apply Pick.tail)) ?_)))
  rintro _ _
  refine K.condF rfl rfl ?_
  repeat (first | (with_reducible refine K.seq ?_) | (with_reducible refine KQ.next ?_) | (with_reducible refine K.skip ?_))
  refine K.reg ?_
  refine KO.as rfl rfl ?_
  refine KO.nil ?_
  repeat (first | (with_reducible refine K.seq ?_) | (with_reducible refine KQ.next ?_))
  refine K.reg ?_
  refine KO.fo0 (off := 2) rfl Tryd.runUnderlying75 rfl rfl Tryd.sizeOf4 rfl ?_
  refine KO.ld rfl rfl Tryd.isAgg4 (by with_reducible (repeat (exact Pick.head))) (by exact rfl) rfl ?_
  refine KO.nil ?_
  repeat ((with_reducible refine KQ.next ?_))
  refine K.cut (fun _ : Unit => [(1, .pointer (some ⟨b1, 0, none⟩)), (4, .string (writeS xs)), (6, .string (kindS f.ack ++ colon))]) (fun _ => [blk b1 (.cells (frC f (.slice sa xs.length cap)).toArray 75 (0, 0))]) (fun _ => True) ?_ ?_
  · refine K.cond rfl (fun h => ?_) (fun h => ?_)
    · refine K.reg ?_
      refine KO.as rfl rfl ?_
      refine KO.nil ?_
      exact KQ.mid () trivial ⟨rfl, rfl, by rw [h]; rfl, trivial⟩ (fun _ h => h.all (by with_reducible repeat (exact PAll.refl)))
    · refine K.skip ?_
      exact KQ.mid () trivial ⟨rfl, rfl, by rw [h]; rfl, trivial⟩ (fun _ h => h.all (by with_reducible repeat (exact PAll.refl)))
  rintro _ _
  repeat ((with_reducible refine K.seq ?_))
  have hks : (kindS f.ack).size ≤ 1 := by unfold kindS; split <;> decide
  refine K.drawX [.pure, .pure, .read, .keep, .keep, .pure, .pure, .pure, .read, .keep, .keep, .pure, .pure, .pure, .pure, .pure, .pure] [(3, 9), (4, 9)] [[0, 1, 2, 7, 8, 13, 3, 4, 5, 6, 9, 10, 11, 12, 14, 15, 16], [0, 1, 2, 7, 8, 13, 3, 9, 4, 5, 6, 10, 11, 12, 14, 15, 16], [0, 1, 2, 7, 8, 13, 9, 3, 4, 5, 6, 10, 11, 12, 14, 15, 16]] (by kernel_rfl) (by kernel_rfl) (by kernel_rfl) ⟨?_, ?_, ?_, trivial⟩
  focus
    show KO _ _ _ _ _ _ _ _ _ _
    refine KO.mv rfl rfl ?_
    refine KO.fo0 (off := 0) rfl Tryd.runUnderlying75 rfl rfl Tryd.sizeOf3 rfl ?_
    refine KO.ld rfl rfl Tryd.isAgg3 (by with_reducible (repeat (exact Pick.head))) (by exact rfl) rfl ?_
    refine KO.fo0 (off := 1) rfl Tryd.runUnderlying75 rfl rfl Tryd.sizeOf3 rfl ?_
    refine KO.ld rfl rfl Tryd.isAgg3 (by with_reducible (repeat (exact Pick.head))) (by exact rfl) rfl ?_
    refine KO.mv rfl rfl ?_
    refine KO.bs1 (z := (Value.int .i64 0)) (sz := 1) (by' := 8) rfl rfl Tryd.underlying144 (by kernel_rfl) (by exact rfl) (by exact rfl) (by decide) (by decide) rfl ?_; intro b60
    refine KO.ce (cp := []) rfl rfl rfl Tryd.call55 rfl (words_e w _ _ [f.frm] (fun w' hw' => rdA_blk (vs := [.int .i64 f.frm]) (xs := [f.frm]) (by with_reducible (repeat (exact Pick.head))) rfl hw') hT (by intro n hn; simp at hn; subst hn; assumption) (by simp)) ?_; rintro v' L' ⟨rfl, rfl⟩; rw [hW1]
    refine KO.cat rfl rfl (by simp only [ByteArray.size_append, z1, z2, z6, z7]; omega) rfl ?_
    refine KO.cat rfl rfl (by simp only [ByteArray.size_append, z1, z2, z6, z7]; omega) rfl ?_
    refine KO.bs1 (z := (Value.int .i64 0)) (sz := 1) (by' := 8) rfl rfl Tryd.underlying144 (by kernel_rfl) (by exact rfl) (by exact rfl) (by decide) (by decide) rfl ?_; intro b66
    refine KO.ce (cp := []) rfl rfl rfl Tryd.call55 rfl (words_e w _ _ [f.num] (fun w' hw' => rdA_blk (vs := [.int .i64 f.num]) (xs := [f.num]) (by with_reducible (repeat (exact Pick.head))) rfl hw') hT (by intro n hn; simp at hn; subst hn; assumption) (by simp)) ?_; rintro v' L' ⟨rfl, rfl⟩; rw [hW2]
    refine KO.cat rfl rfl (by simp only [ByteArray.size_append, z1, z2, z6, z7]; omega) rfl ?_
    refine KO.cat rfl rfl (by simp only [ByteArray.size_append, z1, z2, z6, z7]; omega) rfl ?_
    refine KO.cat rfl rfl (by simp only [ByteArray.size_append, z1, z2, z6, z7]; omega) rfl ?_
    refine KO.as rfl rfl ?_
    refine KO.as rfl rfl ?_
    refine KO.nil ?_
    repeat (first | (with_reducible refine KQ.next ?_) | (with_reducible refine K.ret ?_))
  rotate_left
  focus
    show KO _ _ _ _ _ _ _ _ _ _
    refine KO.mv rfl rfl ?_
    refine KO.fo0 (off := 0) rfl Tryd.runUnderlying75 rfl rfl Tryd.sizeOf3 rfl ?_
    refine KO.ld rfl rfl Tryd.isAgg3 (by with_reducible (repeat (exact Pick.head))) (by exact rfl) rfl ?_
    refine KO.fo0 (off := 1) rfl Tryd.runUnderlying75 rfl rfl Tryd.sizeOf3 rfl ?_
    refine KO.ld rfl rfl Tryd.isAgg3 (by with_reducible (repeat (exact Pick.head))) (by exact rfl) rfl ?_
    refine KO.mv rfl rfl ?_
    refine KO.bs1 (z := (Value.int .i64 0)) (sz := 1) (by' := 8) rfl rfl Tryd.underlying144 (by kernel_rfl) (by exact rfl) (by exact rfl) (by decide) (by decide) rfl ?_; intro b60
    refine KO.bs1 (z := (Value.int .i64 0)) (sz := 1) (by' := 8) rfl rfl Tryd.underlying144 (by kernel_rfl) (by exact rfl) (by exact rfl) (by decide) (by decide) rfl ?_; intro b66
    refine KO.ce (cp := []) rfl rfl rfl Tryd.call55 rfl (words_e w _ _ [f.frm] (fun w' hw' => rdA_blk (vs := [.int .i64 f.frm]) (xs := [f.frm]) (by with_reducible (repeat (first | exact Pick.head | apply Pick.tail))) rfl hw') hT (by intro n hn; simp at hn; subst hn; assumption) (by simp)) ?_; rintro v' L' ⟨rfl, rfl⟩; rw [hW1]
    refine KO.cat rfl rfl (by simp only [ByteArray.size_append, z1, z2, z6, z7]; omega) rfl ?_
    refine KO.cat rfl rfl (by simp only [ByteArray.size_append, z1, z2, z6, z7]; omega) rfl ?_
    refine KO.ce (cp := []) rfl rfl rfl Tryd.call55 rfl (words_e w _ _ [f.num] (fun w' hw' => rdA_blk (vs := [.int .i64 f.num]) (xs := [f.num]) (by with_reducible (repeat (exact Pick.head))) rfl hw') hT (by intro n hn; simp at hn; subst hn; assumption) (by simp)) ?_; rintro v' L' ⟨rfl, rfl⟩; rw [hW2]
    refine KO.cat rfl rfl (by simp only [ByteArray.size_append, z1, z2, z6, z7]; omega) rfl ?_
    refine KO.cat rfl rfl (by simp only [ByteArray.size_append, z1, z2, z6, z7]; omega) rfl ?_
    refine KO.cat rfl rfl (by simp only [ByteArray.size_append, z1, z2, z6, z7]; omega) rfl ?_
    refine KO.as rfl rfl ?_
    refine KO.as rfl rfl ?_
    refine KO.nil ?_
    repeat (first | (with_reducible refine KQ.next ?_) | (with_reducible refine K.ret ?_))
  rotate_left
  focus
    show KO _ _ _ _ _ _ _ _ _ _
    refine KO.mv rfl rfl ?_
    refine KO.fo0 (off := 0) rfl Tryd.runUnderlying75 rfl rfl Tryd.sizeOf3 rfl ?_
    refine KO.ld rfl rfl Tryd.isAgg3 (by with_reducible (repeat (exact Pick.head))) (by exact rfl) rfl ?_
    refine KO.fo0 (off := 1) rfl Tryd.runUnderlying75 rfl rfl Tryd.sizeOf3 rfl ?_
    refine KO.ld rfl rfl Tryd.isAgg3 (by with_reducible (repeat (exact Pick.head))) (by exact rfl) rfl ?_
    refine KO.mv rfl rfl ?_
    refine KO.bs1 (z := (Value.int .i64 0)) (sz := 1) (by' := 8) rfl rfl Tryd.underlying144 (by kernel_rfl) (by exact rfl) (by exact rfl) (by decide) (by decide) rfl ?_; intro b66
    refine KO.bs1 (z := (Value.int .i64 0)) (sz := 1) (by' := 8) rfl rfl Tryd.underlying144 (by kernel_rfl) (by exact rfl) (by exact rfl) (by decide) (by decide) rfl ?_; intro b60
    refine KO.ce (cp := []) rfl rfl rfl Tryd.call55 rfl (words_e w _ _ [f.frm] (fun w' hw' => rdA_blk (vs := [.int .i64 f.frm]) (xs := [f.frm]) (by with_reducible (repeat (exact Pick.head))) rfl hw') hT (by intro n hn; simp at hn; subst hn; assumption) (by simp)) ?_; rintro v' L' ⟨rfl, rfl⟩; rw [hW1]
    refine KO.cat rfl rfl (by simp only [ByteArray.size_append, z1, z2, z6, z7]; omega) rfl ?_
    refine KO.cat rfl rfl (by simp only [ByteArray.size_append, z1, z2, z6, z7]; omega) rfl ?_
    refine KO.ce (cp := []) rfl rfl rfl Tryd.call55 rfl (words_e w _ _ [f.num] (fun w' hw' => rdA_blk (vs := [.int .i64 f.num]) (xs := [f.num]) (by with_reducible (repeat (first | exact Pick.head | apply Pick.tail))) rfl hw') hT (by intro n hn; simp at hn; subst hn; assumption) (by simp)) ?_; rintro v' L' ⟨rfl, rfl⟩; rw [hW2]
    refine KO.cat rfl rfl (by simp only [ByteArray.size_append, z1, z2, z6, z7]; omega) rfl ?_
    refine KO.cat rfl rfl (by simp only [ByteArray.size_append, z1, z2, z6, z7]; omega) rfl ?_
    refine KO.cat rfl rfl (by simp only [ByteArray.size_append, z1, z2, z6, z7]; omega) rfl ?_
    refine KO.as rfl rfl ?_
    refine KO.as rfl rfl ?_
    refine KO.nil ?_
    repeat (first | (with_reducible refine KQ.next ?_) | (with_reducible refine K.ret ?_))
  rotate_left
  all_goals exact KQ.ret2 rfl rfl rfl (fun w' hs => fin 0 (kindS f.ack ++ colon ++ itoaS f.frm ++ ⟨#[58]⟩ ++ itoaS f.num ++ ⟨#[58]⟩ ++ writeS xs) w' _ e1.symm (by rw [e2]; exact (joinS_four _ _ _ _ _).symm) hs)
end Go.Proofs.YtjhogocabcdjbaaDoor
/- waybilllaw.FrameWrites: the walk -/
namespace Go.Proofs.YtjhogocabcdjbaaDoor
open Go Go.RowKit WB
theorem given_e (w0 : World) (L : List HP) (f : Fr) (sa : Option Addr) (len cap : Nat) : KE Tryd.prog 36 #[.agg (frC f (.slice sa len cap)).toArray] w0 L (fun u M => u = .agg (frC f (.slice sa len cap)).toArray ∧ M = L) := by
  refine KE.mk (n := 12) Tryd.func36 rfl Tryd.ntmps36 (by simp) ?_
  intro w hw
  repeat ((with_reducible refine K.seq ?_))
  refine K.reg ?_
  refine KO.box rfl rfl (by exact rfl) rfl ?_; intro b1
  refine KO.alloc rfl Tryd.zeroValue75 (by exact rfl) rfl ?_; intro b2
  refine KO.nil ?_
  repeat (first | (with_reducible refine K.seq ?_) | (with_reducible refine KQ.next ?_))
  refine K.reg ?_
  refine KO.fo0 (off := 0) rfl Tryd.runUnderlying72 rfl rfl Tryd.sizeOf3 rfl ?_
  refine KO.ld rfl rfl Tryd.isAgg3 (by with_reducible (repeat (first | exact Pick.head | apply Pick.tail))) (by exact rfl) rfl ?_
  refine KO.fo0 (off := 1) rfl Tryd.runUnderlying72 rfl rfl Tryd.sizeOf3 rfl ?_
  refine KO.ld rfl rfl Tryd.isAgg3 (by with_reducible (repeat (first | exact Pick.head | apply Pick.tail))) (by exact rfl) rfl ?_
  refine KO.fo0 (off := 2) rfl Tryd.runUnderlying72 rfl rfl Tryd.sizeOf4 rfl ?_
  refine KO.ld rfl rfl Tryd.isAgg4 (by with_reducible (repeat (first | exact Pick.head | apply Pick.tail))) (by exact rfl) rfl ?_
  refine KO.fo0 (off := 3) rfl Tryd.runUnderlying72 rfl rfl Tryd.sizeOf57 rfl ?_
  refine KO.ld rfl rfl Tryd.isAgg57 (by with_reducible (repeat (first | exact Pick.head | apply Pick.tail))) (by exact rfl) rfl ?_
  refine KO.bldN (pl := [(0, 1), (1, 1), (2, 1), (3, 1)]) rfl Tryd.zeroValue75 Tryd.runUnderlying75 (by intro w; simp [Tryd.sizeOf3, Tryd.sizeOf4, Tryd.sizeOf57]) (by exact rfl) rfl ?_
  refine KO.sto0 rfl rfl rfl (by exact rfl) (by exact Tryd.sizeOf75) (by exact rfl) (by with_reducible (repeat (exact Pick.head))) (by exact rfl) ?_
  refine KO.nil ?_
  repeat (first | (with_reducible refine KQ.next ?_) | (with_reducible refine K.ret ?_))
  refine KQ.retC rfl rfl Tryd.isAgg75 (by with_reducible (repeat (exact Pick.head))) (by exact Tryd.sizeOf75) (fun w' hs => ⟨_, _, rfl, ⟨(by exact rfl), rfl⟩, hw.below_step hs.below, hs.below⟩)
set_option maxRecDepth 100000 in
set_option maxHeartbeats 4000000 in
theorem fwlaw_e (w0 : World) (L : List HP) (f : Fr) (v : Value) (xs : List Ms) (hr0 : ∀ w, St w0 L w → RdA w 5 msC v xs) (hsz : ∀ m ∈ xs, m.body.size ≤ maxLen ∧ m.queue.size ≤ maxLen) (hT0 : Tab w0) (hg0 : ErrType w0) :
    KE Tryd.prog 6 #[.agg (frC f v).toArray] w0 L (fun u M => u = .bool true ∧ M = L) := by
  refine KE.mk (n := 30) Tryd.func6 rfl Tryd.ntmps6 (by simp) ?_
  intro w hw
  have hT := hT0.ext (Ext.of_below hw.below)
  have hg : ErrType w := (Ext.of_below hw.below).cell hg0
  have hr := hr0 w hw
  have hr1 := hr
  obtain ⟨sa, cap, rfl, hc⟩ := hr1
  have fin : ∀ (w' : World) (M : List HP), St w M w' → ∃ v L', Ending.returned (.bool true) = Ending.returned v ∧ (v = .bool true ∧ L' = L) ∧ St w0 L' w' ∧ Below w.heap.size w w' := fun w' M hs => ⟨_, _, rfl, ⟨rfl, rfl⟩, hw.below_step hs.below, hs.below⟩
  repeat ((with_reducible refine K.seq ?_))
  refine K.reg ?_
  refine KO.box rfl rfl (by exact rfl) rfl ?_; intro b1
  refine KO.as rfl rfl ?_
  refine KO.nil ?_
  repeat (first | (with_reducible refine K.seq ?_) | (with_reducible refine KQ.next ?_))
  generalize hc1 : smallsB xs = c1
  cases c1
  · refine K.reg ?_
    refine KO.fo0 (off := 3) rfl Tryd.runUnderlying72 rfl rfl Tryd.sizeOf57 rfl ?_
    refine KO.ld rfl rfl Tryd.isAgg57 (by with_reducible (repeat (exact Pick.head))) (by exact rfl) rfl ?_
    refine KO.ce (cp := []) rfl rfl rfl Tryd.call23 rfl (smalls_e w _ _ xs (fun w' hw' => rdA_extM hr (Ext.of_below hw'.below))) ?_; rintro v' L' ⟨rfl, rfl⟩; rw [hc1]
    refine KO.not rfl rfl ?_
    refine KO.nil ?_
    repeat ((with_reducible refine KQ.next ?_))
    refine K.condT rfl rfl ?_
    repeat ((with_reducible refine K.seq ?_))
    refine K.reg ?_
    refine KO.as rfl rfl ?_
    refine KO.nil ?_
    repeat (first | (with_reducible refine KQ.next ?_) | (with_reducible refine KQ.then_ret ?_) | (with_reducible refine K.ret ?_))
    exact KQ.ret1 rfl rfl (fun w' hs => fin w' _ hs)
  have hl60 : xs.length ≤ 60 := by unfold smallsB at hc1; simp at hc1; exact hc1.1
  refine K.reg ?_
  refine KO.fo0 (off := 3) rfl Tryd.runUnderlying72 rfl rfl Tryd.sizeOf57 rfl ?_
  refine KO.ld rfl rfl Tryd.isAgg57 (by with_reducible (repeat (exact Pick.head))) (by exact rfl) rfl ?_
  refine KO.ce (cp := []) rfl rfl rfl Tryd.call23 rfl (smalls_e w _ _ xs (fun w' hw' => rdA_extM hr (Ext.of_below hw'.below))) ?_; rintro v' L' ⟨rfl, rfl⟩; rw [hc1]
  refine KO.not rfl rfl ?_
  refine KO.nil ?_
  repeat ((with_reducible refine KQ.next ?_))
  refine K.condF rfl rfl ?_
  repeat (first | (with_reducible refine K.seq ?_) | (with_reducible refine KQ.next ?_) | (with_reducible refine K.skip ?_))
  refine K.reg ?_
  refine KO.ldB0 rfl rfl Tryd.isAgg72 Tryd.sizeOf72 (by with_reducible (repeat (exact Pick.head))) (by exact rfl) rfl ?_
  refine KO.ce (cp := []) rfl rfl rfl Tryd.call36 rfl (given_e w _ f _ _ _) ?_; rintro v' L' ⟨rfl, rfl⟩
  refine KO.ce (cp := []) rfl rfl rfl Tryd.call35 rfl (rfw_e w _ f _ xs (fun w' hw' => rdA_extM hr (Ext.of_below hw'.below)) hT hsz (by omega)) ?_; rintro v' L' ⟨rfl, rfl⟩
  refine KO.mv rfl rfl ?_
  refine KO.extrL rfl (by exact rfl) rfl ?_
  refine KO.extrL rfl (by exact rfl) rfl ?_
  refine KO.as rfl rfl ?_
  refine KO.as rfl rfl ?_
  refine KO.nil ?_
  repeat (first | (with_reducible refine K.seq ?_) | (with_reducible refine KQ.next ?_))
  refine K.reg ?_
  refine KO.ldB0 rfl rfl Tryd.isAgg72 Tryd.sizeOf72 (by with_reducible (repeat (exact Pick.head))) (by exact rfl) rfl ?_
  refine KO.ce (cp := []) rfl rfl rfl Tryd.call37 rfl (fw_e w _ f _ xs (fun w' hw' => rdA_extM hr (Ext.of_below hw'.below)) hT hsz) ?_; rintro v' L' ⟨rfl, rfl⟩
  refine KO.mv rfl rfl ?_
  refine KO.extrL rfl (by exact rfl) rfl ?_
  refine KO.extrL rfl (by exact rfl) rfl ?_
  refine KO.as rfl rfl ?_
  refine KO.as rfl rfl ?_
  refine KO.nil ?_
  repeat (first | (with_reducible refine K.seq ?_) | (with_reducible refine KQ.next ?_))
  refine K.reg ?_
  refine KO.mv rfl rfl ?_
  refine KO.mv rfl rfl ?_
  refine KO.ce (cp := []) rfl rfl rfl Tryd.call38 rfl (lbare_e w _ _ _ hg) ?_; rintro v' L' ⟨rfl, rfl⟩
  refine KO.mv rfl rfl ?_
  (refine KO.on rfl rfl ?_ ?_; (focus (simp; done)); (refine KO.mv rfl rfl ?_))
  (refine KO.on rfl rfl ?_ ?_; (focus (simp; done)); (refine KO.mv rfl rfl ?_))
  (refine KO.on rfl rfl ?_ ?_; (focus (simp; done)); (refine KO.eqS rfl rfl rfl ?_))
  (refine KO.pickT rfl ?_ rfl rfl ?_; (focus (simp; done)))
  refine KO.as rfl rfl ?_
  refine KO.nil ?_
  repeat (first | (with_reducible refine KQ.next ?_) | (with_reducible refine K.ret ?_))
  refine KQ.ret1 rfl ?_ (fun w' hs => fin w' _ hs)
  simp [envAt]
end Go.Proofs.YtjhogocabcdjbaaDoor
/- waybilllaw.FrameWrites: for every frame the law returns true, and the frame's list reads as it did. No condition. -/
namespace Go.Proofs.YtjhogocabcdjbaaDoor.fwrites
open Go Go.RowKit Go.ChangeShapes Go.WideShapes Go.ChangeAt Go.Deep WB
theorem own : ownKnob Tryd.prog.godebug = none := by kernel_rfl
theorem laidOut : laidOutB Tryd.prog = true := by kernel_rfl
theorem et : Tryd.prog.globalNamed "errors.errorType" = some 0 := by kernel_rfl
theorem rt : (Tryd.prog.cutTypes.find? (·.1 == "internal/reflectlite.rtype")).map (·.2) = some 160 := by kernel_rfl
theorem oneRow : ((List.range 258).filter fun t => Tryd.prog.rowNamed t [101, 114, 114, 111, 114]) = [32] := by kernel_rfl
theorem tsize : Tryd.prog.types.size = 258 := by kernel_rfl
theorem handle_of {W : World} (h : handlesMet Tryd.prog [("errors.errorType", Rows.laid_errors_errorType)] W) : ErrType W := by
  obtain ⟨name, u, ty, e1, e2, e3, e4, e5⟩ := h _ (List.mem_singleton.2 rfl)
  have en : name = [101, 114, 114, 111, 114] := (Option.some.inj e1).symm
  subst en
  obtain rfl := Option.some.inj (rt.symm.trans e2)
  have hm : ty ∈ (List.range 258).filter fun t => Tryd.prog.rowNamed t [101, 114, 114, 111, 114] := List.mem_filter.2 ⟨List.mem_range.2 (by rw [← tsize]; exact e3), e4⟩
  rw [oneRow] at hm
  obtain rfl := List.mem_singleton.1 hm
  have hh : typeHandle Tryd.prog 32 = .pointer (some ⟨9, 32, none⟩) := by kernel_rfl
  rw [hh] at e5
  have h1 := World.var?_cell et e5 0
  unfold ErrType
  simpa using h1
theorem handle_of_laid {W : World} (h : laidMetH Tryd.prog Rows.frameWritesRow.laid W) : ErrType W := handle_of h.2
/-- a world in which the listed variables lie -/
noncomputable def hold (os : Os) : World :=
  let w0 := World.holding Tryd.prog os ⟨#[], #[], []⟩
  { w0 with heap := w0.heap.modify 0 fun
      | .cells _ t frozen => .cells #[.iface 160 (.agg #[.pointer (some ⟨9, 32, none⟩)])] t frozen
      | o => o }
def data : List (String × DataW Unit) := [("math/bits.deBruijn32tab", Rows.laid_math_bits_deBruijn32tab), ("math/bits.deBruijn64tab", Rows.laid_math_bits_deBruijn64tab), ("internal/strconv.uint64pow10", Rows.laid_internal_strconv_uint64pow10), ("unicode/utf8.acceptRanges", Rows.laid_unicode_utf8_acceptRanges), ("unicode/utf8.first", Rows.laid_unicode_utf8_first)]
noncomputable def laidWorld (os : Os) : World := (hold os).layVars Tryd.prog data
theorem laidWorld_os (os : Os) : (laidWorld os).os = os := World.layVars_os _ _ _
set_option maxRecDepth 100000 in
theorem data_met (os : Os) (args : Array Value) : laidMet Tryd.prog data ((laidWorld os).forCall (fun _ _ => 0) ⟨#[], args, []⟩).memory := by
  have h : laidMet Tryd.prog data (laidWorld os) := laidMet_layVars (w0 := hold os) (data.map (·.1)) [] rfl (by kernel_rfl) (by kernel_rfl) LaidIn.none
  exact h.of_heap (by simp [World.memory, World.forCall, Input.heap])
set_option maxRecDepth 100000 in
theorem laid_met (os : Os) (args : Array Value) : laidMetH Tryd.prog Rows.frameWritesRow.laid ((laidWorld os).forCall (fun _ _ => 0) ⟨#[], args, []⟩).memory :=
  laidMetH_of_parts (data_met os args) (by kernel_rfl)
set_option maxRecDepth 100000 in
theorem rd_msg {H : Type} {enc : TypeId × Value → H} {W : World} {n : Nat} {cs : List Value} {y : DataW H × List MemPlace} (h : DataW.trod enc Tryd.prog W 0 (fun _ => true) true n 50 cs = some y) : ∃ m : Ms, (m.body.size ≤ maxLen ∧ m.queue.size ≤ maxLen) ∧ cs = msC m := by
  have hci : Tryd.prog.cellsOf 3 = 1 := by kernel_rfl
  have hcs : Tryd.prog.cellsOf 9 = 1 := by kernel_rfl
  have hlen := trod_len Tryd.underlying50 h (show Tryd.prog.cellsOf 50 = 5 by kernel_rfl)
  obtain ⟨s2, e2, _⟩ := trod_i Tryd.underlying50 h 0 0 3 rfl hci Tryd.underlying3
  obtain ⟨s3, e3, _⟩ := trod_i Tryd.underlying50 h 1 1 3 rfl hci Tryd.underlying3
  obtain ⟨s4, e4, w4⟩ := trod_str Tryd.underlying50 h 2 2 9 rfl hcs Tryd.underlying9
  obtain ⟨s5, e5, w5⟩ := trod_str Tryd.underlying50 h 3 3 9 rfl hcs Tryd.underlying9
  obtain ⟨s6, e6, _⟩ := trod_i Tryd.underlying50 h 4 4 3 rfl hci Tryd.underlying3
  match cs, hlen, e2, e3, e4, e5, e6 with
  | [c2, c3, c4, c5, c6], _, e2, e3, e4, e5, e6 =>
    simp only [List.getElem?_cons_zero, List.getElem?_cons_succ, Option.some.injEq] at e2 e3 e4 e5 e6
    exact ⟨⟨s2, s3, s4, s5, s6⟩, ⟨w4, w5⟩, by rw [e2, e3, e4, e5, e6]; rfl⟩
set_option maxRecDepth 100000 in
theorem open_msg {H : Type} {enc : TypeId × Value → H} {W : World} {r : Reach} {base : Nat} {v : Value} {d : DataW H} {p : List MemPlace} (hv : Value.okWide Tryd.prog W r base 50 v) (h : DataW.Trod enc Tryd.prog W 0 (fun _ => true) true 50 v d p) :
    ∃ m : Ms, v = .agg (msC m).toArray ∧ (m.body.size ≤ maxLen ∧ m.queue.size ≤ maxLen) := by
  obtain ⟨cs, rfl, _⟩ := okWide_struct Tryd.underlying50 hv
  obtain ⟨fuel, hf⟩ := h
  obtain ⟨m, hm, hcs⟩ := rd_msg hf
  refine ⟨m, ?_, hm⟩
  have : cs.toList = msC m := hcs
  rw [← this]
theorem open_slc {H : Type} {enc : TypeId × Value → H} {α : Type} {φ : α → Prop} {cf : α → List Value} {W : World} {t e : TypeId} {cs : List Value} {y : DataW H × List MemPlace} {fuel sz : Nat} (ht : Tryd.prog.underlying t = some (.slice e))
    (hf : DataW.trod enc Tryd.prog W 0 (fun _ => true) true fuel t cs = some y) (hsz : Tryd.prog.cellsOf e = sz) (rd : ∀ n cs y, DataW.trod enc Tryd.prog W 0 (fun _ => true) true n e cs = some y → ∃ x : α, φ x ∧ cs = cf x) :
    ∃ (v : Value) (xs : List α), cs = [v] ∧ RdA W sz cf v xs ∧ ∀ x ∈ xs, φ x := by
  rcases open_slice ht hf with ⟨hcs, _⟩ | ⟨a', len', cap', m, n, D, Pl, hcs, _, hl, _, hm, _, hi⟩
  · exact ⟨_, [], hcs, ⟨none, 0, rfl, fun i x h => by simp at h⟩, fun x hx => by simp at hx⟩
  · have key : ∀ i, i < len' → ∃ x : α, φ x ∧ HasCells W (a'.add (i * sz)) (cf x) := fun i hlt => by
      obtain ⟨cs', hc, htr⟩ := hi i (by rw [hm]; simp; omega)
      obtain ⟨x, hx, rfl⟩ := rd n cs' _ htr
      obtain ⟨_, hlen, hcell⟩ := World.cells?_some hc
      refine ⟨x, hx, fun j c hj => ?_⟩
      have hlt2 := (List.getElem?_eq_some_iff.1 hj).1
      rw [← hsz]
      rw [hcell j (by omega)]; exact hj
    obtain ⟨l, hll, hp⟩ := list_of_each len' key
    refine ⟨_, l, hcs, ⟨some a', cap', by rw [hll], fun i x hx => ⟨a', rfl, (hp i x hx).2⟩⟩, fun x hx => ?_⟩
    obtain ⟨i, hi, rfl⟩ := List.getElem_of_mem hx
    exact (hp i _ (List.getElem?_eq_getElem hi)).1
set_option maxRecDepth 100000 in
theorem rd_fr {H : Type} {enc : TypeId × Value → H} {W : World} {n : Nat} {cs : List Value} {y : DataW H × List MemPlace} (h : DataW.trod enc Tryd.prog W 0 (fun _ => true) true n 72 cs = some y) :
    ∃ (f : Fr) (sv : Value) (xs : List Ms), cs = frC f sv ∧ RdA W 5 msC sv xs ∧ ∀ m ∈ xs, m.body.size ≤ maxLen ∧ m.queue.size ≤ maxLen := by
  have hci : Tryd.prog.cellsOf 3 = 1 := by kernel_rfl
  have hcb : Tryd.prog.cellsOf 4 = 1 := by kernel_rfl
  have hcl : Tryd.prog.cellsOf 57 = 1 := by kernel_rfl
  have hlen := trod_len Tryd.underlying72 h (show Tryd.prog.cellsOf 72 = 4 by kernel_rfl)
  obtain ⟨s0, e0, _⟩ := trod_i Tryd.underlying72 h 0 0 3 rfl hci Tryd.underlying3
  obtain ⟨s1, e1, _⟩ := trod_i Tryd.underlying72 h 1 1 3 rfl hci Tryd.underlying3
  obtain ⟨s2, e2⟩ := trod_b Tryd.underlying72 h 2 2 4 rfl hcb Tryd.underlying4
  obtain ⟨m, y', h3⟩ := trod_field Tryd.underlying72 h 3 3 57 1 rfl hcl
  obtain ⟨sv, xs, e3, hx, hsz⟩ := open_slc (φ := fun m : Ms => m.body.size ≤ maxLen ∧ m.queue.size ≤ maxLen) (cf := msC) Tryd.underlying57 h3 (show Tryd.prog.cellsOf 50 = 5 by kernel_rfl) (fun n cs y h => rd_msg h)
  clear h h3
  match cs, hlen, e0, e1, e2, e3 with
  | [c0, c1, c2, c3], _, e0, e1, e2, e3 =>
    simp only [List.getElem?_cons_zero, List.getElem?_cons_succ, Option.some.injEq] at e0 e1 e2
    simp only [List.drop_succ_cons, List.drop_zero, List.take_succ_cons, List.take_zero, List.cons.injEq, and_true] at e3
    exact ⟨⟨s0, s1, s2⟩, sv, xs, by rw [e0, e1, e2, e3]; rfl, hx, hsz⟩
set_option maxRecDepth 100000 in
theorem open_fr {H : Type} {enc : TypeId × Value → H} {W : World} {r : Reach} {base : Nat} {v : Value} {d : DataW H} {p : List MemPlace} (hv : Value.okWide Tryd.prog W r base 72 v) (h : DataW.Trod enc Tryd.prog W 0 (fun _ => true) true 72 v d p) :
    ∃ (f : Fr) (sv : Value), v = .agg (frC f sv).toArray ∧ ∃ xs : List Ms, RdA W 5 msC sv xs ∧ ∀ m ∈ xs, m.body.size ≤ maxLen ∧ m.queue.size ≤ maxLen := by
  obtain ⟨cs, rfl, _⟩ := okWide_struct Tryd.underlying72 hv
  obtain ⟨fuel, hf⟩ := h
  obtain ⟨f, sv, xs, hcs, hx, hsz⟩ := rd_fr hf
  refine ⟨f, sv, ?_, xs, hx, hsz⟩
  have : cs.toList = frC f sv := hcs
  rw [← this]
set_option maxRecDepth 100000 in
theorem tab_of {W : World} (h : laidMetH Tryd.prog Rows.frameWritesRow.laid W) : Tab W := by
  have h1 : laidMet Tryd.prog data W := by
    have := h.1
    rwa [show ((Rows.frameWritesRow.laid).filter fun x => x.2.handleName?.isNone) = data from by kernel_rfl] at this
  have hd : ("internal/strconv.uint64pow10", Lib.tabData .u64 Lib.pow10Tab) ∈ data := by
    have e : (Lib.tabData .u64 Lib.pow10Tab : DataW Unit) = Rows.laid_internal_strconv_uint64pow10 := by kernel_rfl
    rw [e]; unfold data; simp
  exact tab_of_laid h1 hd (g := 4) (by kernel_rfl) (by kernel_rfl) (n := 20) Tryd.underlying213 Tryd.underlying193 (by kernel_rfl) (by kernel_rfl)
set_option maxRecDepth 100000 in
theorem contract (H : Type) (enc : TypeId × Value → H) (W : World) (base : Nat) (args : Array Value) (ds gs : List (DataW H)) (before : List MemPlace)
    (hval : ∀ (j : Nat) t v, Tryd.f6.params[j]? = some t → args[j]? = some v → Value.okWide Tryd.prog W .any base t v)
    (hW : DataW.Whole enc Tryd.prog Tryd.f6.params.toList Rows.frameWritesSpec.vars false W args.toList ds gs before) (hL : laidMetH Tryd.prog Rows.frameWritesRow.laid W) :
    Calls Tryd.prog 6 args W fun e W' => ∃ v, e = .returned v ∧ Rows.frameWritesSpec.post enc Tryd.prog Tryd.f6 false true false false W args v W' := by
  have hW' := hW
  obtain ⟨p, q, hA0, hV, rfl, hfz, hnd⟩ := hW
  have hA : DataW.TrodAll enc Tryd.prog W 0 (fun _ => true) true Tryd.f6.params.toList args.toList ds p := hA0
  have hA2 := hA
  rw [Tryd.params6] at hA hval
  obtain ⟨v0, d0, rfl, rfl, h0⟩ := trodAll_one hA
  obtain ⟨rfl, rfl⟩ := trodVars_none hV
  have hET := handle_of_laid hL
  obtain ⟨f, sv, rfl, xs, hx, hsz⟩ := open_fr (hval 0 72 v0 rfl rfl) h0
  have hTab := tab_of hL
  have hlt : ∀ x ∈ p, x.block < W.heap.size := fun x hx => by
    have := hW'.lt x (List.mem_append_left _ hx)
    simpa using this
  have hwalk : Calls Tryd.prog 6 #[.agg (frC f sv).toArray] W fun e W' => e = .returned (.bool true) ∧ Below W.heap.size W W' := by
    refine (fwlaw_e W [] f sv xs (fun w hw => rdA_extM hx (Ext.of_below hw.below)) hsz hTab hET W (St.init W)).mono ?_
    rintro e W' ⟨v, L', rfl, ⟨rfl, _⟩, _, hb⟩
    exact ⟨rfl, hb⟩
  refine hwalk.mono fun e W' ⟨he, hb⟩ => ?_
  subst he
  simp only [List.append_nil] at hW'
  exact ⟨_, rfl, _, _, _, [], p, [], hW', trodAll_mk1 (shut_bool Tryd.underlying4 _), law_args laidOut hb (by kernel_rfl) hA2 hlt, rfl, hb.frame _, fun h => by cases h⟩
set_option maxRecDepth 100000 in
theorem reads (os : Os) {H : Type} (enc : TypeId × Value → H) : ∃ places, DataW.whole enc Tryd.prog ((laidWorld os).forCall (fun _ _ => 0) ⟨#[], #[.agg #[.int .i64 0, .int .i64 0, .bool false, .slice none 0 0]], []⟩).memory Tryd.f6.params.toList Rows.frameWritesSpec.vars false (#[.agg #[.int .i64 0, .int .i64 0, .bool false, .slice none 0 0]] : Array Value).toList 8 = some ([.agg [.lit (.int .i64 0), .lit (.int .i64 0), .lit (.bool false), .nil]], [], places) :=
  ⟨[], by kernel_rfl⟩
set_option maxRecDepth 100000 in
theorem lifted (os : Os) (started : os.Started) (H : Type) (enc : TypeId × Value → H) (F : Stop.Interp) :
    ReturnsInHanded {} Tryd.checked os 6 .any ((OpenSpec.ofChange Rows.frameWritesSpec).preRow enc Tryd.prog Tryd.f6 Rows.frameWritesRow.domain false Rows.frameWritesRow.laid) (((OpenSpec.ofChange Rows.frameWritesSpec).at F).post enc Tryd.prog Tryd.f6 false true false false) := by
  obtain ⟨places, hx⟩ := reads os enc
  refine returnsInHanded_of_row (C := Tryd.checked) (s := OpenSpec.ofChange Rows.frameWritesSpec) own started (by kernel_rfl) Tryd.func6
    (witness_row_sh (enc := enc) (C := Tryd.checked) false (laidWorld os) #[.agg #[.int .i64 0, .int .i64 0, .bool false, .slice none 0 0]] (laidWorld_os os) (World.shaped_of_ZipB (by kernel_rfl) (by kernel_rfl)) (by kernel_rfl)
      (OpenSpec.preRow_of_cond 8 hx (by kernel_rfl) (fun k hk => by cases hk) (by kernel_rfl) (laid_met os _))) ?_
  intro W base args ds gs before hval hW _ _ _ hL _ _
  exact contract H enc W base args ds gs before hval hW hL
theorem said : Rows.FrameWritesSaid :=
  OpenClaim.holds_of_cond 6 Tryd.f6 rfl rfl rfl rfl rfl rfl rfl ⟨rfl, rfl, rfl, rfl, rfl⟩ rfl rfl rfl rfl rfl (by kernel_rfl) Tryd.func6 (by kernel_rfl)
    (of_decide_eq_true (by kernel_rfl)) (by unfold Func.isWrapper; first | (rw [if_pos (by decide +kernel)]; kernel_rfl) | (rw [if_neg (by decide +kernel)]; exact ⟨rfl, rfl⟩))
    (fun os started H enc _ F => by rw [OpenClaim.pre_eq_preRow]; exact lifted os started H enc F)
set_option maxRecDepth 100000 in
theorem plain (f : FuncId) (fn : Func) (hf : Tryd.pinned.checked.prog.funcNamed "waybill/waybilllaw.FrameWrites" = some f) (hfn : Tryd.pinned.checked.prog.funcs[f]? = some fn) :
    true = Tryd.pinned.checked.prog.looks [] ∧ ∀ (j : Nat) t, fn.params[j]? = some t → Tryd.pinned.checked.prog.wantsStandIn t = false := by
  obtain rfl : f = 6 := Option.some.inj ((show Tryd.prog.funcNamed "waybill/waybilllaw.FrameWrites" = some 6 by kernel_rfl).symm.trans hf) |>.symm
  obtain rfl : fn = Tryd.f6 := (Option.some.inj (Tryd.func6.symm.trans hfn)).symm
  refine ⟨by kernel_rfl, fun j t ht => ?_⟩
  rw [Tryd.params6] at ht
  have hm : t ∈ [72] := by simpa using Array.mem_of_getElem? ht
  have hall : ([72].all fun u => !Tryd.prog.wantsStandIn u) = true := by kernel_rfl
  exact (show Tryd.prog.wantsStandIn t = false by simpa using List.all_eq_true.1 hall t hm)
set_option maxRecDepth 100000 in
/-- the card -/
theorem card : Rows.FrameWritesCardSaid :=
  Claim7.holds_tied_plain_at .later [] _ _ _ _ said (fun _ h => by cases h) (by kernel_rfl) (fun _ h => by cases h) frameWrites_row_tie rfl ⟨rfl, rfl⟩ (by kernel_rfl) rfl plain (by kernel_rfl)
end Go.Proofs.YtjhogocabcdjbaaDoor.fwrites
