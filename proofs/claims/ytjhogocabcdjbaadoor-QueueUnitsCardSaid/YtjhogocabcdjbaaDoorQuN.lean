/- what the laws ask: pick, plain.Same, api.Tell; lined. -/
import Derived.Test.YtjhogocabcdjbaaDoorQuM
import Derived.Test.YtjhogocabcdjbaaDoorNmF
import Derived.Test.YtjhogocabcdjbaaDoorWbKi
set_option linter.unusedSimpArgs false
set_option linter.unusedVariables false
namespace Go.Proofs.YtjhogocabcdjbaaDoor
open Go Go.RowKit WB
theorem pick_e (w0 : World) (L : List HP) (a n : Int) (h1 : 1 ≤ n) (h2 : n ≤ 1000) : KE Tryd.prog 10 #[.int .i64 a, .int .i64 n] w0 L (fun u L' => u = .int .i64 (pk a n) ∧ L' = L) := KE.of_below fun w _ => by
  have hu : IntKind.u64.wrap a = a % 18446744073709551616 := rfl
  have h0 : 0 ≤ a % 18446744073709551616 := Int.emod_nonneg _ (by omega)
  have hp : (IntKind.u64.wrap a).tmod n = pk a n := by rw [hu, Int.tmod_eq_emod_of_nonneg h0]; rfl
  have hw : wrap64 ((IntKind.u64.wrap a).tmod n) = pk a n := by rw [hp]; have := pk_lt a h1; unfold wrap64; omega
  have HW := Lib.hid hw
  clear hw hp h0 hu
  go_enter Tryd.func10, Tryd.ntmps10
  go_wp2_with fail
  rw [HW.out]
  go_ret
  exact ⟨rfl, Below.refl _ _⟩
theorem tell_e (w0 : World) (L : List HP) (k : Int) (hg : ErrType w0) : KE Tryd.prog 13 #[errV 37 k] w0 L (fun u L' => u = .int .i64 k ∧ L' = L) := KE.of_below fun w hw => by
  unfold errV
  split
  · next h => subst h; exact tell_nil w
  · exact tell_errno k w ((Ext.of_below hw.below).cell hg)
theorem ms_eq (a b : Ms) (w : World) : (Op.equalIn 10000 50 (.agg (msC a).toArray) (.agg (msC b).toArray)).run Tryd.prog w = .ok (decide (a = b)) w := by
  rw [run_equalIn_agg w 9999 50 _ _ (by kernel_rfl) (by kernel_rfl), ← ms_bools]
  simp only [Program.fieldsOf, Tryd.underlying50]
  refine eqF_int (by decide) Tryd.underlying3 (Tryd.isAgg3 w) rfl rfl (eqF_int (by decide) Tryd.underlying3 (Tryd.isAgg3 w) rfl rfl (eqF_str (by decide) Tryd.underlying9 (Tryd.isAgg9 w) rfl rfl (eqF_str (by decide) Tryd.underlying9 (Tryd.isAgg9 w) rfl rfl (eqF_int (by decide) Tryd.underlying3 (Tryd.isAgg3 w) rfl rfl eqF_nil))))
theorem same_e (w0 : World) (L : List HP) (v1 v2 : Value) (xs ys : List Ms) (h1 : ∀ w, St w0 L w → RdS w 5 msC v1 xs) (h2 : ∀ w, St w0 L w → RdS w 5 msC v2 ys) (hx : xs.length < 1000000) (hy : ys.length < 1000000) :
    KE Tryd.prog 20 #[v1, v2] w0 L (fun u M => u = .bool (decide (xs = ys)) ∧ M = L) := by
  refine KE.mk (n := 26) Tryd.func20 rfl Tryd.ntmps20 (by simp) ?_
  intro w hw
  obtain ⟨a1, c1, rfl, ha1, hc1⟩ := h1 w hw
  obtain ⟨a2, c2, rfl, ha2, hc2⟩ := h2 w hw
  have fin : ∀ (b : Bool) (w' : World) (M : List HP), b = decide (xs = ys) → St w M w' → ∃ v L', Ending.returned (.bool b) = Ending.returned v ∧ (v = .bool (decide (xs = ys)) ∧ L' = L) ∧ St w0 L' w' ∧ Below w.heap.size w w' := fun b w' M e hs => ⟨_, _, rfl, ⟨by rw [e], rfl⟩, hw.below_step hs.below, hs.below⟩
  repeat (first | (with_reducible refine K.seq ?_) | (with_reducible refine KQ.next ?_) | (with_reducible refine KQ.then_ret ?_) | (with_reducible refine KQ.blk_ret ?_) | (with_reducible refine KQ.then_exit ?_) | (with_reducible refine KQ.blk_exit ?_) | (refine KQ.blk_pass rfl ?_) | (with_reducible refine KQ.blk_normal ?_) | (with_reducible refine K.ret ?_) | (with_reducible refine K.skip ?_) | (with_reducible refine K.exit ?_) | (with_reducible refine K.block ?_))
  refine K.reg ?_
  refine KO.as rfl rfl ?_
  refine KO.nil ?_
  repeat (first | (with_reducible refine K.seq ?_) | (with_reducible refine KQ.next ?_) | (with_reducible refine KQ.then_ret ?_) | (with_reducible refine KQ.blk_ret ?_) | (with_reducible refine KQ.then_exit ?_) | (with_reducible refine KQ.blk_exit ?_) | (refine KQ.blk_pass rfl ?_) | (with_reducible refine KQ.blk_normal ?_) | (with_reducible refine K.ret ?_) | (with_reducible refine K.skip ?_) | (with_reducible refine K.exit ?_) | (with_reducible refine K.block ?_))
  refine K.reg ?_
  refine KO.mv rfl rfl ?_
  refine KO.len rfl Tryd.underlying57 rfl ?_
  refine KO.mv rfl rfl ?_
  refine KO.len rfl Tryd.underlying57 rfl ?_
  refine KO.neI rfl rfl rfl ?_
  refine KO.nil ?_
  repeat (first | (with_reducible refine K.seq ?_) | (with_reducible refine KQ.next ?_) | (with_reducible refine KQ.then_ret ?_) | (with_reducible refine KQ.blk_ret ?_) | (with_reducible refine KQ.then_exit ?_) | (with_reducible refine KQ.blk_exit ?_) | (refine KQ.blk_pass rfl ?_) | (with_reducible refine KQ.blk_normal ?_) | (with_reducible refine K.ret ?_) | (with_reducible refine K.skip ?_) | (with_reducible refine K.exit ?_) | (with_reducible refine K.block ?_))
  refine K.condD rfl (fun h => ?_) (fun h => ?_)
  · repeat (first | (with_reducible refine K.seq ?_) | (with_reducible refine KQ.next ?_) | (with_reducible refine KQ.then_ret ?_) | (with_reducible refine KQ.blk_ret ?_) | (with_reducible refine KQ.then_exit ?_) | (with_reducible refine KQ.blk_exit ?_) | (refine KQ.blk_pass rfl ?_) | (with_reducible refine KQ.blk_normal ?_) | (with_reducible refine K.ret ?_) | (with_reducible refine K.skip ?_) | (with_reducible refine K.exit ?_) | (with_reducible refine K.block ?_))
    refine K.reg ?_
    refine KO.as rfl rfl ?_
    refine KO.nil ?_
    repeat (first | (with_reducible refine K.seq ?_) | (with_reducible refine KQ.next ?_) | (with_reducible refine KQ.then_ret ?_) | (with_reducible refine KQ.blk_ret ?_) | (with_reducible refine KQ.then_exit ?_) | (with_reducible refine KQ.blk_exit ?_) | (refine KQ.blk_pass rfl ?_) | (with_reducible refine KQ.blk_normal ?_) | (with_reducible refine K.ret ?_) | (with_reducible refine K.skip ?_) | (with_reducible refine K.exit ?_) | (with_reducible refine K.block ?_))
    refine KQ.ret1 rfl rfl (fun w' hs => fin _ w' _ (by rw [eq_comm, decide_eq_false_iff_not]; rintro rfl; exact h rfl) hs)
  · have hlen : xs.length = ys.length := by omega
    repeat (first | (with_reducible refine K.seq ?_) | (with_reducible refine KQ.next ?_) | (with_reducible refine KQ.then_ret ?_) | (with_reducible refine KQ.blk_ret ?_) | (with_reducible refine KQ.then_exit ?_) | (with_reducible refine KQ.blk_exit ?_) | (refine KQ.blk_pass rfl ?_) | (with_reducible refine KQ.blk_normal ?_) | (with_reducible refine K.ret ?_) | (with_reducible refine K.skip ?_) | (with_reducible refine K.exit ?_) | (with_reducible refine K.block ?_))
    refine K.reg ?_
    refine KO.mv rfl rfl ?_
    refine KO.len rfl Tryd.underlying57 rfl ?_
    refine KO.mv rfl rfl ?_
    refine KO.nil ?_
    repeat (first | (with_reducible refine K.seq ?_) | (with_reducible refine KQ.next ?_) | (with_reducible refine KQ.then_ret ?_) | (with_reducible refine KQ.blk_ret ?_) | (with_reducible refine KQ.then_exit ?_) | (with_reducible refine KQ.blk_exit ?_) | (refine KQ.blk_pass rfl ?_) | (with_reducible refine KQ.blk_normal ?_) | (with_reducible refine K.ret ?_) | (with_reducible refine K.skip ?_) | (with_reducible refine K.exit ?_) | (with_reducible refine K.block ?_))
    refine K.loop (fun k : Nat => [(0, .slice a1 xs.length c1), (1, .slice a2 ys.length c2), (4, .bool false), (12, .int .i64 (xs.length : Nat)), (13, .int .i64 (k : Nat))]) (fun _ => []) (fun k => k ≤ xs.length ∧ xs.take k = ys.take k) (fun k => xs.length - k) 0
      ⟨Nat.zero_le _, rfl⟩ ⟨rfl, rfl, rfl, rfl, rfl, trivial⟩ (fun _ h => h) ?_
    rintro k ⟨hk, hkk⟩
    repeat (first | (with_reducible refine K.seq ?_) | (with_reducible refine KQ.next ?_) | (with_reducible refine KQ.then_ret ?_) | (with_reducible refine KQ.blk_ret ?_) | (with_reducible refine KQ.then_exit ?_) | (with_reducible refine KQ.blk_exit ?_) | (refine KQ.blk_pass rfl ?_) | (with_reducible refine KQ.blk_normal ?_) | (with_reducible refine K.ret ?_) | (with_reducible refine K.skip ?_) | (with_reducible refine K.exit ?_) | (with_reducible refine K.block ?_))
    refine K.reg ?_
    refine KO.lss rfl rfl rfl ?_
    refine KO.nil ?_
    repeat (first | (with_reducible refine K.seq ?_) | (with_reducible refine KQ.next ?_) | (with_reducible refine KQ.then_ret ?_) | (with_reducible refine KQ.blk_ret ?_) | (with_reducible refine KQ.then_exit ?_) | (with_reducible refine KQ.blk_exit ?_) | (refine KQ.blk_pass rfl ?_) | (with_reducible refine KQ.blk_normal ?_) | (with_reducible refine K.ret ?_) | (with_reducible refine K.skip ?_) | (with_reducible refine K.exit ?_) | (with_reducible refine K.block ?_))
    refine K.condD rfl (fun h3 => ?_) (fun h3 => ?_)
    · obtain ⟨g1, rfl⟩ := ha1 (by omega)
      obtain ⟨g2, rfl⟩ := ha2 (by omega)
      obtain ⟨e1, he1⟩ : ∃ e, xs[k]? = some e := ⟨xs[k], List.getElem?_eq_getElem (by omega)⟩
      obtain ⟨e2, he2⟩ : ∃ e, ys[k]? = some e := ⟨ys[k], List.getElem?_eq_getElem (by omega)⟩
      repeat (first | (with_reducible refine K.seq ?_) | (with_reducible refine KQ.next ?_) | (with_reducible refine KQ.then_ret ?_) | (with_reducible refine KQ.blk_ret ?_) | (with_reducible refine KQ.then_exit ?_) | (with_reducible refine KQ.blk_exit ?_) | (refine KQ.blk_pass rfl ?_) | (with_reducible refine KQ.blk_normal ?_) | (with_reducible refine K.ret ?_) | (with_reducible refine K.skip ?_) | (with_reducible refine K.exit ?_) | (with_reducible refine K.block ?_))
      refine K.reg ?_
      refine KO.mv rfl rfl ?_
      refine KO.as rfl rfl ?_
      refine KO.nil ?_
      repeat (first | (with_reducible refine K.seq ?_) | (with_reducible refine KQ.next ?_) | (with_reducible refine KQ.then_ret ?_) | (with_reducible refine KQ.blk_ret ?_) | (with_reducible refine KQ.then_exit ?_) | (with_reducible refine KQ.blk_exit ?_) | (refine KQ.blk_pass rfl ?_) | (with_reducible refine KQ.blk_normal ?_) | (with_reducible refine K.ret ?_) | (with_reducible refine K.skip ?_) | (with_reducible refine K.exit ?_) | (with_reducible refine K.block ?_))
      refine K.draw [.pure, .pure, .pure, .read, .pure, .pure, .pure, .read, .pure] [0, 1, 2, 3, 4, 5, 6, 7, 8] (by kernel_rfl) (by kernel_rfl) ?_
      refine KO.mv rfl rfl ?_
      refine KO.mv rfl rfl ?_
      first | refine KO.idx0 rfl rfl Tryd.runUnderlying57 Tryd.sizeOf50 (by first | exact rfl | exact (rfl : (0 : Int) = ((0 : Nat) : Int))) (by omega) rfl ?_ | refine KO.idxH rfl rfl Tryd.runUnderlying57 Tryd.sizeOf50 (by first | exact rfl | exact (rfl : (0 : Int) = ((0 : Nat) : Int))) (by omega) rfl ?_
      refine KO.ldN0 (cs := (msC e1).toArray) rfl rfl Tryd.isAgg50 Tryd.sizeOf50 rfl (hc1 g1 rfl k e1 he1) rfl ?_
      refine KO.mv rfl rfl ?_
      refine KO.mv rfl rfl ?_
      first | refine KO.idx0 rfl rfl Tryd.runUnderlying57 Tryd.sizeOf50 (by first | exact rfl | exact (rfl : (0 : Int) = ((0 : Nat) : Int))) (by omega) rfl ?_ | refine KO.idxH rfl rfl Tryd.runUnderlying57 Tryd.sizeOf50 (by first | exact rfl | exact (rfl : (0 : Int) = ((0 : Nat) : Int))) (by omega) rfl ?_
      refine KO.ldN0 (cs := (msC e2).toArray) rfl rfl Tryd.isAgg50 Tryd.sizeOf50 rfl (hc2 g2 rfl k e2 he2) rfl ?_
      refine KO.neA rfl rfl (by kernel_rfl) (ms_eq e1 e2) rfl ?_
      refine KO.nil ?_
      repeat (first | (with_reducible refine K.seq ?_) | (with_reducible refine KQ.next ?_) | (with_reducible refine KQ.then_ret ?_) | (with_reducible refine KQ.blk_ret ?_) | (with_reducible refine KQ.then_exit ?_) | (with_reducible refine KQ.blk_exit ?_) | (refine KQ.blk_pass rfl ?_) | (with_reducible refine KQ.blk_normal ?_) | (with_reducible refine K.ret ?_) | (with_reducible refine K.skip ?_) | (with_reducible refine K.exit ?_) | (with_reducible refine K.block ?_))
      refine K.cond rfl (fun h4 => ?_) (fun h4 => ?_)
      · repeat (first | (with_reducible refine K.seq ?_) | (with_reducible refine KQ.next ?_) | (with_reducible refine KQ.then_ret ?_) | (with_reducible refine KQ.blk_ret ?_) | (with_reducible refine KQ.then_exit ?_) | (with_reducible refine KQ.blk_exit ?_) | (refine KQ.blk_pass rfl ?_) | (with_reducible refine KQ.blk_normal ?_) | (with_reducible refine K.ret ?_) | (with_reducible refine K.skip ?_) | (with_reducible refine K.exit ?_) | (with_reducible refine K.block ?_))
        refine K.reg ?_
        refine KO.as rfl rfl ?_
        refine KO.nil ?_
        repeat (first | (with_reducible refine K.seq ?_) | (with_reducible refine KQ.next ?_) | (with_reducible refine KQ.then_ret ?_) | (with_reducible refine KQ.blk_ret ?_) | (with_reducible refine KQ.then_exit ?_) | (with_reducible refine KQ.blk_exit ?_) | (refine KQ.blk_pass rfl ?_) | (with_reducible refine KQ.blk_normal ?_) | (with_reducible refine K.ret ?_) | (with_reducible refine K.skip ?_) | (with_reducible refine K.exit ?_) | (with_reducible refine K.block ?_))
        refine KQ.ret1 rfl rfl (fun w' hs => fin _ w' _ ?_ hs)
        rw [eq_comm, decide_eq_false_iff_not]
        rintro rfl
        rw [he1] at he2
        simp only [Option.some.injEq] at he2
        simp [he2] at h4
      · have e12 : e1 = e2 := by simpa using h4
        repeat (first | (with_reducible refine K.seq ?_) | (with_reducible refine KQ.next ?_) | (with_reducible refine KQ.then_ret ?_) | (with_reducible refine KQ.blk_ret ?_) | (with_reducible refine KQ.then_exit ?_) | (with_reducible refine KQ.blk_exit ?_) | (refine KQ.blk_pass rfl ?_) | (with_reducible refine KQ.blk_normal ?_) | (with_reducible refine K.ret ?_) | (with_reducible refine K.skip ?_) | (with_reducible refine K.exit ?_) | (with_reducible refine K.block ?_))
        refine K.reg ?_
        refine KO.add rfl rfl rfl (by omega) rfl ?_
        refine KO.mv rfl rfl ?_
        refine KO.nil ?_
        repeat (first | (with_reducible refine K.seq ?_) | (with_reducible refine KQ.next ?_) | (with_reducible refine KQ.then_ret ?_) | (with_reducible refine KQ.blk_ret ?_) | (with_reducible refine KQ.then_exit ?_) | (with_reducible refine KQ.blk_exit ?_) | (refine KQ.blk_pass rfl ?_) | (with_reducible refine KQ.blk_normal ?_) | (with_reducible refine K.ret ?_) | (with_reducible refine K.skip ?_) | (with_reducible refine K.exit ?_) | (with_reducible refine K.block ?_))
        refine KQ.round (k + 1) ⟨by omega, by rw [take_succ_some he1, take_succ_some he2, hkk, e12]⟩ (by omega) ⟨rfl, rfl, rfl, rfl, rfl, trivial⟩ (fun _ hs => hs)
    · have hkl : k = xs.length := by omega
      repeat (first | (with_reducible refine K.seq ?_) | (with_reducible refine KQ.next ?_) | (with_reducible refine KQ.then_ret ?_) | (with_reducible refine KQ.blk_ret ?_) | (with_reducible refine KQ.then_exit ?_) | (with_reducible refine KQ.blk_exit ?_) | (refine KQ.blk_pass rfl ?_) | (with_reducible refine KQ.blk_normal ?_) | (with_reducible refine K.ret ?_) | (with_reducible refine K.skip ?_) | (with_reducible refine K.exit ?_) | (with_reducible refine K.block ?_))
      refine K.reg ?_
      refine KO.as rfl rfl ?_
      refine KO.nil ?_
      repeat (first | (with_reducible refine K.seq ?_) | (with_reducible refine KQ.next ?_) | (with_reducible refine KQ.then_ret ?_) | (with_reducible refine KQ.blk_ret ?_) | (with_reducible refine KQ.then_exit ?_) | (with_reducible refine KQ.blk_exit ?_) | (refine KQ.blk_pass rfl ?_) | (with_reducible refine KQ.blk_normal ?_) | (with_reducible refine K.ret ?_) | (with_reducible refine K.skip ?_) | (with_reducible refine K.exit ?_) | (with_reducible refine K.block ?_))
      refine KQ.ret1 rfl rfl (fun w' hs => fin _ w' _ ?_ hs)
      rw [eq_comm, decide_eq_true_eq]
      rw [hkl, List.take_length, hlen, List.take_length] at hkk
      exact hkk
end Go.Proofs.YtjhogocabcdjbaaDoor
