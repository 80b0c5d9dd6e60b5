/- queue: a message put into its place; one taken out. -/
import Derived.Test.YtjhogocabcdjbaaDoorQuE
import Derived.Test.YtjhogocabcdjbaaDoorWbKg
set_option linter.unusedSimpArgs false
set_option linter.unusedVariables false
namespace Go.Proofs.YtjhogocabcdjbaaDoor
open Go Go.RowKit WB
theorem it_info : (Tryd.prog.info? 99).map (fun i => (i.zero, i.size, i.bytes)) = some (some (Value.agg #[.int .i64 0, .int .i64 0, .string ⟨#[]⟩, .string ⟨#[]⟩, .int .i64 0, .int .i64 0, .int .i64 0, .int .i64 0]), 8, 80) := by kernel_rfl
theorem itC_one (x : It) : (itC x).all Value.oneCell' = true := rfl
theorem itC_ones (xs : List It) : ∀ u ∈ xs.flatMap itC, u.oneCell' = true := flat_one (fun e u hu => List.all_eq_true.1 (itC_one e) u hu) xs
theorem itIns_c (w0 : World) (L : List HP) (v : Value) (xs : List It) (x : It) (k bv : Nat) (hk : k ≤ xs.length) (hn : xs.length < 1000000) :
    KC Tryd.prog 81 #[v, .int .i64 (k : Nat), .slice (some ⟨bv, 0, none⟩) 1 1] w0 (itS v xs :: blk bv (.cells (itC x).toArray 99 (0, 0)) :: L) (fun v' L' => L' = itS v' (xs.take k ++ x :: xs.drop k) :: L) := fun w h => by
  have fin : ∀ {w' : World} {v' : Value}, St w0 (osl 99 8 v' (xs.length + 1) (xs.flatMap itC |>.take (k * 8)) :: L) w' → True := fun _ => trivial
  have e1 : (xs.take k ++ x :: xs.drop k).length = xs.length + 1 := by simp; omega
  have e2 : (xs.flatMap itC).take (k * 8) ++ itC x ++ (xs.flatMap itC).drop (k * 8) = (xs.take k ++ x :: xs.drop k).flatMap itC := by
    rw [flat_take itC 8 (fun _ => rfl) xs k hk, flat_drop itC 8 (fun _ => rfl) xs k hk]; simp
  by_cases hkn : k = xs.length
  · subst hkn
    refine (it_ins_end w w0 L v xs.length (xs.flatMap itC) (itC x) bv h rfl (fun u hu => List.all_eq_true.1 (itC_one x) u hu) hn).mono ?_
    rintro e w' ⟨v', he, hs⟩
    refine ⟨v', _, he, rfl, ?_⟩
    show St w0 (osl 99 8 v' _ _ :: L) w'
    rw [e1, show (xs.take xs.length ++ x :: xs.drop xs.length).flatMap itC = xs.flatMap itC ++ itC x by simp]
    exact hs
  · have hlt : k < xs.length := by omega
    have key : Calls Tryd.prog 81 #[v, .int .i64 (k : Nat), .slice (some ⟨bv, 0, none⟩) 1 1] w fun e w' => ∃ v', e = .returned v' ∧ St w0 (osl 99 8 v' (xs.length + 1) ((xs.flatMap itC).take (k * 8) ++ itC x ++ (xs.flatMap itC).drop (k * 8)) :: L) w' := by
      obtain ⟨g, cap, rfl⟩ := SL_some h hlt
      by_cases hr : xs.length + 1 ≤ cap
      · exact it_ins_room w w0 L g xs.length cap k _ (itC x) bv h rfl (fun u hu => List.all_eq_true.1 (itC_one x) u hu) (itC_ones xs) hn hlt hr
      · exact it_ins_grow w w0 L g xs.length k cap _ (itC x) bv h rfl (fun u hu => List.all_eq_true.1 (itC_one x) u hu) (itC_ones xs) hn hlt (by omega)
    refine key.mono ?_
    rintro e w' ⟨v', he, hs⟩
    refine ⟨v', _, he, rfl, ?_⟩
    show St w0 (osl 99 8 v' _ _ :: L) w'
    rw [e1, ← e2]; exact hs
theorem del_c (w0 : World) (L : List HP) (v : Value) (xs : List It) (k : Nat) (hk : k < xs.length) (hn : xs.length < 1000000) :
    KC Tryd.prog 52 #[v, .int .i64 (k : Nat), .int .i64 ((k : Int) + 1)] w0 (itS v xs :: L) (fun v' L' => L' = itS v' (xs.eraseIdx k) :: L) := by
  refine KC.pre (fun w hw => SL_some hw hk) ?_
  rintro ⟨g, cap, rfl⟩
  refine KC.pre (fun w hw => (SL_open hw).2.1) fun hnc => ?_
  refine KC.mk (n := 33) Tryd.func52 rfl Tryd.ntmps52 (by simp) ?_
  repeat (first | (with_reducible refine K.seq ?_) | (with_reducible refine KQ.next ?_) | (with_reducible refine KQ.then_ret ?_) | (with_reducible refine KQ.blk_ret ?_) | (with_reducible refine KQ.then_exit ?_) | (with_reducible refine KQ.blk_exit ?_) | (refine KQ.blk_pass rfl ?_) | (with_reducible refine KQ.blk_normal ?_) | (with_reducible refine K.ret ?_) | (with_reducible refine K.skip ?_) | (with_reducible refine K.exit ?_) | (with_reducible refine K.block ?_))
  refine K.reg ?_
  refine KO.as rfl rfl ?_
  refine KO.nil ?_
  repeat (first | (with_reducible refine K.seq ?_) | (with_reducible refine KQ.next ?_) | (with_reducible refine KQ.then_ret ?_) | (with_reducible refine KQ.blk_ret ?_) | (with_reducible refine KQ.then_exit ?_) | (with_reducible refine KQ.blk_exit ?_) | (refine KQ.blk_pass rfl ?_) | (with_reducible refine KQ.blk_normal ?_) | (with_reducible refine K.ret ?_) | (with_reducible refine K.skip ?_) | (with_reducible refine K.exit ?_) | (with_reducible refine K.block ?_))
  refine K.reg ?_
  refine KO.mv rfl rfl ?_
  refine KO.mv rfl rfl ?_
  refine KO.mv rfl rfl ?_
  refine KO.mv rfl rfl ?_
  refine KO.len rfl Tryd.underlying42 rfl ?_
  refine KO.cutAny (lo := k) (hi := k + 1) (mx := xs.length) rfl rfl rfl rfl Tryd.underlying42 Tryd.sizeOf99 rfl (by omega) rfl (by omega) (by omega) (by omega) rfl (fun q13 => ?_)
  refine KO.nil ?_
  repeat (first | (with_reducible refine K.seq ?_) | (with_reducible refine KQ.next ?_) | (with_reducible refine KQ.then_ret ?_) | (with_reducible refine KQ.blk_ret ?_) | (with_reducible refine KQ.then_exit ?_) | (with_reducible refine KQ.blk_exit ?_) | (refine KQ.blk_pass rfl ?_) | (with_reducible refine KQ.blk_normal ?_) | (with_reducible refine K.ret ?_) | (with_reducible refine K.skip ?_) | (with_reducible refine K.exit ?_) | (with_reducible refine K.block ?_))
  refine K.reg ?_
  refine KO.mv rfl rfl ?_
  refine KO.mv rfl rfl ?_
  refine KO.eqI rfl rfl rfl ?_
  refine KO.nil ?_
  repeat (first | (with_reducible refine K.seq ?_) | (with_reducible refine KQ.next ?_) | (with_reducible refine KQ.then_ret ?_) | (with_reducible refine KQ.blk_ret ?_) | (with_reducible refine KQ.then_exit ?_) | (with_reducible refine KQ.blk_exit ?_) | (refine KQ.blk_pass rfl ?_) | (with_reducible refine KQ.blk_normal ?_) | (with_reducible refine K.ret ?_) | (with_reducible refine K.skip ?_) | (with_reducible refine K.exit ?_) | (with_reducible refine K.block ?_))
  refine K.condF rfl (by simp; omega) ?_
  repeat (first | (with_reducible refine K.seq ?_) | (with_reducible refine KQ.next ?_) | (with_reducible refine KQ.then_ret ?_) | (with_reducible refine KQ.blk_ret ?_) | (with_reducible refine KQ.then_exit ?_) | (with_reducible refine KQ.blk_exit ?_) | (refine KQ.blk_pass rfl ?_) | (with_reducible refine KQ.blk_normal ?_) | (with_reducible refine K.ret ?_) | (with_reducible refine K.skip ?_) | (with_reducible refine K.exit ?_) | (with_reducible refine K.block ?_))
  refine K.reg ?_
  refine KO.mv rfl rfl ?_
  refine KO.len rfl Tryd.underlying42 rfl ?_
  refine KO.as rfl rfl ?_
  refine KO.nil ?_
  repeat (first | (with_reducible refine K.seq ?_) | (with_reducible refine KQ.next ?_) | (with_reducible refine KQ.then_ret ?_) | (with_reducible refine KQ.blk_ret ?_) | (with_reducible refine KQ.then_exit ?_) | (with_reducible refine KQ.blk_exit ?_) | (refine KQ.blk_pass rfl ?_) | (with_reducible refine KQ.blk_normal ?_) | (with_reducible refine K.ret ?_) | (with_reducible refine K.skip ?_) | (with_reducible refine K.exit ?_) | (with_reducible refine K.block ?_))
  refine K.draw [.pure, .pure, .pure, .pure, .pure, .pure, .write, .pure] [0, 1, 2, 3, 4, 5, 6, 7] (by kernel_rfl) (by kernel_rfl) ?_
  refine KO.mv rfl rfl ?_
  refine KO.mv rfl rfl ?_
  refine KO.cutTo rfl rfl Tryd.underlying42 Tryd.sizeOf99 (by first | exact rfl | omega) (by omega) rfl ?_
  refine KO.mv rfl rfl ?_
  refine KO.mv rfl rfl ?_
  refine KO.cutFrom (lo := k + 1) rfl rfl Tryd.underlying42 Tryd.sizeOf99 (by omega) (by omega) (by omega) rfl ?_
  refine KO.move (j := k + 1) rfl rfl rfl Pick.head rfl hnc Tryd.underlying42 it_info (fun _ => rfl) itC_one (by omega) (by omega) rfl ?_
  refine KO.as rfl rfl ?_
  refine KO.nil ?_
  repeat (first | (with_reducible refine K.seq ?_) | (with_reducible refine KQ.next ?_) | (with_reducible refine KQ.then_ret ?_) | (with_reducible refine KQ.blk_ret ?_) | (with_reducible refine KQ.then_exit ?_) | (with_reducible refine KQ.blk_exit ?_) | (refine KQ.blk_pass rfl ?_) | (with_reducible refine KQ.blk_normal ?_) | (with_reducible refine K.ret ?_) | (with_reducible refine K.skip ?_) | (with_reducible refine K.exit ?_) | (with_reducible refine K.block ?_))
  refine K.reg ?_
  refine KO.mv rfl rfl ?_
  refine KO.mv rfl rfl ?_
  refine KO.len rfl Tryd.underlying42 rfl ?_
  refine KO.mv rfl rfl ?_
  refine KO.cutMid (lo := k + (xs.length - (k + 1))) (hi := xs.length) rfl rfl rfl Tryd.underlying42 Tryd.sizeOf99 rfl rfl (by omega) (by omega) rfl ?_
  refine KO.clear rfl rfl Pick.head hnc (by simp; omega) (by simp; omega) Tryd.underlying42 it_info (fun _ => rfl) rfl rfl ?_
  refine KO.nil ?_
  repeat (first | (with_reducible refine K.seq ?_) | (with_reducible refine KQ.next ?_) | (with_reducible refine KQ.then_ret ?_) | (with_reducible refine KQ.blk_ret ?_) | (with_reducible refine KQ.then_exit ?_) | (with_reducible refine KQ.blk_exit ?_) | (refine KQ.blk_pass rfl ?_) | (with_reducible refine KQ.blk_normal ?_) | (with_reducible refine K.ret ?_) | (with_reducible refine K.skip ?_) | (with_reducible refine K.exit ?_) | (with_reducible refine K.block ?_))
  refine K.reg ?_
  refine KO.mv rfl rfl ?_
  refine KO.as rfl rfl ?_
  refine KO.nil ?_
  repeat (first | (with_reducible refine K.seq ?_) | (with_reducible refine KQ.next ?_) | (with_reducible refine KQ.then_ret ?_) | (with_reducible refine KQ.blk_ret ?_) | (with_reducible refine KQ.then_exit ?_) | (with_reducible refine KQ.blk_exit ?_) | (refine KQ.blk_pass rfl ?_) | (with_reducible refine KQ.blk_normal ?_) | (with_reducible refine K.ret ?_) | (with_reducible refine K.skip ?_) | (with_reducible refine K.exit ?_) | (with_reducible refine K.block ?_))
  refine KQ.ret1 rfl rfl (fun w' hs => ⟨_, _, rfl, rfl, ?_⟩)
  have e : (List.take (k + (xs.length - (k + 1))) (List.take k xs ++ List.drop (k + 1) xs ++ List.drop (k + (xs.length - (k + 1))) xs)) = xs.eraseIdx k := by
    rw [List.take_append_of_le_length (by simp; omega), List.take_of_length_le (by simp; omega), List.eraseIdx_eq_take_drop_succ]
  rw [e] at hs
  exact hs
theorem delf_c (w0 : World) (L : List HP) (v : Value) (xs : List It) (f : FuncId) (cp : List Value) (pf : It → Bool) (hn : xs.length < 1000000) (hcall : ∀ args w, (callFunc f args).run Tryd.prog w = .ok (.enter f args) w)
    (hcl : ∀ e v ys, e ∈ xs → KE Tryd.prog f ([] ++ ([Value.agg (itC e).toArray] ++ cp)).toArray w0 (itS v ys :: L) (fun u L' => u = .bool (pf e) ∧ L' = itS v ys :: L)) :
    KC Tryd.prog 53 #[v, .func (.func f) [].toArray cp.toArray] w0 (itS v xs :: L) (fun v' L' => L' = itS v' (xs.filter fun e => !pf e) :: L) := by
  refine KC.pre (fun w hw => SL_form hw) ?_
  rintro ⟨sa, cap, rfl, hsa⟩
  refine KC.mk (n := 42) Tryd.func53 rfl Tryd.ntmps53 (by simp) ?_
  repeat (first | (with_reducible refine K.seq ?_) | (with_reducible refine KQ.next ?_) | (with_reducible refine KQ.then_ret ?_) | (with_reducible refine KQ.blk_ret ?_) | (with_reducible refine KQ.then_exit ?_) | (with_reducible refine KQ.blk_exit ?_) | (refine KQ.blk_pass rfl ?_) | (with_reducible refine KQ.blk_normal ?_) | (with_reducible refine K.ret ?_) | (with_reducible refine K.skip ?_) | (with_reducible refine K.exit ?_) | (with_reducible refine K.block ?_))
  refine K.reg ?_
  refine KO.as rfl rfl ?_
  refine KO.nil ?_
  repeat (first | (with_reducible refine K.seq ?_) | (with_reducible refine KQ.next ?_) | (with_reducible refine KQ.then_ret ?_) | (with_reducible refine KQ.blk_ret ?_) | (with_reducible refine KQ.then_exit ?_) | (with_reducible refine KQ.blk_exit ?_) | (refine KQ.blk_pass rfl ?_) | (with_reducible refine KQ.blk_normal ?_) | (with_reducible refine K.ret ?_) | (with_reducible refine K.skip ?_) | (with_reducible refine K.exit ?_) | (with_reducible refine K.block ?_))
  refine K.reg ?_
  refine KO.mv rfl rfl ?_
  refine KO.mv rfl rfl ?_
  refine KO.ce rfl rfl rfl Tryd.call50 rfl (idxf_e w0 _ _ xs f cp pf (RdS.of (fun _ => rfl) Pick.head) hn hcall (fun e he => hcl e _ xs he)) ?_; rintro v L' ⟨rfl, rfl⟩
  refine KO.as rfl rfl ?_
  refine KO.nil ?_
  repeat (first | (with_reducible refine K.seq ?_) | (with_reducible refine KQ.next ?_) | (with_reducible refine KQ.then_ret ?_) | (with_reducible refine KQ.blk_ret ?_) | (with_reducible refine KQ.then_exit ?_) | (with_reducible refine KQ.blk_exit ?_) | (refine KQ.blk_pass rfl ?_) | (with_reducible refine KQ.blk_normal ?_) | (with_reducible refine K.ret ?_) | (with_reducible refine K.skip ?_) | (with_reducible refine K.exit ?_) | (with_reducible refine K.block ?_))
  refine K.reg ?_
  refine KO.mv rfl rfl ?_
  refine KO.eqI rfl rfl rfl ?_
  refine KO.nil ?_
  repeat (first | (with_reducible refine K.seq ?_) | (with_reducible refine KQ.next ?_) | (with_reducible refine KQ.then_ret ?_) | (with_reducible refine KQ.blk_ret ?_) | (with_reducible refine KQ.then_exit ?_) | (with_reducible refine KQ.blk_exit ?_) | (refine KQ.blk_pass rfl ?_) | (with_reducible refine KQ.blk_normal ?_) | (with_reducible refine K.ret ?_) | (with_reducible refine K.skip ?_) | (with_reducible refine K.exit ?_) | (with_reducible refine K.block ?_))
  refine K.condD rfl (fun h => ?_) (fun h => ?_)
  · repeat (first | (with_reducible refine K.seq ?_) | (with_reducible refine KQ.next ?_) | (with_reducible refine KQ.then_ret ?_) | (with_reducible refine KQ.blk_ret ?_) | (with_reducible refine KQ.then_exit ?_) | (with_reducible refine KQ.blk_exit ?_) | (refine KQ.blk_pass rfl ?_) | (with_reducible refine KQ.blk_normal ?_) | (with_reducible refine K.ret ?_) | (with_reducible refine K.skip ?_) | (with_reducible refine K.exit ?_) | (with_reducible refine K.block ?_))
    refine K.reg ?_
    refine KO.mv rfl rfl ?_
    refine KO.as rfl rfl ?_
    refine KO.nil ?_
    repeat (first | (with_reducible refine K.seq ?_) | (with_reducible refine KQ.next ?_) | (with_reducible refine KQ.then_ret ?_) | (with_reducible refine KQ.blk_ret ?_) | (with_reducible refine KQ.then_exit ?_) | (with_reducible refine KQ.blk_exit ?_) | (refine KQ.blk_pass rfl ?_) | (with_reducible refine KQ.blk_normal ?_) | (with_reducible refine K.ret ?_) | (with_reducible refine K.skip ?_) | (with_reducible refine K.exit ?_) | (with_reducible refine K.block ?_))
    refine KQ.ret1 rfl rfl (fun w' hs => ⟨_, _, rfl, rfl, ?_⟩)
    rw [List.filter_eq_self.2 (fun a ha => by
      have := List.findIdx?_eq_none_iff.1 (fidx_neg (by omega : fidx pf xs < 0)) a ha
      simp [this])]
    exact hs
  · obtain ⟨i0, e0, hi0, he0, hp0, hlt0, hfi⟩ := fidx_nonneg (p := pf) (l := xs) (by unfold fidx at h ⊢; split at h <;> simp_all)
    obtain ⟨g, rfl⟩ := hsa (by omega)
    refine K.fact (fun w hw => (SL_open hw).2.1) fun hnc => ?_
    repeat (first | (with_reducible refine K.seq ?_) | (with_reducible refine KQ.next ?_) | (with_reducible refine KQ.then_ret ?_) | (with_reducible refine KQ.blk_ret ?_) | (with_reducible refine KQ.then_exit ?_) | (with_reducible refine KQ.blk_exit ?_) | (refine KQ.blk_pass rfl ?_) | (with_reducible refine KQ.blk_normal ?_) | (with_reducible refine K.ret ?_) | (with_reducible refine K.skip ?_) | (with_reducible refine K.exit ?_) | (with_reducible refine K.block ?_))
    refine K.reg ?_
    refine KO.mv rfl rfl ?_
    rw [hi0]; refine KO.add rfl rfl rfl (by omega) rfl ?_
    refine KO.as rfl rfl ?_
    refine KO.nil ?_
    repeat (first | (with_reducible refine K.seq ?_) | (with_reducible refine KQ.next ?_) | (with_reducible refine KQ.then_ret ?_) | (with_reducible refine KQ.blk_ret ?_) | (with_reducible refine KQ.then_exit ?_) | (with_reducible refine KQ.blk_exit ?_) | (refine KQ.blk_pass rfl ?_) | (with_reducible refine KQ.blk_normal ?_) | (with_reducible refine K.ret ?_) | (with_reducible refine K.skip ?_) | (with_reducible refine K.exit ?_) | (with_reducible refine K.block ?_))
    refine K.loop (fun k : Nat × Nat × List It => [(0, .slice (some ⟨g, 0, none⟩) xs.length cap), (1, .func (.func f) [].toArray cp.toArray), (5, .int .i64 (k.1 : Nat)), (6, .int .i64 (k.2.1 : Nat))]) (fun k => itS (.slice (some ⟨g, 0, none⟩) xs.length cap) k.2.2 :: L)
      (fun k => k.2.2.length = xs.length ∧ k.1 < k.2.1 ∧ k.2.1 ≤ xs.length ∧ k.2.2.take k.1 = (xs.take k.2.1).filter (fun e => !pf e) ∧ k.2.2.drop k.2.1 = xs.drop k.2.1) (fun k => xs.length - k.2.1) (i0, i0 + 1, xs) ⟨rfl, by dsimp only; omega, by dsimp only; omega, (take_filter_of_findIdx hfi).symm, rfl⟩ ⟨rfl, rfl, rfl, rfl, trivial⟩ (fun _ h => h) ?_
    rintro ⟨i, j, ys⟩ ⟨hyl, hij, hjl, hys, hyd⟩
    dsimp only at hyl hij hjl hys hyd ⊢
    repeat (first | (with_reducible refine K.seq ?_) | (with_reducible refine KQ.next ?_) | (with_reducible refine KQ.then_ret ?_) | (with_reducible refine KQ.blk_ret ?_) | (with_reducible refine KQ.then_exit ?_) | (with_reducible refine KQ.blk_exit ?_) | (refine KQ.blk_pass rfl ?_) | (with_reducible refine KQ.blk_normal ?_) | (with_reducible refine K.ret ?_) | (with_reducible refine K.skip ?_) | (with_reducible refine K.exit ?_) | (with_reducible refine K.block ?_))
    refine K.reg ?_
    refine KO.mv rfl rfl ?_
    refine KO.mv rfl rfl ?_
    refine KO.len rfl Tryd.underlying42 rfl ?_
    refine KO.lss rfl rfl rfl ?_
    refine KO.nil ?_
    repeat (first | (with_reducible refine K.seq ?_) | (with_reducible refine KQ.next ?_) | (with_reducible refine KQ.then_ret ?_) | (with_reducible refine KQ.blk_ret ?_) | (with_reducible refine KQ.then_exit ?_) | (with_reducible refine KQ.blk_exit ?_) | (refine KQ.blk_pass rfl ?_) | (with_reducible refine KQ.blk_normal ?_) | (with_reducible refine K.ret ?_) | (with_reducible refine K.skip ?_) | (with_reducible refine K.exit ?_) | (with_reducible refine K.block ?_))
    refine K.condD rfl (fun h1 => ?_) (fun h1 => ?_)
    · obtain ⟨e, he⟩ : ∃ e, xs[j]? = some e := ⟨xs[j], List.getElem?_eq_getElem (by omega)⟩
      have hye : ys[j]? = some e := by rw [← he]; have := congrArg (fun l => l[0]?) hyd; simpa using this
      repeat (first | (with_reducible refine K.seq ?_) | (with_reducible refine KQ.next ?_) | (with_reducible refine KQ.then_ret ?_) | (with_reducible refine KQ.blk_ret ?_) | (with_reducible refine KQ.then_exit ?_) | (with_reducible refine KQ.blk_exit ?_) | (refine KQ.blk_pass rfl ?_) | (with_reducible refine KQ.blk_normal ?_) | (with_reducible refine K.ret ?_) | (with_reducible refine K.skip ?_) | (with_reducible refine K.exit ?_) | (with_reducible refine K.block ?_))
      refine K.reg ?_
      refine KO.mv rfl rfl ?_
      refine KO.mv rfl rfl ?_
      first | refine KO.idx0 rfl rfl Tryd.runUnderlying42 Tryd.sizeOf99 (by first | exact rfl | exact (rfl : (0 : Int) = ((0 : Nat) : Int))) (by omega) rfl ?_ | refine KO.idxH rfl rfl Tryd.runUnderlying42 Tryd.sizeOf99 (by first | exact rfl | exact (rfl : (0 : Int) = ((0 : Nat) : Int))) (by omega) rfl ?_
      first | refine KO.ldB0 rfl rfl Tryd.isAgg99 Tryd.sizeOf99 (by with_reducible first | assumption | (repeat (first | exact Pick.head | apply Pick.tail))) (by exact rfl) rfl ?_ | refine KO.ldEN rfl rfl Tryd.isAgg99 Tryd.sizeOf99 (by with_reducible first | assumption | (repeat (first | exact Pick.head | apply Pick.tail))) (fun _ => rfl) (by assumption) rfl ?_ | refine KO.ldB rfl rfl Tryd.isAgg99 Tryd.sizeOf99 (by with_reducible first | assumption | (repeat (first | exact Pick.head | apply Pick.tail))) (by (try simp only [List.drop_zero, List.drop_succ_cons, List.take_succ_cons, List.take_zero]); (try exact rfl)) (by exact rfl) rfl ?_ | refine KO.ldEP rfl rfl Tryd.isAgg99 Tryd.sizeOf99 (by with_reducible first | assumption | (repeat (first | exact Pick.head | apply Pick.tail))) (fun _ => rfl) (by assumption) (by (try simp only [List.drop_zero, List.drop_succ_cons, List.take_succ_cons, List.take_zero]); (try exact rfl)) (by exact rfl) rfl ?_ | refine KO.ldB0b hw rfl rfl Tryd.isAgg99 Tryd.sizeOf99 (by with_reducible first | assumption | (repeat (first | exact Pick.head | apply Pick.tail))) (by exact rfl) rfl ?_ | refine KO.ldENb hw rfl rfl Tryd.isAgg99 Tryd.sizeOf99 (by with_reducible first | assumption | (repeat (first | exact Pick.head | apply Pick.tail))) (fun _ => rfl) (by assumption) rfl ?_ | refine KO.ldBb hw rfl rfl Tryd.isAgg99 Tryd.sizeOf99 (by with_reducible first | assumption | (repeat (first | exact Pick.head | apply Pick.tail))) (by (try simp only [List.drop_zero, List.drop_succ_cons, List.take_succ_cons, List.take_zero]); (try exact rfl)) (by exact rfl) rfl ?_ | refine KO.ldEPb hw rfl rfl Tryd.isAgg99 Tryd.sizeOf99 (by with_reducible first | assumption | (repeat (first | exact Pick.head | apply Pick.tail))) (fun _ => rfl) (by assumption) (by (try simp only [List.drop_zero, List.drop_succ_cons, List.take_succ_cons, List.take_zero]); (try exact rfl)) (by exact rfl) rfl ?_
      refine KO.alloc rfl Tryd.zeroValue99 (by exact rfl) rfl ?_; intro b7
      first | refine KO.sto0 rfl rfl rfl (by exact rfl) (by exact Tryd.sizeOf99) (by exact rfl) (by with_reducible first | assumption | (repeat (first | exact Pick.head | apply Pick.tail))) (by exact rfl) ?_ | refine KO.sto rfl rfl rfl (by exact rfl) (by exact Tryd.sizeOf99) (by exact rfl) (by with_reducible first | assumption | (repeat (first | exact Pick.head | apply Pick.tail))) (by exact rfl) (by (try simp only [putL, List.drop_succ_cons, List.drop_zero, List.drop_nil, List.cons_append, List.nil_append, List.length_cons, List.length_nil, Nat.zero_add, Nat.reduceAdd]); (try exact rfl)) ?_
      refine KO.nil ?_
      repeat (first | (with_reducible refine K.seq ?_) | (with_reducible refine KQ.next ?_) | (with_reducible refine KQ.then_ret ?_) | (with_reducible refine KQ.blk_ret ?_) | (with_reducible refine KQ.then_exit ?_) | (with_reducible refine KQ.blk_exit ?_) | (refine KQ.blk_pass rfl ?_) | (with_reducible refine KQ.blk_normal ?_) | (with_reducible refine K.ret ?_) | (with_reducible refine K.skip ?_) | (with_reducible refine K.exit ?_) | (with_reducible refine K.block ?_))
      refine K.reg ?_
      refine KO.mv rfl rfl ?_
      first | refine KO.ldB0 rfl rfl Tryd.isAgg99 Tryd.sizeOf99 (by with_reducible first | assumption | (repeat (first | exact Pick.head | apply Pick.tail))) (by exact rfl) rfl ?_ | refine KO.ldEN rfl rfl Tryd.isAgg99 Tryd.sizeOf99 (by with_reducible first | assumption | (repeat (first | exact Pick.head | apply Pick.tail))) (fun _ => rfl) (by assumption) rfl ?_ | refine KO.ldB rfl rfl Tryd.isAgg99 Tryd.sizeOf99 (by with_reducible first | assumption | (repeat (first | exact Pick.head | apply Pick.tail))) (by (try simp only [List.drop_zero, List.drop_succ_cons, List.take_succ_cons, List.take_zero]); (try exact rfl)) (by exact rfl) rfl ?_ | refine KO.ldEP rfl rfl Tryd.isAgg99 Tryd.sizeOf99 (by with_reducible first | assumption | (repeat (first | exact Pick.head | apply Pick.tail))) (fun _ => rfl) (by assumption) (by (try simp only [List.drop_zero, List.drop_succ_cons, List.take_succ_cons, List.take_zero]); (try exact rfl)) (by exact rfl) rfl ?_ | refine KO.ldB0b hw rfl rfl Tryd.isAgg99 Tryd.sizeOf99 (by with_reducible first | assumption | (repeat (first | exact Pick.head | apply Pick.tail))) (by exact rfl) rfl ?_ | refine KO.ldENb hw rfl rfl Tryd.isAgg99 Tryd.sizeOf99 (by with_reducible first | assumption | (repeat (first | exact Pick.head | apply Pick.tail))) (fun _ => rfl) (by assumption) rfl ?_ | refine KO.ldBb hw rfl rfl Tryd.isAgg99 Tryd.sizeOf99 (by with_reducible first | assumption | (repeat (first | exact Pick.head | apply Pick.tail))) (by (try simp only [List.drop_zero, List.drop_succ_cons, List.take_succ_cons, List.take_zero]); (try exact rfl)) (by exact rfl) rfl ?_ | refine KO.ldEPb hw rfl rfl Tryd.isAgg99 Tryd.sizeOf99 (by with_reducible first | assumption | (repeat (first | exact Pick.head | apply Pick.tail))) (fun _ => rfl) (by assumption) (by (try simp only [List.drop_zero, List.drop_succ_cons, List.take_succ_cons, List.take_zero]); (try exact rfl)) (by exact rfl) rfl ?_
      refine KO.ce rfl rfl rfl hcall rfl ((hcl e _ ys (List.mem_of_getElem? he)).only (fun w h => h.drop)) ?_; rintro v L' ⟨rfl, rfl⟩
      refine KO.not rfl rfl ?_
      refine KO.nil ?_
      repeat (first | (with_reducible refine K.seq ?_) | (with_reducible refine KQ.next ?_) | (with_reducible refine KQ.then_ret ?_) | (with_reducible refine KQ.blk_ret ?_) | (with_reducible refine KQ.then_exit ?_) | (with_reducible refine KQ.blk_exit ?_) | (refine KQ.blk_pass rfl ?_) | (with_reducible refine KQ.blk_normal ?_) | (with_reducible refine K.ret ?_) | (with_reducible refine K.skip ?_) | (with_reducible refine K.exit ?_) | (with_reducible refine K.block ?_))
      refine K.cond rfl (fun h2 => ?_) (fun h2 => ?_)
      · obtain ⟨u, hu⟩ : ∃ u, ys[i]? = some u := ⟨ys[i], List.getElem?_eq_getElem (by omega)⟩
        repeat (first | (with_reducible refine K.seq ?_) | (with_reducible refine KQ.next ?_) | (with_reducible refine KQ.then_ret ?_) | (with_reducible refine KQ.blk_ret ?_) | (with_reducible refine KQ.then_exit ?_) | (with_reducible refine KQ.blk_exit ?_) | (refine KQ.blk_pass rfl ?_) | (with_reducible refine KQ.blk_normal ?_) | (with_reducible refine K.ret ?_) | (with_reducible refine K.skip ?_) | (with_reducible refine K.exit ?_) | (with_reducible refine K.block ?_))
        refine K.reg ?_
        refine KO.mv rfl rfl ?_
        refine KO.mv rfl rfl ?_
        first | refine KO.ldB0 rfl rfl Tryd.isAgg99 Tryd.sizeOf99 (by with_reducible first | assumption | (repeat (first | exact Pick.head | apply Pick.tail))) (by exact rfl) rfl ?_ | refine KO.ldEN rfl rfl Tryd.isAgg99 Tryd.sizeOf99 (by with_reducible first | assumption | (repeat (first | exact Pick.head | apply Pick.tail))) (fun _ => rfl) (by assumption) rfl ?_ | refine KO.ldB rfl rfl Tryd.isAgg99 Tryd.sizeOf99 (by with_reducible first | assumption | (repeat (first | exact Pick.head | apply Pick.tail))) (by (try simp only [List.drop_zero, List.drop_succ_cons, List.take_succ_cons, List.take_zero]); (try exact rfl)) (by exact rfl) rfl ?_ | refine KO.ldEP rfl rfl Tryd.isAgg99 Tryd.sizeOf99 (by with_reducible first | assumption | (repeat (first | exact Pick.head | apply Pick.tail))) (fun _ => rfl) (by assumption) (by (try simp only [List.drop_zero, List.drop_succ_cons, List.take_succ_cons, List.take_zero]); (try exact rfl)) (by exact rfl) rfl ?_ | refine KO.ldB0b hw rfl rfl Tryd.isAgg99 Tryd.sizeOf99 (by with_reducible first | assumption | (repeat (first | exact Pick.head | apply Pick.tail))) (by exact rfl) rfl ?_ | refine KO.ldENb hw rfl rfl Tryd.isAgg99 Tryd.sizeOf99 (by with_reducible first | assumption | (repeat (first | exact Pick.head | apply Pick.tail))) (fun _ => rfl) (by assumption) rfl ?_ | refine KO.ldBb hw rfl rfl Tryd.isAgg99 Tryd.sizeOf99 (by with_reducible first | assumption | (repeat (first | exact Pick.head | apply Pick.tail))) (by (try simp only [List.drop_zero, List.drop_succ_cons, List.take_succ_cons, List.take_zero]); (try exact rfl)) (by exact rfl) rfl ?_ | refine KO.ldEPb hw rfl rfl Tryd.isAgg99 Tryd.sizeOf99 (by with_reducible first | assumption | (repeat (first | exact Pick.head | apply Pick.tail))) (fun _ => rfl) (by assumption) (by (try simp only [List.drop_zero, List.drop_succ_cons, List.take_succ_cons, List.take_zero]); (try exact rfl)) (by exact rfl) rfl ?_
        refine KO.idx0 rfl rfl Tryd.runUnderlying42 Tryd.sizeOf99 rfl (by omega) rfl ?_
        refine KO.stEN rfl rfl e rfl Tryd.sizeOf99 itC_one (by with_reducible first | assumption | (repeat (first | exact Pick.head | apply Pick.tail))) (fun _ => rfl) hu ?_
        refine KO.nil ?_
        repeat (first | (with_reducible refine K.seq ?_) | (with_reducible refine KQ.next ?_) | (with_reducible refine KQ.then_ret ?_) | (with_reducible refine KQ.blk_ret ?_) | (with_reducible refine KQ.then_exit ?_) | (with_reducible refine KQ.blk_exit ?_) | (refine KQ.blk_pass rfl ?_) | (with_reducible refine KQ.blk_normal ?_) | (with_reducible refine K.ret ?_) | (with_reducible refine K.skip ?_) | (with_reducible refine K.exit ?_) | (with_reducible refine K.block ?_))
        refine K.reg ?_
        refine KO.mv rfl rfl ?_
        refine KO.add rfl rfl rfl (by omega) rfl ?_
        refine KO.as rfl rfl ?_
        refine KO.nil ?_
        repeat (first | (with_reducible refine K.seq ?_) | (with_reducible refine KQ.next ?_) | (with_reducible refine KQ.then_ret ?_) | (with_reducible refine KQ.blk_ret ?_) | (with_reducible refine KQ.then_exit ?_) | (with_reducible refine KQ.blk_exit ?_) | (refine KQ.blk_pass rfl ?_) | (with_reducible refine KQ.blk_normal ?_) | (with_reducible refine K.ret ?_) | (with_reducible refine K.skip ?_) | (with_reducible refine K.exit ?_) | (with_reducible refine K.block ?_))
        refine K.reg ?_
        refine KO.mv rfl rfl ?_
        refine KO.add rfl rfl rfl (by omega) rfl ?_
        refine KO.as rfl rfl ?_
        refine KO.nil ?_
        repeat (first | (with_reducible refine K.seq ?_) | (with_reducible refine KQ.next ?_) | (with_reducible refine KQ.then_ret ?_) | (with_reducible refine KQ.blk_ret ?_) | (with_reducible refine KQ.then_exit ?_) | (with_reducible refine KQ.blk_exit ?_) | (refine KQ.blk_pass rfl ?_) | (with_reducible refine KQ.blk_normal ?_) | (with_reducible refine K.ret ?_) | (with_reducible refine K.skip ?_) | (with_reducible refine K.exit ?_) | (with_reducible refine K.block ?_))
        refine KQ.round (i + 1, j + 1, ys.set i e) ⟨by simp; omega, by dsimp only; omega, by dsimp only; omega, ?_, ?_⟩ (by dsimp only; omega) ⟨rfl, rfl, rfl, rfl, trivial⟩ (fun _ h => h.drop2)
        · dsimp only
          rw [take_succ_some he, List.filter_append, ← hys, take_succ_some (e := e) (by rw [List.getElem?_set_self (by omega)])]
          rw [List.take_set_of_le (Nat.le_refl _)]
          simp only [List.filter_cons, h2, if_true, List.filter_nil]
        · dsimp only
          rw [List.drop_set_of_lt (by omega)]
          have := congrArg (List.drop 1) hyd
          simpa [List.drop_drop, Nat.add_comm] using this
      · repeat (first | (with_reducible refine K.seq ?_) | (with_reducible refine KQ.next ?_) | (with_reducible refine KQ.then_ret ?_) | (with_reducible refine KQ.blk_ret ?_) | (with_reducible refine KQ.then_exit ?_) | (with_reducible refine KQ.blk_exit ?_) | (refine KQ.blk_pass rfl ?_) | (with_reducible refine KQ.blk_normal ?_) | (with_reducible refine K.ret ?_) | (with_reducible refine K.skip ?_) | (with_reducible refine K.exit ?_) | (with_reducible refine K.block ?_))
        refine K.reg ?_
        refine KO.mv rfl rfl ?_
        refine KO.add rfl rfl rfl (by omega) rfl ?_
        refine KO.as rfl rfl ?_
        refine KO.nil ?_
        repeat (first | (with_reducible refine K.seq ?_) | (with_reducible refine KQ.next ?_) | (with_reducible refine KQ.then_ret ?_) | (with_reducible refine KQ.blk_ret ?_) | (with_reducible refine KQ.then_exit ?_) | (with_reducible refine KQ.blk_exit ?_) | (refine KQ.blk_pass rfl ?_) | (with_reducible refine KQ.blk_normal ?_) | (with_reducible refine K.ret ?_) | (with_reducible refine K.skip ?_) | (with_reducible refine K.exit ?_) | (with_reducible refine K.block ?_))
        refine KQ.round (i, j + 1, ys) ⟨hyl, by dsimp only; omega, by dsimp only; omega, ?_, ?_⟩ (by dsimp only; omega) ⟨rfl, rfl, rfl, rfl, trivial⟩ (fun _ h => h.drop)
        · dsimp only
          rw [take_succ_some he, List.filter_append, ← hys]
          simp only [List.filter_cons, h2, List.filter_nil, List.append_nil, Bool.false_eq_true, if_false]
        · dsimp only
          have := congrArg (List.drop 1) hyd
          simpa [List.drop_drop, Nat.add_comm] using this
    · have hjx : j = xs.length := by omega
      subst hjx
      have hys : ys.take i = xs.filter (fun e => !pf e) := by rw [hys, List.take_length]
      repeat (first | (with_reducible refine K.seq ?_) | (with_reducible refine KQ.next ?_) | (with_reducible refine KQ.then_ret ?_) | (with_reducible refine KQ.blk_ret ?_) | (with_reducible refine KQ.then_exit ?_) | (with_reducible refine KQ.blk_exit ?_) | (refine KQ.blk_pass rfl ?_) | (with_reducible refine KQ.blk_normal ?_) | (with_reducible refine K.ret ?_) | (with_reducible refine K.skip ?_) | (with_reducible refine K.exit ?_) | (with_reducible refine K.block ?_))
      refine K.reg ?_
      refine KO.mv rfl rfl ?_
      refine KO.mv rfl rfl ?_
      refine KO.cutFrom (lo := i) rfl rfl Tryd.underlying42 Tryd.sizeOf99 rfl (by omega) (by omega) rfl ?_
      refine KO.clear rfl rfl Pick.head hnc hyl.symm (by omega) Tryd.underlying42 it_info (fun _ => rfl) rfl rfl ?_
      refine KO.nil ?_
      repeat (first | (with_reducible refine K.seq ?_) | (with_reducible refine KQ.next ?_) | (with_reducible refine KQ.then_ret ?_) | (with_reducible refine KQ.blk_ret ?_) | (with_reducible refine KQ.then_exit ?_) | (with_reducible refine KQ.blk_exit ?_) | (refine KQ.blk_pass rfl ?_) | (with_reducible refine KQ.blk_normal ?_) | (with_reducible refine K.ret ?_) | (with_reducible refine K.skip ?_) | (with_reducible refine K.exit ?_) | (with_reducible refine K.block ?_))
      refine K.reg ?_
      refine KO.mv rfl rfl ?_
      refine KO.mv rfl rfl ?_
      refine KO.cutTo (hi := i) rfl rfl Tryd.underlying42 Tryd.sizeOf99 rfl (by omega) rfl ?_
      refine KO.as rfl rfl ?_
      refine KO.nil ?_
      repeat (first | (with_reducible refine K.seq ?_) | (with_reducible refine KQ.next ?_) | (with_reducible refine KQ.then_ret ?_) | (with_reducible refine KQ.blk_ret ?_) | (with_reducible refine KQ.then_exit ?_) | (with_reducible refine KQ.blk_exit ?_) | (refine KQ.blk_pass rfl ?_) | (with_reducible refine KQ.blk_normal ?_) | (with_reducible refine K.ret ?_) | (with_reducible refine K.skip ?_) | (with_reducible refine K.exit ?_) | (with_reducible refine K.block ?_))
      refine KQ.ret1 rfl rfl (fun w' hs => ⟨_, _, rfl, rfl, ?_⟩)
      rw [← hys]; exact hs
end Go.Proofs.YtjhogocabcdjbaaDoor
