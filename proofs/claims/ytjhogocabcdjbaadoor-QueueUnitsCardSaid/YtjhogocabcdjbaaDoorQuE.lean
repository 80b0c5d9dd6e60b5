/- slices.Insert of one value, not at the end, no room. -/
import Derived.Test.YtjhogocabcdjbaaDoorQuD
set_option linter.unusedSimpArgs false
set_option linter.unusedVariables false
namespace Go.Proofs.YtjhogocabcdjbaaDoor
open Go Go.RowKit WB
set_option maxHeartbeats 2000000 in
set_option maxRecDepth 100000 in
theorem it_ins_grow (w w0 : World) (L : List HP) (g n k : Nat) (cap : Nat) (xs vs : List Value) (bv : Nat) (h : St w0 (osl 99 8 (.slice (some ⟨g, 0, none⟩) n cap) n xs :: blk bv (.cells vs.toArray 99 (0, 0)) :: L) w)
    (hv : vs.length = 8) (h1 : ∀ u ∈ vs, u.oneCell' = true) (hx1 : ∀ u ∈ xs, u.oneCell' = true) (hn : n < 1000000) (hk : k < n) (hroom : cap < n + 1) :
    Calls Tryd.prog 81 #[.slice (some ⟨g, 0, none⟩) n cap, .int .i64 k, .slice (some ⟨bv, 0, none⟩) 1 1] w fun e w' => ∃ v', e = .returned v' ∧ St w0 (osl 99 8 v' (n + 1) (xs.take (k * 8) ++ vs ++ xs.drop (k * 8)) :: L) w' := by
  obtain ⟨i0, hi, hz0, hz1, hz2⟩ := info_parts it_nmInfo
  rcases h.osl_cases with ⟨hc, _⟩ | ⟨g', cap', cur, hc, hnc, hcm, hcs, htake, hxl, hblk⟩
  · simp at hc
  · simp only [Value.slice.injEq, Option.some.injEq, Addr.mk.injEq, and_true, true_and] at hc
    obtain ⟨rfl, rfl⟩ := hc
    have hcn : cap = n := by omega
    have hne : ((k : Int) == (n : Int)) = false := by simp; omega
    have hcl : cur.toList.length = cap * 8 := by simpa using hcs
    have hxk : (xs.take (k * 8)).length = k * 8 := by rw [List.length_take, hxl]; omega
    have hcell : ∀ (j : Nat) (u : Value), xs[j]? = some u → cur[j]? = some u := fun j u hj => by
      rw [← htake, List.getElem?_take] at hj
      split at hj
      · simpa using hj
      · simp at hj
    -- the append
    have hr := run_append_zeros (P := Tryd.prog) w 42 3 42 99 i0 _ .i64 .i64 Tryd.underlying42 Tryd.underlying3 hi hz0 ⟨g, 0, none⟩ k cap (xs.take (k * 8)) (by rw [hxk, hz1])
      (hblk.hasCells fun j u hj => by
        rw [List.getElem?_take] at hj
        split at hj
        · rw [Nat.zero_add]; exact hcell j u hj
        · simp at hj) (n + 1 - k) (by omega) (by rw [hz1]; omega) (by omega) (by omega) (by rw [hz2]; exact growslice_fits (by omega) (by omega)) (by rw [hz2]; omega)
    have hge := grownCap_ge w (k + (n + 1 - k)) cap 99
    have hle := grownCap_le_maxLen w (k + (n + 1 - k)) cap 99 (by unfold maxLen; omega)
    have hs0 := hblk.drew.alloc (.cells ((xs.take (k * 8)).toArray ++ Builtin.zeroCells (Value.agg #[.int .i64 0, .int .i64 0, .string ⟨#[]⟩, .string ⟨#[]⟩, .int .i64 0, .int .i64 0, .int .i64 0, .int .i64 0]).cells (n + 1 - k) ++ Builtin.zeroCells (Value.agg #[.int .i64 0, .int .i64 0, .string ⟨#[]⟩, .string ⟨#[]⟩, .int .i64 0, .int .i64 0, .int .i64 0, .int .i64 0]).cells (grownCap w (k + (n + 1 - k)) cap 99 - (k + (n + 1 - k)))) 99)
    have hzl : ∀ q, (Builtin.zeroCells (Value.agg #[.int .i64 0, .int .i64 0, .string ⟨#[]⟩, .string ⟨#[]⟩, .int .i64 0, .int .i64 0, .int .i64 0, .int .i64 0]).cells q).size = q * 8 := fun q => by rw [size_zeroCells]; rfl
    generalize hW : w.drew.alloc (.cells ((xs.take (k * 8)).toArray ++ Builtin.zeroCells (Value.agg #[.int .i64 0, .int .i64 0, .string ⟨#[]⟩, .string ⟨#[]⟩, .int .i64 0, .int .i64 0, .int .i64 0, .int .i64 0]).cells (n + 1 - k) ++ Builtin.zeroCells (Value.agg #[.int .i64 0, .int .i64 0, .string ⟨#[]⟩, .string ⟨#[]⟩, .int .i64 0, .int .i64 0, .int .i64 0, .int .i64 0]).cells (grownCap w (k + (n + 1 - k)) cap 99 - (k + (n + 1 - k)))) 99) = W at hr hs0
    clear hW
    generalize hcp : grownCap w (k + (n + 1 - k)) cap 99 = cp at hr hs0 hge hle
    clear hcp
    have e1 : k + (n + 1 - k) = n + 1 := by omega
    rw [e1] at hr hge
    generalize hB : w.heap.size = B at hr
    have hB' : w.drew.heap.size = B := hB
    rw [hB'] at hs0
    clear hB hB'
    generalize hZ : Builtin.zeroCells (Value.agg #[.int .i64 0, .int .i64 0, .string ⟨#[]⟩, .string ⟨#[]⟩, .int .i64 0, .int .i64 0, .int .i64 0, .int .i64 0]).cells (n + 1 - k) ++ Builtin.zeroCells (Value.agg #[.int .i64 0, .int .i64 0, .string ⟨#[]⟩, .string ⟨#[]⟩, .int .i64 0, .int .i64 0, .int .i64 0, .int .i64 0]).cells (cp - (k + (n + 1 - k))) = Z at hs0
    have hZl : Z.toList.length = (cp - k) * 8 := by
      rw [← hZ]; simp only [Array.length_toList, Array.size_append, hzl]; omega
    have hC0 : ((xs.take (k * 8)).toArray ++ Builtin.zeroCells (Value.agg #[.int .i64 0, .int .i64 0, .string ⟨#[]⟩, .string ⟨#[]⟩, .int .i64 0, .int .i64 0, .int .i64 0, .int .i64 0]).cells (n + 1 - k) ++ Builtin.zeroCells (Value.agg #[.int .i64 0, .int .i64 0, .string ⟨#[]⟩, .string ⟨#[]⟩, .int .i64 0, .int .i64 0, .int .i64 0, .int .i64 0]).cells (cp - (k + (n + 1 - k)))) = (xs.take (k * 8) ++ Z.toList).toArray := by
      rw [← hZ]; apply Array.ext'; simp
    rw [hC0] at hs0
    clear hC0 hZ hzl
    have hs0' := hs0
    -- the first copy
    generalize hC0 : xs.take (k * 8) ++ Z.toList = C0 at hs0
    have hC0l : C0.length = cp * 8 := by rw [← hC0, List.length_append, hxk, hZl]; omega
    have hmin1 : Nat.min 1 (n + 1 - k) = 1 := Nat.min_eq_left (by omega)
    have hbv : St w0 (blk bv (.cells vs.toArray 99 (0, 0)) :: blk B (.cells C0.toArray 99 (0, 0)) :: blk g (.cells cur 99 (0, 0)) :: L) W := hs0.pick (.tail (.tail .head))
    have hc1 := run_copy_any (P := Tryd.prog) W 42 42 3 99 i0 B (k * 8) (n + 1 - k) (cp - k) ⟨bv, 0, none⟩ 1 1 C0.toArray 99 vs Tryd.underlying42 hi hs0.look.2
      (by rw [hv, hz1, hmin1, Nat.one_mul]) (hbv.hasCells fun j u hj => by simpa using hj) (by rw [hv]; simp [hC0l]; omega) h1
    have hs1 := hs0.setRow (c' := (C0.take (k * 8) ++ vs ++ C0.drop (k * 8 + vs.length)).toArray)
    rw [hmin1] at hc1
    generalize hC1 : C0.take (k * 8) ++ vs ++ C0.drop (k * 8 + vs.length) = C1 at hc1 hs1
    have hC1l : C1.length = cp * 8 := by rw [← hC1]; simp only [List.length_append, List.length_take, List.length_drop, hC0l, hv]; omega
    generalize hW1 : W.setRow B C1.toArray = W1 at hc1 hs1
    clear hW1
    -- the second
    have hdl : (xs.drop (k * 8)).length = (n - k) * 8 := by rw [List.length_drop, hxl]; omega
    have hmin2 : Nat.min (n - k) (n - k) = n - k := Nat.min_self _
    have hg1 : St w0 (blk g (.cells cur 99 (0, 0)) :: blk B (.cells C1.toArray 99 (0, 0)) :: blk bv (.cells vs.toArray 99 (0, 0)) :: L) W1.drew := (hs1.pick (.tail .head)).drew
    have hc2 := run_copy_any (P := Tryd.prog) W1.drew 42 42 3 99 i0 B ((k + 1) * 8) (n - k) (cp - (k + 1)) ⟨g, k * 8, none⟩ (n - k) (cap - k) C1.toArray 99 (xs.drop (k * 8)) Tryd.underlying42 hi hs1.drew.look.2
      (by rw [hdl, hz1, hmin2]) (hg1.hasCells fun j u hj => by rw [List.getElem?_drop] at hj; exact hcell _ u hj) (by rw [hdl]; simp [hC1l]; omega) (fun u hu => hx1 u (List.mem_of_mem_drop hu))
    have hs2 := hs1.drew.setRow (c' := (C1.take ((k + 1) * 8) ++ xs.drop (k * 8) ++ C1.drop ((k + 1) * 8 + (xs.drop (k * 8)).length)).toArray)
    rw [hmin2] at hc2
    have hfin : ((C1.take ((k + 1) * 8) ++ xs.drop (k * 8) ++ C1.drop ((k + 1) * 8 + (xs.drop (k * 8)).length)).toArray).toList.take ((n + 1) * 8) = xs.take (k * 8) ++ vs ++ xs.drop (k * 8) := by
      have := grow_splice (xs.take (k * 8)) Z.toList vs (xs.drop (k * 8)) (k * 8) 8 ((n - k) * 8) hxk hv hdl
      simp only [hC0] at this
      rw [hv] at hC1
      rw [hC1] at this
      rw [hdl, show (k + 1) * 8 = k * 8 + 8 by omega, show (n + 1) * 8 = k * 8 + 8 + (n - k) * 8 by omega]
      exact this
    have hlen2 : (C1.take ((k + 1) * 8) ++ xs.drop (k * 8) ++ C1.drop ((k + 1) * 8 + (xs.drop (k * 8)).length)).length = cp * 8 := by
      simp only [List.length_append, List.length_take, List.length_drop, hC1l, hxl]; omega
    generalize C1.take ((k + 1) * 8) ++ xs.drop (k * 8) ++ C1.drop ((k + 1) * 8 + (xs.drop (k * 8)).length) = C2 at hc2 hs2 hfin hlen2
    have hout := hs2.osl_mk (n := n + 1) (size := 8) (cap := cp) hge hle (by simpa using hlen2) hfin
    have e9 : ((n + 1 - k : Nat) : Int) = (n : Int) + 1 - k := by omega
    rw [e9] at hr
    clear e9
    have HR := Lib.hid hr
    have HC1 := Lib.hid hc1
    have HC2 := Lib.hid hc2
    have HO := Lib.hid hout
    have hcp2 : cp < 9223372036854775808 := by unfold maxLen at hle; omega
    clear h hblk hcm hi hz0 hz1 hz2 hcs htake hxl hx1 h1 hv hc1 hc2 hout hs0 hs0' hs1 hs2 hfin hlen2 hC0 hC0l hC1 hC1l hr hg1 hbv hdl hxk hcl hcell hZl hmin1 hmin2 hle e1 hcn
    go_enter Tryd.func81, Tryd.ntmps81
    go_wp2_with (first | (at_builtin; refine Lib.wpList_append_run _ rfl _ _ _ _ rfl _ _ rfl rfl _ _ HR.out ?_) | (refine wpL_copy rfl _ _ _ _ rfl (.slice (some ⟨B, k * 8, none⟩) (n + 1 - k) (cp - k)) (.slice (some ⟨bv, 0, none⟩) 1 1) rfl rfl HC1.out ?_; intro K hK; go_simp))
    refine wp_region_ord [.pure, .pure, .pure, .pure, .pure, .pure, .pure, .pure, .write] [0, 1, 2, 3, 4, 5, 6, 7, 8] (by kernel_rfl) (by kernel_rfl) ?_
    simp only [List.map_cons, List.map_nil, item, List.getD_cons_zero, List.getD_cons_succ]
    repeat ((with_reducible refine vcL_pure (v := ?_) (a' := ?_) ?_ ?_ ?_ ?_); rotate_left 2; (rfl); ((intro w'; go_simp; (try (go_bits; (try go_simp); (try (go_bits; (try go_simp))))); (repeat (first | rewrite [if_pos (by omega)] | rewrite [if_neg (by omega)]))) <;> rfl); (go_simp; rfl))
    refine vcL_writeVal (a' := ?_) (v := ?_) (w' := ?_) rfl ?_ ?_ ?_
    rotate_left 3
    · rw [exec_copy2 _ _ _ _ rfl (.slice (some ⟨B, (k + 1) * 8, none⟩) (n - k) (cp - (k + 1))) (.slice (some ⟨g, k * 8, none⟩) (n - k) (cap - k)) rfl rfl HC2.out]
    · go_simp; rfl
    refine vcL_nil ?_
    go_wp2_with fail
    go_ret
    exact ⟨_, rfl, HO.out.pick (.tail .head) |>.drop.pick (.tail .head) |>.drop⟩
end Go.Proofs.YtjhogocabcdjbaaDoor
