import Derived.Lib.Strings
import Derived.Test.YtjhogocabcdjbabGreatDoorB2
set_option linter.unusedSimpArgs false
set_option linter.unusedVariables false
/- slices.Insert of one value. -/
namespace Go.Proofs.YtjhogocabcdjbabGreatDoor
open Go Go.RowKit WB
theorem nmInfo : (Tryz.prog.info? 75).map (fun i => (i.zero, i.size, i.bytes)) = some (some (Value.agg #[.string ⟨#[]⟩, .string ⟨#[]⟩, .int .i64 0]), 3, 40) := by kernel_rfl
set_option maxHeartbeats 1000000 in
/-- at the end -/
theorem ins_end (w w0 : World) (L : List HP) (v : Value) (n : Nat) (xs vs : List Value) (bv : Nat) (h : St w0 (osl 75 3 v n xs :: blk bv (.cells vs.toArray 75 (0, 0)) :: L) w)
    (hv : vs.length = 3) (h1 : ∀ u ∈ vs, u.oneCell' = true) (hn : n < 1000000) :
    Calls Tryz.prog 268 #[v, .int .i64 n, .slice (some ⟨bv, 0, none⟩) 1 1] w fun e w' => ∃ v', e = .returned v' ∧ St w0 (osl 75 3 v' (n + 1) (xs ++ vs) :: L) w' := by
  obtain ⟨i0, hi, hz0, hz1, hz2⟩ := info_parts nmInfo
  have hnews : HasCells w ⟨bv, 0, none⟩ vs := by
    have h2 := h.pick (.tail .head)
    exact h2.hasCells fun j u hj => by simpa using hj
  obtain ⟨v', w1, hr, hst⟩ := append_st (P := Tryz.prog) 86 86 75 i0 _ 3 40 Tryz.underlying86 hi hz0 hz1 hz2 rfl h ⟨bv, 0, none⟩ 1 1 vs (by rw [hv]) hnews h1 (by unfold maxLen; omega) (by omega)
  have HR := Lib.hid hr
  have HS := Lib.hid hst
  have hcase : v = .slice none 0 0 ∧ n = 0 ∨ ∃ g cap, v = .slice (some ⟨g, 0, none⟩) n cap ∧ n ≤ cap := by
    rcases h.osl_cases with ⟨h1, h2, _⟩ | ⟨g, cap, _, h1, h2, _⟩
    · exact .inl ⟨h1, h2⟩
    · exact .inr ⟨g, cap, h1, h2⟩
  clear h hr hst hnews hi hz0 hz1 hz2
  rcases hcase with ⟨rfl, rfl⟩ | ⟨g, cap, rfl, hnc⟩
  · go_enter Tryz.func268, Tryz.ntmps268
    go_wp2_with (at_builtin; refine Lib.wpList_append_run _ rfl _ _ _ _ rfl _ _ rfl rfl _ _ HR.out ?_)
    go_ret
    exact ⟨_, rfl, HS.out.swap2.drop⟩
  · have hE : ((n : Int) == (n : Int)) = true := by simp
    by_cases hcn : cap = n
    · have hcn' : n = cap := hcn.symm
      subst hcn'
      go_enter Tryz.func268, Tryz.ntmps268
      go_wp2_with (at_builtin; refine Lib.wpList_append_run _ rfl _ _ _ _ rfl _ _ rfl rfl _ _ HR.out ?_)
      go_ret
      exact ⟨_, rfl, HS.out.swap2.drop⟩
    · go_enter Tryz.func268, Tryz.ntmps268
      go_wp2_with (at_builtin; refine Lib.wpList_append_run _ rfl _ _ _ _ rfl _ _ rfl rfl _ _ HR.out ?_)
      go_ret
      exact ⟨_, rfl, HS.out.swap2.drop⟩
end Go.Proofs.YtjhogocabcdjbabGreatDoor
/- slices.Insert of one value, not at the end. -/
namespace Go.Proofs.YtjhogocabcdjbabGreatDoor
open Go Go.RowKit WB
set_option maxHeartbeats 2000000 in
set_option maxRecDepth 100000 in
theorem ins_room (w w0 : World) (L : List HP) (g n cap k : Nat) (xs vs : List Value) (bv : Nat) (h : St w0 (osl 75 3 (.slice (some ⟨g, 0, none⟩) n cap) n xs :: blk bv (.cells vs.toArray 75 (0, 0)) :: L) w)
    (hv : vs.length = 3) (h1 : ∀ u ∈ vs, u.oneCell' = true) (hx1 : ∀ u ∈ xs, u.oneCell' = true) (hn : n < 1000000) (hk : k < n) (hroom : n + 1 ≤ cap) :
    Calls Tryz.prog 268 #[.slice (some ⟨g, 0, none⟩) n cap, .int .i64 k, .slice (some ⟨bv, 0, none⟩) 1 1] w fun e w' => ∃ v', e = .returned v' ∧ St w0 (osl 75 3 v' (n + 1) (xs.take (k * 3) ++ vs ++ xs.drop (k * 3)) :: L) w' := by
  obtain ⟨i0, hi, hz0, hz1, hz2⟩ := info_parts nmInfo
  rcases h.osl_cases with ⟨hc, _⟩ | ⟨g', cap', cur, hc, hnc, hcm, hcs, htake, hxl, hblk⟩
  · simp at hc
  · simp only [Value.slice.injEq, Option.some.injEq, Addr.mk.injEq, and_true, true_and] at hc
    obtain ⟨rfl, rfl⟩ := hc
    have hov : ∀ o n c o' n' c', (callFunc 361 #[.slice (some ⟨bv, o, none⟩) n c, .slice (some ⟨g, o', none⟩) n' c']).run Tryz.prog w = .ok (.value (.bool false)) w := fun o n c o' n' c' => by
      rw [run_callFunc_extern Tryz.func361 (by kernel_rfl) (by kernel_rfl) (by kernel_rfl) (e := Extern.SlicesOverlaps.overlaps #[86, 86] #[4]) (by kernel_rfl),
        overlaps_no 86 4 75 i0 Tryz.underlying86 hi hblk.swap2 o n c o' n' c' (by rw [hcs]; omega)]
      rfl
    have HB := Lib.hid hblk
    have hne : ((k : Int) == (n : Int)) = false := by simp; omega
    have hcap : cap < 9223372036854775808 := by unfold maxLen at hcm; omega
    have hsz : (cur.toList.take (n * 3)).length = n * 3 := by simp; omega
    have hcl : cur.toList.length = cap * 3 := by simpa using hcs
    have hmin : Nat.min (n + 1 - k) (n - k) = n - k := Nat.min_eq_right (by omega)
    have hm1 : ∀ u ∈ (cur.toList.take (n * 3)).drop (k * 3), u.oneCell' = true := fun u hu => hx1 u (htake ▸ List.mem_of_mem_drop hu)
    have hl1 : ((cur.toList.take (n * 3)).drop (k * 3)).length = Nat.min (n + 1 - k) (n - k) * i0.size := by
      rw [List.length_drop, hsz, hz1, hmin, Nat.sub_mul]
    have hc1 := run_copy_any (P := Tryz.prog) w.drew 86 86 3 75 i0 g ((k + 1) * 3) (n - k) (cap - (k + 1)) ⟨g, k * 3, none⟩ (n + 1 - k) (cap - k) cur 75 _ Tryz.underlying86 hi hblk.drew.look.2 hl1
      (hblk.drew.hasCells fun j u hj => by
        rw [List.getElem?_drop, List.getElem?_take] at hj
        split at hj
        · simpa using hj
        · simp at hj) (by rw [hl1, hz1, hmin, hcs]; omega) hm1
    have hs1 := hblk.drew.setRow (c' := (cur.toList.take ((k + 1) * 3) ++ (cur.toList.take (n * 3)).drop (k * 3) ++ cur.toList.drop ((k + 1) * 3 + ((cur.toList.take (n * 3)).drop (k * 3)).length)).toArray)
    have hlen1 : ((cur.toList.take (n * 3)).drop (k * 3)).length = n * 3 - k * 3 := by rw [List.length_drop, hsz]
    generalize hC1 : cur.toList.take ((k + 1) * 3) ++ (cur.toList.take (n * 3)).drop (k * 3) ++ cur.toList.drop ((k + 1) * 3 + ((cur.toList.take (n * 3)).drop (k * 3)).length) = C1 at hc1 hs1
    have hC1l : C1.length = cap * 3 := by rw [← hC1]; simp only [List.length_append, List.length_take, hlen1, List.length_drop, hcl]; omega
    have hc2 := run_copy_any (P := Tryz.prog) (w.drew.setRow g C1.toArray) 86 86 3 75 i0 g (k * 3) (n + 1 - k) (cap - k) ⟨bv, 0, none⟩ 1 1 C1.toArray 75 vs Tryz.underlying86 hi hs1.look.2
      (by rw [hv, hz1, show Nat.min 1 (n + 1 - k) = 1 from Nat.min_eq_left (by omega), Nat.one_mul]) (hs1.drop.hasCells fun j u hj => by simpa using hj) (by rw [hv]; simp [hC1l]; omega) h1
    have hs2 := hs1.setRow (c' := (C1.take (k * 3) ++ vs ++ C1.drop (k * 3 + vs.length)).toArray)
    have hmin2 : Nat.min 1 (n + 1 - k) = 1 := Nat.min_eq_left (by omega)
    rw [hmin2] at hc2
    rw [hmin] at hc1
    have hfin : ((C1.take (k * 3) ++ vs ++ C1.drop (k * 3 + vs.length)).toArray).toList.take ((n + 1) * 3) = xs.take (k * 3) ++ vs ++ xs.drop (k * 3) := by
      have := take_drop_splice cur.toList vs (k * 3) 3 (n * 3) (cap * 3) (by omega) hv (by omega) hcl
      simp only [htake] at this
      rw [hv]
      have e : (k + 1) * 3 = k * 3 + 3 := by omega
      have e2 : (n + 1) * 3 = n * 3 + 3 := by omega
      have e3 : (k * 3 + 3 + (n * 3 - k * 3)) = n * 3 + 3 := by omega
      rw [htake, e, show (xs.drop (k * 3)).length = n * 3 - k * 3 by rw [List.length_drop, hxl], e3] at hC1
      rw [← hC1, e2]
      exact this
    have hout := hs2.osl_mk (n := n + 1) (size := 3) (cap := cap) hroom hcm (by simp [hC1l, hv]; omega) hfin
    generalize C1.take (k * 3) ++ vs ++ C1.drop (k * 3 + vs.length) = C2 at hc2 hout hs2 hfin
    have HC1 := Lib.hid hc1
    have HC2 := Lib.hid hc2
    have HO := Lib.hid hout
    clear h hblk hcm hi hz0 hz1 hz2 hcs htake hxl hx1 h1 hv hc1 hc2 hout hs1 hs2 hfin hC1 hlen1 hl1 hm1 hcl hsz hmin hmin2 hC1l
    go_enter Tryz.func268, Tryz.ntmps268
    go_wp2_with fail
    refine wp_region_ord [.pure, .pure, .pure, .pure, .pure, .pure, .pure, .pure, .write] [0, 1, 2, 3, 4, 5, 6, 7, 8] (by kernel_rfl) (by kernel_rfl) ?_
    simp only [List.map_cons, List.map_nil, item, List.getD_cons_zero, List.getD_cons_succ]
    repeat ((with_reducible refine vcL_pure (v := ?_) (a' := ?_) ?_ ?_ ?_ ?_); rotate_left 2; (rfl); ((intro w'; go_simp; (try (go_bits; (try go_simp); (try (go_bits; (try go_simp))))); (repeat (first | rewrite [if_pos (by omega)] | rewrite [if_neg (by omega)]))) <;> rfl); (go_simp; rfl))
    refine vcL_writeVal (a' := ?_) (v := ?_) (w' := ?_) rfl ?_ ?_ ?_
    rotate_left 3
    · rw [exec_copy2 _ _ _ _ rfl (.slice (some ⟨g, (k + 1) * 3, none⟩) (n - k) (cap - (k + 1))) (.slice (some ⟨g, k * 3, none⟩) (n + 1 - k) (cap - k)) rfl rfl HC1.out]
    · go_simp; rfl
    refine vcL_nil ?_
    go_wp2_with (refine wpL_copy rfl _ _ _ _ rfl (.slice (some ⟨g, k * 3, none⟩) (n + 1 - k) (cap - k)) (.slice (some ⟨bv, 0, none⟩) 1 1) rfl rfl HC2.out ?_; intro K hK; go_simp)
    go_ret
    exact ⟨_, rfl, HO.out.swap2.drop⟩
end Go.Proofs.YtjhogocabcdjbabGreatDoor
/- slices.Insert of one value, not at the end, no room. -/
namespace Go.Proofs.YtjhogocabcdjbabGreatDoor
open Go Go.RowKit WB
set_option maxHeartbeats 2000000 in
set_option maxRecDepth 100000 in
theorem ins_grow (w w0 : World) (L : List HP) (g n k : Nat) (cap : Nat) (xs vs : List Value) (bv : Nat) (h : St w0 (osl 75 3 (.slice (some ⟨g, 0, none⟩) n cap) n xs :: blk bv (.cells vs.toArray 75 (0, 0)) :: L) w)
    (hv : vs.length = 3) (h1 : ∀ u ∈ vs, u.oneCell' = true) (hx1 : ∀ u ∈ xs, u.oneCell' = true) (hn : n < 1000000) (hk : k < n) (hroom : cap < n + 1) :
    Calls Tryz.prog 268 #[.slice (some ⟨g, 0, none⟩) n cap, .int .i64 k, .slice (some ⟨bv, 0, none⟩) 1 1] w fun e w' => ∃ v', e = .returned v' ∧ St w0 (osl 75 3 v' (n + 1) (xs.take (k * 3) ++ vs ++ xs.drop (k * 3)) :: L) w' := by
  obtain ⟨i0, hi, hz0, hz1, hz2⟩ := info_parts nmInfo
  rcases h.osl_cases with ⟨hc, _⟩ | ⟨g', cap', cur, hc, hnc, hcm, hcs, htake, hxl, hblk⟩
  · simp at hc
  · simp only [Value.slice.injEq, Option.some.injEq, Addr.mk.injEq, and_true, true_and] at hc
    obtain ⟨rfl, rfl⟩ := hc
    have hcn : cap = n := by omega
    have hne : ((k : Int) == (n : Int)) = false := by simp; omega
    have hcl : cur.toList.length = cap * 3 := by simpa using hcs
    have hxk : (xs.take (k * 3)).length = k * 3 := by rw [List.length_take, hxl]; omega
    have hcell : ∀ (j : Nat) (u : Value), xs[j]? = some u → cur[j]? = some u := fun j u hj => by
      rw [← htake, List.getElem?_take] at hj
      split at hj
      · simpa using hj
      · simp at hj
    -- the append
    have hr := run_append_zeros (P := Tryz.prog) w 86 3 86 75 i0 _ .i64 .i64 Tryz.underlying86 Tryz.underlying3 hi hz0 ⟨g, 0, none⟩ k cap (xs.take (k * 3)) (by rw [hxk, hz1])
      (hblk.hasCells fun j u hj => by
        rw [List.getElem?_take] at hj
        split at hj
        · rw [Nat.zero_add]; exact hcell j u hj
        · simp at hj) (n + 1 - k) (by omega) (by rw [hz1]; omega) (by omega) (by omega) (by rw [hz2]; exact growslice_fits (by omega) (by omega)) (by rw [hz2]; omega)
    have hge := grownCap_ge w (k + (n + 1 - k)) cap 75
    have hle := grownCap_le_maxLen w (k + (n + 1 - k)) cap 75 (by unfold maxLen; omega)
    have hs0 := hblk.drew.alloc (.cells ((xs.take (k * 3)).toArray ++ Builtin.zeroCells (Value.agg #[.string ⟨#[]⟩, .string ⟨#[]⟩, .int .i64 0]).cells (n + 1 - k) ++ Builtin.zeroCells (Value.agg #[.string ⟨#[]⟩, .string ⟨#[]⟩, .int .i64 0]).cells (grownCap w (k + (n + 1 - k)) cap 75 - (k + (n + 1 - k)))) 75)
    have hzl : ∀ q, (Builtin.zeroCells (Value.agg #[.string ⟨#[]⟩, .string ⟨#[]⟩, .int .i64 0]).cells q).size = q * 3 := fun q => by rw [size_zeroCells]; rfl
    generalize hW : w.drew.alloc (.cells ((xs.take (k * 3)).toArray ++ Builtin.zeroCells (Value.agg #[.string ⟨#[]⟩, .string ⟨#[]⟩, .int .i64 0]).cells (n + 1 - k) ++ Builtin.zeroCells (Value.agg #[.string ⟨#[]⟩, .string ⟨#[]⟩, .int .i64 0]).cells (grownCap w (k + (n + 1 - k)) cap 75 - (k + (n + 1 - k)))) 75) = W at hr hs0
    clear hW
    generalize hcp : grownCap w (k + (n + 1 - k)) cap 75 = cp at hr hs0 hge hle
    clear hcp
    have e1 : k + (n + 1 - k) = n + 1 := by omega
    rw [e1] at hr hge
    generalize hB : w.heap.size = B at hr
    have hB' : w.drew.heap.size = B := hB
    rw [hB'] at hs0
    clear hB hB'
    generalize hZ : Builtin.zeroCells (Value.agg #[.string ⟨#[]⟩, .string ⟨#[]⟩, .int .i64 0]).cells (n + 1 - k) ++ Builtin.zeroCells (Value.agg #[.string ⟨#[]⟩, .string ⟨#[]⟩, .int .i64 0]).cells (cp - (k + (n + 1 - k))) = Z at hs0
    have hZl : Z.toList.length = (cp - k) * 3 := by
      rw [← hZ]; simp only [Array.length_toList, Array.size_append, hzl]; omega
    have hC0 : ((xs.take (k * 3)).toArray ++ Builtin.zeroCells (Value.agg #[.string ⟨#[]⟩, .string ⟨#[]⟩, .int .i64 0]).cells (n + 1 - k) ++ Builtin.zeroCells (Value.agg #[.string ⟨#[]⟩, .string ⟨#[]⟩, .int .i64 0]).cells (cp - (k + (n + 1 - k)))) = (xs.take (k * 3) ++ Z.toList).toArray := by
      rw [← hZ]; apply Array.ext'; simp
    rw [hC0] at hs0
    clear hC0 hZ hzl
    have hs0' := hs0
    -- the first copy
    generalize hC0 : xs.take (k * 3) ++ Z.toList = C0 at hs0
    have hC0l : C0.length = cp * 3 := by rw [← hC0, List.length_append, hxk, hZl]; omega
    have hmin1 : Nat.min 1 (n + 1 - k) = 1 := Nat.min_eq_left (by omega)
    have hbv : St w0 (blk bv (.cells vs.toArray 75 (0, 0)) :: blk B (.cells C0.toArray 75 (0, 0)) :: blk g (.cells cur 75 (0, 0)) :: L) W := hs0.pick (.tail (.tail .head))
    have hc1 := run_copy_any (P := Tryz.prog) W 86 86 3 75 i0 B (k * 3) (n + 1 - k) (cp - k) ⟨bv, 0, none⟩ 1 1 C0.toArray 75 vs Tryz.underlying86 hi hs0.look.2
      (by rw [hv, hz1, hmin1, Nat.one_mul]) (hbv.hasCells fun j u hj => by simpa using hj) (by rw [hv]; simp [hC0l]; omega) h1
    have hs1 := hs0.setRow (c' := (C0.take (k * 3) ++ vs ++ C0.drop (k * 3 + vs.length)).toArray)
    rw [hmin1] at hc1
    generalize hC1 : C0.take (k * 3) ++ vs ++ C0.drop (k * 3 + vs.length) = C1 at hc1 hs1
    have hC1l : C1.length = cp * 3 := by rw [← hC1]; simp only [List.length_append, List.length_take, List.length_drop, hC0l, hv]; omega
    generalize hW1 : W.setRow B C1.toArray = W1 at hc1 hs1
    clear hW1
    -- the second
    have hdl : (xs.drop (k * 3)).length = (n - k) * 3 := by rw [List.length_drop, hxl]; omega
    have hmin2 : Nat.min (n - k) (n - k) = n - k := Nat.min_self _
    have hg1 : St w0 (blk g (.cells cur 75 (0, 0)) :: blk B (.cells C1.toArray 75 (0, 0)) :: blk bv (.cells vs.toArray 75 (0, 0)) :: L) W1.drew := (hs1.pick (.tail .head)).drew
    have hc2 := run_copy_any (P := Tryz.prog) W1.drew 86 86 3 75 i0 B ((k + 1) * 3) (n - k) (cp - (k + 1)) ⟨g, k * 3, none⟩ (n - k) (cap - k) C1.toArray 75 (xs.drop (k * 3)) Tryz.underlying86 hi hs1.drew.look.2
      (by rw [hdl, hz1, hmin2]) (hg1.hasCells fun j u hj => by rw [List.getElem?_drop] at hj; exact hcell _ u hj) (by rw [hdl]; simp [hC1l]; omega) (fun u hu => hx1 u (List.mem_of_mem_drop hu))
    have hs2 := hs1.drew.setRow (c' := (C1.take ((k + 1) * 3) ++ xs.drop (k * 3) ++ C1.drop ((k + 1) * 3 + (xs.drop (k * 3)).length)).toArray)
    rw [hmin2] at hc2
    have hfin : ((C1.take ((k + 1) * 3) ++ xs.drop (k * 3) ++ C1.drop ((k + 1) * 3 + (xs.drop (k * 3)).length)).toArray).toList.take ((n + 1) * 3) = xs.take (k * 3) ++ vs ++ xs.drop (k * 3) := by
      have := grow_splice (xs.take (k * 3)) Z.toList vs (xs.drop (k * 3)) (k * 3) 3 ((n - k) * 3) hxk hv hdl
      simp only [hC0] at this
      rw [hv] at hC1
      rw [hC1] at this
      rw [hdl, show (k + 1) * 3 = k * 3 + 3 by omega, show (n + 1) * 3 = k * 3 + 3 + (n - k) * 3 by omega]
      exact this
    have hlen2 : (C1.take ((k + 1) * 3) ++ xs.drop (k * 3) ++ C1.drop ((k + 1) * 3 + (xs.drop (k * 3)).length)).length = cp * 3 := by
      simp only [List.length_append, List.length_take, List.length_drop, hC1l, hxl]; omega
    generalize C1.take ((k + 1) * 3) ++ xs.drop (k * 3) ++ C1.drop ((k + 1) * 3 + (xs.drop (k * 3)).length) = C2 at hc2 hs2 hfin hlen2
    have hout := hs2.osl_mk (n := n + 1) (size := 3) (cap := cp) hge hle (by simpa using hlen2) hfin
    have e9 : ((n + 1 - k : Nat) : Int) = (n : Int) + 1 - k := by omega
    rw [e9] at hr
    clear e9
    have HR := Lib.hid hr
    have HC1 := Lib.hid hc1
    have HC2 := Lib.hid hc2
    have HO := Lib.hid hout
    have hcp2 : cp < 9223372036854775808 := by unfold maxLen at hle; omega
    clear h hblk hcm hi hz0 hz1 hz2 hcs htake hxl hx1 h1 hv hc1 hc2 hout hs0 hs0' hs1 hs2 hfin hlen2 hC0 hC0l hC1 hC1l hr hg1 hbv hdl hxk hcl hcell hZl hmin1 hmin2 hle e1 hcn
    go_enter Tryz.func268, Tryz.ntmps268
    go_wp2_with (first | (at_builtin; refine Lib.wpList_append_run _ rfl _ _ _ _ rfl _ _ rfl rfl _ _ HR.out ?_) | (refine wpL_copy rfl _ _ _ _ rfl (.slice (some ⟨B, k * 3, none⟩) (n + 1 - k) (cp - k)) (.slice (some ⟨bv, 0, none⟩) 1 1) rfl rfl HC1.out ?_; intro K hK; go_simp))
    refine wp_region_ord [.pure, .pure, .pure, .pure, .pure, .pure, .pure, .pure, .write] [0, 1, 2, 3, 4, 5, 6, 7, 8] (by kernel_rfl) (by kernel_rfl) ?_
    simp only [List.map_cons, List.map_nil, item, List.getD_cons_zero, List.getD_cons_succ]
    repeat ((with_reducible refine vcL_pure (v := ?_) (a' := ?_) ?_ ?_ ?_ ?_); rotate_left 2; (rfl); ((intro w'; go_simp; (try (go_bits; (try go_simp); (try (go_bits; (try go_simp))))); (repeat (first | rewrite [if_pos (by omega)] | rewrite [if_neg (by omega)]))) <;> rfl); (go_simp; rfl))
    refine vcL_writeVal (a' := ?_) (v := ?_) (w' := ?_) rfl ?_ ?_ ?_
    rotate_left 3
    · rw [exec_copy2 _ _ _ _ rfl (.slice (some ⟨B, (k + 1) * 3, none⟩) (n - k) (cp - (k + 1))) (.slice (some ⟨g, k * 3, none⟩) (n - k) (cap - k)) rfl rfl HC2.out]
    · go_simp; rfl
    refine vcL_nil ?_
    go_wp2_with fail
    go_ret
    exact ⟨_, rfl, HO.out.pick (.tail .head) |>.drop.pick (.tail .head) |>.drop⟩
end Go.Proofs.YtjhogocabcdjbabGreatDoor
/- names.Set. -/
namespace Go.Proofs.YtjhogocabcdjbabGreatDoor
open Go Go.RowKit WB
theorem ins_any (w w0 : World) (L : List HP) (v : Value) (l : List Nm) (x : Nm) (k bv n : Nat) (hn : n = l.length) (h : St w0 (osl 75 3 v n (nmCells l) :: blk bv (.cells x.cells.toArray 75 (0, 0)) :: L) w)
    (hk : k ≤ l.length) (hn2 : l.length < 1000000) :
    Calls Tryz.prog 268 #[v, .int .i64 k, .slice (some ⟨bv, 0, none⟩) 1 1] w fun e w' => ∃ v', e = .returned v' ∧ St w0 (osl 75 3 v' (l.length + 1) (nmCells (l.take k ++ x :: l.drop k)) :: L) w' := by
  subst hn
  by_cases hkn : k = l.length
  · subst hkn
    have := ins_end w w0 L v l.length (nmCells l) x.cells bv h rfl x.cells_one hn2
    refine this.mono ?_
    rintro e w' ⟨v', he, hs⟩
    refine ⟨v', he, ?_⟩
    rw [show nmCells (l.take l.length ++ x :: l.drop l.length) = nmCells l ++ x.cells by simp [nmCells]]
    exact hs
  · have hlt : k < l.length := by omega
    rcases h.osl_cases with ⟨_, hz, _⟩ | ⟨g, cap, cur, rfl, hnc, _⟩
    · omega
    · rw [← nmCells_insert l x k hk]
      by_cases hr : l.length + 1 ≤ cap
      · exact ins_room w w0 L g l.length cap k (nmCells l) x.cells bv h rfl x.cells_one (nmCells_one l) hn2 hlt hr
      · exact ins_grow w w0 L g l.length k cap (nmCells l) x.cells bv h rfl x.cells_one (nmCells_one l) hn2 hlt (by omega)
theorem right_is (x : Nm) (b : Bool) (w : World) (h1 : x.name.size ≤ maxLen) (h2 : x.tgt.size ≤ maxLen) (hb : rightNm x = b) :
    Calls Tryz.prog 267 #[.agg x.cells.toArray] w fun e w' => e = .returned (.bool b) ∧ Below w.heap.size w w' := by
  rw [← hb]; exact right_any x w h1 h2
set_option maxHeartbeats 1000000 in
/-- what may not be -/
theorem set_bad (b off : Nat) (c : Array Value) (T : TypeId) (v : Value) (l : List Nm) (x : Nm) (w w0 : World) (L : List HP)
    (h : St w0 (blk b (.cells c T (0, 0)) :: osl 75 3 v l.length (nmCells l) :: L) w) (hr : rightNm x = false) (h1 : x.name.size ≤ maxLen) (h2 : x.tgt.size ≤ maxLen) :
    Calls Tryz.prog 170 #[.pointer (some ⟨b, off, none⟩), .agg x.cells.toArray] w fun e w' => e = .returned (.iface 70 (.int .i64 1)) ∧
      St w0 (blk b (.cells c T (0, 0)) :: osl 75 3 v l.length (nmCells l) :: L) w' := by
  have HC := Lib.hid (fun w => right_is x false w h1 h2 hr)
  have hs0 := h.alloc (.cells x.cells.toArray 75)
  have HS := Lib.hid hs0
  clear h h1 h2 hr hs0
  obtain ⟨a, t, n⟩ := x
  simp only [Nm.cells] at HC HS ⊢
  go_enter Tryz.func170, Tryz.ntmps170
  go_wp2_with fail
  refine (HC.out _).mono ?_
  rintro e w1 ⟨rfl, hb1⟩
  have HS1 := Lib.hid (HS.out.below_step hb1)
  clear hb1
  go_wp2_with fail
  go_ret
  exact ⟨rfl, HS1.out.drop⟩
end Go.Proofs.YtjhogocabcdjbabGreatDoor
/- names.Set, of what may be. -/
namespace Go.Proofs.YtjhogocabcdjbabGreatDoor
open Go Go.RowKit WB
set_option maxHeartbeats 1000000 in
/-- there are MaxNames -/
theorem set_full (b off : Nat) (c : Array Value) (T : TypeId) (v : Value) (l : List Nm) (x : Nm) (w w0 : World) (L : List HP)
    (h : St w0 (blk b (.cells c T (0, 0)) :: osl 75 3 v l.length (nmCells l) :: L) w) (hc : c[off]? = some v) (hr : rightNm x = true) (h1 : x.name.size ≤ maxLen) (h2 : x.tgt.size ≤ maxLen)
    (hm : Mono l x.name) (hl : 20 ≤ l.length) (hl2 : l.length < 1000000) (hit : hitB l x.name (srchN l x.name) = false) :
    Calls Tryz.prog 170 #[.pointer (some ⟨b, off, none⟩), .agg x.cells.toArray] w fun e w' => e = .returned (.iface 70 (.int .i64 12)) ∧
      St w0 (blk b (.cells c T (0, 0)) :: osl 75 3 v l.length (nmCells l) :: L) w' := by
  have HC := Lib.hid (fun w => right_is x true w h1 h2 hr)
  have hs0 := h.alloc (.cells x.cells.toArray 75)
  have HS := Lib.hid hs0
  have HF := Lib.hid (fun (w : World) (h : St w0 (blk b (.cells c T (0, 0)) :: osl 75 3 v l.length (nmCells l) :: L) w) => find_any b off c T (0, 0) v l x.name w w0 L h hc hl2 hm)
  have HK := Lib.hid (fun k (hk : Srch l x.name k) => srch_eq hk)
  have HI := Lib.hid hit
  have hv : ∃ a cap, v = .slice a l.length cap := by
    rcases h.drop.osl_cases with ⟨hv, hz, _⟩ | ⟨g, cap, _, hv, _⟩
    · exact ⟨none, 0, by rw [hv, hz]⟩
    · exact ⟨_, _, hv⟩
  obtain ⟨a, cap, rfl⟩ := hv
  have HCC := Lib.hid hc
  clear h h1 h2 hr hs0 hm hit hc
  generalize hN : l.length = n at *
  have HN := Lib.hid hN
  clear hN
  obtain ⟨nm, t, hs⟩ := x
  simp only [Nm.cells] at HC HS HF HK HI ⊢
  go_enter Tryz.func170, Tryz.ntmps170
  go_wp2_with fail
  refine (HC.out _).mono ?_
  rintro e w1 ⟨rfl, hb1⟩
  have HS1 := Lib.hid (HS.out.below_step hb1)
  have c0 := HS1.out.cell (off := 0) rfl
  clear hb1
  go_wp2_with fail
  refine (HF.out _ HS1.out.drop).mono ?_
  rintro e w2 ⟨k, hk, rfl, hb2⟩
  have HS2 := Lib.hid (HS1.out.below_step hb2)
  rw [HK.out k hk, HI.out]
  clear hb2 c0 hk
  have c1 : w2.cell? ⟨b, off, none⟩ = some (.slice a n cap) := HS2.out.cellP (.tail .head) HCC.out
  go_wp2_with fail
  go_ret
  exact ⟨rfl, HS2.out.drop⟩
set_option maxHeartbeats 2000000 in
set_option maxRecDepth 100000 in
/-- in the place of one of that name -/
theorem set_hit (b off : Nat) (c : Array Value) (T : TypeId) (v : Value) (l : List Nm) (x : Nm) (w w0 : World) (L : List HP)
    (h : St w0 (blk b (.cells c T (0, 0)) :: osl 75 3 v l.length (nmCells l) :: L) w) (hc : c[off]? = some v) (hr : rightNm x = true) (h1 : x.name.size ≤ maxLen) (h2 : x.tgt.size ≤ maxLen)
    (hm : Mono l x.name) (hl2 : l.length < 1000000) (hit : hitB l x.name (srchN l x.name) = true) :
    Calls Tryz.prog 170 #[.pointer (some ⟨b, off, none⟩), .agg x.cells.toArray] w fun e w' => e = .returned .nilIface ∧
      St w0 (blk b (.cells c T (0, 0)) :: osl 75 3 v l.length (nmCells (l.set (srchN l x.name) x)) :: L) w' := by
  have HC := Lib.hid (fun w => right_is x true w h1 h2 hr)
  have hs0 := h.alloc (.cells x.cells.toArray 75)
  have HS := Lib.hid hs0
  have HF := Lib.hid (fun (w : World) (h : St w0 (blk b (.cells c T (0, 0)) :: osl 75 3 v l.length (nmCells l) :: L) w) => find_any b off c T (0, 0) v l x.name w w0 L h hc hl2 hm)
  have HK := Lib.hid (fun k (hk : Srch l x.name k) => srch_eq hk)
  have HI := Lib.hid hit
  have hklt : srchN l x.name < l.length := by
    unfold hitB at hit
    rw [Bool.and_eq_true] at hit
    simpa using hit.1
  have HSET := Lib.hid (nmCells_set l x (srchN l x.name) hklt)
  have hv : ∃ g cap, v = .slice (some ⟨g, 0, none⟩) l.length cap := by
    rcases h.drop.osl_cases with ⟨hv, hz, _⟩ | ⟨g, cap, _, hv, _⟩
    · omega
    · exact ⟨_, _, hv⟩
  obtain ⟨g, cap, rfl⟩ := hv
  have HCC := Lib.hid hc
  clear h h1 h2 hr hs0 hm hit hc
  generalize hN : l.length = n at *
  have HN := Lib.hid hN
  clear hN
  obtain ⟨nm, t, hs⟩ := x
  simp only [Nm.cells] at HC HS HF HK HI HSET hklt ⊢
  generalize hK : srchN l nm = k0 at *
  clear hK
  go_enter Tryz.func170, Tryz.ntmps170
  go_wp2_with fail
  refine (HC.out _).mono ?_
  rintro e w1 ⟨rfl, hb1⟩
  have HS1 := Lib.hid (HS.out.below_step hb1)
  have c0 := HS1.out.cell (off := 0) rfl
  clear hb1
  go_wp2_with fail
  refine (HF.out _ HS1.out.drop).mono ?_
  rintro e w2 ⟨k, hk, rfl, hb2⟩
  have HS2 := Lib.hid (HS1.out.below_step hb2)
  obtain rfl := HK.out k hk
  rw [HI.out]
  clear hb2 c0 hk
  have c1 : w2.cell? ⟨b, off, none⟩ = some (.slice (some ⟨g, 0, none⟩) n cap) := HS2.out.cellP (.tail .head) HCC.out
  have c2 : HasCells w2 ⟨w.heap.size, 0, none⟩ [.string nm, .string t, .int .i64 hs] := HS2.out.hasCells fun j u hj => by simpa using hj
  -- the store
  obtain ⟨w3, hw3, hs3⟩ : ∃ w3, (storeVar 75 ⟨g, k * 3, none⟩ (.agg #[.string nm, .string t, .int .i64 hs])).run Tryz.prog w2.drew = .ok () w3 ∧
      St w0 (blk b (.cells c T (0, 0)) :: osl 75 3 (.slice (some ⟨g, 0, none⟩) n cap) n (nmCells (l.set k ⟨nm, t, hs⟩)) :: L) w3 := by
    have h4 := (HS2.out.drop.pick (.tail .head)).drew
    rcases h4.osl_cases with ⟨hc, _⟩ | ⟨g', cap', cur, hc, hnc, hcm, hcs, htake, hxl, hblk⟩
    · simp at hc
    · simp only [Value.slice.injEq, Option.some.injEq, Addr.mk.injEq, and_true, true_and] at hc
      obtain ⟨rfl, rfl⟩ := hc
      refine ⟨_, run_store_row hblk (by simp [Value.cells]) (by simp [Value.cells]; omega) (by simp [Value.cells]; exact ⟨rfl, rfl, rfl⟩), ?_⟩
      refine ((hblk.setRow).osl_mk hnc hcm ?_ ?_).swap2
      · simp [Value.cells]; omega
      · rw [← HSET.out, ← htake]
        exact splice_take cur.toList [.string nm, .string t, .int .i64 hs] (k * 3) 3 (n * 3) rfl (by omega) (by simp; omega)
  have HW3 := Lib.hid hw3
  have HS3 := Lib.hid hs3
  clear hw3 hs3
  go_wp2_with fail
  refine wp_region_ord [.pure, .pure, .pure, .read, .pure, .read, .pure, .write] [0, 1, 2, 3, 4, 5, 6, 7] (by kernel_rfl) (by kernel_rfl) ?_
  simp only [List.map_cons, List.map_nil, item, List.getD_cons_zero, List.getD_cons_succ]
  repeat ((with_reducible refine vcL_pure (v := ?_) (a' := ?_) ?_ ?_ ?_ ?_); rotate_left 2; (rfl); ((intro w'; go_simp; (try (go_bits; (try go_simp); (try (go_bits; (try go_simp))))); ((skip))) <;> rfl); (go_simp; rfl))
  refine vcL_ld1 (a' := ?_) (v := .slice (some ⟨g, 0, none⟩) n cap) (ad := ⟨b, off, none⟩) rfl rfl (fun _ => by simp) c1 ?_ ?_
  rotate_left 1
  · go_simp; rfl
  repeat ((with_reducible refine vcL_pure (v := ?_) (a' := ?_) ?_ ?_ ?_ ?_); rotate_left 2; (rfl); ((intro w'; go_simp; (try (go_bits; (try go_simp); (try (go_bits; (try go_simp))))); ((skip))) <;> rfl); (go_simp; rfl))
  refine vcL_ldn (a' := ?_) (cs := [.string nm, .string t, .int .i64 hs]) (ad := ⟨w.heap.size, 0, none⟩) rfl rfl (fun _ => by simp) (fun _ => by simp) c2 ?_ ?_
  rotate_left 1
  · go_simp; rfl
  repeat ((with_reducible refine vcL_pure (v := ?_) (a' := ?_) ?_ ?_ ?_ ?_); rotate_left 2; (rfl); ((intro w'; go_simp; (try (go_bits; (try go_simp); (try (go_bits; (try go_simp))))); ((skip))) <;> rfl); (go_simp; rfl))
  refine vcL_writeSkip (a' := ?_) (w' := w3) rfl ?_ ?_ ?_
  rotate_left 1
  · exact exec_store rfl rfl HW3.out
  · go_simp; rfl
  refine vcL_nil ?_
  clear c1 c2
  go_wp2_with fail
  go_ret
  exact ⟨rfl, HS3.out⟩
end Go.Proofs.YtjhogocabcdjbabGreatDoor
/- names.Set, of a new name. -/
namespace Go.Proofs.YtjhogocabcdjbabGreatDoor
open Go Go.RowKit WB
set_option maxHeartbeats 4000000 in
set_option maxRecDepth 100000 in
theorem set_new (b off : Nat) (c : Array Value) (T : TypeId) (v : Value) (l : List Nm) (x : Nm) (w w0 : World) (L : List HP)
    (h : St w0 (blk b (.cells c T (0, 0)) :: osl 75 3 v l.length (nmCells l) :: L) w) (hc : c[off]? = some v) (hr : rightNm x = true) (h1 : x.name.size ≤ maxLen) (h2 : x.tgt.size ≤ maxLen)
    (hm : Mono l x.name) (hl : l.length < 20) (hit : hitB l x.name (srchN l x.name) = false) :
    Calls Tryz.prog 170 #[.pointer (some ⟨b, off, none⟩), .agg x.cells.toArray] w fun e w' => e = .returned .nilIface ∧
      ∃ v', St w0 (blk b (.cells (c.setIfInBounds off v') T (0, 0)) :: osl 75 3 v' (l.length + 1) (nmCells (l.take (srchN l x.name) ++ x :: l.drop (srchN l x.name))) :: L) w' := by
  have HC := Lib.hid (fun w => right_is x true w h1 h2 hr)
  have hs0 := h.alloc (.cells x.cells.toArray 75)
  have HS := Lib.hid hs0
  have HF := Lib.hid (fun (w : World) (h : St w0 (blk b (.cells c T (0, 0)) :: osl 75 3 v l.length (nmCells l) :: L) w) => find_any b off c T (0, 0) v l x.name w w0 L h hc (by omega) hm)
  have HK := Lib.hid (fun k (hk : Srch l x.name k) => srch_eq hk)
  have HI := Lib.hid hit
  have hkle : srchN l x.name ≤ l.length := takeWhile_len_le _ _
  have HINS := Lib.hid (fun (w : World) (bv : Nat) (L' : List HP) (h : St w0 (osl 75 3 v l.length (nmCells l) :: blk bv (.cells x.cells.toArray 75 (0, 0)) :: L') w) => ins_any w w0 L' v l x (srchN l x.name) bv l.length rfl h hkle (by omega))
  have hv : ∃ a cap, v = .slice a l.length cap := by
    rcases h.drop.osl_cases with ⟨hv, hz, _⟩ | ⟨g, cap, _, hv, _⟩
    · exact ⟨none, 0, by rw [hv, hz]⟩
    · exact ⟨_, _, hv⟩
  obtain ⟨sa, cap, rfl⟩ := hv
  have HCC := Lib.hid hc
  have hoff : off < c.size := (Array.getElem?_eq_some_iff.1 hc).1
  clear h h1 h2 hr hs0 hm hit hc
  obtain ⟨nm, t, hs⟩ := x
  simp only [Nm.cells] at HC HS HF HK HI HINS hkle ⊢
  generalize hK : srchN l nm = k0 at *
  generalize hN : l.length = n at HF HINS HS HCC hkle hl ⊢
  clear hK
  go_enter Tryz.func170, Tryz.ntmps170
  go_wp2_with fail
  refine (HC.out _).mono ?_
  rintro e w1 ⟨rfl, hb1⟩
  have HS1 := Lib.hid (HS.out.below_step hb1)
  have c0 := HS1.out.cell (off := 0) rfl
  clear hb1
  go_wp2_with fail
  refine (HF.out _ HS1.out.drop).mono ?_
  rintro e w2 ⟨k, hk, rfl, hb2⟩
  have HS2 := Lib.hid (HS1.out.below_step hb2)
  obtain rfl := HK.out k hk
  rw [HI.out]
  clear hb2 c0 hk
  have c1 : w2.cell? ⟨b, off, none⟩ = some (.slice sa n cap) := HS2.out.cellP (.tail .head) HCC.out
  have c2 : HasCells w2 ⟨w.heap.size, 0, none⟩ [.string nm, .string t, .int .i64 hs] := HS2.out.hasCells fun j u hj => by simpa using hj
  go_wp2_with fail
  refine wp_region_ord [.pure, .pure, .pure, .pure, .read, .pure, .read, .keep, .write, .pure, .pure, .write] [0, 1, 2, 3, 4, 5, 6, 9, 10, 7, 8, 11] (by kernel_rfl) (by kernel_rfl) ?_
  simp only [List.map_cons, List.map_nil, item, List.getD_cons_zero, List.getD_cons_succ]
  repeat ((with_reducible refine vcL_pure (v := ?_) (a' := ?_) ?_ ?_ ?_ ?_); rotate_left 2; (rfl); ((intro w'; go_simp; (try (go_bits; (try go_simp); (try (go_bits; (try go_simp))))); ((skip))) <;> rfl); (go_simp; rfl))
  refine vcL_ld1 (a' := ?_) (v := .slice sa n cap) (ad := ⟨b, off, none⟩) rfl rfl (fun _ => by simp) c1 ?_ ?_
  rotate_left 1
  · go_simp; rfl
  repeat ((with_reducible refine vcL_pure (v := ?_) (a' := ?_) ?_ ?_ ?_ ?_); rotate_left 2; (rfl); ((intro w'; go_simp; (try (go_bits; (try go_simp); (try (go_bits; (try go_simp))))); ((skip))) <;> rfl); (go_simp; rfl))
  refine vcL_ldn (a' := ?_) (cs := [.string nm, .string t, .int .i64 hs]) (ad := ⟨w.heap.size, 0, none⟩) rfl rfl (fun _ => by simp) (fun _ => by simp) c2 ?_ ?_
  rotate_left 1
  · go_simp; rfl
  repeat ((with_reducible refine vcL_pure (v := ?_) (a' := ?_) ?_ ?_ ?_ ?_); rotate_left 2; (rfl); ((intro w'; go_simp; (try (go_bits; (try go_simp); (try (go_bits; (try go_simp))))); ((skip))) <;> rfl); (go_simp; rfl))
  refine vcL_keepRun (a' := ?_) (v := .slice (some ⟨w2.heap.size, 0, none⟩) 1 1) (w' := (w2.alloc (.cells #[.string nm, .string t, .int .i64 hs] 75)).drew) rfl ?_ ?_ ?_ ?_
  rotate_left 1
  · go_simp
  · exact Ext.alloc w2 _
  · go_simp; rfl
  have hs3 := HS2.out.alloc (.cells #[.string nm, .string t, .int .i64 hs] 75)
  have hs4 : St w0 (osl 75 3 (.slice sa n cap) n (nmCells l) :: blk w2.heap.size (.cells [Value.string nm, Value.string t, Value.int .i64 hs].toArray 75 (0, 0)) :: blk w.heap.size (.cells #[.string nm, .string t, .int .i64 hs] 75) :: blk b (.cells c T (0, 0)) :: L)
      (w2.alloc (.cells #[.string nm, .string t, .int .i64 hs] 75)).drew := (hs3.pick (.tail (.tail (.tail .head)))).drew
  refine vcL_writeCall rfl (f := 268) (args := #[.slice sa n cap, .int .i64 k, .slice (some ⟨w2.heap.size, 0, none⟩) 1 1]) (w' := (w2.alloc (.cells #[.string nm, .string t, .int .i64 hs] 75)).drew) ?_ (HINS.out _ _ _ hs4) ?_
  · go_simp
  rintro e w3 ⟨v', rfl, hs5⟩
  refine ⟨v', rfl, ?_⟩
  have hv' : ∃ sa' n' cap', v' = .slice sa' n' cap' := by
    rcases hs5.osl_cases with ⟨hv, _⟩ | ⟨g, cap, _, hv, _⟩
    · exact ⟨_, _, _, hv⟩
    · exact ⟨_, _, _, hv⟩
  obtain ⟨sa', n', cap', rfl⟩ := hv'
  have hb6 : St w0 (blk b (.cells c T (0, 0)) :: osl 75 3 (.slice sa' n' cap') (n + 1) (nmCells (l.take k ++ ⟨nm, t, hs⟩ :: l.drop k)) :: blk w.heap.size (.cells #[.string nm, .string t, .int .i64 hs] 75) :: L) w3 := hs5.pick (.tail (.tail .head))
  have hst := run_store_row (P := Tryz.prog) (T := 86) (off := off) (v := .slice sa' n' cap') hb6 (by simp [Value.cells]) (by simp [Value.cells]; omega) (by simp [Value.cells]; rfl)
  have hs7 := hb6.setRow (c' := (c.toList.take off ++ (Value.slice sa' n' cap').cells.toList ++ c.toList.drop (off + (Value.slice sa' n' cap').cells.toList.length)).toArray)
  have e7 : (c.toList.take off ++ (Value.slice sa' n' cap').cells.toList ++ c.toList.drop (off + (Value.slice sa' n' cap').cells.toList.length)).toArray = c.setIfInBounds off (.slice sa' n' cap') := setRow_one hoff
  rw [e7] at hst hs7
  refine vcL_writeSkip (a' := ?_) (w' := w3.setRow b (c.setIfInBounds off (.slice sa' n' cap'))) rfl ?_ ?_ ?_
  rotate_left 1
  · exact exec_store rfl rfl hst
  · go_simp; rfl
  have HS7 := Lib.hid (hs7.pick (.tail (.tail .head))).drop
  clear hs3 hs4 hs5 hb6 hs7 hst e7 c1 c2
  refine vcL_nil ?_
  go_wp2_with fail
  go_ret
  exact ⟨rfl, _, HS7.out⟩
end Go.Proofs.YtjhogocabcdjbabGreatDoor
/- names: Set, Local. -/
namespace Go.Proofs.YtjhogocabcdjbabGreatDoor
open Go Go.RowKit WB
theorem set_any (b off : Nat) (c : Array Value) (T : TypeId) (v : Value) (l : List Nm) (x : Nm) (w w0 : World) (L : List HP)
    (h : St w0 (blk b (.cells c T (0, 0)) :: osl 75 3 v l.length (nmCells l) :: L) w) (hc : c[off]? = some v) (h1 : x.name.size ≤ maxLen) (h2 : x.tgt.size ≤ maxLen)
    (hm : Mono l x.name) (hl : l.length ≤ 20) :
    Calls Tryz.prog 170 #[.pointer (some ⟨b, off, none⟩), .agg x.cells.toArray] w fun e w' => e = .returned (errV 70 (setErr l x)) ∧
      ∃ v', St w0 (blk b (.cells (c.setIfInBounds off v') T (0, 0)) :: osl 75 3 v' (setNm l x).length (nmCells (setNm l x)) :: L) w' := by
  cases hr : rightNm x with
  | false =>
    refine (set_bad b off c T v l x w w0 L h hr h1 h2).mono ?_
    rintro e w' ⟨rfl, hs⟩
    refine ⟨by simp [errV, setErr, hr], v, ?_⟩
    rw [set_same hc]; simp only [setNm, hr, if_true]; exact hs
  | true =>
    cases hit : hitB l x.name (srchN l x.name) with
    | true =>
      refine (set_hit b off c T v l x w w0 L h hc hr h1 h2 hm (by omega) hit).mono ?_
      rintro e w' ⟨rfl, hs⟩
      refine ⟨by simp [errV, setErr, hr, hit], v, ?_⟩
      rw [set_same hc]; simp only [setNm, hr, hit, if_true, Bool.true_eq_false, if_false, List.length_set]; exact hs
    | false =>
      by_cases hf : 20 ≤ l.length
      · refine (set_full b off c T v l x w w0 L h hc hr h1 h2 hm hf (by omega) hit).mono ?_
        rintro e w' ⟨rfl, hs⟩
        refine ⟨by simp [errV, setErr, hr, hit, hf], v, ?_⟩
        rw [set_same hc]; simp only [setNm, hr, hit, hf, if_true, Bool.true_eq_false, Bool.false_eq_true, if_false]; exact hs
      · refine (set_new b off c T v l x w w0 L h hc hr h1 h2 hm (by omega) hit).mono ?_
        rintro e w' ⟨rfl, v', hs⟩
        refine ⟨by simp [errV, setErr, hr, hit, hf], v', ?_⟩
        have hk : srchN l x.name ≤ l.length := takeWhile_len_le _ _
        have e1 : setNm l x = l.take (srchN l x.name) ++ x :: l.drop (srchN l x.name) := by simp [setNm, hr, hit, hf]
        rw [e1, show (l.take (srchN l x.name) ++ x :: l.drop (srchN l x.name)).length = l.length + 1 by simp; omega]
        exact hs
set_option maxHeartbeats 1000000 in
theorem local_any (b off : Nat) (c : Array Value) (T : TypeId) (v : Value) (l : List Nm) (s : ByteArray) (w w0 : World) (L : List HP)
    (h : St w0 (blk b (.cells c T (0, 0)) :: osl 75 3 v l.length (nmCells l) :: L) w) (hc : c[off]? = some v) (hm : Mono l s) (hl : l.length < 1000000) :
    Calls Tryz.prog 57 #[.pointer (some ⟨b, off, none⟩), .string s] w fun e w' => e = .returned (.bool (localB l s)) ∧ Below w.heap.size w w' := by
  have HF := Lib.hid (find_any b off c T (0, 0) v l s w w0 L h hc hl hm)
  have HK := Lib.hid (fun k (hk : Srch l s k) => srch_eq hk)
  have HS := Lib.hid h
  have HCC := Lib.hid hc
  cases hit : hitB l s (srchN l s) with
  | false =>
    have HI := Lib.hid hit
    have HE := Lib.hid (show localB l s = false by simp [localB, look_none hit])
    clear h hm hit hc
    go_enter Tryz.func57, Tryz.ntmps57
    go_wp2_with fail
    refine HF.out.mono ?_
    rintro e w2 ⟨k, hk, rfl, hb2⟩
    have HB2 := Lib.hid hb2
    rw [HK.out k hk, HI.out]
    clear hb2 hk
    go_wp2_with fail
    go_ret
    exact ⟨ret_bool HE.out.symm, HB2.out⟩
  | true =>
    have hlt := hit_lt hit
    have hv : ∃ g cap, v = .slice (some ⟨g, 0, none⟩) l.length cap := by
      rcases h.drop.osl_cases with ⟨hv, hz, _⟩ | ⟨g, cap, _, hv, _⟩
      · omega
      · exact ⟨_, _, hv⟩
    obtain ⟨g, cap, rfl⟩ := hv
    have HI := Lib.hid hit
    have HE := Lib.hid (show localB l s = emptyB (nmAt l (srchN l s)).tgt by simp [localB, look_some hit])
    have HN := Lib.hid (show srchN l s < l.length from hlt)
    clear h hm hit hc
    generalize hN : l.length = n at HF hlt hl
    generalize hK : srchN l s = k0 at HI HE HN HK hlt
    clear hK
    cases he : emptyB (nmAt l k0).tgt with
    | false =>
      have he1 : (nmAt l k0).tgt.toList.isEmpty = false := he
      have he2 : ((nmAt l k0).tgt.toList == []) = false := by simpa [emptyB] using he
      have HE2 := Lib.hid he
      have HNN := Lib.hid hN
      clear he hN
      go_enter Tryz.func57, Tryz.ntmps57
      go_wp2_with fail
      refine HF.out.mono ?_
      rintro e w2 ⟨k, hk, rfl, hb2⟩
      have HB2 := Lib.hid hb2
      have HS2 := Lib.hid (HS.out.below_step hb2)
      obtain rfl := HK.out k hk
      rw [HI.out]
      clear hb2 hk
      have c1 : w2.cell? ⟨b, off, none⟩ = some (.slice (some ⟨g, 0, none⟩) n cap) := by rw [← HNN.out]; exact HS2.out.cell HCC.out
      obtain ⟨d0, d1, d2⟩ := nm_cells HS2.out.drop HN.out
      go_wp2_with fail
      go_ret
      exact ⟨ret_bool (by rw [HE.out, HE2.out]), HB2.out⟩
    | true =>
      have he1 : (nmAt l k0).tgt.toList.isEmpty = true := he
      have he2 : (nmAt l k0).tgt.toList = [] := by simpa [emptyB] using he
      have HE2 := Lib.hid he
      have HNN := Lib.hid hN
      clear he hN
      go_enter Tryz.func57, Tryz.ntmps57
      go_wp2_with fail
      refine HF.out.mono ?_
      rintro e w2 ⟨k, hk, rfl, hb2⟩
      have HB2 := Lib.hid hb2
      have HS2 := Lib.hid (HS.out.below_step hb2)
      obtain rfl := HK.out k hk
      rw [HI.out]
      clear hb2 hk
      have c1 : w2.cell? ⟨b, off, none⟩ = some (.slice (some ⟨g, 0, none⟩) n cap) := by rw [← HNN.out]; exact HS2.out.cell HCC.out
      obtain ⟨d0, d1, d2⟩ := nm_cells HS2.out.drop HN.out
      go_wp2_with fail
      go_ret
      exact ⟨ret_bool (by rw [HE.out, HE2.out]), HB2.out⟩
end Go.Proofs.YtjhogocabcdjbabGreatDoor
/- names.Resolve. -/
namespace Go.Proofs.YtjhogocabcdjbabGreatDoor
open Go Go.RowKit WB
def ResRel (l : List Nm) (s : ByteArray) (w : World) (x i : Value) (wr : World) : Prop :=
  ∃ (k : Nat) (t : ByteArray), k ≤ l.length + 1 ∧ x = .string t ∧ i = .int .i64 k ∧ resN l (l.length + 1 - k) t = resN l (l.length + 1) s ∧ Below w.heap.size w wr
def ResPost (l : List Nm) (s : ByteArray) (w : World) (e : Ending) (w' : World) : Prop :=
  e = .returned (.tuple #[.string (resN l (l.length + 1) s).1, .int .i64 (resN l (l.length + 1) s).2.1, errV 70 (resN l (l.length + 1) s).2.2]) ∧ Below w.heap.size w w'
theorem ResPost.mk {l : List Nm} {s : ByteArray} {w w' : World} {r : ByteArray × Int × Int} (h : r = resN l (l.length + 1) s) (hb : Below w.heap.size w w') {v : Value} (hv : v = errV 70 r.2.2) :
    ResPost l s w (.returned (.tuple #[.string r.1, .int .i64 r.2.1, v])) w' := by
  subst hv; rw [h]; exact ⟨rfl, hb⟩
set_option maxHeartbeats 4000000 in
set_option maxRecDepth 100000 in
theorem resolve_any (b off : Nat) (c : Array Value) (T : TypeId) (v : Value) (l : List Nm) (s : ByteArray) (w w0 : World) (L : List HP)
    (h : St w0 (blk b (.cells c T (0, 0)) :: osl 75 3 v l.length (nmCells l) :: L) w) (hc : c[off]? = some v) (hm : ∀ s, Mono l s) (hl : l.length < 1000000) :
    Calls Tryz.prog 144 #[.pointer (some ⟨b, off, none⟩), .string s] w (ResPost l s w) := by
  have hv : ∃ sa cap, v = .slice sa l.length cap ∧ (0 < l.length → ∃ g, sa = some ⟨g, 0, none⟩) := by
    rcases h.drop.osl_cases with ⟨hv, hz, _⟩ | ⟨g, cap, _, hv, _⟩
    · exact ⟨none, 0, by rw [hv, hz], fun h => by omega⟩
    · exact ⟨_, _, hv, fun _ => ⟨g, rfl⟩⟩
  obtain ⟨sa, cap, rfl, hsa⟩ := hv
  have HF := Lib.hid (fun (w : World) (t : ByteArray) (h : St w0 (blk b (.cells c T (0, 0)) :: osl 75 3 (.slice sa l.length cap) l.length (nmCells l) :: L) w) => find_any b off c T (0, 0) _ l t w w0 L h hc hl (hm t))
  have HS := Lib.hid h
  have HCC := Lib.hid hc
  have HSA := Lib.hid hsa
  have c0 : w.cell? ⟨b, off, none⟩ = some (.slice sa l.length cap) := h.cell hc
  clear h hm hc hsa
  obtain ⟨n, hN⟩ : ∃ n, l.length = n := ⟨_, rfl⟩
  rw [hN] at c0 hl
  have HN := Lib.hid hN
  clear hN
  go_enter Tryz.func144, Tryz.ntmps144
  go_wp2_with fail
  clear c0
  go_loopw [1, 16] (fun x i wr => ResRel l s w x i wr) (fun _ i _ => (n + 1 - (intOf i).toNat))
  case atStart => exact ⟨0, s, by omega, rfl, rfl, rfl, Below.refl _ _⟩
  case round =>
    obtain ⟨k, t, hk, rfl, rfl, hr, hbel⟩ := hrel
    rw [HN.out] at hk
    have HR := Lib.hid hr
    have HB := Lib.hid hbel
    have HS1 := Lib.hid (HS.out.below_step hbel)
    clear hr hbel
    by_cases hlt : k < n + 1
    · obtain ⟨m, hm⟩ : ∃ m, n + 1 - k = m + 1 := ⟨n - k, by omega⟩
      have HM := Lib.hid (show l.length + 1 - k = m + 1 by rw [HN.out]; exact hm)
      have HM2 := Lib.hid (show l.length + 1 - (k + 1) = m by rw [HN.out]; omega)
      clear hm
      cases hit : hitB l t (srchN l t) with
      | false =>
        have HI := Lib.hid hit
        have HE := Lib.hid (show (⟨#[]⟩, 0, 7) = resN l (l.length + 1) s by rw [← HR.out, HM.out, resN, look_none hit])
        clear hit
        go_wp2_with fail
        refine (HF.out _ _ HS1.out).mono ?_
        rintro e w2 ⟨k', hk', rfl, hb2⟩
        have HB2 := Lib.hid (HB.out.trans (hb2.mono HB.out.size))
        rw [srch_eq hk', HI.out]
        clear hb2 hk'
        go_wp2_with fail
        go_ret3
        exact ResPost.mk HE.out HB2.out rfl
      | true =>
        have hlt2 := hit_lt hit
        obtain ⟨g, rfl⟩ := HSA.out (by omega)
        have HI := Lib.hid hit
        have HL := Lib.hid (look_some hit)
        have HLT := Lib.hid hlt2
        have hlt3 : srchN l t < n := by rw [← HN.out]; exact hlt2
        clear hit hlt2
        cases he : emptyB (nmAt l (srchN l t)).tgt with
        | true =>
          have HE := Lib.hid (show (t, -1, 0) = resN l (l.length + 1) s by rw [← HR.out, HM.out, resN, HL.out]; simp only [he, if_true])
          have he1 : (nmAt l (srchN l t)).tgt.toList.isEmpty = true := he
          have he2 : (nmAt l (srchN l t)).tgt.toList = [] := by simpa [emptyB] using he
          clear he
          generalize hK : srchN l t = k0 at *
          have HK := Lib.hid hK
          clear hK
          go_wp2_with fail
          refine (HF.out _ _ HS1.out).mono ?_
          rintro e w2 ⟨k', hk', rfl, hb2⟩
          have HB2 := Lib.hid (HB.out.trans (hb2.mono HB.out.size))
          have HS2 := Lib.hid (HS1.out.below_step hb2)
          rw [srch_eq hk', HK.out, HI.out]
          clear hb2 hk'
          have c1 : w2.cell? ⟨b, off, none⟩ = some (.slice (some ⟨g, 0, none⟩) n cap) := by rw [← HN.out]; exact HS2.out.cell HCC.out
          obtain ⟨d0, d1, d2⟩ := nm_cells HS2.out.drop HLT.out
          go_wp2_with fail
          go_ret3
          exact ResPost.mk HE.out (HB2.out.alloc HB2.out.size _) rfl
        | false =>
          have he1 : (nmAt l (srchN l t)).tgt.toList.isEmpty = false := he
          have he2 : ((nmAt l (srchN l t)).tgt.toList == []) = false := by simpa [emptyB] using he
          by_cases hh : 0 ≤ (nmAt l (srchN l t)).house
          · have HE := Lib.hid (show ((nmAt l (srchN l t)).tgt, (nmAt l (srchN l t)).house, 0) = resN l (l.length + 1) s by rw [← HR.out, HM.out, resN, HL.out]; simp only [he, hh, if_true, Bool.false_eq_true, if_false])
            have hd : decide (0 ≤ (nmAt l (srchN l t)).house) = true := by simpa using hh
            clear he hh
            generalize hK : srchN l t = k0 at *
            have HK := Lib.hid hK
            clear hK
            go_wp2_with fail
            refine (HF.out _ _ HS1.out).mono ?_
            rintro e w2 ⟨k', hk', rfl, hb2⟩
            have HB2 := Lib.hid (HB.out.trans (hb2.mono HB.out.size))
            have HS2 := Lib.hid (HS1.out.below_step hb2)
            rw [srch_eq hk', HK.out, HI.out]
            clear hb2 hk'
            have c1 : w2.cell? ⟨b, off, none⟩ = some (.slice (some ⟨g, 0, none⟩) n cap) := by rw [← HN.out]; exact HS2.out.cell HCC.out
            obtain ⟨d0, d1, d2⟩ := nm_cells HS2.out.drop HLT.out
            go_wp2_with fail
            refine wp_region_ord [.pure, .read, .pure, .read, .pure, .pure, .pure] [0, 1, 2, 3, 4, 5, 6] (by kernel_rfl) (by kernel_rfl) ?_
            simp only [List.map_cons, List.map_nil, item, List.getD_cons_zero, List.getD_cons_succ]
            repeat ((with_reducible refine vcL_pure (v := ?_) (a' := ?_) ?_ ?_ ?_ ?_); rotate_left 2; (rfl); ((intro w'; go_simp; (try (go_bits; (try go_simp); (try (go_bits; (try go_simp))))); ((skip))) <;> rfl); (go_simp; rfl))
            refine vcL_ld1 (a' := ?_) (v := .string (nmAt l k0).tgt) (ad := ⟨w2.heap.size, 1, none⟩) rfl rfl (fun _ => by simp) (by simp) ?_ ?_
            rotate_left 1
            · go_simp; rfl
            repeat ((with_reducible refine vcL_pure (v := ?_) (a' := ?_) ?_ ?_ ?_ ?_); rotate_left 2; (rfl); ((intro w'; go_simp; (try (go_bits; (try go_simp); (try (go_bits; (try go_simp))))); ((skip))) <;> rfl); (go_simp; rfl))
            refine vcL_ld1 (a' := ?_) (v := .int .i64 (nmAt l k0).house) (ad := ⟨w2.heap.size, 2, none⟩) rfl rfl (fun _ => by simp) (by simp) ?_ ?_
            rotate_left 1
            · go_simp; rfl
            repeat ((with_reducible refine vcL_pure (v := ?_) (a' := ?_) ?_ ?_ ?_ ?_); rotate_left 2; (rfl); ((intro w'; go_simp; (try (go_bits; (try go_simp); (try (go_bits; (try go_simp))))); ((skip))) <;> rfl); (go_simp; rfl))
            refine vcL_nil ?_
            go_wp2_with fail
            go_ret3
            exact ResPost.mk HE.out (HB2.out.alloc HB2.out.size _).drew rfl
          · have HE := Lib.hid (show resN l m (nmAt l (srchN l t)).tgt = resN l (l.length + 1) s by rw [← HR.out, HM.out, resN, HL.out]; simp only [he, hh, Bool.false_eq_true, if_false])
            have hd : decide (0 ≤ (nmAt l (srchN l t)).house) = false := by simpa using hh
            clear he hh
            generalize hK : srchN l t = k0 at *
            have HK := Lib.hid hK
            clear hK
            go_wp2_with fail
            refine (HF.out _ _ HS1.out).mono ?_
            rintro e w2 ⟨k', hk', rfl, hb2⟩
            have HB2 := Lib.hid (HB.out.trans (hb2.mono HB.out.size))
            have HS2 := Lib.hid (HS1.out.below_step hb2)
            rw [srch_eq hk', HK.out, HI.out]
            clear hb2 hk'
            have c1 : w2.cell? ⟨b, off, none⟩ = some (.slice (some ⟨g, 0, none⟩) n cap) := by rw [← HN.out]; exact HS2.out.cell HCC.out
            obtain ⟨d0, d1, d2⟩ := nm_cells HS2.out.drop HLT.out
            go_wp2_with fail
            go_roundw
            case rel => exact ⟨k + 1, (nmAt l k0).tgt, by rw [HN.out]; omega, rfl, by go_num, by rw [HM2.out]; exact HE.out, HB2.out.alloc HB2.out.size _⟩
            case measure => simp [intOf]; omega
    · obtain rfl : k = n + 1 := by omega
      have HE := Lib.hid (show (⟨#[]⟩, 0, 11) = resN l (l.length + 1) s by rw [← HR.out, HN.out, Nat.sub_self]; rfl)
      go_wp2_with fail
      go_ret3
      exact ResPost.mk HE.out HB.out rfl
end Go.Proofs.YtjhogocabcdjbabGreatDoor
/- names: the contracts in the calculus; Drop, All. -/
namespace Go.Proofs.YtjhogocabcdjbabGreatDoor
open Go Go.RowKit WB
abbrev nmS (v : Value) (l : List Nm) : HP := SL 75 3 Nm.cells v l
theorem nm_info : (Tryz.prog.info? 75).map (fun i => (i.zero, i.size, i.bytes)) = some (some (Value.agg #[.string ⟨#[]⟩, .string ⟨#[]⟩, .int .i64 0]), 3, 40) := by kernel_rfl
theorem nm_one (x : Nm) : x.cells.all Value.oneCell' = true := rfl
section
variable (w0 : World) (L R R2 : List HP) (b off : Nat) (cs : List Value) (T : TypeId) (v : Value) (l : List Nm) (s : ByteArray) (x : Nm)
theorem find_e (hp : Pick L (blk b (.cells cs.toArray T (0, 0))) R) (hq : Pick R (nmS v l) R2) (hc : cs[off]? = some v) (hl : l.length < 1000000) (hs : Sorted l) :
    KE Tryz.prog 148 #[.pointer (some ⟨b, off, none⟩), .string s] w0 L (fun u M => u = .tuple #[.int .i64 (srchN l s : Nat), .bool (hitB l s (srchN l s))] ∧ M = L) := fun w hw =>
  (find_any b off cs.toArray T (0, 0) v l s w w0 R2 (hw.pick2 hp hq) (by simpa using hc) hl (hs.mono s)).mono fun e w' ⟨k, hk, he, hb⟩ => by
    obtain rfl := srch_eq hk
    exact ⟨_, _, he, ⟨rfl, rfl⟩, hw.below_step hb, hb⟩
theorem local_e (hp : Pick L (blk b (.cells cs.toArray T (0, 0))) R) (hq : Pick R (nmS v l) R2) (hc : cs[off]? = some v) (hl : l.length < 1000000) (hs : Sorted l) :
    KE Tryz.prog 57 #[.pointer (some ⟨b, off, none⟩), .string s] w0 L (fun u M => u = .bool (localB l s) ∧ M = L) := fun w hw =>
  (local_any b off cs.toArray T v l s w w0 R2 (hw.pick2 hp hq) (by simpa using hc) (hs.mono s) hl).mono fun e w' ⟨he, hb⟩ => ⟨_, _, he, ⟨rfl, rfl⟩, hw.below_step hb, hb⟩
theorem resolve_e (hp : Pick L (blk b (.cells cs.toArray T (0, 0))) R) (hq : Pick R (nmS v l) R2) (hc : cs[off]? = some v) (hl : l.length < 1000000) (hs : Sorted l) :
    KE Tryz.prog 144 #[.pointer (some ⟨b, off, none⟩), .string s] w0 L (fun u M => u = .tuple #[.string (resN l (l.length + 1) s).1, .int .i64 (resN l (l.length + 1) s).2.1, errV 70 (resN l (l.length + 1) s).2.2] ∧ M = L) := fun w hw =>
  (resolve_any b off cs.toArray T v l s w w0 R2 (hw.pick2 hp hq) (by simpa using hc) hs.mono hl).mono fun e w' ⟨he, hb⟩ => ⟨_, _, he, ⟨rfl, rfl⟩, hw.below_step hb, hb⟩
theorem nset_c (hp : Pick L (blk b (.cells cs.toArray T (0, 0))) R) (hq : Pick R (nmS v l) R2) (hc : cs[off]? = some v) (h1 : x.name.size ≤ maxLen) (h2 : x.tgt.size ≤ maxLen) (hl : l.length ≤ 20) (hs : Sorted l) :
    KC Tryz.prog 170 #[.pointer (some ⟨b, off, none⟩), .agg x.cells.toArray] w0 L (fun u M => u = errV 70 (setErr l x) ∧ ∃ v', M = blk b (.cells (cs.set off v').toArray T (0, 0)) :: nmS v' (setNm l x) :: R2) := fun w hw =>
  (set_any b off cs.toArray T v l x w w0 R2 (hw.pick2 hp hq) (by simpa using hc) h1 h2 (hs.mono _) hl).mono fun e w' ⟨he, v', hs'⟩ => ⟨_, _, he, ⟨rfl, v', rfl⟩, by
    rw [List.setIfInBounds_toArray] at hs'; exact hs'⟩
end
theorem nmdel_c (w0 : World) (L : List HP) (v : Value) (xs : List Nm) (k : Nat) (hk : k < xs.length) (hn : xs.length < 1000000) :
    KC Tryz.prog 338 #[v, .int .i64 (k : Nat), .int .i64 ((k : Int) + 1)] w0 (nmS v xs :: L) (fun v' L' => L' = nmS v' (xs.eraseIdx k) :: L) := by
  refine KC.pre (fun w hw => SL_some hw hk) ?_
  rintro ⟨g, cap, rfl⟩
  refine KC.pre (fun w hw => (SL_open hw).2.1) fun hnc => ?_
  refine KC.mk (n := 33) Tryz.func338 rfl Tryz.ntmps338 (by simp) ?_
  repeat ((with_reducible refine K.seq ?_))
  refine K.reg ?_
  refine KO.as rfl rfl ?_
  refine KO.nil ?_
  repeat (first | (with_reducible refine K.seq ?_) | (with_reducible refine KQ.next ?_))
  refine K.reg ?_
  refine KO.mv rfl rfl ?_
  refine KO.mv rfl rfl ?_
  refine KO.mv rfl rfl ?_
  refine KO.mv rfl rfl ?_
  refine KO.len rfl Tryz.underlying86 rfl ?_
  refine KO.cutAny (lo := k) (hi := k + 1) (mx := xs.length) rfl rfl rfl rfl Tryz.underlying86 Tryz.sizeOf75 rfl (by omega) rfl (by omega) (by omega) (by omega) rfl (fun q13 => ?_)
  refine KO.nil ?_
  repeat (first | (with_reducible refine K.seq ?_) | (with_reducible refine KQ.next ?_))
  refine K.reg ?_
  refine KO.mv rfl rfl ?_
  refine KO.mv rfl rfl ?_
  refine KO.eqI rfl rfl rfl ?_
  refine KO.nil ?_
  repeat ((with_reducible refine KQ.next ?_))
  refine K.condF rfl (by simp; omega) ?_
  repeat (first | (with_reducible refine K.seq ?_) | (with_reducible refine KQ.next ?_) | (with_reducible refine K.skip ?_))
  refine K.reg ?_
  refine KO.mv rfl rfl ?_
  refine KO.len rfl Tryz.underlying86 rfl ?_
  refine KO.as rfl rfl ?_
  refine KO.nil ?_
  repeat (first | (with_reducible refine K.seq ?_) | (with_reducible refine KQ.next ?_))
  refine K.draw [.pure, .pure, .pure, .pure, .pure, .pure, .write, .pure] [0, 1, 2, 3, 4, 5, 6, 7] (by kernel_rfl) (by kernel_rfl) ?_
  refine KO.mv rfl rfl ?_
  refine KO.mv rfl rfl ?_
  refine KO.cutTo rfl rfl Tryz.underlying86 Tryz.sizeOf75 (by exact rfl) (by omega) rfl ?_
  refine KO.mv rfl rfl ?_
  refine KO.mv rfl rfl ?_
  refine KO.cutFrom (lo := k + 1) rfl rfl Tryz.underlying86 Tryz.sizeOf75 (by omega) (by omega) (by omega) rfl ?_
  refine KO.move (j := k + 1) rfl rfl rfl Pick.head rfl hnc Tryz.underlying86 nm_info (fun _ => rfl) nm_one (by omega) (by omega) rfl ?_
  refine KO.as rfl rfl ?_
  refine KO.nil ?_
  repeat (first | (with_reducible refine K.seq ?_) | (with_reducible refine KQ.next ?_))
  refine K.reg ?_
  refine KO.mv rfl rfl ?_
  refine KO.mv rfl rfl ?_
  refine KO.len rfl Tryz.underlying86 rfl ?_
  refine KO.mv rfl rfl ?_
  refine KO.cutMid (lo := k + (xs.length - (k + 1))) (hi := xs.length) rfl rfl rfl Tryz.underlying86 Tryz.sizeOf75 rfl rfl (by omega) (by omega) rfl ?_
  refine KO.clear rfl rfl Pick.head hnc (by simp; omega) (by simp; omega) Tryz.underlying86 nm_info (fun _ => rfl) rfl rfl ?_
  refine KO.nil ?_
  repeat (first | (with_reducible refine K.seq ?_) | (with_reducible refine KQ.next ?_))
  refine K.reg ?_
  refine KO.mv rfl rfl ?_
  refine KO.as rfl rfl ?_
  refine KO.nil ?_
  repeat (first | (with_reducible refine KQ.next ?_) | (with_reducible refine K.ret ?_))
  refine KQ.ret1 rfl rfl (fun w' hs => ⟨_, _, rfl, rfl, ?_⟩)
  have e : (List.take (k + (xs.length - (k + 1))) (List.take k xs ++ List.drop (k + 1) xs ++ List.drop (k + (xs.length - (k + 1))) xs)) = xs.eraseIdx k := by
    rw [List.take_append_of_le_length (by simp; omega), List.take_of_length_le (by simp; omega), List.eraseIdx_eq_take_drop_succ]
  rw [e] at hs
  exact hs
theorem ndrop_c (w0 : World) (L R R2 : List HP) (b off : Nat) (cs : List Value) (T : TypeId) (v : Value) (l : List Nm) (s : ByteArray)
    (hp : Pick L (blk b (.cells cs.toArray T (0, 0))) R) (hq : Pick R (nmS v l) R2) (hc : cs[off]? = some v) (hl : l.length < 1000000) (hs : Sorted l) :
    KC Tryz.prog 237 #[.pointer (some ⟨b, off, none⟩), .string s] w0 L (fun u M => u = errV 70 (dropErr l s) ∧ ∃ v', M = blk b (.cells (cs.set off v').toArray T (0, 0)) :: nmS v' (dropNm l s) :: R2) := by
  refine KC.perm (L' := blk b (.cells cs.toArray T (0, 0)) :: nmS v l :: R2) (fun w hw => hw.pick2 hp hq) ?_
  have hoff := (List.getElem?_eq_some_iff.1 hc).1
  refine KC.mk (n := 27) Tryz.func237 rfl Tryz.ntmps237 (by simp) ?_
  repeat ((with_reducible refine K.seq ?_))
  refine K.reg ?_
  refine KO.as rfl rfl ?_
  refine KO.nil ?_
  repeat (first | (with_reducible refine K.seq ?_) | (with_reducible refine KQ.next ?_))
  refine K.reg ?_
  refine KO.mv rfl rfl ?_
  refine KO.mv rfl rfl ?_
  refine KO.ce (cp := []) rfl rfl rfl Tryz.call148 rfl (find_e w0 _ _ _ b off cs T v l s .head .head hc hl hs) ?_; rintro v' L' ⟨rfl, rfl⟩
  refine KO.mv rfl rfl ?_
  refine KO.extrL rfl (by exact rfl) rfl ?_
  refine KO.extrL rfl (by exact rfl) rfl ?_
  refine KO.as rfl rfl ?_
  refine KO.as rfl rfl ?_
  refine KO.nil ?_
  repeat (first | (with_reducible refine K.seq ?_) | (with_reducible refine KQ.next ?_))
  refine K.reg ?_
  refine KO.mv rfl rfl ?_
  refine KO.not rfl rfl ?_
  refine KO.nil ?_
  repeat ((with_reducible refine KQ.next ?_))
  cases hh : hitB l s (srchN l s) with
  | false =>
    have e1 : dropErr l s = 7 := by unfold dropErr; rw [hh]; rfl
    have e2 : dropNm l s = l := by unfold dropNm; rw [hh]; rfl
    refine K.condT rfl rfl ?_
    repeat ((with_reducible refine K.seq ?_))
    refine K.reg ?_
    refine KO.mki rfl (by kernel_rfl) rfl ?_
    refine KO.as rfl rfl ?_
    refine KO.nil ?_
    repeat (first | (with_reducible refine KQ.next ?_) | (with_reducible refine KQ.then_ret ?_) | (with_reducible refine K.ret ?_))
    refine KQ.ret1 rfl rfl (fun w' hs => ⟨_, _, rfl, ⟨?_, v, rfl⟩, ?_⟩)
    · rw [e1]; rfl
    · rw [e2, List.set_getElem_of hc]; exact hs
  | true =>
    have e1 : dropErr l s = 0 := by unfold dropErr; rw [hh]; rfl
    have e2 : dropNm l s = l.eraseIdx (srchN l s) := by unfold dropNm; rw [hh]; rfl
    have hk := hit_lt hh
    refine K.condF rfl rfl ?_
    repeat (first | (with_reducible refine K.seq ?_) | (with_reducible refine KQ.next ?_) | (with_reducible refine K.skip ?_))
    refine K.reg ?_
    refine KO.mv rfl rfl ?_
    refine KO.mv rfl rfl ?_
    refine KO.nc rfl rfl ?_
    refine KO.fo (off := 0) rfl Tryz.runUnderlying125 rfl rfl Tryz.sizeOf86 rfl ?_
    refine KO.ldAt (i := off) rfl rfl Tryz.isAgg86 .head rfl hc rfl ?_
    refine KO.mv rfl rfl ?_
    refine KO.mv rfl rfl ?_
    refine KO.add rfl rfl rfl (by omega) rfl ?_
    refine KO.cl (cp := []) rfl rfl rfl Tryz.call338 rfl (KC.pk1 (.tail .head) (nmdel_c w0 _ v l (srchN l s) hk hl)) ?_; rintro v' L' rfl; refine KO.fact (fun _ hs => SL_form hs) ?_; rintro ⟨a', c', rfl, -⟩
    refine KO.nc rfl rfl ?_
    refine KO.fo (off := 0) rfl Tryz.runUnderlying125 rfl rfl Tryz.sizeOf86 rfl ?_
    refine KO.stAt (i := off) rfl rfl rfl (by exact rfl) (by exact Tryz.sizeOf86) rfl (.tail .head) rfl hoff ?_
    refine KO.nil ?_
    repeat (first | (with_reducible refine K.seq ?_) | (with_reducible refine KQ.next ?_))
    refine K.reg ?_
    refine KO.as rfl rfl ?_
    refine KO.nil ?_
    repeat (first | (with_reducible refine KQ.next ?_) | (with_reducible refine K.ret ?_))
    refine KQ.ret1 rfl rfl (fun w' hs => ⟨_, _, rfl, ⟨?_, .slice a' (l.eraseIdx (srchN l s)).length c', rfl⟩, ?_⟩)
    · rw [e1]; rfl
    · rw [e2]; exact hs
theorem nmclone_e (w0 : World) (L : List HP) (v : Value) (xs : List Nm) (hs : ∀ w, St w0 L w → Src w Nm.cells v xs) (hn : xs.length < 1000000) :
    KE Tryz.prog 266 #[v] w0 L (fun u M => M = nmS u xs :: L) := by
  refine KE.mk (n := 8) Tryz.func266 rfl Tryz.ntmps266 (by simp) ?_
  intro w hw
  obtain ⟨a, cap, rfl, hn0, hc⟩ := hs w hw
  repeat ((with_reducible refine K.seq ?_))
  refine K.reg ?_
  refine KO.as rfl rfl ?_
  refine KO.nil ?_
  repeat (first | (with_reducible refine K.seq ?_) | (with_reducible refine KQ.next ?_))
  cases a with
  | none =>
    obtain rfl := hn0 rfl
    refine K.reg ?_
    refine KO.mv rfl rfl ?_
    refine KO.eqSn rfl Tryz.underlying86 rfl ?_
    refine KO.nil ?_
    repeat ((with_reducible refine KQ.next ?_))
    refine K.condT rfl rfl ?_
    repeat ((with_reducible refine K.seq ?_))
    refine K.reg ?_
    refine KO.as rfl rfl ?_
    refine KO.nil ?_
    repeat (first | (with_reducible refine KQ.next ?_) | (with_reducible refine KQ.then_ret ?_) | (with_reducible refine K.ret ?_))
    refine KQ.ret1 rfl rfl (fun w' hs => ⟨_, _, rfl, rfl, SL_nil (hw.below_step hs.below), hs.below⟩)
  | some ad =>
    refine K.reg ?_
    refine KO.mv rfl rfl ?_
    refine KO.eqSn rfl Tryz.underlying86 rfl ?_
    refine KO.nil ?_
    repeat ((with_reducible refine KQ.next ?_))
    refine K.condF rfl rfl ?_
    repeat (first | (with_reducible refine K.seq ?_) | (with_reducible refine KQ.next ?_) | (with_reducible refine K.skip ?_))
    refine K.reg ?_
    refine KO.bs0 Nm.cells rfl Tryz.underlying86 Tryz.sizeOf75 rfl ?_; intro b5
    refine KO.mv rfl rfl ?_
    refine KO.appS (z := Value.agg #[.string ⟨#[]⟩, .string ⟨#[]⟩, .int .i64 0]) (sz := 3) (by' := 40) (ys := xs) rfl rfl rfl .head (fun w' hs => Src.ext ⟨some ad, cap, rfl, hn0, hc⟩ (Ext.of_below hs.below)) Tryz.underlying86 nm_info rfl (fun _ => rfl) nm_one (by simp; omega) (by decide) rfl ?_; intro v'
    refine KO.as rfl rfl ?_
    refine KO.nil ?_
    repeat (first | (with_reducible refine KQ.next ?_) | (with_reducible refine K.ret ?_))
    refine KQ.ret1 rfl rfl (fun w' hs => ⟨_, _, rfl, rfl, ?_, hs.below⟩)
    rw [List.nil_append] at hs
    exact hw.stack (M := [nmS v' xs]) hs
theorem nall_e (w0 : World) (L R R2 : List HP) (b off : Nat) (cs : List Value) (T : TypeId) (v : Value) (l : List Nm)
    (hp : Pick L (blk b (.cells cs.toArray T (0, 0))) R) (hq : Pick R (nmS v l) R2) (hc : cs[off]? = some v) (hl : l.length < 1000000) :
    KE Tryz.prog 169 #[.pointer (some ⟨b, off, none⟩)] w0 L (fun u M => M = nmS u l :: L) := by
  refine KE.mk (n := 8) Tryz.func169 rfl Tryz.ntmps169 (by simp) ?_
  intro w hw
  have hcell : w.cell? ⟨b, off, none⟩ = some v := by rw [World.cell?, (hw.lookP hp).2]; simpa using hc
  have hsrc := Src.of hq w (hw.pick hp).drop
  repeat ((with_reducible refine K.seq ?_))
  refine K.reg ?_
  refine KO.as rfl rfl ?_
  refine KO.nil ?_
  repeat (first | (with_reducible refine K.seq ?_) | (with_reducible refine KQ.next ?_))
  refine K.reg ?_
  refine KO.mv rfl rfl ?_
  refine KO.nc rfl rfl ?_
  refine KO.fo (off := 0) rfl Tryz.runUnderlying125 rfl rfl Tryz.sizeOf86 rfl ?_
  refine KO.ld0 rfl rfl Tryz.isAgg86 hcell rfl ?_
  refine KO.ce (cp := []) rfl rfl rfl Tryz.call266 rfl (nmclone_e w _ v l (fun w' hs => hsrc.ext (Ext.of_below hs.below)) hl) ?_; rintro v' L' rfl
  refine KO.as rfl rfl ?_
  refine KO.nil ?_
  repeat (first | (with_reducible refine KQ.next ?_) | (with_reducible refine K.ret ?_))
  refine KQ.ret1 rfl rfl (fun w' hs => ⟨_, _, rfl, rfl, hw.stack (M := [nmS _ l]) hs, hs.below⟩)
end Go.Proofs.YtjhogocabcdjbabGreatDoor
/- the house: sealed texts are opened, torn ones are not; parts of families -/
namespace WB
open Go Go.RowKit
theorem pcs_app {c : UInt8} {a : ByteArray} (ha : noB c a) (r : ByteArray) : pcs c (a ++ chr1 c ++ r) = a :: pcs c r := by
  unfold pcs chr1
  rw [show (a ++ ⟨#[c]⟩ ++ r).data.toList = a.data.toList ++ c :: r.data.toList by simp, pieces_app _ ha]
  rfl
theorem pcs_free {c : UInt8} {a : ByteArray} (ha : noB c a) : pcs c a = [a] := by
  unfold pcs
  rw [pieces_free ha]
  rfl
theorem pcs_noB {c : UInt8} {s p : ByteArray} (h : p ∈ pcs c s) : noB c p := by
  unfold pcs at h
  obtain ⟨q, hq, rfl⟩ := List.mem_map.1 h
  exact fun b hb => pieces_mem c _ q hq b (by rw [data_toB] at hb; exact hb)
theorem itoa_noB {c : UInt8} (n : Int) (h : c.toNat ≠ 45 ∧ (c.toNat < 48 ∨ 57 < c.toNat)) : noB c (itoaS n) := fun b hb e => by
  subst e
  have := itoa_mem b hb
  omega
theorem bar_itoa (n : Int) : noB 124 (itoaS n) := itoa_noB n (by decide)
theorem sealS_eq (k : Int) (s : ByteArray) : sealS k s = itoaS k ++ chr1 124 ++ (s ++ chr1 124 ++ itoaS (sumS (sealT k s))) := by
  unfold sealS
  rw [show sealT k s = itoaS k ++ chr1 124 ++ s from rfl]
  simp only [ByteArray.append_assoc]
theorem openS_seal {k : Int} {s : ByteArray} (h : noB 124 s) : openS k (sealS k s) = some s := by
  unfold openS
  have : pcs 124 (sealS k s) = [itoaS k, s, itoaS (sumS (sealT k s))] := by
    rw [sealS_eq, pcs_app (bar_itoa k), pcs_app h, pcs_free (bar_itoa _)]
  rw [this]
  simp
theorem openS_some {k : Int} {t w : ByteArray} (h : openS k t = some w) : sealS k w = t ∧ noB 124 w := by
  unfold openS at h
  split at h
  · rename_i a b c e
    split at h
    · rename_i e2
      simp only [Option.some.injEq] at h
      subst h
      exact ⟨e2, pcs_noB (s := t) (by rw [e]; simp)⟩
    · cases h
  · cases h
theorem openS_torn {k : Int} {s : ByteArray} {i : Nat} (h : noB 124 s) (hi : i < (sealS k s).size) : openS k ((sealS k s).extract 0 i) = none := by
  cases ho : openS k ((sealS k s).extract 0 i) with
  | none => rfl
  | some w =>
    obtain ⟨h1, h2⟩ := openS_some ho
    have e1 : sealS k s = sealS k w ++ (sealS k s).extract i (sealS k s).size := by
      rw [h1]
      generalize sealS k s = u at hi
      rw [ByteArray.extract_append_extract, Nat.min_eq_left (Nat.zero_le _), Nat.max_eq_right (by omega), ByteArray.extract_zero_size]
    have p1 : pcs 124 (sealS k s) = [itoaS k, s, itoaS (sumS (sealT k s))] := by
      rw [sealS_eq, pcs_app (bar_itoa k), pcs_app h, pcs_free (bar_itoa _)]
    have p2 : ∃ r, pcs 124 (sealS k s) = itoaS k :: w :: r := by
      rw [e1, sealS_eq k w]
      rw [show itoaS k ++ chr1 124 ++ (w ++ chr1 124 ++ itoaS (sumS (sealT k w))) ++ (sealS k s).extract i (sealS k s).size = itoaS k ++ chr1 124 ++ (w ++ chr1 124 ++ (itoaS (sumS (sealT k w)) ++ (sealS k s).extract i (sealS k s).size)) by simp only [ByteArray.append_assoc]]
      exact ⟨_, by rw [pcs_app (bar_itoa k), pcs_app h2]⟩
    obtain ⟨r, p2⟩ := p2
    rw [p1] at p2
    simp only [List.cons.injEq, true_and] at p2
    have hw : w = s := p2.1.symm
    subst hw
    have := congrArg ByteArray.size h1
    simp at this
    omega
theorem openS_nil (k : Int) : openS k ⟨#[]⟩ = none := by
  unfold openS
  rw [show pcs 124 ⟨#[]⟩ = [⟨#[]⟩] from pcs_free (fun b hb => by simp at hb)]
theorem sealS_size (k : Int) (s : ByteArray) : 0 < (sealS k s).size := by
  have h1 : (chr1 124).size = 1 := rfl
  unfold sealS
  simp only [ByteArray.size_append]; omega
theorem sealS_le {k : Int} {s : ByteArray} (hk : intB k) (hs : s.size ≤ 700000) : (sealS k s).size ≤ 700100 := by
  have h1 : (chr1 124).size = 1 := rfl
  have h2 := sumS_bound (sealT k s)
  have h3 := itoaS_size (n := sumS (sealT k s)) ⟨by omega, by omega⟩
  have h4 := itoaS_size hk
  have h5 : (sealT k s).size ≤ 700022 := by unfold sealT; simp only [ByteArray.size_append]; omega
  unfold sealS
  simp only [ByteArray.size_append]; omega
theorem idxB_hit {c : UInt8} (r : List UInt8) : ∀ {l : List UInt8}, (∀ b ∈ l, b ≠ c) → Lib.indexByte (l ++ c :: r) c = (l.length : Nat)
  | [], _ => by simp [Lib.indexByte]
  | b :: l, h => by
    rw [List.cons_append]
    unfold Lib.indexByte
    rw [idxB_hit r fun x hx => h x (by simp [hx])]
    simp [h b (by simp)]
theorem cutB_hit {c : UInt8} {a : ByteArray} (ha : noB c a) (r : ByteArray) : cutB c (a ++ chr1 c ++ r) = (a, r, true) := by
  have e : Lib.cut (a ++ chr1 c ++ r).data.toList [c] = (a.data.toList, r.data.toList, true) := by
    unfold Lib.cut chr1
    rw [Lib.index_one, show (a ++ ⟨#[c]⟩ ++ r).data.toList = a.data.toList ++ c :: r.data.toList by simp, idxB_hit _ ha, if_pos (by omega)]
    rw [Int.toNat_natCast, List.take_left, List.length_singleton, ← List.drop_drop, List.drop_left]
    rfl
  unfold cutB
  rw [e]
  rfl
/-! parts of families -/
def fam {α β : Type} (f : α → β → HP) (ps : List α) (xs : List β) : HP := seps (List.zipWith f ps xs)
section
variable {α β : Type} {f : α → β → HP} {w0 w : World} {L : List HP} {ps : List α} {xs : List β} {p : α} {x : β} {i : Nat}
theorem pick_mid {A : HP} : ∀ (l r : List HP), Pick (l ++ A :: r) A (l ++ r)
  | [], _ => .head
  | _ :: l, r => .tail (pick_mid l r)
theorem fam_list (h : St w0 (fam f ps xs :: L) w) : St w0 (List.zipWith f ps xs ++ L) w := h.splits
theorem fam_of (h : St w0 (List.zipWith f ps xs ++ L) w) : St w0 (fam f ps xs :: L) w := h.joins
theorem zip_split (hp : ps[i]? = some p) (hx : xs[i]? = some x) : List.zipWith f ps xs = List.zipWith f (ps.take i) (xs.take i) ++ f p x :: List.zipWith f (ps.drop (i + 1)) (xs.drop (i + 1)) := by
  obtain ⟨h1, rfl⟩ := List.getElem?_eq_some_iff.1 hp
  obtain ⟨h2, rfl⟩ := List.getElem?_eq_some_iff.1 hx
  have e1 : ps = ps.take i ++ ps[i] :: ps.drop (i + 1) := by rw [← List.drop_eq_getElem_cons h1, List.take_append_drop]
  have e2 : xs = xs.take i ++ xs[i] :: xs.drop (i + 1) := by rw [← List.drop_eq_getElem_cons h2, List.take_append_drop]
  conv => lhs; rw [e1, e2]
  rw [List.zipWith_append (by simp; omega)]
  rfl
theorem zip_erase (hp : i < ps.length) (hx : i < xs.length) : List.zipWith f (ps.eraseIdx i) (xs.eraseIdx i) = List.zipWith f (ps.take i) (xs.take i) ++ List.zipWith f (ps.drop (i + 1)) (xs.drop (i + 1)) := by
  rw [List.eraseIdx_eq_take_drop_succ, List.eraseIdx_eq_take_drop_succ, List.zipWith_append (by simp; omega)]
/-- one out of a family -/
theorem fam_out (hp : ps[i]? = some p) (hx : xs[i]? = some x) (h : St w0 (fam f ps xs :: L) w) : St w0 (f p x :: fam f (ps.eraseIdx i) (xs.eraseIdx i) :: L) w := by
  have h1 := fam_list h
  rw [zip_split hp hx, List.append_assoc, List.cons_append] at h1
  have h2 := h1.pick (pick_mid _ _)
  rw [← List.append_assoc, ← zip_erase (List.getElem?_eq_some_iff.1 hp).1 (List.getElem?_eq_some_iff.1 hx).1] at h2
  exact h2.mapOwn fun _ hh => sep_mono (fun _ h => h) (fun _ h => seps_append.1 h) hh
/-- one into a family: changed, with a handle of its own -/
theorem fam_in (hp : i < ps.length) (hx : i < xs.length) (h : St w0 (f p x :: fam f (ps.eraseIdx i) (xs.eraseIdx i) :: L) w) : St w0 (fam f (ps.set i p) (xs.set i x) :: L) w := by
  have h1 : St w0 (f p x :: (List.zipWith f (ps.eraseIdx i) (xs.eraseIdx i) ++ L)) w := h.mapOwn fun _ hh => sep_mono (fun _ h => h) (fun _ h => seps_append.2 h) hh
  refine fam_of ?_
  rw [zip_split (p := p) (x := x) (i := i) (by rw [List.getElem?_set_self hp]) (by rw [List.getElem?_set_self hx]), List.append_assoc, List.cons_append]
  refine St.unpick ?_ (pick_mid _ _)
  rw [← List.append_assoc]
  rw [zip_erase hp hx] at h1
  simpa [List.take_set_of_le, List.drop_set_of_lt] using h1
theorem fam_put (hp : ps[i]? = some p) (hx : i < xs.length) (h : St w0 (f p x :: fam f (ps.eraseIdx i) (xs.eraseIdx i) :: L) w) : St w0 (fam f ps (xs.set i x) :: L) w := by
  have h1 := fam_in (List.getElem?_eq_some_iff.1 hp).1 hx h
  have e : ps.set i p = ps := by obtain ⟨h2, rfl⟩ := List.getElem?_eq_some_iff.1 hp; exact List.set_getElem_self h2
  rwa [e] at h1
theorem fam_back (hp : ps[i]? = some p) (hx : xs[i]? = some x) (h : St w0 (f p x :: fam f (ps.eraseIdx i) (xs.eraseIdx i) :: L) w) : St w0 (fam f ps xs :: L) w := by
  have h1 := fam_put hp (List.getElem?_eq_some_iff.1 hx).1 h
  have e : xs.set i x = xs := by obtain ⟨h2, rfl⟩ := List.getElem?_eq_some_iff.1 hx; exact List.set_getElem_self h2
  rwa [e] at h1
/-- a new one behind all -/
theorem fam_snoc (hl : ps.length = xs.length) (h : St w0 (f p x :: fam f ps xs :: L) w) : St w0 (fam f (ps ++ [p]) (xs ++ [x]) :: L) w := by
  have h1 : St w0 (f p x :: (List.zipWith f ps xs ++ L)) w := h.mapOwn fun _ hh => sep_mono (fun _ h => h) (fun _ h => seps_append.2 h) hh
  refine fam_of ?_
  rw [List.zipWith_append hl, List.append_assoc]
  exact St.unpick h1 (pick_mid _ _)
theorem fam_nil (h : St w0 L w) : St w0 (fam f [] [] :: L) w := h.empi
end
end WB
/- the house: its model -/
namespace WB
open Go Go.RowKit
structure Unt where
  puts : List (Ms × Int)
  gets : List (Int × ByteArray)
instance : Inhabited Unt := ⟨⟨[], []⟩⟩
structure Ho where
  id : Int
  used : Nat
  down : Bool
  torn : Int
  next : Int
  names : List Nm
  queues : List (ByteArray × Qu)
  ways : List Qu
  units : List Unt
  batch : List (List Int)
  sent : List Int
  arrived : List Int
namespace Ho
abbrev all (H : Ho) : List Qu := H.ways ++ H.queues.map (·.2)
def qI (H : Ho) (s : ByteArray) : Option Nat := H.queues.findIdx? fun x => decide (x.1 = s)
def qAt (H : Ho) (i : Nat) : Qu := (H.queues.getD i (⟨#[]⟩, default)).2
def setQ (H : Ho) (i : Nat) (q : Qu) : Ho := { H with queues := H.queues.set i ((H.queues.getD i (⟨#[]⟩, default)).1, q) }
def wAt (H : Ho) (j : Nat) : Qu := H.ways.getD j default
def setW (H : Ho) (j : Nat) (q : Qu) : Ho := { H with ways := H.ways.set j q }
def uAt (H : Ho) (u : Nat) : Unt := H.units.getD u default
end Ho
/-- n bounds what it has -/
structure HoB (n : Nat) (H : Ho) : Prop where
  id : 0 ≤ H.id ∧ H.id < 4
  used : H.used ≤ 300
  next : 0 ≤ H.next ∧ H.next ≤ 274877906945
  sorted : Sorted H.names
  nlen : H.names.length ≤ 20
  qlen : H.queues.length ≤ n
  qs : ∀ q ∈ H.all, QB n q
  nodup : (H.queues.map (·.1)).Nodup
  ways : H.ways.length = 4
  units : H.units.length = 5
  batch : H.batch.length = 4
  sent : H.sent.length = 4
  arrived : H.arrived.length = 4
  right : ∀ x ∈ H.names, rightNm x = true
  loc : ∀ x ∈ H.names, x.tgt = ⟨#[]⟩ → ∃ i, H.qI x.name = some i
def roomE (H : Ho) : Int := if H.down = true then 6 else if 300 ≤ H.used then 4 else 0
def logE (H : Ho) (D : Dk) : Int := if roomE H ≠ 0 then roomE H else dkErr D
def logH (H : Ho) (D : Dk) : Ho := if roomE H ≠ 0 then H else if dkErr D ≠ 0 then { H with down := true } else { H with used := H.used + 1 }
def logD (H : Ho) (D : Dk) (s : ByteArray) : Dk := if roomE H ≠ 0 then D else dkWrite D H.used (sealS H.used s) H.torn
def hset (H : Ho) (x : Nm) : Ho :=
  if setErr H.names x = 0 then { H with names := setNm H.names x, queues := if x.tgt = ⟨#[]⟩ ∧ H.qI x.name = none then H.queues ++ [(x.name, ⟨[], 0⟩)] else H.queues } else H
def hsetE (H : Ho) (x : Nm) : Int := setErr H.names x
def hdrop (H : Ho) (s : ByteArray) : Ho := { H with names := dropNm H.names s }
def hdropE (H : Ho) (s : ByteArray) : Int := dropErr H.names s
/-- messages come into their queues, or go to other houses -/
def hput1 (H : Ho) (m : Ms) : Option Ho :=
  let H1 := { H with next := max H.next (m.id / 4 + 1) }
  if m.house ≠ H.id then some (H1.setW m.house.toNat (qpush (H.wAt m.house.toNat) m (-1))) else match H.qI m.queue with
    | none => none
    | some i => some (H1.setQ i (qpush (H.qAt i) m (-1)))
def hputs : Ho → List Ms → Ho × Bool
  | H, [] => (H, true)
  | H, m :: r => match hput1 H m with
    | some H1 => hputs H1 r
    | none => ({ H with next := max H.next (m.id / 4 + 1) }, false)
def hget1 (H : Ho) (s : ByteArray) : Option Ho := match numO (cutB 32 s).1 with
  | none => none
  | some n => match H.qI (cutB 32 s).2.1 with
    | none => none
    | some i => if qtakeE (H.qAt i) n = 0 then some (H.setQ i (qtake (H.qAt i) n)) else none
def hgets : Ho → List ByteArray → Ho × Bool
  | H, [] => (H, true)
  | H, s :: r => match hget1 H s with
    | some H1 => hgets H1 r
    | none => (H, false)
def hends (H : Ho) (s : ByteArray) : Ho × Bool :=
  if (cutB 47 s).2.2 = false then (H, false) else match mrd (cutB 47 s).1 with
  | none => (H, false)
  | some l =>
    if (hputs H l).2 = false then (hputs H l).1 |> fun H1 => (H1, false) else
    if (cutB 47 s).2.1 = ⟨#[]⟩ then ((hputs H l).1, true) else hgets (hputs H l).1 (pcs 43 (cutB 47 s).2.1)
def dash (s : ByteArray) : ByteArray := toB (Lib.trimPrefix s.data.toList [45])
/-- a record of names -/
def hnameR (s : ByteArray) : Option Nm := match pcs 32 s with
  | [a, b, c] => (numO c).map fun k => ⟨a, dash b, k⟩
  | _ => none
/-- a record of names, or of a unit, is played -/
def hplays (H : Ho) (s : ByteArray) : Ho × Bool :=
  if (cutB 58 s).1 = chr1 110 then match hnameR (cutB 58 s).2.1 with
    | none => (H, false)
    | some x => (hset H x, decide (hsetE H x = 0))
  else if (cutB 58 s).1 = chr1 100 then (hdrop H (cutB 58 s).2.1, decide (hdropE H (cutB 58 s).2.1 = 0))
  else hends H (cutB 58 s).2.1
def mEnt (qs : List (ByteArray × Qu)) (ps : List Nat) : List (ByteArray × Value) := List.zipWith (fun x p => (x.1, Value.pointer (some ⟨p, 0, none⟩))) qs ps
theorem mEnt_get : ∀ (qs : List (ByteArray × Qu)) (ps : List Nat) (s : ByteArray), ps.length = qs.length →
    getK (mEnt qs ps) s = (qs.findIdx? fun x => decide (x.1 = s)).bind fun i => (ps[i]?).map fun p => Value.pointer (some ⟨p, 0, none⟩)
  | [], [], _, _ => rfl
  | x :: qs, p :: ps, s, h => by
    have ih := mEnt_get qs ps s (by simpa using h)
    unfold mEnt at *
    rw [List.zipWith_cons_cons, getK, List.findIdx?_cons]
    by_cases e : x.1 = s
    · simp [e]
    · simp only [e, decide_false, if_false]
      rw [ih]
      cases List.findIdx? (fun x => decide (x.1 = s)) qs <;> simp
theorem mEnt_put : ∀ (qs : List (ByteArray × Qu)) (ps : List Nat) (s : ByteArray) (q : Qu) (p : Nat), ps.length = qs.length → (qs.findIdx? fun x => decide (x.1 = s)) = none →
    putK (mEnt qs ps) s (Value.pointer (some ⟨p, 0, none⟩)) = mEnt (qs ++ [(s, q)]) (ps ++ [p])
  | [], [], _, _, _, _, _ => rfl
  | x :: qs, p' :: ps, s, q, p, h, h2 => by
    rw [List.findIdx?_cons] at h2
    by_cases e : x.1 = s
    · simp [e] at h2
    · simp only [e, decide_false, Bool.false_eq_true, if_false] at h2
      have ih := mEnt_put qs ps s q p (by simpa using h) (by simpa using h2)
      unfold mEnt at *
      simp only [List.cons_append, List.zipWith_cons_cons]
      rw [putK]
      simp only [e, if_false]
      rw [ih]
end WB
namespace WB
open Go Go.RowKit
theorem roomE_z {H : Ho} (h : roomE H = 0) : H.down = false ∧ H.used < 300 := by
  unfold roomE at h
  split at h
  · cases h
  · rename_i h1
    split at h
    · cases h
    · exact ⟨by simpa using h1, by omega⟩
theorem setNm_err {l : List Nm} {x : Nm} (h : setErr l x ≠ 0) : setNm l x = l := by
  unfold setErr at h
  unfold setNm
  split
  · rfl
  · rename_i h1
    rw [if_neg h1] at h
    split
    · rename_i h2; rw [if_pos h2] at h; exact absurd rfl h
    · rename_i h2
      rw [if_neg h2] at h
      split
      · rfl
      · rename_i h3; rw [if_neg h3] at h; exact absurd rfl h
/-- a slice that is only read: a piece of a block -/
def roS (T : TypeId) (v : Value) (l : List Int) : HP := ex fun c : Option (Nat × Nat × List Value × Nat) => match c with
  | none => pur (v = .slice none 0 0 ∧ l = [])
  | some (g, off, cs, cap) => sep (pur (v = .slice (some ⟨g, off, none⟩) l.length cap ∧ ∀ (i : Nat) x, l[i]? = some x → cs[off + i]? = some (Value.int .i64 x))) (blk g (.cells cs.toArray T (0, 0)))
section
variable {w0 w : World} {L : List HP} {T : TypeId} {v : Value} {l : List Int}
theorem roS_nil (h : St w0 L w) : St w0 (roS T (.slice none 0 0) [] :: L) w := St.exi none (St.puri ⟨rfl, rfl⟩ h)
end
end WB
/- house: where a house lies; room, logs, set, drop -/
namespace Go.Proofs.YtjhogocabcdjbabGreatDoor
open Go Go.RowKit WB
def ptrV (p : Nat) : Value := .pointer (some ⟨p, 0, none⟩)
def putC (x : Ms × Int) : List Value := [.int .i64 x.1.id, .int .i64 x.1.pri, .string x.1.body, .string x.1.queue, .int .i64 x.1.house, .int .i64 x.2]
def intC (x : Int) : List Value := [.int .i64 x]
def gotC (x : Int × ByteArray) : List Value := [.int .i64 x.1, .string x.2]
def putsS (v : Value) (l : List (Ms × Int)) : HP := SL 142 6 putC v l
def getsS (v : Value) (l : List (Int × ByteArray)) : HP := SL 146 2 gotC v l
def batS (v : Value) (l : List Int) : HP := roS 3 v l
structure HoV where
  nv : Value
  mb : Nat
  ps : List Nat
  us : List (Value × Value)
  bs : List Value
structure HoVL (V : HoV) (H : Ho) : Prop where
  ps : V.ps.length = 4 + H.queues.length
  us : V.us.length = 5
  bs : V.bs.length = 4
  ways : H.ways.length = 4
  units : H.units.length = 5
  batch : H.batch.length = 4
  sent : H.sent.length = 4
  arrived : H.arrived.length = 4
def hoC (bd : Nat) (V : HoV) (H : Ho) : List Value :=
  .int .i64 H.id :: ptrV bd :: .int .i64 (H.used : Nat) :: .bool H.down :: .int .i64 H.torn :: .int .i64 H.next :: V.nv :: .map (some V.mb) ::
    ((V.ps.take 4).map ptrV ++ (V.us.flatMap (fun p => [p.1, p.2]) ++ (V.bs ++ (H.sent.map (Value.int .i64) ++ H.arrived.map (Value.int .i64)))))
abbrev mapE (V : HoV) (H : Ho) : List (ByteArray × Value) := mEnt H.queues (V.ps.drop 4)
abbrev hoX (bh bd : Nat) (V : HoV) (H : Ho) (L : List HP) : List HP :=
  blk bh (.cells (hoC bd V H).toArray 133 (0, 0)) :: nmS V.nv H.names :: omapK Value.string V.mb (mapE V H) :: fam quP V.ps H.all :: fam putsS (V.us.map (·.1)) (H.units.map (·.puts)) :: fam getsS (V.us.map (·.2)) (H.units.map (·.gets)) :: fam batS V.bs H.batch :: L
def hoP (bh bd : Nat) (H : Ho) : HP := ex fun V : HoV => sep (pur (HoVL V H)) (seps (hoX bh bd V H []))
theorem hoP_open {w0 w : World} {bh bd : Nat} {H : Ho} {L : List HP} (h : St w0 (hoP bh bd H :: L) w) : ∃ V : {V : HoV // HoVL V H}, St w0 (hoX bh bd V.1 H L) w := by
  obtain ⟨V, h⟩ := h.exs
  obtain ⟨hV, h⟩ := h.split.purs
  exact ⟨⟨V, hV⟩, by have := h.splits; exact this⟩
theorem hoP_mk {w0 w : World} {bh bd : Nat} {H : Ho} {L : List HP} (V : HoV) (hV : HoVL V H) (h : St w0 (hoX bh bd V H L) w) : St w0 (hoP bh bd H :: L) w :=
  St.exi (F := fun V => sep (pur (HoVL V H)) (seps (hoX bh bd V H []))) V (St.join (St.puri hV (St.joins (L := hoX bh bd V H []) h)))
/-- what its cells say -/
theorem hoP_cells {w0 w : World} {bh bd : Nat} {H : Ho} {L R : List HP} (h : St w0 L w) (hp : Pick L (hoP bh bd H) R) :
    ∃ V, HoVL V H ∧ ∀ i v, (hoC bd V H)[i]? = some v → w.cell? ⟨bh, i, none⟩ = some v := by
  obtain ⟨V, h1⟩ := hoP_open (h.pick hp)
  refine ⟨V.1, V.2, fun i v hv => ?_⟩
  rw [World.cell?, h1.look.2]; simpa using hv
theorem hoC_len {bd : Nat} {V : HoV} {H : Ho} (h : HoVL V H) : (hoC bd V H).length = 34 := by
  have e : (V.us.flatMap (fun p => [p.1, p.2])).length = 10 := by
    have : ∀ l : List (Value × Value), (l.flatMap (fun p => [p.1, p.2])).length = 2 * l.length := fun l => by
      induction l with
      | nil => rfl
      | cons a l ih => rw [List.flatMap_cons, List.length_append, ih]; simp; omega
    rw [this, h.us]
  simp [hoC, h.ps, h.bs, h.sent, h.arrived, e]
theorem room_e (w0 : World) (L R : List HP) (bh bd : Nat) (H : Ho) (hp : Pick L (hoP bh bd H) R) : KE Tryz.prog 155 #[ptrV bh] w0 L (fun u M => u = errV 70 (roomE H) ∧ M = L) := by
  refine KE.mk (n := 16) Tryz.func155 rfl Tryz.ntmps155 (by simp) ?_
  intro w hw
  obtain ⟨V, hV, hc⟩ := hoP_cells hw hp
  have hc3 := hc 3 _ rfl
  have hc2 := hc 2 _ rfl
  repeat ((with_reducible refine K.seq ?_))
  refine K.reg ?_
  refine KO.as rfl rfl ?_
  refine KO.nil ?_
  repeat (first | (with_reducible refine K.seq ?_) | (with_reducible refine KQ.next ?_) | (with_reducible refine K.block ?_))
  cases hd : H.down with
  | true =>
    rw [hd] at hc3
    refine K.reg ?_
    refine KO.mv rfl rfl ?_
    refine KO.nc rfl rfl ?_
    refine KO.fo0 (off := 3) rfl Tryz.runUnderlying133 rfl rfl Tryz.sizeOf4 rfl ?_
    refine KO.ld0 rfl rfl Tryz.isAgg4 hc3 rfl ?_
    refine KO.as rfl rfl ?_
    refine KO.nil ?_
    repeat ((with_reducible refine KQ.next ?_))
    refine K.condT rfl rfl ?_
    repeat ((with_reducible refine K.seq ?_))
    refine K.reg ?_
    refine KO.mki rfl (by kernel_rfl) rfl ?_
    refine KO.as rfl rfl ?_
    refine KO.nil ?_
    repeat (first | (with_reducible refine KQ.next ?_) | (with_reducible refine KQ.then_ret ?_) | (with_reducible refine KQ.blk_ret ?_) | (with_reducible refine K.ret ?_))
    refine KQ.ret1 rfl rfl (fun w' hs => ⟨_, _, rfl, ⟨?_, rfl⟩, hw.below_step hs.below, hs.below⟩)
    unfold roomE; rw [hd]; rfl
  | false =>
    rw [hd] at hc3
    refine K.reg ?_
    refine KO.mv rfl rfl ?_
    refine KO.nc rfl rfl ?_
    refine KO.fo0 (off := 3) rfl Tryz.runUnderlying133 rfl rfl Tryz.sizeOf4 rfl ?_
    refine KO.ld0 rfl rfl Tryz.isAgg4 hc3 rfl ?_
    refine KO.as rfl rfl ?_
    refine KO.nil ?_
    repeat ((with_reducible refine KQ.next ?_))
    refine K.condF rfl rfl ?_
    repeat ((with_reducible refine K.seq ?_))
    refine K.reg ?_
    refine KO.mv rfl rfl ?_
    refine KO.nc rfl rfl ?_
    refine KO.fo0 (off := 2) rfl Tryz.runUnderlying133 rfl rfl Tryz.sizeOf3 rfl ?_
    refine KO.ld0 rfl rfl Tryz.isAgg3 hc2 rfl ?_
    refine KO.geq rfl rfl rfl ?_
    refine KO.as rfl rfl ?_
    refine KO.nil ?_
    repeat ((with_reducible refine KQ.next ?_))
    refine K.condD rfl (fun h5 => ?_) (fun h5 => ?_)
    · repeat ((with_reducible refine K.seq ?_))
      refine K.reg ?_
      refine KO.mki rfl (by kernel_rfl) rfl ?_
      refine KO.as rfl rfl ?_
      refine KO.nil ?_
      repeat (first | (with_reducible refine KQ.next ?_) | (with_reducible refine KQ.then_ret ?_) | (with_reducible refine KQ.blk_ret ?_) | (with_reducible refine K.ret ?_))
      refine KQ.ret1 rfl rfl (fun w' hs => ⟨_, _, rfl, ⟨?_, rfl⟩, hw.below_step hs.below, hs.below⟩)
      unfold roomE; rw [hd, if_neg (by simp), if_pos (by omega)]; rfl
    · repeat (first | (with_reducible refine K.seq ?_) | (with_reducible refine KQ.next ?_) | (with_reducible refine KQ.blk_normal ?_) | (with_reducible refine K.skip ?_))
      refine K.reg ?_
      refine KO.as rfl rfl ?_
      refine KO.nil ?_
      repeat (first | (with_reducible refine KQ.next ?_) | (with_reducible refine K.ret ?_))
      refine KQ.ret1 rfl rfl (fun w' hs => ⟨_, _, rfl, ⟨?_, rfl⟩, hw.below_step hs.below, hs.below⟩)
      unfold roomE; rw [hd, if_neg (by simp), if_neg (by omega)]; rfl
set_option maxRecDepth 100000 in
theorem hset_c (w0 : World) (L : List HP) (bh bd : Nat) (H : Ho) (x : Nm) (h1 : x.name.size ≤ maxLen) (h2 : x.tgt.size ≤ maxLen) (hl : H.names.length ≤ 20) (hs : Sorted H.names) :
    KC Tryz.prog 137 #[ptrV bh, .agg x.cells.toArray] w0 (hoP bh bd H :: L) (fun u M => u = errV 70 (hsetE H x) ∧ M = hoP bh bd (hset H x) :: L) := by
  obtain ⟨xn, xt, xh⟩ := x
  dsimp only at h1 h2
  refine KC.mk (n := 35) Tryz.func137 rfl Tryz.ntmps137 (by simp) ?_
  repeat ((with_reducible refine K.seq ?_))
  refine K.open' (fun _ h => hoP_open h) ?_
  rintro ⟨V, hV⟩
  dsimp only
  have hps := hV.ps
  refine K.reg ?_
  refine KO.box rfl rfl (by exact rfl) rfl ?_; intro b3
  refine KO.as rfl rfl ?_
  refine KO.nil ?_
  repeat (first | (with_reducible refine K.seq ?_) | (with_reducible refine KQ.next ?_))
  refine K.draw [.pure, .pure, .pure, .read, .write, .pure] [0, 1, 2, 3, 4, 5] (by kernel_rfl) (by kernel_rfl) ?_
  refine KO.mv rfl rfl ?_
  refine KO.nc rfl rfl ?_
  refine KO.fo0 (off := 6) rfl Tryz.runUnderlying133 rfl rfl Tryz.sizeOf125 rfl ?_
  refine KO.ldB0 rfl rfl Tryz.isAgg75 Tryz.sizeOf75 (by with_reducible (repeat (exact Pick.head))) (by exact rfl) rfl ?_
  refine KO.cl (cp := []) rfl rfl rfl Tryz.call170 rfl (nset_c w0 _ _ _ bh 6 (hoC bd V H) 133 V.nv H.names ⟨xn, xt, xh⟩ (by with_reducible (repeat (first | exact Pick.head | apply Pick.tail))) (by with_reducible (repeat (first | exact Pick.head | apply Pick.tail))) rfl h1 h2 hl hs) ?_; rintro v' L' ⟨rfl, v2, rfl⟩; rw [show (hoC bd V H).set 6 v2 = hoC bd { V with nv := v2 } H from rfl]
  refine KO.as rfl rfl ?_
  refine KO.nil ?_
  repeat (first | (with_reducible refine K.seq ?_) | (with_reducible refine KQ.next ?_))
  refine K.reg ?_
  refine KO.mv rfl rfl ?_
  refine KO.neN rfl (by kernel_rfl) rfl ?_
  refine KO.nil ?_
  repeat ((with_reducible refine KQ.next ?_))
  refine K.condD rfl (fun h => ?_) (fun h => ?_)
  · repeat ((with_reducible refine K.seq ?_))
    refine K.reg ?_
    refine KO.mv rfl rfl ?_
    refine KO.as rfl rfl ?_
    refine KO.nil ?_
    repeat (first | (with_reducible refine KQ.next ?_) | (with_reducible refine KQ.then_ret ?_) | (with_reducible refine K.ret ?_))
    refine KQ.ret1 rfl rfl (fun w' hs' => ⟨_, _, rfl, ⟨rfl, rfl⟩, ?_⟩)
    rw [show hset H ⟨xn, xt, xh⟩ = H from if_neg h]
    rw [setNm_err h] at hs'
    exact hoP_mk { V with nv := v2 } ⟨hV.ps, hV.us, hV.bs, hV.ways, hV.units, hV.batch, hV.sent, hV.arrived⟩ (hs'.all (by with_reducible repeat (first | exact PAll.refl | refine PAll.cons (by with_reducible repeat (first | exact Pick.head | apply Pick.tail)) ?_ | apply PAll.drop)))
  have h0 : setErr H.names ⟨xn, xt, xh⟩ = 0 := by simpa using h
  have he : hsetE H ⟨xn, xt, xh⟩ = 0 := h0
  repeat (first | (with_reducible refine K.seq ?_) | (with_reducible refine KQ.next ?_) | (with_reducible refine K.skip ?_))
  have hV2 : HoVL { V with nv := v2 } { H with names := setNm H.names ⟨xn, xt, xh⟩ } := ⟨hV.ps, hV.us, hV.bs, hV.ways, hV.units, hV.batch, hV.sent, hV.arrived⟩
  have hlen4 : (V.ps.drop 4).length = H.queues.length := by rw [List.length_drop, hps]; omega
  by_cases hx : xt = ⟨#[]⟩
  · cases hq : H.qI xn with
    | none =>
      have hg : getK (mapE V H) xn = none := by rw [mEnt_get _ _ _ hlen4, show H.queues.findIdx? (fun x => decide (x.1 = xn)) = none from hq]; rfl
      refine K.draw [.pure, .read, .pure, .pure, .pure, .pure, .pure, .read, .pure, .read, .read, .pure, .pure] [0, 1, 2, 3, 4, 5, 6, 7, 8, 9, 10, 11, 12] (by kernel_rfl) (by kernel_rfl) ?_
      refine KO.fo0 (off := 1) rfl Tryz.runUnderlying75 rfl rfl Tryz.sizeOf9 rfl ?_
      refine KO.ld rfl rfl Tryz.isAgg9 (by with_reducible (repeat (first | exact Pick.head | apply Pick.tail))) (by exact rfl) rfl ?_
      refine KO.eqS rfl rfl rfl ?_
      refine KO.mv rfl rfl ?_
      (refine KO.on rfl rfl ?_ ?_; (focus (simp only [decide_eq_true_eq, decide_eq_false_iff_not, Bool.not_eq_true, Bool.not_true, Bool.not_false, ne_eq]; omega)); (refine KO.mv rfl rfl ?_))
      (refine KO.on rfl rfl ?_ ?_; (focus (simp only [decide_eq_true_eq, decide_eq_false_iff_not, Bool.not_eq_true, Bool.not_true, Bool.not_false, ne_eq]; omega)); (refine KO.nc rfl rfl ?_))
      (refine KO.on rfl rfl ?_ ?_; (focus (simp only [decide_eq_true_eq, decide_eq_false_iff_not, Bool.not_eq_true, Bool.not_true, Bool.not_false, ne_eq]; omega)); (refine KO.fo0 (off := 7) rfl Tryz.runUnderlying133 rfl rfl Tryz.sizeOf123 rfl ?_))
      refine KO.on rfl rfl (by simp [hx]) ?_; refine KO.ldAt (i := 7) rfl rfl Tryz.isAgg123 (by with_reducible (repeat (exact Pick.head))) rfl rfl rfl ?_
      (refine KO.on rfl rfl ?_ ?_; (focus (simp only [decide_eq_true_eq, decide_eq_false_iff_not, Bool.not_eq_true, Bool.not_true, Bool.not_false, ne_eq]; omega)); (refine KO.fo0 (off := 0) rfl Tryz.runUnderlying75 rfl rfl Tryz.sizeOf9 rfl ?_))
      (refine KO.on rfl rfl ?_ ?_; (focus (simp only [decide_eq_true_eq, decide_eq_false_iff_not, Bool.not_eq_true, Bool.not_true, Bool.not_false, ne_eq]; omega)); (refine KO.ld rfl rfl Tryz.isAgg9 (by with_reducible (repeat (first | exact Pick.head | apply Pick.tail))) (by exact rfl) rfl ?_))
      refine KO.on rfl rfl (by simp [hx]) ?_; refine KO.lkm strKey xn rfl rfl rfl Tryz.underlying123 Tryz.underlying9 Tryz.zeroValue119 (by with_reducible (repeat (first | exact Pick.head | apply Pick.tail))) rfl ?_; rw [hg]
      refine KO.on rfl rfl (by simp [hx]) ?_; refine KO.eqP0 rfl Tryz.underlying119 rfl ?_
      (refine KO.pickT rfl ?_ rfl rfl ?_; (focus (simp only [decide_eq_true_eq, decide_eq_false_iff_not, Bool.not_eq_true, Bool.not_true, Bool.not_false, ne_eq]; omega)))
      refine KO.nil ?_
      repeat ((with_reducible refine KQ.next ?_))
      refine K.condT rfl rfl ?_
      refine K.draw [.pure, .pure, .pure, .read, .pure, .read, .pure, .keep, .write] [0, 1, 2, 3, 4, 5, 6, 7, 8] (by kernel_rfl) (by kernel_rfl) ?_
      refine KO.mv rfl rfl ?_
      refine KO.nc rfl rfl ?_
      refine KO.fo0 (off := 7) rfl Tryz.runUnderlying133 rfl rfl Tryz.sizeOf123 rfl ?_
      refine KO.ldAt (i := 7) rfl rfl Tryz.isAgg123 (by with_reducible (repeat (exact Pick.head))) rfl rfl rfl ?_
      refine KO.fo0 (off := 0) rfl Tryz.runUnderlying75 rfl rfl Tryz.sizeOf9 rfl ?_
      refine KO.ld rfl rfl Tryz.isAgg9 (by with_reducible (repeat (first | exact Pick.head | apply Pick.tail))) (by exact rfl) rfl ?_
      refine KO.bldN (pl := [(0, 1), (1, 1)]) rfl Tryz.zeroValue122 Tryz.runUnderlying122 (by intro w; simp [Tryz.sizeOf3, Tryz.sizeOf120]) (by exact rfl) rfl ?_
      refine KO.box rfl rfl (by exact rfl) rfl ?_; intro b34
      refine KO.upm strKey xn rfl rfl rfl rfl Tryz.underlying123 Tryz.underlying9 (by with_reducible (repeat (first | exact Pick.head | apply Pick.tail))) ?_
      refine KO.nil ?_
      repeat (first | (with_reducible refine K.seq ?_) | (with_reducible refine KQ.next ?_))
      refine K.reg ?_
      refine KO.as rfl rfl ?_
      refine KO.nil ?_
      repeat (first | (with_reducible refine KQ.next ?_) | (with_reducible refine K.ret ?_))
      refine KQ.ret1 rfl rfl (fun w' hs' => ⟨_, _, rfl, ⟨by rw [he]; rfl, rfl⟩, ?_⟩)
      rw [show hset H ⟨xn, xt, xh⟩ = { H with names := setNm H.names ⟨xn, xt, xh⟩, queues := H.queues ++ [(xn, ⟨[], 0⟩)] } by unfold hset; rw [if_pos h0, if_pos ⟨hx, hq⟩]]
      have hm := mEnt_put H.queues (V.ps.drop 4) xn ⟨[], 0⟩ b34 hlen4 hq
      rw [hm] at hs'
      have hs2 := SL_nil (E := 243) (sz := 8) (cf := itC) hs'
      have hs3 : St w0 (quP b34 ⟨[], 0⟩ :: fam quP V.ps H.all :: blk bh (.cells (hoC bd { V with nv := v2 } H).toArray 133 (0, 0)) :: nmS v2 (setNm H.names ⟨xn, xt, xh⟩) :: omapK Value.string V.mb (mEnt (H.queues ++ [(xn, ⟨[], 0⟩)]) (V.ps.drop 4 ++ [b34])) :: fam putsS (V.us.map (·.1)) (H.units.map (·.puts)) :: fam getsS (V.us.map (·.2)) (H.units.map (·.gets)) :: fam batS V.bs H.batch :: L) w' :=
        quP_mk (hs2.all (by repeat (first | exact PAll.refl | refine PAll.cons (by repeat (first | exact Pick.head | apply Pick.tail)) ?_ | apply PAll.drop)))
      have hs4 := fam_snoc (by rw [hps]; simp [hV.ways]) hs3
      have et : (V.ps ++ [b34]).take 4 = V.ps.take 4 := by rw [List.take_append_of_le_length (by omega)]
      have ed : (V.ps ++ [b34]).drop 4 = V.ps.drop 4 ++ [b34] := by rw [List.drop_append_of_le_length (by omega)]
      have ea : H.all ++ [(⟨[], 0⟩ : Qu)] = H.ways ++ (H.queues ++ [(xn, (⟨[], 0⟩ : Qu))]).map (·.2) := by simp
      rw [ea] at hs4
      refine hoP_mk { V with nv := v2, ps := V.ps ++ [b34] } ⟨by simp [hps]; omega, hV.us, hV.bs, hV.ways, hV.units, hV.batch, hV.sent, hV.arrived⟩ ?_
      have e1 : hoC bd { V with nv := v2, ps := V.ps ++ [b34] } { H with names := setNm H.names ⟨xn, xt, xh⟩, queues := H.queues ++ [(xn, ⟨[], 0⟩)] } = hoC bd { V with nv := v2 } H := by unfold hoC; dsimp only; rw [et]
      unfold hoX mapE
      rw [e1]
      dsimp only
      rw [ed]
      exact hs4.all (by with_reducible repeat (first | exact PAll.refl | refine PAll.cons (by with_reducible repeat (first | exact Pick.head | apply Pick.tail)) ?_))
    | some i =>
      have hilt : i < H.queues.length := (List.findIdx?_eq_some_iff_getElem.1 hq).1
      obtain ⟨p, hp⟩ : ∃ p, (V.ps.drop 4)[i]? = some p := ⟨_, List.getElem?_eq_getElem (by omega)⟩
      have hg : getK (mapE V H) xn = some (ptrV p) := by rw [mEnt_get _ _ _ hlen4, show H.queues.findIdx? (fun x => decide (x.1 = xn)) = some i from hq]; simp only [Option.bind_some, hp, Option.map_some]; rfl
      refine K.draw [.pure, .read, .pure, .pure, .pure, .pure, .pure, .read, .pure, .read, .read, .pure, .pure] [0, 1, 2, 3, 4, 5, 6, 7, 8, 9, 10, 11, 12] (by kernel_rfl) (by kernel_rfl) ?_
      refine KO.fo0 (off := 1) rfl Tryz.runUnderlying75 rfl rfl Tryz.sizeOf9 rfl ?_
      refine KO.ld rfl rfl Tryz.isAgg9 (by with_reducible (repeat (first | exact Pick.head | apply Pick.tail))) (by exact rfl) rfl ?_
      refine KO.eqS rfl rfl rfl ?_
      refine KO.mv rfl rfl ?_
      (refine KO.on rfl rfl ?_ ?_; (focus (simp only [decide_eq_true_eq, decide_eq_false_iff_not, Bool.not_eq_true, Bool.not_true, Bool.not_false, ne_eq]; omega)); (refine KO.mv rfl rfl ?_))
      (refine KO.on rfl rfl ?_ ?_; (focus (simp only [decide_eq_true_eq, decide_eq_false_iff_not, Bool.not_eq_true, Bool.not_true, Bool.not_false, ne_eq]; omega)); (refine KO.nc rfl rfl ?_))
      (refine KO.on rfl rfl ?_ ?_; (focus (simp only [decide_eq_true_eq, decide_eq_false_iff_not, Bool.not_eq_true, Bool.not_true, Bool.not_false, ne_eq]; omega)); (refine KO.fo0 (off := 7) rfl Tryz.runUnderlying133 rfl rfl Tryz.sizeOf123 rfl ?_))
      refine KO.on rfl rfl (by simp [hx]) ?_; refine KO.ldAt (i := 7) rfl rfl Tryz.isAgg123 (by with_reducible (repeat (exact Pick.head))) rfl rfl rfl ?_
      (refine KO.on rfl rfl ?_ ?_; (focus (simp only [decide_eq_true_eq, decide_eq_false_iff_not, Bool.not_eq_true, Bool.not_true, Bool.not_false, ne_eq]; omega)); (refine KO.fo0 (off := 0) rfl Tryz.runUnderlying75 rfl rfl Tryz.sizeOf9 rfl ?_))
      (refine KO.on rfl rfl ?_ ?_; (focus (simp only [decide_eq_true_eq, decide_eq_false_iff_not, Bool.not_eq_true, Bool.not_true, Bool.not_false, ne_eq]; omega)); (refine KO.ld rfl rfl Tryz.isAgg9 (by with_reducible (repeat (first | exact Pick.head | apply Pick.tail))) (by exact rfl) rfl ?_))
      refine KO.on rfl rfl (by simp [hx]) ?_; refine KO.lkm strKey xn rfl rfl rfl Tryz.underlying123 Tryz.underlying9 Tryz.zeroValue119 (by with_reducible (repeat (first | exact Pick.head | apply Pick.tail))) rfl ?_; rw [hg]
      refine KO.on rfl rfl (by simp [hx]) ?_; refine KO.eqPn rfl Tryz.underlying119 rfl ?_
      (refine KO.pickT rfl ?_ rfl rfl ?_; (focus (simp only [decide_eq_true_eq, decide_eq_false_iff_not, Bool.not_eq_true, Bool.not_true, Bool.not_false, ne_eq]; omega)))
      refine KO.nil ?_
      repeat ((with_reducible refine KQ.next ?_))
      refine K.condF rfl rfl ?_
      repeat (first | (with_reducible refine K.seq ?_) | (with_reducible refine KQ.next ?_) | (with_reducible refine K.skip ?_))
      refine K.reg ?_
      refine KO.as rfl rfl ?_
      refine KO.nil ?_
      repeat (first | (with_reducible refine KQ.next ?_) | (with_reducible refine K.ret ?_))
      refine KQ.ret1 rfl rfl (fun w' hs' => ⟨_, _, rfl, ⟨by rw [he]; rfl, rfl⟩, ?_⟩)
      rw [show hset H ⟨xn, xt, xh⟩ = { H with names := setNm H.names ⟨xn, xt, xh⟩ } by unfold hset; rw [if_pos h0, if_neg (by rw [hq]; simp)]]
      exact hoP_mk { V with nv := v2 } hV2 (hs'.all (by repeat (first | exact PAll.refl | refine PAll.cons (by repeat (first | exact Pick.head | apply Pick.tail)) ?_ | apply PAll.drop)))
  · refine K.draw [.pure, .read, .pure, .pure, .pure, .pure, .pure, .read, .pure, .read, .read, .pure, .pure] [0, 1, 2, 3, 4, 5, 6, 7, 8, 9, 10, 11, 12] (by kernel_rfl) (by kernel_rfl) ?_
    refine KO.fo0 (off := 1) rfl Tryz.runUnderlying75 rfl rfl Tryz.sizeOf9 rfl ?_
    refine KO.ld rfl rfl Tryz.isAgg9 (by with_reducible (repeat (first | exact Pick.head | apply Pick.tail))) (by exact rfl) rfl ?_
    refine KO.eqS rfl rfl rfl ?_
    refine KO.mv rfl rfl ?_
    (refine KO.no rfl rfl ?_ rfl ?_; (focus (simp only [decide_eq_true_eq, decide_eq_false_iff_not, Bool.not_eq_true, Bool.not_true, Bool.not_false, ne_eq]; omega)))
    (refine KO.no rfl rfl ?_ rfl ?_; (focus (simp only [decide_eq_true_eq, decide_eq_false_iff_not, Bool.not_eq_true, Bool.not_true, Bool.not_false, ne_eq]; omega)))
    (refine KO.no rfl rfl ?_ rfl ?_; (focus (simp only [decide_eq_true_eq, decide_eq_false_iff_not, Bool.not_eq_true, Bool.not_true, Bool.not_false, ne_eq]; omega)))
    (refine KO.no rfl rfl ?_ rfl ?_; (focus (simp only [decide_eq_true_eq, decide_eq_false_iff_not, Bool.not_eq_true, Bool.not_true, Bool.not_false, ne_eq]; omega)))
    (refine KO.no rfl rfl ?_ rfl ?_; (focus (simp only [decide_eq_true_eq, decide_eq_false_iff_not, Bool.not_eq_true, Bool.not_true, Bool.not_false, ne_eq]; omega)))
    (refine KO.no rfl rfl ?_ rfl ?_; (focus (simp only [decide_eq_true_eq, decide_eq_false_iff_not, Bool.not_eq_true, Bool.not_true, Bool.not_false, ne_eq]; omega)))
    (refine KO.no rfl rfl ?_ rfl ?_; (focus (simp only [decide_eq_true_eq, decide_eq_false_iff_not, Bool.not_eq_true, Bool.not_true, Bool.not_false, ne_eq]; omega)))
    (refine KO.no rfl rfl ?_ rfl ?_; (focus (simp only [decide_eq_true_eq, decide_eq_false_iff_not, Bool.not_eq_true, Bool.not_true, Bool.not_false, ne_eq]; omega)))
    (refine KO.pickF rfl ?_ rfl rfl ?_; (focus (simp only [decide_eq_true_eq, decide_eq_false_iff_not, Bool.not_eq_true, Bool.not_true, Bool.not_false, ne_eq]; omega)))
    refine KO.nil ?_
    repeat ((with_reducible refine KQ.next ?_))
    refine K.condF rfl (by simp [hx]) ?_
    repeat (first | (with_reducible refine K.seq ?_) | (with_reducible refine KQ.next ?_) | (with_reducible refine K.skip ?_))
    refine K.reg ?_
    refine KO.as rfl rfl ?_
    refine KO.nil ?_
    repeat (first | (with_reducible refine KQ.next ?_) | (with_reducible refine K.ret ?_))
    refine KQ.ret1 rfl rfl (fun w' hs' => ⟨_, _, rfl, ⟨by rw [he]; rfl, rfl⟩, ?_⟩)
    rw [show hset H ⟨xn, xt, xh⟩ = { H with names := setNm H.names ⟨xn, xt, xh⟩ } by unfold hset; rw [if_pos h0, if_neg (by simp [hx])]]
    exact hoP_mk { V with nv := v2 } hV2 (hs'.all (by repeat (first | exact PAll.refl | refine PAll.cons (by repeat (first | exact Pick.head | apply Pick.tail)) ?_ | apply PAll.drop)))
theorem hdrop_c (w0 : World) (L : List HP) (bh bd : Nat) (H : Ho) (s : ByteArray) (hl : H.names.length ≤ 20) (hs : Sorted H.names) :
    KC Tryz.prog 139 #[ptrV bh, .string s] w0 (hoP bh bd H :: L) (fun u M => u = errV 70 (hdropE H s) ∧ M = hoP bh bd (hdrop H s) :: L) := by
  refine KC.mk (n := 14) Tryz.func139 rfl Tryz.ntmps139 (by simp) ?_
  repeat ((with_reducible refine K.seq ?_))
  refine K.open' (fun _ h => hoP_open h) ?_
  rintro ⟨V, hV⟩
  dsimp only
  have fin : ∀ w' v2, St w0 (hoX bh bd { V with nv := v2 } (hdrop H s) L) w' → St w0 (hoP bh bd (hdrop H s) :: L) w' := fun w' v2 h => hoP_mk { V with nv := v2 } ⟨hV.ps, hV.us, hV.bs, hV.ways, hV.units, hV.batch, hV.sent, hV.arrived⟩ h
  refine K.reg ?_
  refine KO.as rfl rfl ?_
  refine KO.nil ?_
  repeat (first | (with_reducible refine K.seq ?_) | (with_reducible refine KQ.next ?_))
  refine K.reg ?_
  refine KO.mv rfl rfl ?_
  refine KO.nc rfl rfl ?_
  refine KO.fo0 (off := 6) rfl Tryz.runUnderlying133 rfl rfl Tryz.sizeOf125 rfl ?_
  refine KO.mv rfl rfl ?_
  refine KO.cl (cp := []) rfl rfl rfl Tryz.call237 rfl (ndrop_c w0 _ _ _ bh 6 (hoC bd V H) 133 V.nv H.names s (by with_reducible (repeat (exact Pick.head))) (by with_reducible (repeat (exact Pick.head))) rfl (by omega) hs) ?_; rintro v' L' ⟨rfl, v2, rfl⟩; rw [show (hoC bd V H).set 6 v2 = hoC bd { V with nv := v2 } (hdrop H s) from rfl]
  refine KO.as rfl rfl ?_
  refine KO.nil ?_
  repeat (first | (with_reducible refine K.seq ?_) | (with_reducible refine KQ.next ?_))
  refine K.reg ?_
  refine KO.mv rfl rfl ?_
  refine KO.neN rfl (by kernel_rfl) rfl ?_
  refine KO.nil ?_
  repeat ((with_reducible refine KQ.next ?_))
  refine K.condD rfl (fun h => ?_) (fun h => ?_)
  · repeat ((with_reducible refine K.seq ?_))
    refine K.reg ?_
    refine KO.mv rfl rfl ?_
    refine KO.as rfl rfl ?_
    refine KO.nil ?_
    repeat (first | (with_reducible refine KQ.next ?_) | (with_reducible refine KQ.then_ret ?_) | (with_reducible refine K.ret ?_))
    refine KQ.ret1 rfl rfl (fun w' hs' => ⟨_, _, rfl, ⟨rfl, rfl⟩, ?_⟩)
    exact fin w' v2 (hs'.all (by repeat (exact PAll.refl)))
  · repeat (first | (with_reducible refine K.seq ?_) | (with_reducible refine KQ.next ?_) | (with_reducible refine K.skip ?_))
    refine K.reg ?_
    refine KO.as rfl rfl ?_
    refine KO.nil ?_
    repeat (first | (with_reducible refine KQ.next ?_) | (with_reducible refine K.ret ?_))
    have he : hdropE H s = 0 := by unfold hdropE; simpa using h
    refine KQ.ret1 rfl rfl (fun w' hs' => ⟨_, _, rfl, ⟨by rw [he]; rfl, rfl⟩, ?_⟩)
    exact fin w' v2 (hs'.all (by repeat (exact PAll.refl)))
set_option maxRecDepth 100000 in
theorem logs_c (w0 : World) (L : List HP) (bh bd : Nat) (H : Ho) (D : Dk) (s : ByteArray) (hT : Tab w0) (h3 : D.places.length = 300) (hd : -1000000 ≤ D.left ∧ D.left ≤ 9223372036854775807) (hs : s.size ≤ 700000) (hu : H.used ≤ 300) :
    KC Tryz.prog 61 #[ptrV bh, .string s] w0 (hoP bh bd H :: dkP bd D :: L) (fun u M => u = errV 70 (logE H D) ∧ M = hoP bh bd (logH H D) :: dkP bd (logD H D s) :: L) := by
  refine KC.mk (n := 44) Tryz.func61 rfl Tryz.ntmps61 (by simp) ?_
  repeat ((with_reducible refine K.seq ?_))
  refine K.reg ?_
  refine KO.as rfl rfl ?_
  refine KO.nil ?_
  repeat (first | (with_reducible refine K.seq ?_) | (with_reducible refine KQ.next ?_))
  refine K.reg ?_
  refine KO.mv rfl rfl ?_
  refine KO.ce (cp := []) rfl rfl rfl Tryz.call155 rfl (room_e w0 _ _ bh bd H .head) ?_; rintro v' L' ⟨rfl, rfl⟩
  refine KO.as rfl rfl ?_
  refine KO.nil ?_
  repeat (first | (with_reducible refine K.seq ?_) | (with_reducible refine KQ.next ?_))
  refine K.reg ?_
  refine KO.mv rfl rfl ?_
  refine KO.neN rfl (by kernel_rfl) rfl ?_
  refine KO.nil ?_
  repeat ((with_reducible refine KQ.next ?_))
  refine K.condD rfl (fun h => ?_) (fun h => ?_)
  · repeat ((with_reducible refine K.seq ?_))
    refine K.reg ?_
    refine KO.mv rfl rfl ?_
    refine KO.as rfl rfl ?_
    refine KO.nil ?_
    repeat (first | (with_reducible refine KQ.next ?_) | (with_reducible refine KQ.then_ret ?_) | (with_reducible refine K.ret ?_))
    refine KQ.ret1 rfl rfl (fun w' hs' => ⟨_, _, rfl, ⟨?_, rfl⟩, ?_⟩)
    · unfold logE; rw [if_pos h]
    · unfold logH logD; rw [if_pos h, if_pos h]; exact hs'
  have h0 : roomE H = 0 := by simpa using h
  have hr := roomE_z h0
  have hsz : (sealS (H.used : Nat) s).size ≤ 1000000 := Nat.le_trans (sealS_le ⟨by omega, by omega⟩ hs) (by decide)
  repeat (first | (with_reducible refine K.seq ?_) | (with_reducible refine KQ.next ?_) | (with_reducible refine K.skip ?_))
  refine K.open' (fun _ h => hoP_open h) ?_
  rintro ⟨V, hV⟩
  dsimp only
  refine K.draw [.pure, .pure, .pure, .read, .pure, .pure, .pure, .read, .pure, .pure, .pure, .read, .pure, .keep, .pure, .pure, .pure, .read, .write, .pure] [0, 1, 2, 3, 4, 5, 6, 7, 8, 9, 10, 11, 12, 14, 15, 16, 17, 13, 18, 19] (by kernel_rfl) (by kernel_rfl) ?_
  refine KO.mv rfl rfl ?_
  refine KO.nc rfl rfl ?_
  refine KO.fo0 (off := 1) rfl Tryz.runUnderlying133 rfl rfl Tryz.sizeOf25 rfl ?_
  refine KO.ldAt (i := 1) rfl rfl Tryz.isAgg25 (by with_reducible (repeat (exact Pick.head))) rfl rfl rfl ?_
  refine KO.mv rfl rfl ?_
  refine KO.nc rfl rfl ?_
  refine KO.fo0 (off := 2) rfl Tryz.runUnderlying133 rfl rfl Tryz.sizeOf3 rfl ?_
  refine KO.ldAt (i := 2) rfl rfl Tryz.isAgg3 (by with_reducible (repeat (exact Pick.head))) rfl rfl rfl ?_
  refine KO.mv rfl rfl ?_
  refine KO.nc rfl rfl ?_
  refine KO.fo0 (off := 2) rfl Tryz.runUnderlying133 rfl rfl Tryz.sizeOf3 rfl ?_
  refine KO.ldAt (i := 2) rfl rfl Tryz.isAgg3 (by with_reducible (repeat (exact Pick.head))) rfl rfl rfl ?_
  refine KO.mv rfl rfl ?_
  refine KO.mv rfl rfl ?_
  refine KO.nc rfl rfl ?_
  refine KO.fo0 (off := 4) rfl Tryz.runUnderlying133 rfl rfl Tryz.sizeOf3 rfl ?_
  refine KO.ldAt (i := 4) rfl rfl Tryz.isAgg3 (by with_reducible (repeat (exact Pick.head))) rfl rfl rfl ?_
  refine KO.ce (cp := []) rfl rfl rfl Tryz.call134 rfl (sealed_e w0 _ (H.used : Nat) s ⟨by omega, by omega⟩ (by omega) hT) ?_; rintro v' L' ⟨rfl, rfl⟩
  refine KO.cl (cp := []) rfl rfl rfl Tryz.call156 rfl (KC.pk1 (by with_reducible (repeat (first | exact Pick.head | apply Pick.tail))) (write_c w0 _ bd H.used D (sealS (H.used : Nat) s) H.torn h3 hr.2 hd ⟨sealS_size _ _, hsz⟩)) ?_; rintro v' L' ⟨rfl, rfl⟩
  refine KO.as rfl rfl ?_
  refine KO.nil ?_
  repeat (first | (with_reducible refine K.seq ?_) | (with_reducible refine KQ.next ?_))
  refine K.reg ?_
  refine KO.mv rfl rfl ?_
  refine KO.neN rfl (by kernel_rfl) rfl ?_
  refine KO.nil ?_
  repeat ((with_reducible refine KQ.next ?_))
  refine K.condD rfl (fun h2 => ?_) (fun h2 => ?_)
  · repeat ((with_reducible refine K.seq ?_))
    refine K.reg ?_
    refine KO.mv rfl rfl ?_
    refine KO.nc rfl rfl ?_
    refine KO.fo0 (off := 3) rfl Tryz.runUnderlying133 rfl rfl Tryz.sizeOf4 rfl ?_
    refine KO.stAt (i := 3) rfl rfl rfl (by exact rfl) (by exact Tryz.sizeOf4) rfl (by with_reducible (repeat (first | exact Pick.head | apply Pick.tail))) rfl (by rw [hoC_len hV]; omega) ?_; rw [show (hoC bd V H).set 3 (.bool true) = hoC bd V { H with down := true } from rfl]
    refine KO.nil ?_
    repeat (first | (with_reducible refine K.seq ?_) | (with_reducible refine KQ.next ?_))
    refine K.reg ?_
    refine KO.mv rfl rfl ?_
    refine KO.as rfl rfl ?_
    refine KO.nil ?_
    repeat (first | (with_reducible refine KQ.next ?_) | (with_reducible refine KQ.then_ret ?_) | (with_reducible refine K.ret ?_))
    refine KQ.ret1 rfl rfl (fun w' hs' => ⟨_, _, rfl, ⟨?_, rfl⟩, ?_⟩)
    · unfold logE; rw [if_neg h]
    · unfold logH logD; rw [if_neg h, if_neg h, if_pos h2]
      exact hoP_mk V ⟨hV.ps, hV.us, hV.bs, hV.ways, hV.units, hV.batch, hV.sent, hV.arrived⟩ (hs'.all (by repeat (first | exact PAll.refl | refine PAll.cons (by repeat (first | exact Pick.head | apply Pick.tail)) ?_)))
  · repeat (first | (with_reducible refine K.seq ?_) | (with_reducible refine KQ.next ?_) | (with_reducible refine K.skip ?_))
    refine K.reg ?_
    refine KO.mv rfl rfl ?_
    refine KO.nc rfl rfl ?_
    refine KO.fo0 (off := 2) rfl Tryz.runUnderlying133 rfl rfl Tryz.sizeOf3 rfl ?_
    refine KO.ldAt (i := 2) rfl rfl Tryz.isAgg3 (by with_reducible (repeat (first | exact Pick.head | apply Pick.tail))) rfl rfl rfl ?_
    refine KO.add rfl rfl rfl (by omega) rfl ?_
    refine KO.nc rfl rfl ?_
    refine KO.fo0 (off := 2) rfl Tryz.runUnderlying133 rfl rfl Tryz.sizeOf3 rfl ?_
    refine KO.stAt (i := 2) rfl rfl rfl (by exact rfl) (by exact Tryz.sizeOf3) rfl (by with_reducible (repeat (first | exact Pick.head | apply Pick.tail))) rfl (by rw [hoC_len hV]; omega) ?_; rw [show (hoC bd V H).set 2 (.int .i64 ((H.used : Nat) + 1 : Int)) = hoC bd V { H with used := H.used + 1 } from rfl]
    refine KO.nil ?_
    repeat (first | (with_reducible refine K.seq ?_) | (with_reducible refine KQ.next ?_))
    refine K.reg ?_
    refine KO.as rfl rfl ?_
    refine KO.nil ?_
    repeat (first | (with_reducible refine KQ.next ?_) | (with_reducible refine K.ret ?_))
    have h20 : dkErr D = 0 := by simpa using h2
    refine KQ.ret1 rfl rfl (fun w' hs' => ⟨_, _, rfl, ⟨?_, rfl⟩, ?_⟩)
    · unfold logE; rw [if_neg h, h20]; rfl
    · unfold logH logD; rw [if_neg h, if_neg h, if_neg h2]
      exact hoP_mk V ⟨hV.ps, hV.us, hV.bs, hV.ways, hV.units, hV.batch, hV.sent, hV.arrived⟩ (hs'.all (by repeat (first | exact PAll.refl | refine PAll.cons (by repeat (first | exact Pick.head | apply Pick.tail)) ?_)))
end Go.Proofs.YtjhogocabcdjbabGreatDoor
/- the house: what bounds it outlives its steps -/
namespace WB
open Go Go.RowKit
theorem KC.turn {P : Program} {f : FuncId} {args : Array Value} {w0 : World} {L : List HP} {R R' : Value → List HP → Prop} (h : KC P f args w0 L R) (hr : ∀ v M, R v M → ∃ M', R' v M' ∧ ∀ w, St w0 M w → St w0 M' w) : KC P f args w0 L R' := fun w hw =>
  (h w hw).mono fun _ _ ⟨v, M, a, b, c⟩ => by
    obtain ⟨M', h1, h2⟩ := hr v M b
    exact ⟨v, M', a, h1, h2 _ c⟩
/-- one of a family, changed by a call -/
theorem KC.famC {α β : Type} {f : α → β → HP} {P : Program} {g : FuncId} {args : Array Value} {w0 : World} {L R : List HP} {ps : List α} {xs : List β} {p : α} {x y : β} {i : Nat} {φ : Value → Prop}
    (hp : ps[i]? = some p) (hx : xs[i]? = some x) (pk : Pick L (fam f ps xs) R) (h : ∀ L, KC P g args w0 (f p x :: L) (fun u M => φ u ∧ M = f p y :: L)) :
    KC P g args w0 L (fun u M => φ u ∧ M = fam f ps (xs.set i y) :: R) :=
  KC.perm (L' := f p x :: fam f (ps.eraseIdx i) (xs.eraseIdx i) :: R) (fun w hw => fam_out hp hx (hw.pick pk)) (KC.turn (h _) (by
    rintro v M ⟨h1, rfl⟩
    exact ⟨_, ⟨h1, rfl⟩, fun w hw => fam_put hp (List.getElem?_eq_some_iff.1 hx).1 hw⟩))
theorem KE.famE1 {α β : Type} {f : α → β → HP} {P : Program} {g : FuncId} {args : Array Value} {w0 : World} {L R : List HP} {ps : List α} {xs : List β} {p : α} {x : β} {i : Nat} {A : Value → HP} {φ : Value → Prop}
    (hp : ps[i]? = some p) (hx : xs[i]? = some x) (pk : Pick L (fam f ps xs) R) (h : ∀ L, KE P g args w0 (f p x :: L) (fun u M => φ u ∧ M = A u :: f p x :: L)) :
    KE P g args w0 L (fun u M => φ u ∧ M = A u :: fam f ps xs :: R) :=
  KE.perm (L' := f p x :: fam f (ps.eraseIdx i) (xs.eraseIdx i) :: R) (fun w hw => fam_out hp hx (hw.pick pk)) (KE.turn (h _) (by
    rintro v M ⟨h1, rfl⟩
    exact ⟨_, ⟨h1, rfl⟩, fun w hw => (fam_back hp hx (hw.all (.cons (.tail .head) (.cons (.tail .head) .refl)))).swap2⟩))
section
variable {n : Nat} {H : Ho} {q : Qu} {i j : Nat}
theorem all_q (h4 : H.ways.length = 4) (hi : i < H.queues.length) : H.all[4 + i]? = some (H.qAt i) := by
  unfold Ho.all Ho.qAt
  rw [List.getElem?_append_right (by omega), h4, Nat.add_sub_cancel_left, List.getElem?_map, List.getElem?_eq_getElem hi, List.getD_eq_getElem?_getD, List.getElem?_eq_getElem hi]; rfl
theorem all_w (h4 : H.ways.length = 4) (hj : j < 4) : H.all[j]? = some (H.wAt j) := by
  unfold Ho.all Ho.wAt
  rw [List.getElem?_append_left (by omega), List.getElem?_eq_getElem (by omega), List.getD_eq_getElem?_getD, List.getElem?_eq_getElem (by omega)]; rfl
theorem all_len (h4 : H.ways.length = 4) : H.all.length = 4 + H.queues.length := by unfold Ho.all; simp [h4]
theorem all_setQ (h4 : H.ways.length = 4) (i : Nat) (q : Qu) : (H.setQ i q).all = H.all.set (4 + i) q := by
  unfold Ho.all Ho.setQ
  rw [List.map_set, List.set_append_right _ _ (by omega), h4, Nat.add_sub_cancel_left]
theorem all_setW (hj : j < H.ways.length) (q : Qu) : (H.setW j q).all = H.all.set j q := by
  unfold Ho.all Ho.setW
  rw [List.set_append_left _ _ hj]
theorem setQ_fst (i : Nat) (q : Qu) : (H.setQ i q).queues.map (·.1) = H.queues.map (·.1) := by
  unfold Ho.setQ
  rw [List.map_set]
  apply List.ext_getElem?
  intro k
  rw [List.getElem?_set]
  split
  · rename_i e; subst e
    split
    · rename_i hk
      rw [List.length_map] at hk
      rw [List.getElem?_map, List.getElem?_eq_getElem hk, List.getD_eq_getElem?_getD, List.getElem?_eq_getElem hk]; rfl
    · rename_i hk
      rw [List.getElem?_eq_none (by omega)]
  · rfl
theorem qI_fst (s : ByteArray) : H.qI s = (H.queues.map (·.1)).findIdx? fun x => decide (x = s) := by
  unfold Ho.qI
  rw [List.findIdx?_map]; rfl
theorem qI_setQ (i : Nat) (q : Qu) (s : ByteArray) : (H.setQ i q).qI s = H.qI s := by rw [qI_fst, qI_fst, setQ_fst]
theorem mEnt_fst : ∀ (qs rs : List (ByteArray × Qu)) (ps : List Nat), qs.map (·.1) = rs.map (·.1) → mEnt qs ps = mEnt rs ps
  | [], [], _, _ => rfl
  | a :: qs, b :: rs, [], _ => rfl
  | a :: qs, b :: rs, p :: ps, h => by
    simp only [List.map_cons, List.cons.injEq] at h
    have ih := mEnt_fst qs rs ps h.2
    unfold mEnt at *
    rw [List.zipWith_cons_cons, List.zipWith_cons_cons, ih, h.1]
  | [], b :: rs, _, h => by simp at h
  | a :: qs, [], _, h => by simp at h
theorem setQ_len (i : Nat) (q : Qu) : (H.setQ i q).queues.length = H.queues.length := by simp [Ho.setQ]
theorem HoB.le {k : Nat} (h : HoB n H) (hk : n ≤ k) : HoB k H := ⟨h.id, h.used, h.next, h.sorted, h.nlen, Nat.le_trans h.qlen hk, fun q hq => (h.qs q hq).le hk, h.nodup, h.ways, h.units, h.batch, h.sent, h.arrived, h.right, h.loc⟩
theorem HoB.setQ (h : HoB n H) (hq : QB n q) (i : Nat) : HoB n (H.setQ i q) := by
  refine ⟨h.id, h.used, h.next, h.sorted, h.nlen, by rw [setQ_len]; exact h.qlen, fun q' hq' => ?_, by rw [setQ_fst]; exact h.nodup, h.ways, h.units, h.batch, h.sent, h.arrived, h.right, fun x hx ht => by rw [qI_setQ]; exact h.loc x hx ht⟩
  rw [all_setQ h.ways] at hq'
  rcases List.mem_or_eq_of_mem_set hq' with h1 | rfl
  · exact h.qs _ h1
  · exact hq
theorem HoB.setW (h : HoB n H) (hq : QB n q) (hj : j < 4) : HoB n (H.setW j q) := by
  refine ⟨h.id, h.used, h.next, h.sorted, h.nlen, h.qlen, fun q' hq' => ?_, h.nodup, by simp [Ho.setW, h.ways], h.units, h.batch, h.sent, h.arrived, h.right, h.loc⟩
  rw [all_setW (by rw [h.ways]; exact hj)] at hq'
  rcases List.mem_or_eq_of_mem_set hq' with h1 | rfl
  · exact h.qs _ h1
  · exact hq
theorem HoB.qa (h : HoB n H) (hi : i < H.queues.length) : QB n (H.qAt i) := h.qs _ (List.mem_of_getElem? (all_q h.ways hi))
theorem HoB.w (h : HoB n H) (hj : j < 4) : QB n (H.wAt j) := h.qs _ (List.mem_of_getElem? (all_w h.ways hj))
theorem HoB.nxt (h : HoB n H) {k : Int} (hk : 0 ≤ k ∧ k ≤ 274877906945) : HoB n { H with next := k } := ⟨h.id, h.used, hk, h.sorted, h.nlen, h.qlen, h.qs, h.nodup, h.ways, h.units, h.batch, h.sent, h.arrived, h.right, h.loc⟩
theorem qI_lt {s : ByteArray} (h : H.qI s = some i) : i < H.queues.length ∧ (H.queues.getD i (⟨#[]⟩, default)).1 = s := by
  unfold Ho.qI at h
  obtain ⟨h1, h2, _⟩ := List.findIdx?_eq_some_iff_getElem.1 h
  refine ⟨h1, ?_⟩
  rw [List.getD_eq_getElem?_getD, List.getElem?_eq_getElem h1]
  simpa using h2
theorem setNm_sub {l : List Nm} {x y : Nm} (h : y ∈ setNm l x) : (y = x ∧ setErr l x = 0) ∨ y ∈ l := by
  by_cases h0 : setErr l x = 0
  · unfold setNm at h
    split at h
    · exact .inr h
    · split at h
      · rcases List.mem_or_eq_of_mem_set h with h | h
        · exact .inr h
        · exact .inl ⟨h, h0⟩
      · split at h
        · exact .inr h
        · rcases List.mem_append.1 h with h | h
          · exact .inr (List.mem_of_mem_take h)
          · rcases List.mem_cons.1 h with h | h
            · exact .inl ⟨h, h0⟩
            · exact .inr (List.mem_of_mem_drop h)
  · rw [setNm_err h0] at h; exact .inr h
theorem setErr_right {l : List Nm} {x : Nm} (h : setErr l x = 0) : rightNm x = true := by
  cases hr : rightNm x with
  | true => rfl
  | false => unfold setErr at h; rw [if_pos hr] at h; cases h
theorem setNm_sorted {l : List Nm} (h : Sorted l) (x : Nm) : Sorted (setNm l x) := ((⟨h, .refl _⟩ : NRel l l).set x).sorted
theorem dropNm_sorted {l : List Nm} (h : Sorted l) (s : ByteArray) : Sorted (dropNm l s) := ((⟨h, .refl _⟩ : NRel l l).drop s).sorted
theorem qI_snoc {s t : ByteArray} {q : Qu} {i : Nat} (h : H.qI t = some i) : ({ H with queues := H.queues ++ [(s, q)] } : Ho).qI t = some i := by
  unfold Ho.qI at *
  rw [List.findIdx?_append, h]; rfl
theorem qI_new {s : ByteArray} {q : Qu} (h : H.qI s = none) : ({ H with queues := H.queues ++ [(s, q)] } : Ho).qI s = some H.queues.length := by
  unfold Ho.qI at *
  rw [List.findIdx?_append, h]; simp
theorem HoB.set (h : HoB n H) (x : Nm) : HoB (n + 1) (hset H x) := by
  unfold hset
  split
  · rename_i h0
    have hl : (setNm H.names x).length ≤ 20 := Nat.le_trans (setNm_len _ _) (by have := h.nlen; omega)
    have hr : ∀ y ∈ setNm H.names x, rightNm y = true := fun y hy => by
      rcases setNm_sub hy with ⟨rfl, -⟩ | hy
      · exact setErr_right h0
      · exact h.right y hy
    by_cases hc : x.tgt = ⟨#[]⟩ ∧ H.qI x.name = none
    · rw [if_pos hc]
      refine ⟨h.id, h.used, h.next, setNm_sorted h.sorted x, hl, by have := h.qlen; simp; omega, fun q hq => ?_, ?_, h.ways, h.units, h.batch, h.sent, h.arrived, hr, fun y hy ht => ?_⟩
      · simp only [Ho.all, List.map_append, List.mem_append] at hq
        rcases hq with hq | hq | hq
        · exact (h.qs q (by simp [hq])).le (Nat.le_succ n)
        · exact (h.qs q (by unfold Ho.all; exact List.mem_append.2 (.inr hq))).le (Nat.le_succ n)
        · simp at hq; subst hq; exact QB.nil
      · rw [List.map_append, List.nodup_append]
        refine ⟨h.nodup, by simp, fun a ha b hb => ?_⟩
        simp at hb; subst hb
        rintro rfl
        have h2 := hc.2
        rw [qI_fst, List.findIdx?_eq_none_iff] at h2
        simpa using h2 _ ha
      · rcases setNm_sub hy with ⟨rfl, -⟩ | hy
        · exact ⟨_, qI_new hc.2⟩
        · obtain ⟨i, hi⟩ := h.loc y hy ht
          exact ⟨i, qI_snoc hi⟩
    · rw [if_neg hc]
      refine ⟨h.id, h.used, h.next, setNm_sorted h.sorted x, hl, Nat.le_succ_of_le h.qlen, fun q hq => (h.qs q hq).le (Nat.le_succ n), h.nodup, h.ways, h.units, h.batch, h.sent, h.arrived, hr, fun y hy ht => ?_⟩
      rcases setNm_sub hy with ⟨rfl, -⟩ | hy
      · cases hq : H.qI y.name with
        | none => exact absurd ⟨ht, hq⟩ hc
        | some i => exact ⟨i, hq⟩
      · exact h.loc y hy ht
  · exact h.le (Nat.le_succ n)
theorem HoB.drop (h : HoB n H) (s : ByteArray) : HoB n (hdrop H s) := by
  have hs : ∀ y ∈ dropNm H.names s, y ∈ H.names := fun y hy => by
    unfold dropNm at hy
    split at hy
    · exact (List.eraseIdx_sublist _ _).subset hy
    · exact hy
  exact ⟨h.id, h.used, h.next, dropNm_sorted h.sorted s, Nat.le_trans (dropNm_len _ _) h.nlen, h.qlen, h.qs, h.nodup, h.ways, h.units, h.batch, h.sent, h.arrived, fun y hy => h.right y (hs y hy), fun y hy => h.loc y (hs y hy)⟩
theorem HoB.put1 (h : HoB n H) {m : Ms} {H1 : Ho} (hm : msRight m = true) (hp : hput1 H m = some H1) : HoB (n + 1) H1 := by
  obtain ⟨m1, m2, m3, m4, -, -, m7, m8⟩ := msRight_parts hm
  have hx := h.next
  have h1 : HoB n { H with next := max H.next (m.id / 4 + 1) } := h.nxt ⟨by omega, by omega⟩
  unfold hput1 at hp
  dsimp only at hp
  split at hp
  · simp only [Option.some.injEq] at hp
    subst hp
    exact (h1.le (Nat.le_succ n)).setW ((h.w (by omega)).pushed ⟨m3, m4⟩ (-1)) (by omega)
  · split at hp
    · cases hp
    · rename_i i hi
      simp only [Option.some.injEq] at hp
      subst hp
      exact (h1.le (Nat.le_succ n)).setQ ((h.qa (qI_lt hi).1).pushed ⟨m3, m4⟩ (-1)) i
theorem HoB.puts (l : List Ms) : ∀ {n : Nat} {H : Ho}, HoB n H → (∀ m ∈ l, msRight m = true) → HoB (n + l.length) (hputs H l).1 := by
  induction l with
  | nil => exact fun h _ => h
  | cons m l ih =>
    intro n H h hl
    unfold hputs
    cases hp : hput1 H m with
    | none =>
      obtain ⟨m1, m2, _⟩ := msRight_parts (hl m (by simp))
      have hx := h.next
      exact (h.nxt ⟨by omega, by omega⟩).le (by simp)
    | some H1 =>
      have := ih (h.put1 (hl m (by simp)) hp) fun m hm => hl m (by simp [hm])
      exact this.le (by simp; omega)
theorem HoB.get1 (h : HoB n H) {s : ByteArray} {H1 : Ho} (hp : hget1 H s = some H1) : HoB n H1 := by
  unfold hget1 at hp
  split at hp
  · cases hp
  · split at hp
    · cases hp
    · rename_i k i hi
      split at hp
      · simp only [Option.some.injEq] at hp
        subst hp
        exact h.setQ ((h.qa (qI_lt hi).1).take _) i
      · cases hp
theorem HoB.gets (l : List ByteArray) : ∀ {H : Ho}, HoB n H → HoB n (hgets H l).1 := by
  induction l with
  | nil => exact fun h => h
  | cons s l ih =>
    intro H h
    unfold hgets
    cases hp : hget1 H s with
    | none => exact h
    | some H1 => exact ih (h.get1 hp)
theorem HoB.ends {s : ByteArray} (h : HoB n H) (hr : ∀ l, mrd (cutB 47 s).1 = some l → ∀ m ∈ l, msRight m = true) {k : Nat} (hk : ∀ l, mrd (cutB 47 s).1 = some l → n + l.length ≤ k) (hk2 : n ≤ k) : HoB k (hends H s).1 := by
  unfold hends
  split
  · exact h.le hk2
  · split
    · exact h.le hk2
    · rename_i l hl
      have h1 := (h.puts l (hr l hl)).le (hk l hl)
      split
      · exact h1
      · split
        · exact h1
        · exact h1.gets _
theorem HoB.log {D : Dk} (h : HoB n H) : HoB n (logH H D) := by
  unfold logH
  split
  · exact h
  · rename_i h0
    have h0 : roomE H = 0 := by simpa using h0
    split
    · exact ⟨h.id, h.used, h.next, h.sorted, h.nlen, h.qlen, h.qs, h.nodup, h.ways, h.units, h.batch, h.sent, h.arrived, h.right, h.loc⟩
    · exact ⟨h.id, (roomE_z h0).2, h.next, h.sorted, h.nlen, h.qlen, h.qs, h.nodup, h.ways, h.units, h.batch, h.sent, h.arrived, h.right, h.loc⟩
def wrH (H : Ho) (D : Dk) (s : ByteArray) : Ho := if logE H D = 0 then (hplays (logH H D) s).1 else logH H D
/-- what a record of names, or of a unit, may be -/
structure RecOk (n : Nat) (s : ByteArray) : Prop where
  kind : (cutB 58 s).1 = chr1 110 ∨ (cutB 58 s).1 = chr1 100 ∨ (cutB 58 s).1 = chr1 117
  size : s.size ≤ 80000
  many : (cutB 58 s).1 = chr1 117 → ∀ l, mrd (cutB 47 (cutB 58 s).2.1).1 = some l → l.length ≤ n
theorem HoB.plays {k : Nat} {s : ByteArray} (h : HoB n H) (hr : RecOk k s) (hk : 1 ≤ k) : HoB (n + k) (hplays H s).1 := by
  unfold hplays
  split
  · split
    · exact h.le (by omega)
    · exact (h.set _).le (by omega)
  · split
    · exact (h.drop _).le (by omega)
    · rename_i h1 h2
      have h3 : (cutB 58 s).1 = chr1 117 := by rcases hr.kind with e | e | e <;> first | exact absurd e h1 | exact absurd e h2 | exact e
      exact h.ends (fun l hl => badI_all (mrd_some hl).1) (fun l hl => by have := hr.many h3 l hl; omega) (by omega)
end
end WB
/- house: ends -/
namespace Go.Proofs.YtjhogocabcdjbabGreatDoor
open Go Go.RowKit WB
theorem cut1_e (w0 : World) (L : List HP) (s : ByteArray) (c : UInt8) (hs : s.size ≤ 100000000) (hM : Lim w0) :
    KE Tryz.prog 135 #[.string s, .string ⟨#[c]⟩] w0 L (fun u M => u = .tuple #[.string (cutB c s).1, .string (cutB c s).2.1, .bool (cutB c s).2.2] ∧ M = L) := KE.of_below fun w hw => by
  obtain ⟨⟨m, hm⟩, _⟩ := hM.ext (Ext.of_below hw.below)
  refine (Tryz.strings_Cut s ⟨#[c]⟩ m w (by omega) hm).mono ?_
  rintro e w' ⟨rfl, n, rfl⟩
  exact ⟨rfl, ⟨rfl, rfl, rfl, Nat.le_refl _, fun _ _ => rfl⟩⟩
theorem cutB_size (c : UInt8) (s : ByteArray) : (cutB c s).1.size ≤ s.size ∧ (cutB c s).2.1.size ≤ s.size := by
  unfold cutB Lib.cut
  split
  · simp only [toB, ba_size]
    constructor <;> simp <;> omega
  · simp only [toB, ba_size]
    constructor <;> simp
theorem mapE_get {V : HoV} {H : Ho} (hV : HoVL V H) (s : ByteArray) : getK (mapE V H) s = (H.qI s).bind fun i => (V.ps[4 + i]?).map ptrV := by
  have hps := hV.ps
  rw [mEnt_get _ _ _ (by rw [List.length_drop, hps]; omega)]
  unfold Ho.qI
  cases List.findIdx? (fun x => decide (x.1 = s)) H.queues with
  | none => rfl
  | some i => simp [List.getElem?_drop, ptrV]; rfl
theorem hoP_setQ {w0 w : World} {bh bd : Nat} {H : Ho} {L : List HP} (V : HoV) (hV : HoVL V H) (i : Nat) (q : Qu)
    (h : St w0 (blk bh (.cells (hoC bd V H).toArray 133 (0, 0)) :: nmS V.nv H.names :: omapK Value.string V.mb (mapE V H) :: fam quP V.ps (H.all.set (4 + i) q) :: fam putsS (V.us.map (·.1)) (H.units.map (·.puts)) :: fam getsS (V.us.map (·.2)) (H.units.map (·.gets)) :: fam batS V.bs H.batch :: L) w) : St w0 (hoP bh bd (H.setQ i q) :: L) w := by
  refine hoP_mk V ⟨by rw [setQ_len]; exact hV.ps, hV.us, hV.bs, hV.ways, hV.units, hV.batch, hV.sent, hV.arrived⟩ ?_
  unfold hoX mapE
  rw [all_setQ hV.ways, mEnt_fst (H.setQ i q).queues H.queues _ (setQ_fst i q)]
  exact h
theorem hoP_setW {w0 w : World} {bh bd : Nat} {H : Ho} {L : List HP} (V : HoV) (hV : HoVL V H) (j : Nat) (hj : j < 4) (q : Qu)
    (h : St w0 (blk bh (.cells (hoC bd V H).toArray 133 (0, 0)) :: nmS V.nv H.names :: omapK Value.string V.mb (mapE V H) :: fam quP V.ps (H.all.set j q) :: fam putsS (V.us.map (·.1)) (H.units.map (·.puts)) :: fam getsS (V.us.map (·.2)) (H.units.map (·.gets)) :: fam batS V.bs H.batch :: L) w) : St w0 (hoP bh bd (H.setW j q) :: L) w := by
  refine hoP_mk V ⟨hV.ps, hV.us, hV.bs, by simp [Ho.setW, hV.ways], hV.units, hV.batch, hV.sent, hV.arrived⟩ ?_
  unfold hoX
  rw [all_setW (by rw [hV.ways]; exact hj)]
  exact h
theorem hoC_way {bd : Nat} {V : HoV} {H : Ho} (hV : HoVL V H) {j p : Nat} (hj : j < 4) (hp : V.ps[j]? = some p) : (hoC bd V H)[8 + j]? = some (ptrV p) := by
  have hps := hV.ps
  have : ∀ (r : List Value), ((V.ps.take 4).map ptrV ++ r)[j]? = some (ptrV p) := fun r => by
    rw [List.getElem?_append_left (by simp; omega), List.getElem?_map, List.getElem?_take, if_pos hj, hp]; rfl
  unfold hoC
  rw [show 8 + j = j + 8 by omega]
  simpa using this _
theorem qtake_err {q : Qu} {id : Int} (h : qtakeE q id ≠ 0) : qtake q id = q := by
  unfold qtakeE at h
  unfold qtake
  split
  · rfl
  · rename_i k hk; rw [hk] at h; exact absurd rfl h
theorem setQu_same {l : List Qu} {i : Nat} {q : Qu} (h : l[i]? = some q) : l.set i q = l := List.set_getElem_of h
set_option maxRecDepth 100000 in
set_option maxHeartbeats 2000000 in
theorem hends_c (w0 : World) (L : List HP) (bh bd n : Nat) (H : Ho) (s : ByteArray) (hT : Tab w0) (hM : Lim w0) (hs : s.size ≤ 80000) (hB : HoB n H) (hn : ∀ l, mrd (cutB 47 s).1 = some l → n + l.length ≤ 90000) (hn0 : n ≤ 90000) :
    KC Tryz.prog 65 #[ptrV bh, .string s] w0 (hoP bh bd H :: L) (fun u M => u = .bool (hends H s).2 ∧ M = hoP bh bd (hends H s).1 :: L) := by
  have hc1 := (cutB_size 47 s).1
  have hc2 := (cutB_size 47 s).2
  refine KC.mk (n := 130) Tryz.func65 rfl Tryz.ntmps65 (by simp) ?_
  repeat ((with_reducible refine K.seq ?_))
  refine K.reg ?_
  refine KO.as rfl rfl ?_
  refine KO.nil ?_
  repeat (first | (with_reducible refine K.seq ?_) | (with_reducible refine KQ.next ?_))
  refine K.reg ?_
  refine KO.mv rfl rfl ?_
  refine KO.ce (cp := []) rfl rfl rfl Tryz.call135 rfl (cut1_e w0 _ s 47 (by omega) hM) ?_; rintro v' L' ⟨rfl, rfl⟩
  refine KO.mv rfl rfl ?_
  refine KO.extrL rfl (by exact rfl) rfl ?_
  refine KO.extrL rfl (by exact rfl) rfl ?_
  refine KO.extrL rfl (by exact rfl) rfl ?_
  refine KO.as rfl rfl ?_
  refine KO.as rfl rfl ?_
  refine KO.as rfl rfl ?_
  refine KO.nil ?_
  repeat (first | (with_reducible refine K.seq ?_) | (with_reducible refine KQ.next ?_))
  cases hm : mrd (cutB 47 s).1 with
  | none =>
    have he : hends H s = (H, false) := by
      unfold hends; split
      · rfl
      · rw [hm]
    rw [he]
    refine K.reg ?_
    refine KO.mv rfl rfl ?_
    refine KO.ce (cp := []) rfl rfl rfl Tryz.call160 rfl (mread_e w0 _ (cutB 47 s).1 (by omega) hT hM) ?_; rintro v' L' hR; unfold MrR at hR; rw [hm] at hR; obtain ⟨rfl, rfl⟩ := hR
    refine KO.mv rfl rfl ?_
    refine KO.extrL rfl (by exact rfl) rfl ?_
    refine KO.extrL rfl (by exact rfl) rfl ?_
    refine KO.as rfl rfl ?_
    refine KO.as rfl rfl ?_
    refine KO.nil ?_
    repeat (first | (with_reducible refine K.seq ?_) | (with_reducible refine KQ.next ?_))
    cases hok : (cutB 47 s).2.2 with
    | false =>
      refine K.reg ?_
      refine KO.mv rfl rfl ?_
      refine KO.not rfl rfl ?_
      refine KO.mv rfl rfl ?_
      (refine KO.no rfl rfl ?_ rfl ?_; (focus rfl))
      (refine KO.no rfl rfl ?_ rfl ?_; (focus rfl))
      (refine KO.pickT rfl ?_ rfl rfl ?_; (focus rfl))
      refine KO.nil ?_
      repeat ((with_reducible refine KQ.next ?_))
      refine K.condT rfl rfl ?_
      repeat ((with_reducible refine K.seq ?_))
      refine K.reg ?_
      refine KO.as rfl rfl ?_
      refine KO.nil ?_
      repeat (first | (with_reducible refine KQ.next ?_) | (with_reducible refine KQ.then_ret ?_) | (with_reducible refine K.ret ?_))
      refine KQ.ret1 rfl rfl (fun w' hs' => ⟨_, _, rfl, ⟨rfl, rfl⟩, hs'⟩)
    | true =>
      refine K.reg ?_
      refine KO.mv rfl rfl ?_
      refine KO.not rfl rfl ?_
      refine KO.mv rfl rfl ?_
      (refine KO.on rfl rfl ?_ ?_; (focus rfl); (refine KO.mv rfl rfl ?_))
      (refine KO.on rfl rfl ?_ ?_; (focus rfl); (refine KO.neN rfl (by kernel_rfl) rfl ?_))
      (refine KO.pickF rfl ?_ rfl rfl ?_; (focus rfl))
      refine KO.nil ?_
      repeat ((with_reducible refine KQ.next ?_))
      refine K.condT rfl (by simp) ?_
      repeat ((with_reducible refine K.seq ?_))
      refine K.reg ?_
      refine KO.as rfl rfl ?_
      refine KO.nil ?_
      repeat (first | (with_reducible refine KQ.next ?_) | (with_reducible refine KQ.then_ret ?_) | (with_reducible refine K.ret ?_))
      refine KQ.ret1 rfl rfl (fun w' hs' => ⟨_, _, rfl, ⟨rfl, rfl⟩, hs'⟩)
  | some l =>
    have hl := hn l hm
    obtain ⟨hbad, _⟩ := mrd_some hm
    have hright : ∀ m ∈ l, msRight m = true := fun m hm => badI_all hbad m hm
    refine K.reg ?_
    refine KO.mv rfl rfl ?_
    refine KO.ce (cp := []) rfl rfl rfl Tryz.call160 rfl (mread_e w0 _ (cutB 47 s).1 (by omega) hT hM) ?_; rintro v' L' hR; unfold MrR at hR; rw [hm] at hR; obtain ⟨v, rfl, rfl⟩ := hR
    refine KO.mv rfl rfl ?_
    refine KO.extrL rfl (by exact rfl) rfl ?_
    refine KO.extrL rfl (by exact rfl) rfl ?_
    refine KO.as rfl rfl ?_
    refine KO.as rfl rfl ?_
    refine KO.nil ?_
    repeat (first | (with_reducible refine K.seq ?_) | (with_reducible refine KQ.next ?_))
    cases hok : (cutB 47 s).2.2 with
    | false =>
      have he : hends H s = (H, false) := by unfold hends; rw [hok]; rfl
      rw [he]
      refine K.reg ?_
      refine KO.mv rfl rfl ?_
      refine KO.not rfl rfl ?_
      refine KO.mv rfl rfl ?_
      (refine KO.no rfl rfl ?_ rfl ?_; (focus rfl))
      (refine KO.no rfl rfl ?_ rfl ?_; (focus rfl))
      (refine KO.pickT rfl ?_ rfl rfl ?_; (focus rfl))
      refine KO.nil ?_
      repeat ((with_reducible refine KQ.next ?_))
      refine K.condT rfl rfl ?_
      repeat ((with_reducible refine K.seq ?_))
      refine K.reg ?_
      refine KO.as rfl rfl ?_
      refine KO.nil ?_
      repeat (first | (with_reducible refine KQ.next ?_) | (with_reducible refine KQ.then_ret ?_) | (with_reducible refine K.ret ?_))
      refine KQ.ret1 rfl rfl (fun w' hs' => ⟨_, _, rfl, ⟨rfl, rfl⟩, hs'.drop⟩)
    | true =>
      have he : hends H s = if (hputs H l).2 = false then ((hputs H l).1, false) else if (cutB 47 s).2.1 = ⟨#[]⟩ then ((hputs H l).1, true) else hgets (hputs H l).1 (pcs 43 (cutB 47 s).2.1) := by
        unfold hends; rw [hok, hm]; rfl
      refine K.reg ?_
      refine KO.mv rfl rfl ?_
      refine KO.not rfl rfl ?_
      refine KO.mv rfl rfl ?_
      (refine KO.on rfl rfl ?_ ?_; (focus rfl); (refine KO.mv rfl rfl ?_))
      (refine KO.on rfl rfl ?_ ?_; (focus rfl); (refine KO.neI0 rfl (by kernel_rfl) rfl ?_))
      (refine KO.pickF rfl ?_ rfl rfl ?_; (focus rfl))
      refine KO.nil ?_
      repeat ((with_reducible refine KQ.next ?_))
      refine K.condF rfl (by simp) ?_
      repeat (first | (with_reducible refine K.seq ?_) | (with_reducible refine KQ.next ?_) | (with_reducible refine K.skip ?_))
      refine K.fact (fun w hw => SL_form (hw.pick (A := SL 44 5 msC v l) .head)) ?_
      rintro ⟨ad, cap, rfl, had⟩
      refine K.reg ?_
      refine KO.mv rfl rfl ?_
      refine KO.len rfl Tryz.underlying49 rfl ?_
      refine KO.mv rfl rfl ?_
      refine KO.nil ?_
      repeat (first | (with_reducible refine KQ.next ?_) | (with_reducible refine K.block ?_))
      refine K.loop (fun p : Nat × Ho => [(0, ptrV bh), (6, .string (cutB 47 s).2.1), (40, .slice ad l.length cap), (41, .int .i64 (l.length : Nat)), (42, .int .i64 (p.1 : Nat))]) (fun p => hoP bh bd p.2 :: SL 44 5 msC (.slice ad l.length cap) l :: L) (fun p => p.1 ≤ l.length ∧ HoB (n + p.1) p.2 ∧ hputs p.2 (l.drop p.1) = hputs H l) (fun p => l.length - p.1) (0, H)
        ⟨Nat.zero_le _, hB, rfl⟩ ⟨rfl, rfl, rfl, rfl, rfl, trivial⟩ (fun _ h => h.all (by with_reducible repeat (first | exact PAll.refl | refine PAll.cons (by with_reducible repeat (first | exact Pick.head | apply Pick.tail)) ?_))) ?_
      rintro ⟨i, H1⟩ ⟨hi, hB1, hp1⟩
      dsimp only at hi hB1 hp1 ⊢
      repeat ((with_reducible refine K.seq ?_))
      refine K.reg ?_
      refine KO.lss rfl rfl rfl ?_
      refine KO.nil ?_
      repeat (first | (with_reducible refine K.seq ?_) | (with_reducible refine KQ.next ?_))
      refine K.condD rfl (fun h => ?_) (fun h => ?_)
      · obtain ⟨m, hmi⟩ : ∃ e, l[i]? = some e := ⟨l[i], List.getElem?_eq_getElem (by omega)⟩
        have hmr := hright m (List.mem_of_getElem? hmi)
        obtain ⟨m1, m2, m3, m4, -, -, m7, m8⟩ := msRight_parts hmr
        obtain ⟨g, rfl⟩ := had (by omega)
        have hdl : l.drop i = m :: l.drop (i + 1) := by
          obtain ⟨h1, rfl⟩ := List.getElem?_eq_some_iff.1 hmi
          exact List.drop_eq_getElem_cons h1
        rw [hdl, hputs] at hp1
        have hnx := hB1.next
        have hm4 : 0 ≤ m.id / 4 ∧ m.id / 4 + 1 ≤ 274877906945 := by omega
        have hput : ∀ H2, hput1 H1 m = some H2 → HoB (n + (i + 1)) H2 ∧ hputs H2 (l.drop (i + 1)) = hputs H l := fun H2 h2 => ⟨hB1.put1 hmr h2, by rw [h2] at hp1; exact hp1⟩
        have hno : hput1 H1 m = none → hends H s = ({ H1 with next := max H1.next (m.id / 4 + 1) }, false) := fun h2 => by
          rw [h2] at hp1; simp only at hp1; rw [he, ← hp1, if_pos rfl]
        clear hp1
        have hsm : small m.pri := by unfold small; omega
        obtain ⟨mi, mp, mb, mq, mh⟩ := m
        dsimp only at m1 m2 m3 m4 m7 m8 hm4 hsm hno
        repeat (first | (with_reducible refine K.seq ?_) | (with_reducible refine KQ.next ?_) | (with_reducible refine K.skip ?_) | (with_reducible refine K.block ?_))
        refine K.reg ?_
        refine KO.idx0 rfl rfl Tryz.runUnderlying49 Tryz.sizeOf44 (by exact rfl) (by omega) rfl ?_
        refine KO.ldEN rfl rfl Tryz.isAgg44 Tryz.sizeOf44 (by with_reducible (repeat (first | exact Pick.head | apply Pick.tail))) (fun _ => rfl) (by assumption) rfl ?_
        refine KO.alloc rfl Tryz.zeroValue44 (by exact rfl) rfl ?_; intro b11
        refine KO.sto0 rfl rfl rfl (by exact rfl) (by exact Tryz.sizeOf44) (by exact rfl) (by with_reducible (repeat (exact Pick.head))) (by exact rfl) ?_
        refine KO.nil ?_
        repeat (first | (with_reducible refine K.seq ?_) | (with_reducible refine KQ.next ?_))
        refine K.open' (fun _ h => hoP_open (h.pick (by with_reducible (repeat (first | exact Pick.head | apply Pick.tail))))) ?_
        rintro ⟨V, hV⟩
        dsimp only
        have hps := hV.ps
        have hV1 : HoVL V { H1 with next := max H1.next (mi / 4 + 1) } := ⟨hV.ps, hV.us, hV.bs, hV.ways, hV.units, hV.batch, hV.sent, hV.arrived⟩
        refine K.draw [.pure, .pure, .pure, .pure, .read, .pure, .read, .pure, .pure, .pure, .pure, .pure, .write] [0, 1, 2, 3, 4, 5, 6, 7, 8, 9, 10, 11, 12] (by kernel_rfl) (by kernel_rfl) ?_
        refine KO.mv rfl rfl ?_
        refine KO.mv rfl rfl ?_
        refine KO.nc rfl rfl ?_
        refine KO.fo0 (off := 5) rfl Tryz.runUnderlying133 rfl rfl Tryz.sizeOf3 rfl ?_
        refine KO.ldAt (i := 5) rfl rfl Tryz.isAgg3 (by with_reducible (repeat (exact Pick.head))) rfl rfl rfl ?_
        refine KO.fo0 (off := 0) rfl Tryz.runUnderlying44 rfl rfl Tryz.sizeOf3 rfl ?_
        refine KO.ld rfl rfl Tryz.isAgg3 (by with_reducible (repeat (first | exact Pick.head | apply Pick.tail))) (by exact rfl) rfl ?_
        refine KO.div (a := mi) (c := 4) rfl rfl (by decide) m1 (by omega) rfl ?_
        refine KO.add rfl rfl rfl (by omega) rfl ?_
        refine KO.max2 rfl rfl rfl rfl ?_
        refine KO.nc rfl rfl ?_
        refine KO.fo0 (off := 5) rfl Tryz.runUnderlying133 rfl rfl Tryz.sizeOf3 rfl ?_
        refine KO.stAt (i := 5) rfl rfl rfl (by exact rfl) (by exact Tryz.sizeOf3) rfl (by with_reducible (repeat (exact Pick.head))) rfl (by rw [hoC_len hV]; omega) ?_; rw [show (hoC bd V H1).set 5 (.int .i64 (max H1.next (mi / 4 + 1))) = hoC bd V { H1 with next := max H1.next (mi / 4 + 1) } from rfl]
        refine KO.nil ?_
        repeat (first | (with_reducible refine K.seq ?_) | (with_reducible refine KQ.next ?_))
        have hg := mapE_get hV mq
        obtain ⟨zv, hzv⟩ : ∃ zv, zv = (getK (mapE V H1) mq).getD (.pointer none) := ⟨_, rfl⟩
        refine K.draw [.pure, .pure, .pure, .read, .pure, .read, .read, .pure] [0, 1, 2, 3, 4, 5, 6, 7] (by kernel_rfl) (by kernel_rfl) ?_
        refine KO.mv rfl rfl ?_
        refine KO.nc rfl rfl ?_
        refine KO.fo0 (off := 7) rfl Tryz.runUnderlying133 rfl rfl Tryz.sizeOf123 rfl ?_
        refine KO.ldAt (i := 7) rfl rfl Tryz.isAgg123 (by with_reducible (repeat (exact Pick.head))) rfl rfl rfl ?_
        refine KO.fo0 (off := 3) rfl Tryz.runUnderlying44 rfl rfl Tryz.sizeOf9 rfl ?_
        refine KO.ld rfl rfl Tryz.isAgg9 (by with_reducible (repeat (first | exact Pick.head | apply Pick.tail))) (by exact rfl) rfl ?_
        refine KO.lkm strKey mq rfl rfl rfl Tryz.underlying123 Tryz.underlying9 Tryz.zeroValue119 (by with_reducible (repeat (first | exact Pick.head | apply Pick.tail))) rfl ?_; rw [← hzv]
        refine KO.as rfl rfl ?_
        refine KO.nil ?_
        repeat (first | (with_reducible refine K.seq ?_) | (with_reducible refine KQ.next ?_) | (with_reducible refine K.block ?_))
        refine K.draw [.pure, .read, .pure, .pure, .pure, .read, .pure, .pure] [0, 1, 2, 3, 4, 5, 6, 7] (by kernel_rfl) (by kernel_rfl) ?_
        refine KO.fo0 (off := 4) rfl Tryz.runUnderlying44 rfl rfl Tryz.sizeOf3 rfl ?_
        refine KO.ld rfl rfl Tryz.isAgg3 (by with_reducible (repeat (first | exact Pick.head | apply Pick.tail))) (by exact rfl) rfl ?_
        refine KO.mv rfl rfl ?_
        refine KO.nc rfl rfl ?_
        refine KO.fo0 (off := 0) rfl Tryz.runUnderlying133 rfl rfl Tryz.sizeOf3 rfl ?_
        refine KO.ldAt (i := 0) rfl rfl Tryz.isAgg3 (by with_reducible (repeat (exact Pick.head))) rfl rfl rfl ?_
        refine KO.neI rfl rfl rfl ?_
        refine KO.as rfl rfl ?_
        refine KO.nil ?_
        repeat ((with_reducible refine KQ.next ?_))
        refine K.condD rfl (fun h11 => ?_) (fun h11 => ?_)
        · have hj : mh.toNat < 4 := by omega
          have hmh : mh = ((mh.toNat : Nat) : Int) := by omega
          obtain ⟨p, hp⟩ : ∃ p, V.ps[mh.toNat]? = some p := ⟨_, List.getElem?_eq_getElem (by omega)⟩
          have hw := hoC_way hV1 (bd := bd) hj hp
          have h2 : hput1 H1 ⟨mi, mp, mb, mq, mh⟩ = some (({ H1 with next := max H1.next (mi / 4 + 1) } : Ho).setW mh.toNat (qpush (H1.wAt mh.toNat) ⟨mi, mp, mb, mq, mh⟩ (-1))) := by unfold hput1; exact if_pos h11
          obtain ⟨h3, h4⟩ := hput _ h2
          refine K.draw [.pure, .pure, .read, .pure, .pure, .pure, .read, .read, .write] [0, 1, 2, 3, 4, 5, 6, 7, 8] (by kernel_rfl) (by kernel_rfl) ?_
          refine KO.mv rfl rfl ?_
          refine KO.fo0 (off := 4) rfl Tryz.runUnderlying44 rfl rfl Tryz.sizeOf3 rfl ?_
          refine KO.ld rfl rfl Tryz.isAgg3 (by with_reducible (repeat (first | exact Pick.head | apply Pick.tail))) (by exact rfl) rfl ?_
          refine KO.nc rfl rfl ?_
          refine KO.fo0 (off := 8) rfl Tryz.runUnderlying133 rfl rfl Tryz.sizeOf126 rfl ?_
          refine KO.idxA (i := mh.toNat) rfl rfl Tryz.runUnderlying126 Tryz.sizeOf119 hmh (by omega) rfl ?_
          refine KO.ldAt (i := 8 + mh.toNat) rfl rfl Tryz.isAgg119 (by with_reducible (repeat (exact Pick.head))) (by rw [Addr.add_lit]; simp) hw rfl ?_
          refine KO.ldB0 rfl rfl Tryz.isAgg44 Tryz.sizeOf44 (by with_reducible (repeat (first | exact Pick.head | apply Pick.tail))) (by exact rfl) rfl ?_
          refine KO.cl (cp := []) rfl rfl rfl Tryz.call147 rfl (KC.famC (φ := fun v => v = .tuple #[]) hp (all_w hV.ways hj) (by with_reducible (repeat (first | exact Pick.head | apply Pick.tail))) (fun L => push_c w0 L p (H1.wAt mh.toNat) ⟨mi, mp, mb, mq, mh⟩ (-1) ((hB1.w hj).ok (by omega)) hsm)) ?_; rintro v' L' ⟨rfl, rfl⟩
          refine KO.nil ?_
          repeat (first | (with_reducible refine KQ.next ?_) | (with_reducible refine KQ.blk_normal ?_))
          refine K.reg ?_
          refine KO.add rfl rfl rfl (by omega) rfl ?_
          refine KO.mv rfl rfl ?_
          refine KO.nil ?_
          refine KQ.round (i + 1, _) ⟨by dsimp only; omega, h3, h4⟩ (by dsimp only; omega) ⟨rfl, rfl, rfl, rfl, rfl, trivial⟩ (fun _ h => ?_)
          exact hoP_setW V hV1 mh.toNat hj _ (h.all (by repeat (first | exact PAll.refl | refine PAll.cons (by repeat (first | exact Pick.head | apply Pick.tail)) ?_ | apply PAll.drop)))
        · have hpq : ∀ (o : Option Nat), H1.qI mq = o → hput1 H1 ⟨mi, mp, mb, mq, mh⟩ = match o with | none => none | some i => some (({ H1 with next := max H1.next (mi / 4 + 1) } : Ho).setQ i (qpush (H1.qAt i) ⟨mi, mp, mb, mq, mh⟩ (-1))) := fun o ho => by
            unfold hput1
            dsimp only
            rw [if_neg h11, show H1.qI mq = o from ho]
            all_goals (cases o <;> rfl)
          cases hq : H1.qI mq with
          | none =>
            rw [hq] at hg
            rw [hg] at hzv
            subst hzv
            repeat ((with_reducible refine K.seq ?_))
            refine K.reg ?_
            refine KO.mv rfl rfl ?_
            refine KO.eqP0 rfl Tryz.underlying119 rfl ?_
            refine KO.as rfl rfl ?_
            refine KO.nil ?_
            repeat ((with_reducible refine KQ.next ?_))
            refine K.condT rfl rfl ?_
            repeat ((with_reducible refine K.seq ?_))
            refine K.reg ?_
            refine KO.as rfl rfl ?_
            refine KO.nil ?_
            repeat (first | (with_reducible refine KQ.next ?_) | (with_reducible refine KQ.then_ret ?_) | (with_reducible refine KQ.blk_ret ?_) | (with_reducible refine K.ret ?_))
            refine KQ.ret1 rfl rfl (fun w' hs' => ⟨_, _, rfl, ⟨?_, rfl⟩, ?_⟩)
            · rw [hno (hpq _ hq)]
            · rw [hno (hpq _ hq)]
              exact hoP_mk V hV1 (hs'.all (by repeat (first | exact PAll.refl | refine PAll.cons (by repeat (first | exact Pick.head | apply Pick.tail)) ?_ | apply PAll.drop)))
          | some k =>
            have hk := (qI_lt hq).1
            obtain ⟨p, hp⟩ : ∃ p, V.ps[4 + k]? = some p := ⟨_, List.getElem?_eq_getElem (by omega)⟩
            rw [hq] at hg
            simp only [Option.bind_some, hp, Option.map_some] at hg
            rw [hg] at hzv
            subst hzv
            have h2 := hpq _ hq
            obtain ⟨h3, h4⟩ := hput _ h2
            repeat ((with_reducible refine K.seq ?_))
            refine K.reg ?_
            refine KO.mv rfl rfl ?_
            refine KO.eqPn rfl Tryz.underlying119 rfl ?_
            refine KO.as rfl rfl ?_
            refine KO.nil ?_
            repeat ((with_reducible refine KQ.next ?_))
            refine K.condF rfl rfl ?_
            refine K.reg ?_
            refine KO.mv rfl rfl ?_
            refine KO.ldB0 rfl rfl Tryz.isAgg44 Tryz.sizeOf44 (by with_reducible (repeat (first | exact Pick.head | apply Pick.tail))) (by exact rfl) rfl ?_
            refine KO.cl (cp := []) rfl rfl rfl Tryz.call147 rfl (KC.famC (φ := fun v => v = .tuple #[]) hp (all_q hV.ways hk) (by with_reducible (repeat (first | exact Pick.head | apply Pick.tail))) (fun L => push_c w0 L p (H1.qAt k) ⟨mi, mp, mb, mq, mh⟩ (-1) ((hB1.qa hk).ok (by omega)) hsm)) ?_; rintro v' L' ⟨rfl, rfl⟩
            refine KO.nil ?_
            repeat (first | (with_reducible refine KQ.next ?_) | (with_reducible refine KQ.blk_normal ?_))
            refine K.reg ?_
            refine KO.add rfl rfl rfl (by omega) rfl ?_
            refine KO.mv rfl rfl ?_
            refine KO.nil ?_
            refine KQ.round (i + 1, _) ⟨by dsimp only; omega, h3, h4⟩ (by dsimp only; omega) ⟨rfl, rfl, rfl, rfl, rfl, trivial⟩ (fun _ h => ?_)
            exact hoP_setQ V hV1 k _ (h.all (by repeat (first | exact PAll.refl | refine PAll.cons (by repeat (first | exact Pick.head | apply Pick.tail)) ?_ | apply PAll.drop)))
      · have hil : i = l.length := by omega
        subst hil
        rw [List.drop_length, hputs] at hp1
        rw [← hp1] at he
        simp only [Bool.true_eq_false, if_false] at he
        have hB2 := hB1.le (show n + l.length ≤ 90000 by omega)
        repeat (first | (with_reducible refine K.seq ?_) | (with_reducible refine KQ.next ?_) | (with_reducible refine KQ.then_exit ?_) | (with_reducible refine KQ.blk_exit ?_) | (with_reducible refine K.exit ?_))
        refine K.reg ?_
        refine KO.mv rfl rfl ?_
        refine KO.eqS rfl rfl rfl ?_
        refine KO.nil ?_
        repeat ((with_reducible refine KQ.next ?_))
        refine K.condD rfl (fun h16 => ?_) (fun h16 => ?_)
        · rw [if_pos h16] at he
          rw [he]
          repeat ((with_reducible refine K.seq ?_))
          refine K.reg ?_
          refine KO.as rfl rfl ?_
          refine KO.nil ?_
          repeat (first | (with_reducible refine KQ.next ?_) | (with_reducible refine KQ.then_ret ?_) | (with_reducible refine K.ret ?_))
          refine KQ.ret1 rfl rfl (fun w' hs' => ⟨_, _, rfl, ⟨rfl, rfl⟩, hs'.all (by with_reducible repeat (first | exact PAll.refl | refine PAll.cons (by with_reducible repeat (first | exact Pick.head | apply Pick.tail)) ?_ | apply PAll.drop))⟩)
        · rw [if_neg h16] at he
          rw [he]
          have hpz : ∀ x ∈ pcs 43 (cutB 47 s).2.1, x.size ≤ 100000000 := fun x hx => by have := pcs_size hx; omega
          have hpl : (pcs 43 (cutB 47 s).2.1).length ≤ (cutB 47 s).2.1.size + 1 := by unfold pcs; rw [List.length_map, pieces_len]; have := List.count_le_length (a := 43) (l := (cutB 47 s).2.1.data.toList); rw [ba_size]; omega
          repeat (first | (with_reducible refine K.seq ?_) | (with_reducible refine KQ.next ?_) | (with_reducible refine K.skip ?_))
          refine K.reg ?_
          refine KO.mv rfl rfl ?_
          refine KO.ce (cp := []) rfl rfl rfl Tryz.call133 rfl (split_e w0 _ (cutB 47 s).2.1 43 (by omega) hM) ?_; rintro v' L' ⟨b92, rfl, rfl⟩
          refine KO.len rfl Tryz.underlying115 rfl ?_
          refine KO.mv rfl rfl ?_
          refine KO.nil ?_
          repeat (first | (with_reducible refine KQ.next ?_) | (with_reducible refine K.block ?_))
          generalize hps0 : pcs 43 (cutB 47 s).2.1 = ws at hpz hpl
          refine K.loop (fun p : Nat × Ho => [(0, ptrV bh), (92, .slice (some ⟨b92, 0, none⟩) ws.length ws.length), (93, .int .i64 (ws.length : Nat)), (94, .int .i64 (p.1 : Nat))]) (fun p => hoP bh bd p.2 :: strS (.slice (some ⟨b92, 0, none⟩) ws.length ws.length) ws :: L) (fun p => p.1 ≤ ws.length ∧ HoB 90000 p.2 ∧ hgets p.2 (ws.drop p.1) = hgets H1 ws) (fun p => ws.length - p.1) (0, H1)
            ⟨Nat.zero_le _, hB2, rfl⟩ ⟨rfl, rfl, rfl, rfl, trivial⟩ (fun _ h => h.all (by with_reducible repeat (first | exact PAll.refl | refine PAll.cons (by with_reducible repeat (first | exact Pick.head | apply Pick.tail)) ?_ | apply PAll.drop))) ?_
          rintro ⟨i, H2⟩ ⟨hi2, hB3, hp2⟩
          dsimp only at hi2 hB3 hp2 ⊢
          repeat ((with_reducible refine K.seq ?_))
          refine K.reg ?_
          refine KO.lss rfl rfl rfl ?_
          refine KO.nil ?_
          repeat (first | (with_reducible refine K.seq ?_) | (with_reducible refine KQ.next ?_))
          refine K.condD rfl (fun h => ?_) (fun h => ?_)
          · obtain ⟨x, hx⟩ : ∃ e, ws[i]? = some e := ⟨ws[i], List.getElem?_eq_getElem (by omega)⟩
            have hxz := hpz x (List.mem_of_getElem? hx)
            have hxc := (cutB_size 32 x).1
            have hdl : ws.drop i = x :: ws.drop (i + 1) := by
              obtain ⟨h1, rfl⟩ := List.getElem?_eq_some_iff.1 hx
              exact List.drop_eq_getElem_cons h1
            rw [hdl, hgets] at hp2
            have hget : ∀ H3, hget1 H2 x = some H3 → HoB 90000 H3 ∧ hgets H3 (ws.drop (i + 1)) = hgets H1 ws := fun H3 h2 => ⟨hB3.get1 h2, by rw [h2] at hp2; exact hp2⟩
            have hno : hget1 H2 x = none → hgets H1 ws = (H2, false) := fun h2 => by rw [h2] at hp2; exact hp2.symm
            clear hp2
            repeat (first | (with_reducible refine K.seq ?_) | (with_reducible refine KQ.next ?_) | (with_reducible refine K.skip ?_) | (with_reducible refine K.block ?_))
            refine K.reg ?_
            refine KO.idx0 rfl rfl Tryz.runUnderlying115 Tryz.sizeOf9 (by exact rfl) (by omega) rfl ?_
            refine KO.ldE0 rfl rfl Tryz.isAgg9 (by with_reducible (repeat (first | exact Pick.head | apply Pick.tail))) (fun _ => rfl) (by assumption) (by exact rfl) (by exact rfl) rfl ?_
            refine KO.as rfl rfl ?_
            refine KO.nil ?_
            repeat (first | (with_reducible refine K.seq ?_) | (with_reducible refine KQ.next ?_))
            refine K.reg ?_
            refine KO.mv rfl rfl ?_
            refine KO.ce (cp := []) rfl rfl rfl Tryz.call135 rfl (cut1_e w0 _ x 32 (by omega) hM) ?_; rintro v' L' ⟨rfl, rfl⟩
            refine KO.mv rfl rfl ?_
            refine KO.extrL rfl (by exact rfl) rfl ?_
            refine KO.extrL rfl (by exact rfl) rfl ?_
            refine KO.extrL rfl (by exact rfl) rfl ?_
            refine KO.as rfl rfl ?_
            refine KO.as rfl rfl ?_
            refine KO.as rfl rfl ?_
            refine KO.nil ?_
            repeat (first | (with_reducible refine K.seq ?_) | (with_reducible refine KQ.next ?_))
            cases hnum : numO (cutB 32 x).1 with
            | none =>
              have h2 : hget1 H2 x = none := by unfold hget1; rw [hnum]
              refine K.reg ?_
              refine KO.mv rfl rfl ?_
              refine KO.ce (cp := []) rfl rfl rfl Tryz.call136 rfl (atoi_e w0 _ (cutB 32 x).1 (by omega) hM) ?_; rintro v' L' ⟨hR, rfl⟩; unfold atoiR at hR; rw [hnum] at hR; obtain ⟨xx, TT, yy, rfl⟩ := hR
              refine KO.mv rfl rfl ?_
              refine KO.extrL rfl (by exact rfl) rfl ?_
              refine KO.extrL rfl (by exact rfl) rfl ?_
              refine KO.as rfl rfl ?_
              refine KO.as rfl rfl ?_
              refine KO.nil ?_
              repeat (first | (with_reducible refine K.seq ?_) | (with_reducible refine KQ.next ?_))
              refine K.open' (fun _ h => hoP_open (h.pick (by with_reducible (repeat (exact Pick.head))))) ?_
              rintro ⟨V, hV⟩
              dsimp only
              refine K.reg ?_
              refine KO.mv rfl rfl ?_
              refine KO.nc rfl rfl ?_
              refine KO.fo0 (off := 7) rfl Tryz.runUnderlying133 rfl rfl Tryz.sizeOf123 rfl ?_
              refine KO.ldAt (i := 7) rfl rfl Tryz.isAgg123 (by with_reducible (repeat (exact Pick.head))) rfl rfl rfl ?_
              refine KO.mv rfl rfl ?_
              refine KO.lkm strKey _ rfl rfl rfl Tryz.underlying123 Tryz.underlying9 Tryz.zeroValue119 (by with_reducible (repeat (first | exact Pick.head | apply Pick.tail))) rfl ?_
              refine KO.as rfl rfl ?_
              refine KO.nil ?_
              repeat (first | (with_reducible refine K.seq ?_) | (with_reducible refine KQ.next ?_))
              refine K.reg ?_
              refine KO.mv rfl rfl ?_
              refine KO.neIf rfl (by kernel_rfl) rfl ?_
              refine KO.mv rfl rfl ?_
              (refine KO.no rfl rfl ?_ rfl ?_; (focus rfl))
              (refine KO.no rfl rfl ?_ rfl ?_; (focus rfl))
              (refine KO.pickT rfl ?_ rfl rfl ?_; (focus rfl))
              refine KO.nil ?_
              repeat ((with_reducible refine KQ.next ?_))
              refine K.condT rfl rfl ?_
              repeat ((with_reducible refine K.seq ?_))
              refine K.reg ?_
              refine KO.as rfl rfl ?_
              refine KO.nil ?_
              repeat (first | (with_reducible refine KQ.next ?_) | (with_reducible refine KQ.then_ret ?_) | (with_reducible refine KQ.blk_ret ?_) | (with_reducible refine K.ret ?_))
              refine KQ.ret1 rfl rfl (fun w' hs' => ⟨_, _, rfl, ⟨?_, rfl⟩, ?_⟩)
              · rw [hno h2]
              · rw [hno h2]
                exact hoP_mk V hV (hs'.all (by repeat (first | exact PAll.refl | refine PAll.cons (by repeat (first | exact Pick.head | apply Pick.tail)) ?_ | apply PAll.drop)))
            | some id =>
              refine K.reg ?_
              refine KO.mv rfl rfl ?_
              refine KO.ce (cp := []) rfl rfl rfl Tryz.call136 rfl (atoi_e w0 _ (cutB 32 x).1 (by omega) hM) ?_; rintro v' L' ⟨hR, rfl⟩; unfold atoiR at hR; rw [hnum] at hR; subst hR
              refine KO.mv rfl rfl ?_
              refine KO.extrL rfl (by exact rfl) rfl ?_
              refine KO.extrL rfl (by exact rfl) rfl ?_
              refine KO.as rfl rfl ?_
              refine KO.as rfl rfl ?_
              refine KO.nil ?_
              repeat (first | (with_reducible refine K.seq ?_) | (with_reducible refine KQ.next ?_))
              refine K.open' (fun _ h => hoP_open (h.pick (by with_reducible (repeat (exact Pick.head))))) ?_
              rintro ⟨V, hV⟩
              dsimp only
              have hg := mapE_get hV (cutB 32 x).2.1
              have hps := hV.ps
              cases hq : H2.qI (cutB 32 x).2.1 with
              | none =>
                have h2 : hget1 H2 x = none := by unfold hget1; rw [hnum]; simp only; rw [hq]
                rw [hq] at hg
                refine K.reg ?_
                refine KO.mv rfl rfl ?_
                refine KO.nc rfl rfl ?_
                refine KO.fo0 (off := 7) rfl Tryz.runUnderlying133 rfl rfl Tryz.sizeOf123 rfl ?_
                refine KO.ldAt (i := 7) rfl rfl Tryz.isAgg123 (by with_reducible (repeat (exact Pick.head))) rfl rfl rfl ?_
                refine KO.mv rfl rfl ?_
                refine KO.lkm strKey (cutB 32 x).2.1 rfl rfl rfl Tryz.underlying123 Tryz.underlying9 Tryz.zeroValue119 (by with_reducible (repeat (first | exact Pick.head | apply Pick.tail))) rfl ?_; rw [hg]
                refine KO.as rfl rfl ?_
                refine KO.nil ?_
                repeat (first | (with_reducible refine K.seq ?_) | (with_reducible refine KQ.next ?_))
                refine K.reg ?_
                refine KO.mv rfl rfl ?_
                refine KO.neI0 rfl (by kernel_rfl) rfl ?_
                refine KO.mv rfl rfl ?_
                (refine KO.on rfl rfl ?_ ?_; (focus rfl); (refine KO.mv rfl rfl ?_))
                refine KO.on rfl rfl rfl ?_; refine KO.eqP0 rfl Tryz.underlying119 rfl ?_
                (refine KO.pickF rfl ?_ rfl rfl ?_; (focus rfl))
                refine KO.nil ?_
                repeat ((with_reducible refine KQ.next ?_))
                refine K.condT rfl rfl ?_
                repeat ((with_reducible refine K.seq ?_))
                refine K.reg ?_
                refine KO.as rfl rfl ?_
                refine KO.nil ?_
                repeat (first | (with_reducible refine KQ.next ?_) | (with_reducible refine KQ.then_ret ?_) | (with_reducible refine KQ.blk_ret ?_) | (with_reducible refine K.ret ?_))
                refine KQ.ret1 rfl rfl (fun w' hs' => ⟨_, _, rfl, ⟨?_, rfl⟩, ?_⟩)
                · rw [hno h2]
                · rw [hno h2]
                  exact hoP_mk V hV (hs'.all (by repeat (first | exact PAll.refl | refine PAll.cons (by repeat (first | exact Pick.head | apply Pick.tail)) ?_ | apply PAll.drop)))
              | some k =>
                have hk := (qI_lt hq).1
                obtain ⟨p, hp⟩ : ∃ p, V.ps[4 + k]? = some p := ⟨_, List.getElem?_eq_getElem (by omega)⟩
                rw [hq] at hg
                simp only [Option.bind_some, hp, Option.map_some] at hg
                have hql := (hB3.qa hk).len
                have hge : hget1 H2 x = if qtakeE (H2.qAt k) id = 0 then some (H2.setQ k (qtake (H2.qAt k) id)) else none := by unfold hget1; rw [hnum]; simp only; rw [hq]
                refine K.reg ?_
                refine KO.mv rfl rfl ?_
                refine KO.nc rfl rfl ?_
                refine KO.fo0 (off := 7) rfl Tryz.runUnderlying133 rfl rfl Tryz.sizeOf123 rfl ?_
                refine KO.ldAt (i := 7) rfl rfl Tryz.isAgg123 (by with_reducible (repeat (exact Pick.head))) rfl rfl rfl ?_
                refine KO.mv rfl rfl ?_
                refine KO.lkm strKey (cutB 32 x).2.1 rfl rfl rfl Tryz.underlying123 Tryz.underlying9 Tryz.zeroValue119 (by with_reducible (repeat (first | exact Pick.head | apply Pick.tail))) rfl ?_; rw [hg]
                refine KO.as rfl rfl ?_
                refine KO.nil ?_
                repeat (first | (with_reducible refine K.seq ?_) | (with_reducible refine KQ.next ?_))
                refine K.reg ?_
                refine KO.mv rfl rfl ?_
                refine KO.neI0 rfl (by kernel_rfl) rfl ?_
                refine KO.mv rfl rfl ?_
                (refine KO.on rfl rfl ?_ ?_; (focus rfl); (refine KO.mv rfl rfl ?_))
                refine KO.on rfl rfl rfl ?_; refine KO.eqPn rfl Tryz.underlying119 rfl ?_
                (refine KO.pickF rfl ?_ rfl rfl ?_; (focus rfl))
                refine KO.nil ?_
                repeat ((with_reducible refine KQ.next ?_))
                refine K.condF rfl rfl ?_
                repeat (first | (with_reducible refine K.seq ?_) | (with_reducible refine KQ.next ?_) | (with_reducible refine K.skip ?_))
                generalize htm : qtakeM (H2.qAt k) id = tm
                obtain ⟨ti, tp, tb, tq, th⟩ := tm
                refine K.reg ?_
                refine KO.mv rfl rfl ?_
                refine KO.mv rfl rfl ?_
                refine KO.cl (cp := []) rfl rfl rfl Tryz.call161 rfl (KC.famC (φ := fun v => v = .tuple #[.agg (msC (qtakeM (H2.qAt k) id)).toArray, errV 70 (qtakeE (H2.qAt k) id)]) hp (all_q hV.ways hk) (by with_reducible (repeat (first | exact Pick.head | apply Pick.tail))) (fun L => take_c w0 L p (H2.qAt k) id (by omega))) ?_; rintro v' L' ⟨rfl, rfl⟩; rw [htm]
                refine KO.mv rfl rfl ?_
                refine KO.extrL rfl (by exact rfl) rfl ?_
                refine KO.extrL rfl (by exact rfl) rfl ?_
                refine KO.alloc rfl Tryz.zeroValue44 (by exact rfl) rfl ?_; intro b21
                refine KO.sto0 rfl rfl rfl (by exact rfl) (by exact Tryz.sizeOf44) (by exact rfl) (by with_reducible (repeat (exact Pick.head))) (by exact rfl) ?_
                refine KO.as rfl rfl ?_
                refine KO.nil ?_
                repeat (first | (with_reducible refine K.seq ?_) | (with_reducible refine KQ.next ?_))
                refine K.reg ?_
                refine KO.mv rfl rfl ?_
                refine KO.neN rfl (by kernel_rfl) rfl ?_
                refine KO.nil ?_
                repeat ((with_reducible refine KQ.next ?_))
                refine K.condD rfl (fun h27 => ?_) (fun h27 => ?_)
                · rw [if_neg h27] at hge
                  repeat ((with_reducible refine K.seq ?_))
                  refine K.reg ?_
                  refine KO.as rfl rfl ?_
                  refine KO.nil ?_
                  repeat (first | (with_reducible refine KQ.next ?_) | (with_reducible refine KQ.then_ret ?_) | (with_reducible refine KQ.blk_ret ?_) | (with_reducible refine K.ret ?_))
                  refine KQ.ret1 rfl rfl (fun w' hs' => ⟨_, _, rfl, ⟨?_, rfl⟩, ?_⟩)
                  · rw [hno hge]
                  · rw [hno hge]
                    rw [qtake_err h27, setQu_same (all_q hV.ways hk)] at hs'
                    exact hoP_mk V hV (hs'.all (by repeat (first | exact PAll.refl | refine PAll.cons (by repeat (first | exact Pick.head | apply Pick.tail)) ?_ | apply PAll.drop)))
                · have h270 : qtakeE (H2.qAt k) id = 0 := by simpa using h27
                  rw [if_pos h270] at hge
                  obtain ⟨h3, h4⟩ := hget _ hge
                  repeat (first | (with_reducible refine KQ.next ?_) | (with_reducible refine KQ.blk_normal ?_) | (with_reducible refine K.skip ?_))
                  refine K.reg ?_
                  refine KO.add rfl rfl rfl (by omega) rfl ?_
                  refine KO.mv rfl rfl ?_
                  refine KO.nil ?_
                  refine KQ.round (i + 1, _) ⟨by dsimp only; omega, h3, h4⟩ (by dsimp only; omega) ⟨rfl, rfl, rfl, rfl, trivial⟩ (fun _ h => ?_)
                  exact hoP_setQ V hV k _ (h.all (by repeat (first | exact PAll.refl | refine PAll.cons (by repeat (first | exact Pick.head | apply Pick.tail)) ?_ | apply PAll.drop)))
          · have hil : i = ws.length := by omega
            subst hil
            rw [List.drop_length, hgets] at hp2
            rw [← hp2]
            repeat (first | (with_reducible refine K.seq ?_) | (with_reducible refine KQ.next ?_) | (with_reducible refine KQ.then_exit ?_) | (with_reducible refine KQ.blk_exit ?_) | (with_reducible refine K.exit ?_))
            refine K.reg ?_
            refine KO.as rfl rfl ?_
            refine KO.nil ?_
            repeat (first | (with_reducible refine KQ.next ?_) | (with_reducible refine K.ret ?_))
            refine KQ.ret1 rfl rfl (fun w' hs' => ⟨_, _, rfl, ⟨rfl, rfl⟩, hs'.all (by with_reducible repeat (first | exact PAll.refl | refine PAll.cons (by with_reducible repeat (first | exact Pick.head | apply Pick.tail)) ?_ | apply PAll.drop))⟩)
end Go.Proofs.YtjhogocabcdjbabGreatDoor
/- house: plays (names, units), writes -/
namespace Go.Proofs.YtjhogocabcdjbabGreatDoor
open Go Go.RowKit WB
theorem trimp_e (w0 : World) (L : List HP) (s : ByteArray) : KE Tryz.prog 138 #[.string s, .string ⟨#[45]⟩] w0 L (fun u M => u = .string (dash s) ∧ M = L) := KE.of_below fun w hw =>
  (Tryz.strings_TrimPrefix s ⟨#[45]⟩ w).mono fun e w' h => ⟨h.1, by rw [h.2]; exact Below.refl _ _⟩
theorem dash_size (s : ByteArray) : (dash s).size ≤ s.size := by
  unfold dash Lib.trimPrefix
  split
  · simp only [toB, ba_size]; simp
  · simp only [toB, ba_size]; simp
set_option maxRecDepth 100000 in
theorem hplays_c (w0 : World) (L : List HP) (bh bd n k : Nat) (H : Ho) (s : ByteArray) (hT : Tab w0) (hM : Lim w0) (hB : HoB n H) (hr : RecOk k s) (hn : n + k ≤ 90000) :
    KC Tryz.prog 53 #[ptrV bh, .string s] w0 (hoP bh bd H :: L) (fun u M => u = .bool (hplays H s).2 ∧ M = hoP bh bd (hplays H s).1 :: L) := by
  have hsz := hr.size
  have hc2 := (cutB_size 58 s).2
  have hnl := hB.nlen
  have hso := hB.sorted
  have hmx : (1000000 : Nat) ≤ maxLen := by decide
  refine KC.mk (n := 74) Tryz.func53 rfl Tryz.ntmps53 (by simp) ?_
  repeat ((with_reducible refine K.seq ?_))
  refine K.reg ?_
  refine KO.as rfl rfl ?_
  refine KO.nil ?_
  repeat (first | (with_reducible refine K.seq ?_) | (with_reducible refine KQ.next ?_))
  refine K.reg ?_
  refine KO.mv rfl rfl ?_
  refine KO.ce (cp := []) rfl rfl rfl Tryz.call135 rfl (cut1_e w0 _ s 58 (by omega) hM) ?_; rintro v' L' ⟨rfl, rfl⟩
  refine KO.mv rfl rfl ?_
  refine KO.extrL rfl (by exact rfl) rfl ?_
  refine KO.extrL rfl (by exact rfl) rfl ?_
  refine KO.extrL rfl (by exact rfl) rfl ?_
  refine KO.as rfl rfl ?_
  refine KO.as rfl rfl ?_
  refine KO.as rfl rfl ?_
  refine KO.nil ?_
  repeat (first | (with_reducible refine K.seq ?_) | (with_reducible refine KQ.next ?_))
  refine K.reg ?_
  refine KO.mv rfl rfl ?_
  refine KO.nil ?_
  repeat (first | (with_reducible refine K.seq ?_) | (with_reducible refine KQ.next ?_) | (with_reducible refine K.block ?_))
  generalize hrest : (cutB 58 s).2.1 = rest at hc2
  by_cases h1 : (cutB 58 s).1 = chr1 110
  · refine K.reg ?_
    refine KO.eqS rfl rfl rfl ?_
    refine KO.as rfl rfl ?_
    refine KO.nil ?_
    repeat ((with_reducible refine KQ.next ?_))
    refine K.condT rfl (decide_eq_true h1) ?_
    have hws : ∀ x ∈ pcs 32 rest, x.size ≤ 80000 := fun x hx => by have := pcs_size hx; omega
    repeat ((with_reducible refine K.seq ?_))
    refine K.reg ?_
    refine KO.mv rfl rfl ?_
    refine KO.ce (cp := []) rfl rfl rfl Tryz.call133 rfl (split_e w0 _ rest 32 (by omega) hM) ?_; rintro v' L' ⟨b21, rfl, rfl⟩
    refine KO.as rfl rfl ?_
    refine KO.nil ?_
    repeat (first | (with_reducible refine K.seq ?_) | (with_reducible refine KQ.next ?_))
    by_cases h3 : (pcs 32 rest).length = 3
    · obtain ⟨wa, wb, wc, he⟩ : ∃ a b c, pcs 32 rest = [a, b, c] := by
        match h : pcs 32 rest, h3 with
        | [a, b, c], _ => exact ⟨a, b, c, rfl⟩
      rw [he] at hws ⊢
      have hza := hws wa (by simp)
      have hzb := hws wb (by simp)
      have hzc := hws wc (by simp)
      have hdz := dash_size wb
      have hnr : hnameR rest = (numO wc).map fun k => ⟨wa, dash wb, k⟩ := by unfold hnameR; rw [he]
      refine K.reg ?_
      refine KO.mv rfl rfl ?_
      refine KO.len rfl Tryz.underlying115 rfl ?_
      refine KO.neI rfl rfl rfl ?_
      refine KO.nil ?_
      repeat ((with_reducible refine KQ.next ?_))
      refine K.condF rfl (by simp) ?_
      repeat (first | (with_reducible refine K.seq ?_) | (with_reducible refine KQ.next ?_) | (with_reducible refine K.skip ?_))
      cases hnum : numO wc with
      | none =>
        rw [hnum] at hnr
        have hpl : hplays H s = (H, false) := by unfold hplays; rw [if_pos h1, hrest, hnr]; rfl
        rw [hpl]
        refine K.reg ?_
        refine KO.mv rfl rfl ?_
        refine KO.idx0 (i := 2) rfl rfl Tryz.runUnderlying115 Tryz.sizeOf9 rfl (by simp) rfl ?_
        refine KO.ldE0 (i := 2) (sz := 1) (cf := strC) (e := wc) rfl rfl Tryz.isAgg9 (by with_reducible (repeat (exact Pick.head))) (fun _ => rfl) rfl (by exact rfl) (by exact rfl) rfl ?_
        refine KO.ce (cp := []) rfl rfl rfl Tryz.call136 rfl (atoi_e w0 _ wc (by omega) hM) ?_; rintro v' L' ⟨hR, rfl⟩; unfold atoiR at hR; rw [hnum] at hR; obtain ⟨xx, TT, yy, rfl⟩ := hR
        refine KO.mv rfl rfl ?_
        refine KO.extrL rfl (by exact rfl) rfl ?_
        refine KO.extrL rfl (by exact rfl) rfl ?_
        refine KO.as rfl rfl ?_
        refine KO.as rfl rfl ?_
        refine KO.nil ?_
        repeat (first | (with_reducible refine K.seq ?_) | (with_reducible refine KQ.next ?_))
        refine K.draw [.pure, .pure, .pure, .pure, .pure, .pure, .read, .pure, .pure, .read, .keep, .pure, .pure, .write, .pure, .pure, .pure] [0, 1, 2, 3, 4, 5, 6, 7, 8, 9, 11, 10, 12, 13, 14, 15, 16] (by kernel_rfl) (by kernel_rfl) ?_
        refine KO.mv rfl rfl ?_
        refine KO.eqIf rfl (by kernel_rfl) rfl ?_
        refine KO.mv rfl rfl ?_
        (refine KO.no rfl rfl ?_ rfl ?_; (focus rfl))
        (refine KO.no rfl rfl ?_ rfl ?_; (focus rfl))
        (refine KO.no rfl rfl ?_ rfl ?_; (focus rfl))
        (refine KO.no rfl rfl ?_ rfl ?_; (focus rfl))
        (refine KO.no rfl rfl ?_ rfl ?_; (focus rfl))
        (refine KO.no rfl rfl ?_ rfl ?_; (focus rfl))
        (refine KO.no rfl rfl ?_ rfl ?_; (focus rfl))
        (refine KO.no rfl rfl ?_ rfl ?_; (focus rfl))
        (refine KO.no rfl rfl ?_ rfl ?_; (focus rfl))
        (refine KO.no rfl rfl ?_ rfl ?_; (focus rfl))
        (refine KO.no rfl rfl ?_ rfl ?_; (focus rfl))
        (refine KO.no rfl rfl ?_ rfl ?_; (focus rfl))
        (refine KO.pickF rfl ?_ rfl rfl ?_; (focus rfl))
        refine KO.as rfl rfl ?_
        refine KO.nil ?_
        repeat (first | (with_reducible refine KQ.next ?_) | (with_reducible refine KQ.then_ret ?_) | (with_reducible refine KQ.blk_ret ?_) | (with_reducible refine K.ret ?_))
        refine KQ.ret1 rfl rfl (fun w' hs' => ⟨_, _, rfl, ⟨rfl, rfl⟩, hs'.drop⟩)
      | some kk =>
        rw [hnum] at hnr
        have hpl : hplays H s = (hset H ⟨wa, dash wb, kk⟩, decide (hsetE H ⟨wa, dash wb, kk⟩ = 0)) := by unfold hplays; rw [if_pos h1, hrest, hnr]; rfl
        rw [hpl]
        refine K.reg ?_
        refine KO.mv rfl rfl ?_
        refine KO.idx0 (i := 2) rfl rfl Tryz.runUnderlying115 Tryz.sizeOf9 rfl (by simp) rfl ?_
        refine KO.ldE0 (i := 2) (sz := 1) (cf := strC) (e := wc) rfl rfl Tryz.isAgg9 (by with_reducible (repeat (exact Pick.head))) (fun _ => rfl) rfl (by exact rfl) (by exact rfl) rfl ?_
        refine KO.ce (cp := []) rfl rfl rfl Tryz.call136 rfl (atoi_e w0 _ wc (by omega) hM) ?_; rintro v' L' ⟨hR, rfl⟩; unfold atoiR at hR; rw [hnum] at hR; subst hR
        refine KO.mv rfl rfl ?_
        refine KO.extrL rfl (by exact rfl) rfl ?_
        refine KO.extrL rfl (by exact rfl) rfl ?_
        refine KO.as rfl rfl ?_
        refine KO.as rfl rfl ?_
        refine KO.nil ?_
        repeat (first | (with_reducible refine K.seq ?_) | (with_reducible refine KQ.next ?_))
        refine K.draw [.pure, .pure, .pure, .pure, .pure, .pure, .read, .pure, .pure, .read, .keep, .pure, .pure, .write, .pure, .pure, .pure] [0, 1, 2, 3, 4, 5, 6, 7, 8, 9, 11, 10, 12, 13, 14, 15, 16] (by kernel_rfl) (by kernel_rfl) ?_
        refine KO.mv rfl rfl ?_
        refine KO.eqI0 rfl (by kernel_rfl) rfl ?_
        refine KO.mv rfl rfl ?_
        (refine KO.on rfl rfl ?_ ?_; (focus rfl); (refine KO.mv rfl rfl ?_))
        (refine KO.on rfl rfl ?_ ?_; (focus rfl); (refine KO.mv rfl rfl ?_))
        refine KO.on rfl rfl rfl ?_; refine KO.idx0 (i := 0) rfl rfl Tryz.runUnderlying115 Tryz.sizeOf9 rfl (by simp) rfl ?_
        refine KO.on rfl rfl rfl ?_; refine KO.ldE0 (i := 0) (sz := 1) (cf := strC) (e := wa) rfl rfl Tryz.isAgg9 (by with_reducible (repeat (exact Pick.head))) (fun _ => rfl) rfl (by exact rfl) (by exact rfl) rfl ?_
        (refine KO.on rfl rfl ?_ ?_; (focus rfl); (refine KO.mv rfl rfl ?_))
        refine KO.on rfl rfl rfl ?_; refine KO.idx0 (i := 1) rfl rfl Tryz.runUnderlying115 Tryz.sizeOf9 rfl (by simp) rfl ?_
        refine KO.on rfl rfl rfl ?_; refine KO.ldE0 (i := 1) (sz := 1) (cf := strC) (e := wb) rfl rfl Tryz.isAgg9 (by with_reducible (repeat (exact Pick.head))) (fun _ => rfl) rfl (by exact rfl) (by exact rfl) rfl ?_
        (refine KO.on rfl rfl ?_ ?_; (focus rfl); (refine KO.mv rfl rfl ?_))
        refine KO.on rfl rfl rfl ?_; refine KO.ce (cp := []) rfl rfl rfl Tryz.call138 rfl (trimp_e w0 _ wb) ?_; rintro v' L' ⟨rfl, rfl⟩
        (refine KO.on rfl rfl ?_ ?_; (focus rfl); (refine KO.bldN (pl := [(0, 1), (1, 1), (2, 1)]) rfl Tryz.zeroValue75 Tryz.runUnderlying75 (by intro w; simp [Tryz.sizeOf3, Tryz.sizeOf9]) (by exact rfl) rfl ?_))
        refine KO.on rfl rfl rfl ?_; refine KO.cl (cp := []) rfl rfl rfl Tryz.call137 rfl (KC.pk1 (by with_reducible (repeat (first | exact Pick.head | apply Pick.tail))) (hset_c w0 _ bh bd H ⟨wa, dash wb, kk⟩ (by dsimp only; omega) (by dsimp only; omega) hnl hso)) ?_; rintro v' L' ⟨rfl, rfl⟩
        (refine KO.on rfl rfl ?_ ?_; (focus rfl); (refine KO.eqN rfl (by kernel_rfl) rfl ?_))
        (refine KO.pickT rfl ?_ rfl rfl ?_; (focus rfl))
        refine KO.as rfl rfl ?_
        refine KO.nil ?_
        repeat (first | (with_reducible refine KQ.next ?_) | (with_reducible refine KQ.then_ret ?_) | (with_reducible refine KQ.blk_ret ?_) | (with_reducible refine K.ret ?_))
        refine KQ.ret1 rfl rfl (fun w' hs' => ⟨_, _, rfl, ⟨rfl, rfl⟩, hs'.all (by with_reducible repeat (first | exact PAll.refl | refine PAll.cons (by with_reducible repeat (first | exact Pick.head | apply Pick.tail)) ?_ | apply PAll.drop))⟩)
    · have hnr : hnameR rest = none := by
        unfold hnameR
        split
        · rename_i a b c e; rw [e] at h3; exact absurd rfl h3
        · rfl
      have hpl : hplays H s = (H, false) := by unfold hplays; rw [if_pos h1, hrest, hnr]
      rw [hpl]
      refine K.reg ?_
      refine KO.mv rfl rfl ?_
      refine KO.len rfl Tryz.underlying115 rfl ?_
      refine KO.neI rfl rfl rfl ?_
      refine KO.nil ?_
      repeat ((with_reducible refine KQ.next ?_))
      refine K.condT rfl (by simp; omega) ?_
      repeat ((with_reducible refine K.seq ?_))
      refine K.reg ?_
      refine KO.as rfl rfl ?_
      refine KO.nil ?_
      repeat (first | (with_reducible refine KQ.next ?_) | (with_reducible refine KQ.then_ret ?_) | (with_reducible refine KQ.blk_ret ?_) | (with_reducible refine K.ret ?_))
      refine KQ.ret1 rfl rfl (fun w' hs' => ⟨_, _, rfl, ⟨rfl, rfl⟩, hs'.drop⟩)
  refine K.reg ?_
  refine KO.eqS rfl rfl rfl ?_
  refine KO.as rfl rfl ?_
  refine KO.nil ?_
  repeat ((with_reducible refine KQ.next ?_))
  refine K.condF rfl (decide_eq_false h1) ?_
  repeat ((with_reducible refine K.seq ?_))
  by_cases h2 : (cutB 58 s).1 = chr1 100
  · have hpl : hplays H s = (hdrop H rest, decide (hdropE H rest = 0)) := by unfold hplays; rw [if_neg h1, if_pos h2, hrest]
    rw [hpl]
    refine K.reg ?_
    refine KO.eqS rfl rfl rfl ?_
    refine KO.as rfl rfl ?_
    refine KO.nil ?_
    repeat ((with_reducible refine KQ.next ?_))
    refine K.condT rfl (decide_eq_true h2) ?_
    repeat ((with_reducible refine K.seq ?_))
    refine K.reg ?_
    refine KO.mv rfl rfl ?_
    refine KO.mv rfl rfl ?_
    refine KO.cl (cp := []) rfl rfl rfl Tryz.call139 rfl (hdrop_c w0 _ bh bd H rest hnl hso) ?_; rintro v' L' ⟨rfl, rfl⟩
    refine KO.eqN rfl (by kernel_rfl) rfl ?_
    refine KO.as rfl rfl ?_
    refine KO.nil ?_
    repeat (first | (with_reducible refine KQ.next ?_) | (with_reducible refine KQ.then_ret ?_) | (with_reducible refine KQ.blk_ret ?_) | (with_reducible refine K.ret ?_))
    refine KQ.ret1 rfl rfl (fun w' hs' => ⟨_, _, rfl, ⟨rfl, rfl⟩, hs'⟩)
  have h4 : (cutB 58 s).1 = chr1 117 := by rcases hr.kind with e | e | e <;> first | exact absurd e h1 | exact absurd e h2 | exact e
  have hpl : hplays H s = hends H rest := by unfold hplays; rw [if_neg h1, if_neg h2, hrest]
  have hmany := hr.many h4
  rw [hrest] at hmany
  rw [hpl]
  refine K.reg ?_
  refine KO.eqS rfl rfl rfl ?_
  refine KO.as rfl rfl ?_
  refine KO.nil ?_
  repeat ((with_reducible refine KQ.next ?_))
  refine K.condF rfl (decide_eq_false h2) ?_
  repeat ((with_reducible refine K.seq ?_))
  refine K.reg ?_
  refine KO.eqS rfl rfl rfl ?_
  refine KO.as rfl rfl ?_
  refine KO.nil ?_
  repeat ((with_reducible refine KQ.next ?_))
  refine K.condT rfl (decide_eq_true h4) ?_
  repeat ((with_reducible refine K.seq ?_))
  refine K.reg ?_
  refine KO.mv rfl rfl ?_
  refine KO.mv rfl rfl ?_
  refine KO.cl (cp := []) rfl rfl rfl Tryz.call65 rfl (hends_c w0 _ bh bd n H rest hT hM (by omega) hB (fun l hl => by have := hmany l hl; omega) (by omega)) ?_; rintro v' L' ⟨rfl, rfl⟩
  refine KO.as rfl rfl ?_
  refine KO.nil ?_
  repeat (first | (with_reducible refine KQ.next ?_) | (with_reducible refine KQ.then_ret ?_) | (with_reducible refine KQ.blk_ret ?_) | (with_reducible refine K.ret ?_))
  refine KQ.ret1 rfl rfl (fun w' hs' => ⟨_, _, rfl, ⟨rfl, rfl⟩, hs'⟩)
theorem hwrites_c (w0 : World) (L : List HP) (bh bd n k : Nat) (H : Ho) (D : Dk) (s : ByteArray) (hT : Tab w0) (hM : Lim w0) (hB : HoB n H) (hr : RecOk k s) (hn : n + k ≤ 90000) (h3 : D.places.length = 300) (hd : -1000000 ≤ D.left ∧ D.left ≤ 9223372036854775807) :
    KC Tryz.prog 84 #[ptrV bh, .string s] w0 (hoP bh bd H :: dkP bd D :: L) (fun u M => u = errV 70 (logE H D) ∧ M = hoP bh bd (wrH H D s) :: dkP bd (logD H D s) :: L) := by
  have hsz := hr.size
  have hu := hB.used
  refine KC.mk (n := 15) Tryz.func84 rfl Tryz.ntmps84 (by simp) ?_
  repeat ((with_reducible refine K.seq ?_))
  refine K.reg ?_
  refine KO.as rfl rfl ?_
  refine KO.nil ?_
  repeat (first | (with_reducible refine K.seq ?_) | (with_reducible refine KQ.next ?_))
  refine K.reg ?_
  refine KO.mv rfl rfl ?_
  refine KO.mv rfl rfl ?_
  refine KO.cl (cp := []) rfl rfl rfl Tryz.call61 rfl (logs_c w0 _ bh bd H D s hT h3 hd (by omega) hu) ?_; rintro v' L' ⟨rfl, rfl⟩
  refine KO.as rfl rfl ?_
  refine KO.nil ?_
  repeat (first | (with_reducible refine K.seq ?_) | (with_reducible refine KQ.next ?_))
  refine K.reg ?_
  refine KO.mv rfl rfl ?_
  refine KO.neN rfl (by kernel_rfl) rfl ?_
  refine KO.nil ?_
  repeat ((with_reducible refine KQ.next ?_))
  refine K.condD rfl (fun h => ?_) (fun h => ?_)
  · have e : wrH H D s = logH H D := by unfold wrH; rw [if_neg h]
    rw [e]
    repeat ((with_reducible refine K.seq ?_))
    refine K.reg ?_
    refine KO.mv rfl rfl ?_
    refine KO.as rfl rfl ?_
    refine KO.nil ?_
    repeat (first | (with_reducible refine KQ.next ?_) | (with_reducible refine KQ.then_ret ?_) | (with_reducible refine K.ret ?_))
    refine KQ.ret1 rfl rfl (fun w' hs' => ⟨_, _, rfl, ⟨rfl, rfl⟩, hs'⟩)
  · have h0 : logE H D = 0 := by simpa using h
    have e : wrH H D s = (hplays (logH H D) s).1 := by unfold wrH; rw [if_pos h0]
    rw [e]
    repeat (first | (with_reducible refine K.seq ?_) | (with_reducible refine KQ.next ?_) | (with_reducible refine K.skip ?_))
    refine K.reg ?_
    refine KO.mv rfl rfl ?_
    refine KO.mv rfl rfl ?_
    refine KO.cl (cp := []) rfl rfl rfl Tryz.call53 rfl (hplays_c w0 _ bh bd n k (logH H D) s hT hM hB.log hr hn) ?_; rintro v' L' ⟨rfl, rfl⟩
    refine KO.nil ?_
    repeat (first | (with_reducible refine K.seq ?_) | (with_reducible refine KQ.next ?_))
    refine K.reg ?_
    refine KO.as rfl rfl ?_
    refine KO.nil ?_
    repeat (first | (with_reducible refine KQ.next ?_) | (with_reducible refine K.ret ?_))
    refine KQ.ret1 rfl rfl (fun w' hs' => ⟨_, _, rfl, ⟨by rw [h0]; rfl, rfl⟩, hs'⟩)
end Go.Proofs.YtjhogocabcdjbabGreatDoor
/- the house: records of names -/
namespace WB
open Go Go.RowKit
theorem setNm_snoc {l : List Nm} {x : Nm} (hr : rightNm x = true) (hs : ∀ y ∈ l, cmpN y.name x.name < 0) (hl : l.length < 20) : setNm l x = l ++ [x] ∧ setErr l x = 0 := by
  have hk : srchN l x.name = l.length := by
    unfold srchN
    rw [show (l.takeWhile fun y => decide (cmpN y.name x.name < 0)) = l from ?_]
    clear hl
    induction l with
    | nil => rfl
    | cons a l ih =>
      rw [List.takeWhile_cons, if_pos (by simpa using hs a (by simp)), ih fun y hy => hs y (by simp [hy])]
  have hh : hitB l x.name (srchN l x.name) = false := by unfold hitB; rw [hk]; simp
  constructor
  · unfold setNm
    rw [if_neg (by simp [hr]), if_neg (by simp [hh]), if_neg (by omega), hk, List.take_length, List.drop_length]
  · unfold setErr
    rw [if_neg (by simp [hr]), if_neg (by simp [hh]), if_neg (by omega)]
theorem set_take {l : List Nm} (hs : Sorted l) (hr : ∀ y ∈ l, rightNm y = true) (hl : l.length ≤ 20) {k : Nat} {y : Nm} (hy : l[k]? = some y) : setNm (l.take k) y = l.take (k + 1) := by
  obtain ⟨hk, rfl⟩ := List.getElem?_eq_some_iff.1 hy
  rw [(setNm_snoc (hr _ (List.getElem_mem hk)) (fun z hz => ?_) (by simp; omega)).1, take_succ_some hy]
  obtain ⟨j, hj, rfl⟩ := List.getElem_of_mem hz
  rw [List.length_take] at hj
  rw [List.getElem_take]
  exact List.pairwise_iff_getElem.1 hs j k (by omega) hk (by omega)
theorem wordB_size {s : ByteArray} (h : wordB s = true) : 1 ≤ s.size ∧ s.size ≤ 8 := by
  unfold wordB lettersB at h
  simp at h
  exact ⟨h.1, h.2.1⟩
theorem right_word {x : Nm} (h : rightNm x = true) : wordB x.name = true ∧ (wordB x.tgt = true ∨ x.tgt = ⟨#[]⟩) ∧ -1 ≤ x.house ∧ x.house ≤ 3 := by
  unfold rightNm at h
  simp only [Bool.and_eq_true, Bool.or_eq_true, decide_eq_true_eq] at h
  refine ⟨h.1, ?_, h.2.1, h.2.2.1⟩
  rcases h.2.2.2 with h1 | h1
  · exact .inl h1
  · have := h1.1; rw [emptyB_eq] at this; exact .inr (of_decide_eq_true this)
theorem right_sz {x : Nm} (h : rightNm x = true) : x.name.size ≤ 8 ∧ x.tgt.size ≤ 8 := by
  obtain ⟨h1, h2, _⟩ := right_word h
  refine ⟨(wordB_size h1).2, ?_⟩
  rcases h2 with h2 | h2
  · exact (wordB_size h2).2
  · rw [h2]; decide
def dash1 (s : ByteArray) : ByteArray := if s = ⟨#[]⟩ then chr1 45 else s
def nameR (x : Nm) : ByteArray := ⟨#[110, 58]⟩ ++ x.name ++ ⟨#[32]⟩ ++ dash1 x.tgt ++ ⟨#[32]⟩ ++ itoaS x.house
def deadS : ByteArray := ⟨#[100, 101, 97, 100]⟩
theorem nameR_eq (x : Nm) : nameR x = chr1 110 ++ chr1 58 ++ (x.name ++ chr1 32 ++ (dash1 x.tgt ++ chr1 32 ++ itoaS x.house)) := by
  unfold nameR
  rw [show (⟨#[110, 58]⟩ : ByteArray) = chr1 110 ++ chr1 58 by decide]
  rw [show (⟨#[32]⟩ : ByteArray) = chr1 32 from rfl]
  simp only [ByteArray.append_assoc]
theorem noB_chr {c d : UInt8} (h : d ≠ c) : noB c (chr1 d) := fun b hb => by
  simp [chr1] at hb; subst hb; exact h
theorem cutB_nameR (x : Nm) : cutB 58 (nameR x) = (chr1 110, x.name ++ chr1 32 ++ (dash1 x.tgt ++ chr1 32 ++ itoaS x.house), true) := by
  rw [nameR_eq, cutB_hit (noB_chr (by decide))]
theorem recOk_name {x : Nm} (h : rightNm x = true) : RecOk 1 (nameR x) := by
  obtain ⟨h1, h2⟩ := right_sz h
  obtain ⟨_, _, h5, h6⟩ := right_word h
  have h3 := itoaS_size (n := x.house) ⟨by omega, by omega⟩
  have h4 : (dash1 x.tgt).size ≤ 8 := by
    unfold dash1; split
    · decide
    · omega
  have e1 : (⟨#[110, 58]⟩ : ByteArray).size = 2 := rfl
  have e2 : (⟨#[32]⟩ : ByteArray).size = 1 := rfl
  refine ⟨.inl (by rw [cutB_nameR]), ?_, fun hk => ?_⟩
  · unfold nameR; simp only [ByteArray.size_append]; omega
  · rw [cutB_nameR] at hk
    exact absurd (show chr1 110 = chr1 117 from hk) (by decide)
/-- Name -/
def namePE (H : Ho) (x : Nm) : Int := if setErr H.names x ≠ 0 then setErr H.names x else if x.name = deadS then 5 else 0
def nameE (H : Ho) (D : Dk) (x : Nm) : Int := if namePE H x ≠ 0 then namePE H x else logE H D
def nameH (H : Ho) (D : Dk) (x : Nm) : Ho := if namePE H x ≠ 0 then H else wrH H D (nameR x)
def nameD (H : Ho) (D : Dk) (x : Nm) : Dk := if namePE H x ≠ 0 then D else logD H D (nameR x)
end WB
/- house: probeSet, Name -/
namespace Go.Proofs.YtjhogocabcdjbabGreatDoor
open Go Go.RowKit WB
theorem probe_c (w0 : World) (L R R2 : List HP) (b off : Nat) (cs : List Value) (T : TypeId) (v : Value) (l : List Nm) (x : Nm)
    (hp : Pick L (blk b (.cells cs.toArray T (0, 0))) R) (hq : Pick R (nmS v l) R2) (hc : cs[off]? = some v) (hl : l.length ≤ 20) (hs : Sorted l) (hr : ∀ y ∈ l, rightNm y = true) (h1 : x.name.size ≤ maxLen) (h2 : x.tgt.size ≤ maxLen) :
    KC Tryz.prog 83 #[.pointer (some ⟨b, off, none⟩), .agg x.cells.toArray] w0 L (fun u M => u = errV 70 (setErr l x) ∧ M = L) := by
  obtain ⟨xn, xt, xh⟩ := x
  dsimp only at h1 h2
  have hmx : (1000000 : Nat) ≤ maxLen := by decide
  refine KC.mk (n := 20) Tryz.func83 rfl Tryz.ntmps83 (by simp) ?_
  repeat ((with_reducible refine K.seq ?_))
  refine K.reg ?_
  refine KO.box rfl rfl (by exact rfl) rfl ?_; intro b3
  refine KO.as rfl rfl ?_
  refine KO.nil ?_
  repeat (first | (with_reducible refine K.seq ?_) | (with_reducible refine KQ.next ?_))
  refine K.reg ?_
  refine KO.alloc rfl Tryz.zeroValue125 (by exact rfl) rfl ?_; intro b5
  refine KO.nil ?_
  repeat (first | (with_reducible refine K.seq ?_) | (with_reducible refine KQ.next ?_))
  refine K.reg ?_
  refine KO.mv rfl rfl ?_
  refine KO.ce (cp := []) rfl rfl rfl Tryz.call169 rfl (nall_e w0 _ _ _ b off cs T v l (.tail (.tail hp)) (.tail (.tail hq)) hc (by omega)) ?_; rintro va L' rfl; refine KO.fact (fun w hw => SL_form (E := 75) (sz := 3) (cf := Nm.cells) (hw.pick .head)) ?_; rintro ⟨ad, cap, rfl, had⟩
  refine KO.len rfl Tryz.underlying86 rfl ?_
  refine KO.mv rfl rfl ?_
  refine KO.nil ?_
  repeat (first | (with_reducible refine KQ.next ?_) | (with_reducible refine K.block ?_))
  refine K.loop (fun p : Nat × Value => [(3, .pointer (some ⟨b3, 0, none⟩)), (5, .pointer (some ⟨b5, 0, none⟩)), (9, .slice ad l.length cap), (10, .int .i64 (l.length : Nat)), (11, .int .i64 (p.1 : Nat))])
    (fun p => blk b5 (.cells [p.2].toArray 125 (0, 0)) :: nmS p.2 (l.take p.1) :: nmS (.slice ad l.length cap) l :: blk b3 (.cells [Value.string xn, .string xt, .int .i64 xh].toArray 75 (0, 0)) :: L) (fun p => p.1 ≤ l.length) (fun p => l.length - p.1) (0, .slice none 0 0)
    (Nat.zero_le _) ⟨rfl, rfl, rfl, rfl, rfl, trivial⟩ (fun _ h => ?_) ?_
  · have h1 := SL_nil (E := 75) (sz := 3) (cf := Nm.cells) h
    dsimp only [List.take_zero]
    exact h1.all (by repeat (first | exact PAll.refl | refine PAll.cons (by repeat (first | exact Pick.head | apply Pick.tail)) ?_))
  rintro ⟨k, vm⟩ hk
  dsimp only at hk ⊢
  repeat ((with_reducible refine K.seq ?_))
  refine K.reg ?_
  refine KO.lss rfl rfl rfl ?_
  refine KO.nil ?_
  repeat (first | (with_reducible refine K.seq ?_) | (with_reducible refine KQ.next ?_))
  refine K.condD rfl (fun h => ?_) (fun h => ?_)
  · obtain ⟨y, hy⟩ : ∃ e, l[k]? = some e := ⟨l[k], List.getElem?_eq_getElem (by omega)⟩
    obtain ⟨g, rfl⟩ := had (by omega)
    have hyr := hr y (List.mem_of_getElem? hy)
    have hsz := right_sz hyr
    have e1 := set_take hs hr hl hy
    have hst : Sorted (l.take k) := List.Pairwise.sublist (List.take_sublist _ _) hs
    obtain ⟨yn, yt, yh⟩ := y
    dsimp only at hsz
    repeat (first | (with_reducible refine K.seq ?_) | (with_reducible refine KQ.next ?_) | (with_reducible refine K.skip ?_) | (with_reducible refine K.block ?_))
    refine K.reg ?_
    refine KO.idx0 rfl rfl Tryz.runUnderlying86 Tryz.sizeOf75 (by exact rfl) (by omega) rfl ?_
    refine KO.ldEN rfl rfl Tryz.isAgg75 Tryz.sizeOf75 (by with_reducible (repeat (first | exact Pick.head | apply Pick.tail))) (fun _ => rfl) (by assumption) rfl ?_
    refine KO.alloc rfl Tryz.zeroValue75 (by exact rfl) rfl ?_; intro b7
    refine KO.sto0 rfl rfl rfl (by exact rfl) (by exact Tryz.sizeOf75) (by exact rfl) (by with_reducible (repeat (exact Pick.head))) (by exact rfl) ?_
    refine KO.nil ?_
    repeat ((with_reducible refine KQ.next ?_))
    refine K.reg ?_
    refine KO.ldB0 rfl rfl Tryz.isAgg75 Tryz.sizeOf75 (by with_reducible (repeat (exact Pick.head))) (by exact rfl) rfl ?_
    refine KO.cl (cp := []) rfl rfl rfl Tryz.call170 rfl (nset_c w0 _ _ _ b5 0 [vm] 125 vm (l.take k) ⟨yn, yt, yh⟩ (by with_reducible (repeat (first | exact Pick.head | apply Pick.tail))) (by with_reducible (repeat (first | exact Pick.head | apply Pick.tail))) rfl (by dsimp only; omega) (by dsimp only; omega) (by simp; omega) hst) ?_; rintro v' L' ⟨rfl, v2, rfl⟩; rw [e1, show [vm].set 0 v2 = [v2] from rfl]
    refine KO.nil ?_
    repeat (first | (with_reducible refine KQ.next ?_) | (with_reducible refine KQ.blk_normal ?_))
    refine K.reg ?_
    refine KO.add rfl rfl rfl (by omega) rfl ?_
    refine KO.mv rfl rfl ?_
    refine KO.nil ?_
    refine KQ.round (k + 1, v2) (by dsimp only; omega) (by dsimp only; omega) ⟨rfl, rfl, rfl, rfl, rfl, trivial⟩ (fun _ h => h.all (by with_reducible repeat (first | exact PAll.refl | refine PAll.cons (by with_reducible repeat (first | exact Pick.head | apply Pick.tail)) ?_ | apply PAll.drop)))
  · have hkl : k = l.length := by omega
    subst hkl
    rw [List.take_length]
    repeat (first | (with_reducible refine K.seq ?_) | (with_reducible refine KQ.next ?_) | (with_reducible refine KQ.then_exit ?_) | (with_reducible refine KQ.blk_exit ?_) | (with_reducible refine K.exit ?_))
    refine K.reg ?_
    refine KO.ldB0 rfl rfl Tryz.isAgg75 Tryz.sizeOf75 (by with_reducible (repeat (first | exact Pick.head | apply Pick.tail))) (by exact rfl) rfl ?_
    refine KO.cl (cp := []) rfl rfl rfl Tryz.call170 rfl (nset_c w0 _ _ _ b5 0 [vm] 125 vm l ⟨xn, xt, xh⟩ (by with_reducible (repeat (exact Pick.head))) (by with_reducible (repeat (exact Pick.head))) rfl h1 h2 hl hs) ?_; rintro v' L' ⟨rfl, v2, rfl⟩
    refine KO.as rfl rfl ?_
    refine KO.nil ?_
    repeat (first | (with_reducible refine KQ.next ?_) | (with_reducible refine K.ret ?_))
    refine KQ.ret1 rfl rfl (fun w' hs' => ⟨_, _, rfl, ⟨rfl, rfl⟩, hs'.all (by with_reducible repeat (first | exact PAll.refl | apply PAll.drop))⟩)
set_option maxRecDepth 100000 in
theorem hname_c (w0 : World) (L : List HP) (bh bd n : Nat) (H : Ho) (D : Dk) (x : Nm) (hT : Tab w0) (hM : Lim w0) (hB : HoB n H) (hn : n + 1 ≤ 90000) (h3 : D.places.length = 300) (hd : -1000000 ≤ D.left ∧ D.left ≤ 9223372036854775807) (h1 : x.name.size ≤ maxLen) (h2 : x.tgt.size ≤ maxLen) :
    KC Tryz.prog 31 #[ptrV bh, .agg x.cells.toArray] w0 (hoP bh bd H :: dkP bd D :: L) (fun u M => u = errV 70 (nameE H D x) ∧ M = hoP bh bd (nameH H D x) :: dkP bd (nameD H D x) :: L) := by
  have hnl := hB.nlen
  have hso := hB.sorted
  have hok := fun h0 : setErr H.names x = 0 => setErr_right h0
  obtain ⟨xn, xt, xh⟩ := x
  dsimp only at h1 h2
  refine KC.mk (n := 38) Tryz.func31 rfl Tryz.ntmps31 (by simp) ?_
  repeat ((with_reducible refine K.seq ?_))
  refine K.open' (fun _ h => hoP_open h) ?_
  rintro ⟨V, hV⟩
  dsimp only
  refine K.fact (fun w hw => SL_form (E := 75) (sz := 3) (cf := Nm.cells) (v := V.nv) (xs := H.names) (hw.pick (A := nmS V.nv H.names) (by with_reducible (repeat (first | exact Pick.head | apply Pick.tail))))) ?_
  rintro ⟨na, nk, hnv, -⟩
  refine K.reg ?_
  refine KO.box rfl rfl (by exact rfl) rfl ?_; intro b3
  refine KO.as rfl rfl ?_
  refine KO.nil ?_
  repeat (first | (with_reducible refine K.seq ?_) | (with_reducible refine KQ.next ?_))
  refine K.reg ?_
  refine KO.mv rfl rfl ?_
  refine KO.nc rfl rfl ?_
  refine KO.fo0 (off := 6) rfl Tryz.runUnderlying133 rfl rfl Tryz.sizeOf125 rfl ?_
  refine KO.ldB (us := [V.nv]) rfl rfl Tryz.isAgg125 Tryz.sizeOf125 (by with_reducible (repeat (first | exact Pick.head | apply Pick.tail))) (by exact rfl) (by exact rfl) rfl ?_
  refine KO.alloc rfl Tryz.zeroValue125 (by exact rfl) rfl ?_; intro b5
  refine KO.sto0 (us := [V.nv]) rfl rfl rfl (by rw [hnv]; rfl) (by exact Tryz.sizeOf125) (by rw [hnv]; rfl) (by with_reducible (repeat (exact Pick.head))) (by exact rfl) ?_
  refine KO.nil ?_
  repeat (first | (with_reducible refine K.seq ?_) | (with_reducible refine KQ.next ?_))
  refine K.reg ?_
  refine KO.ldB0 rfl rfl Tryz.isAgg75 Tryz.sizeOf75 (by with_reducible (repeat (first | exact Pick.head | apply Pick.tail))) (by exact rfl) rfl ?_
  refine KO.cl (cp := []) rfl rfl rfl Tryz.call83 rfl (probe_c w0 _ _ _ b5 0 [V.nv] 125 V.nv H.names ⟨xn, xt, xh⟩ (by with_reducible (repeat (exact Pick.head))) (by with_reducible (repeat (first | exact Pick.head | apply Pick.tail))) rfl hnl hso hB.right h1 h2) ?_; rintro v' L' ⟨rfl, rfl⟩
  refine KO.as rfl rfl ?_
  refine KO.nil ?_
  repeat (first | (with_reducible refine K.seq ?_) | (with_reducible refine KQ.next ?_))
  refine K.reg ?_
  refine KO.mv rfl rfl ?_
  refine KO.neN rfl (by kernel_rfl) rfl ?_
  refine KO.nil ?_
  repeat ((with_reducible refine KQ.next ?_))
  refine K.condD rfl (fun h => ?_) (fun h => ?_)
  · have hpe : namePE H ⟨xn, xt, xh⟩ = setErr H.names ⟨xn, xt, xh⟩ := by unfold namePE; rw [if_pos h]
    repeat ((with_reducible refine K.seq ?_))
    refine K.reg ?_
    refine KO.mv rfl rfl ?_
    refine KO.as rfl rfl ?_
    refine KO.nil ?_
    repeat (first | (with_reducible refine KQ.next ?_) | (with_reducible refine KQ.then_ret ?_) | (with_reducible refine K.ret ?_))
    refine KQ.ret1 rfl rfl (fun w' hs' => ⟨_, _, rfl, ⟨?_, rfl⟩, ?_⟩)
    · unfold nameE; rw [hpe, if_pos h]
    · unfold nameH nameD; rw [hpe, if_pos h, if_pos h]
      exact hoP_mk V hV (hs'.all (by repeat (first | exact PAll.refl | refine PAll.cons (by repeat (first | exact Pick.head | apply Pick.tail)) ?_ | apply PAll.drop)))
  have h0 : setErr H.names ⟨xn, xt, xh⟩ = 0 := by simpa using h
  have hr0 := recOk_name (hok h0)
  have hsz := right_sz (hok h0)
  obtain ⟨-, -, hx1, hx2⟩ := right_word (hok h0)
  dsimp only at hsz hx1 hx2
  repeat (first | (with_reducible refine K.seq ?_) | (with_reducible refine KQ.next ?_) | (with_reducible refine K.skip ?_))
  refine K.reg ?_
  refine KO.fo0 (off := 0) rfl Tryz.runUnderlying75 rfl rfl Tryz.sizeOf9 rfl ?_
  refine KO.ld rfl rfl Tryz.isAgg9 (by with_reducible (repeat (first | exact Pick.head | apply Pick.tail))) (by exact rfl) rfl ?_
  refine KO.eqS rfl rfl rfl ?_
  refine KO.nil ?_
  repeat ((with_reducible refine KQ.next ?_))
  refine K.condD rfl (fun h5 => ?_) (fun h5 => ?_)
  · have hpe : namePE H ⟨xn, xt, xh⟩ = 5 := by unfold namePE; exact (if_neg h).trans (if_pos h5)
    repeat ((with_reducible refine K.seq ?_))
    refine K.reg ?_
    refine KO.mki rfl (by kernel_rfl) rfl ?_
    refine KO.as rfl rfl ?_
    refine KO.nil ?_
    repeat (first | (with_reducible refine KQ.next ?_) | (with_reducible refine KQ.then_ret ?_) | (with_reducible refine K.ret ?_))
    refine KQ.ret1 rfl rfl (fun w' hs' => ⟨_, _, rfl, ⟨?_, rfl⟩, ?_⟩)
    · unfold nameE; rw [hpe]; rfl
    · unfold nameH nameD; rw [hpe, if_pos (by decide), if_pos (by decide)]
      exact hoP_mk V hV (hs'.all (by repeat (first | exact PAll.refl | refine PAll.cons (by repeat (first | exact Pick.head | apply Pick.tail)) ?_ | apply PAll.drop)))
  have hpe : namePE H ⟨xn, xt, xh⟩ = 0 := by unfold namePE; exact (if_neg h).trans (if_neg h5)
  repeat (first | (with_reducible refine K.seq ?_) | (with_reducible refine KQ.next ?_) | (with_reducible refine K.skip ?_))
  refine K.reg ?_
  refine KO.fo0 (off := 1) rfl Tryz.runUnderlying75 rfl rfl Tryz.sizeOf9 rfl ?_
  refine KO.ld rfl rfl Tryz.isAgg9 (by with_reducible (repeat (first | exact Pick.head | apply Pick.tail))) (by exact rfl) rfl ?_
  refine KO.as rfl rfl ?_
  refine KO.nil ?_
  repeat (first | (with_reducible refine K.seq ?_) | (with_reducible refine KQ.next ?_))
  refine K.reg ?_
  refine KO.mv rfl rfl ?_
  refine KO.eqS rfl rfl rfl ?_
  refine KO.nil ?_
  repeat ((with_reducible refine KQ.next ?_))
  refine K.cut (fun _ : Unit => [(0, ptrV bh), (3, .pointer (some ⟨b3, 0, none⟩)), (7, .string (dash1 xt))]) (fun _ => hoP bh bd H :: dkP bd D :: blk b3 (.cells [Value.string xn, .string xt, .int .i64 xh].toArray 75 (0, 0)) :: L) (fun _ => True) ?_ ?_
  · refine K.condD rfl (fun h8 => ?_) (fun h8 => ?_)
    · (skip)
      refine K.reg ?_
      refine KO.as rfl rfl ?_
      refine KO.nil ?_
      exact KQ.mid () trivial ⟨rfl, rfl, by unfold dash1; rw [if_pos h8]; rfl, trivial⟩ (fun w' hs' => hoP_mk V hV (hs'.all (by repeat (first | exact PAll.refl | refine PAll.cons (by repeat (first | exact Pick.head | apply Pick.tail)) ?_ | apply PAll.drop))))
    · repeat ((with_reducible refine K.skip ?_))
      exact KQ.mid () trivial ⟨rfl, rfl, by unfold dash1; rw [if_neg h8]; rfl, trivial⟩ (fun w' hs' => hoP_mk V hV (hs'.all (by repeat (first | exact PAll.refl | refine PAll.cons (by repeat (first | exact Pick.head | apply Pick.tail)) ?_ | apply PAll.drop))))
  · rintro ⟨⟩ -
    try dsimp only
    have hi := itoaS_size (n := xh) ⟨by omega, by omega⟩
    have hdz : (dash1 xt).size ≤ 8 := by
      unfold dash1; split
      · decide
      · omega
    have z1 : (⟨#[110, 58]⟩ : ByteArray).size = 2 := rfl
    have z2 : (⟨#[32]⟩ : ByteArray).size = 1 := rfl
    have z3 : (⟨#[110, 58]⟩ ++ xn : ByteArray).size ≤ 10 := by simp only [ByteArray.size_append]; omega
    have z4 : (⟨#[110, 58]⟩ ++ xn ++ ⟨#[32]⟩ : ByteArray).size ≤ 11 := by simp only [ByteArray.size_append]; omega
    have z5 : (⟨#[110, 58]⟩ ++ xn ++ ⟨#[32]⟩ ++ dash1 xt : ByteArray).size ≤ 19 := by simp only [ByteArray.size_append]; omega
    have z6 : (⟨#[110, 58]⟩ ++ xn ++ ⟨#[32]⟩ ++ dash1 xt ++ ⟨#[32]⟩ : ByteArray).size ≤ 20 := by simp only [ByteArray.size_append]; omega
    repeat ((with_reducible refine K.seq ?_))
    refine K.draw [.pure, .pure, .read, .pure, .pure, .pure, .pure, .pure, .pure, .read, .keep, .pure, .write, .pure] [0, 1, 2, 3, 4, 5, 6, 7, 8, 9, 10, 11, 12, 13] (by kernel_rfl) (by kernel_rfl) ?_
    refine KO.mv rfl rfl ?_
    refine KO.fo0 (off := 0) rfl Tryz.runUnderlying75 rfl rfl Tryz.sizeOf9 rfl ?_
    refine KO.ld rfl rfl Tryz.isAgg9 (by with_reducible (repeat (first | exact Pick.head | apply Pick.tail))) (by exact rfl) rfl ?_
    refine KO.cat rfl rfl (by omega) rfl ?_
    refine KO.cat rfl rfl (by omega) rfl ?_
    refine KO.mv rfl rfl ?_
    refine KO.cat rfl rfl (by omega) rfl ?_
    refine KO.cat rfl rfl (by omega) rfl ?_
    refine KO.fo0 (off := 2) rfl Tryz.runUnderlying75 rfl rfl Tryz.sizeOf3 rfl ?_
    refine KO.ld rfl rfl Tryz.isAgg3 (by with_reducible (repeat (first | exact Pick.head | apply Pick.tail))) (by exact rfl) rfl ?_
    refine KO.ce (cp := []) rfl rfl rfl Tryz.call59 rfl (itoa_e w0 _ xh hT ⟨by omega, by omega⟩) ?_; rintro v' L' ⟨rfl, rfl⟩
    refine KO.cat rfl rfl (by omega) rfl ?_
    refine KO.cl (cp := []) rfl rfl rfl Tryz.call84 rfl (hwrites_c w0 _ bh bd n 1 H D (nameR ⟨xn, xt, xh⟩) hT hM hB hr0 hn h3 hd) ?_; rintro v' L' ⟨rfl, rfl⟩
    refine KO.as rfl rfl ?_
    refine KO.nil ?_
    repeat (first | (with_reducible refine KQ.next ?_) | (with_reducible refine K.ret ?_))
    refine KQ.ret1 rfl rfl (fun w' hs' => ⟨_, _, rfl, ⟨?_, rfl⟩, ?_⟩)
    · unfold nameE; rw [hpe]; rfl
    · unfold nameH nameD; rw [hpe, if_neg (by decide), if_neg (by decide)]
      exact hs'.all (by repeat (first | exact PAll.refl | refine PAll.cons (by repeat (first | exact Pick.head | apply Pick.tail)) ?_ | apply PAll.drop))
end Go.Proofs.YtjhogocabcdjbabGreatDoor
/- the house: Put, Get -/
namespace WB
open Go Go.RowKit
namespace Ho
def aAt (H : Ho) (j : Nat) : Qu := H.all.getD j default
def setA (H : Ho) (j : Nat) (q : Qu) : Ho := if j < 4 then H.setW j q else H.setQ (j - 4) q
end Ho
section
variable {n : Nat} {H : Ho} {q : Qu} {i j : Nat}
theorem setA_names (j : Nat) (q : Qu) : (H.setA j q).names = H.names := by unfold Ho.setA; split <;> rfl
theorem setA_fst (j : Nat) (q : Qu) : (H.setA j q).queues.map (·.1) = H.queues.map (·.1) := by
  unfold Ho.setA; split
  · rfl
  · exact setQ_fst _ _
theorem setA_qlen (j : Nat) (q : Qu) : (H.setA j q).queues.length = H.queues.length := by
  have := congrArg List.length (setA_fst (H := H) j q); simpa using this
theorem setA_units (j : Nat) (q : Qu) : (H.setA j q).units = H.units := by unfold Ho.setA; split <;> rfl
theorem setA_batch (j : Nat) (q : Qu) : (H.setA j q).batch = H.batch := by unfold Ho.setA; split <;> rfl
theorem setA_id (j : Nat) (q : Qu) : (H.setA j q).id = H.id := by unfold Ho.setA; split <;> rfl
theorem setA_used (j : Nat) (q : Qu) : (H.setA j q).used = H.used := by unfold Ho.setA; split <;> rfl
theorem setA_down (j : Nat) (q : Qu) : (H.setA j q).down = H.down := by unfold Ho.setA; split <;> rfl
theorem setA_torn (j : Nat) (q : Qu) : (H.setA j q).torn = H.torn := by unfold Ho.setA; split <;> rfl
theorem setA_sent (j : Nat) (q : Qu) : (H.setA j q).sent = H.sent := by unfold Ho.setA; split <;> rfl
theorem setA_arrived (j : Nat) (q : Qu) : (H.setA j q).arrived = H.arrived := by unfold Ho.setA; split <;> rfl
theorem setA_wlen (j : Nat) (q : Qu) : (H.setA j q).ways.length = H.ways.length := by unfold Ho.setA; split <;> simp [Ho.setW, Ho.setQ]
theorem all_setA (h4 : H.ways.length = 4) (j : Nat) (q : Qu) : (H.setA j q).all = H.all.set j q := by
  unfold Ho.setA
  split
  · exact all_setW (by omega) q
  · rw [all_setQ h4, show 4 + (j - 4) = j by omega]
theorem all_a (hj : j < H.all.length) : H.all[j]? = some (H.aAt j) := by
  unfold Ho.aAt
  rw [List.getD_eq_getElem?_getD, List.getElem?_eq_getElem hj]; rfl
theorem HoB.a (h : HoB n H) (hj : j < H.all.length) : QB n (H.aAt j) := h.qs _ (List.mem_of_getElem? (all_a hj))
theorem HoB.setA (h : HoB n H) (hq : QB n q) (j : Nat) : HoB n (H.setA j q) := by
  unfold Ho.setA
  split
  · exact h.setW hq (by assumption)
  · exact h.setQ hq _
end
theorem KQ.ret4 {P : Program} {fn : Func} {R : Ending → World → Prop} {n : Nat} {w0 : World} {G : Env} {L : List HP} {v1 v2 v3 v4 : Value} {t1 t2 t3 t4 : Nat} (hr : fn.results = #[.tmp t1, .tmp t2, .tmp t3, .tmp t4]) (h1 : envAt G t1 = some v1) (h2 : envAt G t2 = some v2) (h3 : envAt G t3 = some v3) (h4 : envAt G t4 = some v4)
    (h : ∀ w, St w0 L w → R (.returned (.tuple #[v1, v2, v3, v4])) w) : KQ (bodyPost P fn R) .ret n [] w0 G L :=
  KQ.fin (fun a w ha _ => by simp [results, hr, Array.getD_eq_getD_getElem?, ha.get _ _ h1, ha.get _ _ h2, ha.get _ _ h3, ha.get _ _ h4]) h
/-- what a name stands for, for what is put: the name, the house, the error -/
def plR (H : Ho) (s : ByteArray) : ByteArray × Int × Int :=
  if (resN H.names (H.names.length + 1) s).2.2 ≠ 0 then (⟨#[]⟩, 0, (resN H.names (H.names.length + 1) s).2.2)
  else if (resN H.names (H.names.length + 1) s).2.1 < 0 ∨ (resN H.names (H.names.length + 1) s).2.1 = H.id then
    if localB H.names (resN H.names (H.names.length + 1) s).1 = false then (⟨#[]⟩, 0, 7) else ((resN H.names (H.names.length + 1) s).1, -1, 0)
  else ((resN H.names (H.names.length + 1) s).1, (resN H.names (H.names.length + 1) s).2.1, 0)
def plJ (H : Ho) (s : ByteArray) : Nat := if (plR H s).2.1 < 0 then 4 + (H.qI (plR H s).1).getD 0 else (plR H s).2.1.toNat
theorem resN_house {l : List Nm} : ∀ {n : Nat} {s t : ByteArray} {k : Int}, resN l n s = (t, k, 0) → k = -1 ∨ ∃ x ∈ l, x.house = k ∧ 0 ≤ k
  | 0, s, t, k, h => by simp [resN] at h
  | n + 1, s, t, k, h => by
    rw [resN] at h
    split at h
    · simp at h
    · rename_i x hx
      split at h
      · simp at h; exact .inl h.2.symm
      · split at h
        · rename_i h2
          simp at h
          refine .inr ⟨x, ?_, h.2, h.2 ▸ h2⟩
          unfold look at hx
          split at hx
          · rename_i h3
            simp only [Option.some.injEq] at hx
            subst hx
            unfold nmAt
            have := hit_lt h3
            rw [List.getD_eq_getElem?_getD, List.getElem?_eq_getElem this]
            exact List.getElem_mem this
          · cases hx
        · exact resN_house h
theorem local_q {n : Nat} {H : Ho} (hB : HoB n H) {s : ByteArray} (h : localB H.names s = true) : ∃ i, H.qI s = some i := by
  unfold localB at h
  cases hl : look H.names s with
  | none => rw [hl] at h; cases h
  | some x =>
    rw [hl] at h
    rw [look_sorted hB.sorted] at hl
    obtain ⟨h1, h2⟩ := lk_some hl
    obtain ⟨i, hi⟩ := hB.loc x h1 (by simp only [emptyB_eq] at h; exact of_decide_eq_true h)
    exact ⟨i, by rw [← h2]; exact hi⟩
theorem plJ_lt {n : Nat} {H : Ho} (hB : HoB n H) {s : ByteArray} (h : (plR H s).2.2 = 0) : plJ H s < H.all.length ∧ ((plR H s).2.1 < 0 → (plR H s).2.1 = -1 ∧ ∃ i, H.qI (plR H s).1 = some i ∧ plJ H s = 4 + i) ∧ (¬ (plR H s).2.1 < 0 → plJ H s < 4 ∧ (plR H s).2.1 = ((plJ H s : Nat) : Int)) := by
  rw [all_len hB.ways]
  unfold plJ
  unfold plR at h ⊢
  split
  · rename_i h1; rw [if_pos h1] at h; exact absurd h h1
  · rename_i h1
    rw [if_neg h1] at h
    have h10 : (resN H.names (H.names.length + 1) s).2.2 = 0 := by simpa using h1
    generalize hr : resN H.names (H.names.length + 1) s = r at *
    obtain ⟨t, k, e⟩ := r
    dsimp only at h h10 ⊢
    subst h10
    split
    · rename_i h2
      rw [if_pos h2] at h
      split
      · rename_i h3; rw [if_pos h3] at h; cases h
      · rename_i h3
        obtain ⟨i, hi⟩ := local_q hB (s := t) (by simpa using h3)
        have := (qI_lt hi).1
        dsimp only
        rw [if_pos (by decide)]
        refine ⟨by rw [hi]; simp; omega, fun _ => ⟨rfl, i, hi, by rw [hi]; rfl⟩, fun h => absurd (by decide) h⟩
    · rename_i h2
      dsimp only
      have h3 : ¬ k < 0 := fun h => h2 (.inl h)
      rw [if_neg h3]
      rcases resN_house hr with h4 | ⟨x, hx, hk, h0⟩
      · omega
      · obtain ⟨-, -, -, h5⟩ := right_word (hB.right x hx)
        exact ⟨by omega, fun h => absurd h h3, fun _ => ⟨by omega, by omega⟩⟩
theorem look_nm {l : List Nm} {s : ByteArray} {x : Nm} (h : look l s = some x) : x ∈ l ∧ x.name = s := by
  unfold look at h
  split at h
  · rename_i h3
    simp only [Option.some.injEq] at h
    subst h
    have := hit_lt h3
    refine ⟨?_, ?_⟩
    · unfold nmAt
      rw [List.getD_eq_getElem?_getD, List.getElem?_eq_getElem this]
      exact List.getElem_mem this
    · unfold hitB at h3
      rw [Bool.and_eq_true] at h3
      exact cmpN_eq (by simpa using h3.2)
  · cases h
theorem resN_word {l : List Nm} (hr : ∀ x ∈ l, rightNm x = true) : ∀ {n : Nat} {s t : ByteArray} {k : Int}, resN l n s = (t, k, 0) → wordB t = true
  | 0, s, t, k, h => by simp [resN] at h
  | n + 1, s, t, k, h => by
    rw [resN] at h
    split at h
    · simp at h
    · rename_i x hx
      obtain ⟨h1, h2⟩ := look_nm hx
      obtain ⟨w1, w2, -, -⟩ := right_word (hr x h1)
      split at h
      · simp at h; rw [← h.1, ← h2]; exact w1
      · rename_i he
        split at h
        · simp at h
          rw [← h.1]
          rcases w2 with w2 | w2
          · exact w2
          · exact absurd (by rw [emptyB_eq, w2]; rfl) he
        · exact resN_word hr h
theorem plR_word {n : Nat} {H : Ho} (hB : HoB n H) {s : ByteArray} (h : (plR H s).2.2 = 0) : wordB (plR H s).1 = true := by
  unfold plR at h ⊢
  split
  · rename_i h1; rw [if_pos h1] at h; exact absurd h h1
  · rename_i h1
    rw [if_neg h1] at h
    have h10 : (resN H.names (H.names.length + 1) s).2.2 = 0 := by simpa using h1
    generalize hr : resN H.names (H.names.length + 1) s = r at *
    obtain ⟨t, k, e⟩ := r
    dsimp only at h h10 ⊢
    subst h10
    have := resN_word hB.right hr
    split
    · rename_i h2
      rw [if_pos h2] at h
      split
      · rename_i h3; rw [if_pos h3] at h; cases h
      · exact this
    · exact this
/-- Put -/
def putM (H : Ho) (s : ByteArray) (pri : Int) (body : ByteArray) : Ms := ⟨H.next * 4 + H.id, pri, body, (plR H s).1, if (plR H s).2.1 < 0 then H.id else (plR H s).2.1⟩
def putE (H : Ho) (u : Int) (s : ByteArray) (pri : Int) (body : ByteArray) : Int :=
  if u < 0 ∨ 5 ≤ u then 2 else if (pri < 0 ∨ 9 < pri) ∨ bodyB body = false then 1 else if (plR H s).2.2 ≠ 0 then (plR H s).2.2 else if H.down = true then 6
  else qputE (H.aAt (plJ H s)) (putM H s pri body)
def putU (H : Ho) (u : Nat) (x : Unt) : Ho := { H with units := H.units.set u x }
def putH (H : Ho) (u : Int) (s : ByteArray) (pri : Int) (body : ByteArray) : Ho :=
  if putE H u s pri body = 0 then
    putU { H.setA (plJ H s) (qput (H.aAt (plJ H s)) (putM H s pri body) u) with next := H.next + 1 } u.toNat ⟨(H.uAt u.toNat).puts ++ [(putM H s pri body, (plR H s).2.1)], (H.uAt u.toNat).gets⟩
  else H
def putI (H : Ho) (u : Int) (s : ByteArray) (pri : Int) (body : ByteArray) : Int := if putE H u s pri body = 0 then (putM H s pri body).id else 0
/-- Get -/
def getE (H : Ho) (u : Int) (s : ByteArray) : Int :=
  if u < 0 ∨ 5 ≤ u then 2 else match H.qI s with
  | none => 7
  | some i => if s ≠ deadS ∧ localB H.names s = false then 7 else if H.down = true then 6 else qgetE (H.qAt i)
def getM (H : Ho) (u : Int) (s : ByteArray) : Ms := if getE H u s = 0 then qgetM (H.qAt ((H.qI s).getD 0)) else zeroMs
def getH (H : Ho) (u : Int) (s : ByteArray) : Ho :=
  if getE H u s = 0 then putU (H.setQ ((H.qI s).getD 0) (qget (H.qAt ((H.qI s).getD 0)) u)) u.toNat ⟨(H.uAt u.toNat).puts, (H.uAt u.toNat).gets ++ [((qgetM (H.qAt ((H.qI s).getD 0))).id, s)]⟩ else H
theorem HoB.putU {n : Nat} {H : Ho} (h : HoB n H) (u : Nat) (x : Unt) : HoB n (putU H u x) := ⟨h.id, h.used, h.next, h.sorted, h.nlen, h.qlen, h.qs, h.nodup, h.ways, by simp [WB.putU, h.units], h.batch, h.sent, h.arrived, h.right, h.loc⟩
theorem HoB.put {n : Nat} {H : Ho} (h : HoB n H) (u : Int) (s : ByteArray) (pri : Int) (body : ByteArray) : HoB (n + 1) (putH H u s pri body) := by
  unfold putH
  split
  · rename_i h0
    unfold putE at h0
    split at h0
    · cases h0
    · split at h0
      · cases h0
      · split at h0
        · exact absurd h0 (by assumption)
        · rename_i h1
          split at h0
          · cases h0
          · have hj := (plJ_lt h (s := s) (by simpa using h1)).1
            have hn : H.next + 1 ≤ 274877906945 := by
              unfold qputE at h0
              cases hr : msRight (putM H s pri body) with
              | false => rw [if_pos hr] at h0; cases h0
              | true =>
                have h2 := (msRight_parts hr).2.1
                have := h.id
                unfold putM at h2; dsimp only at h2; omega
            have hx := h.next
            exact HoB.putU (((h.le (Nat.le_succ n)).setA ((h.a hj).put _ u) _).nxt ⟨by omega, hn⟩) _ _
  · exact h.le (Nat.le_succ n)
theorem HoB.get {n : Nat} {H : Ho} (h : HoB n H) (u : Int) (s : ByteArray) : HoB n (getH H u s) := by
  unfold getH
  split
  · rename_i h0
    unfold getE at h0
    split at h0
    · cases h0
    · cases hq : H.qI s with
      | none => rw [hq] at h0; cases h0
      | some i => exact HoB.putU (h.setQ ((h.qa (qI_lt hq).1).get u) _) _ _
  · exact h
end WB
