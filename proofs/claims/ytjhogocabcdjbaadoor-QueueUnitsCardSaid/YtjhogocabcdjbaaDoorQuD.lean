/- slices.Insert of one value, not at the end. -/
import Derived.Test.YtjhogocabcdjbaaDoorQuC
set_option linter.unusedSimpArgs false
set_option linter.unusedVariables false
namespace Go.Proofs.YtjhogocabcdjbaaDoor
open Go Go.RowKit WB
set_option maxHeartbeats 2000000 in
set_option maxRecDepth 100000 in
theorem it_ins_room (w w0 : World) (L : List HP) (g n cap k : Nat) (xs vs : List Value) (bv : Nat) (h : St w0 (osl 99 8 (.slice (some ⟨g, 0, none⟩) n cap) n xs :: blk bv (.cells vs.toArray 99 (0, 0)) :: L) w)
    (hv : vs.length = 8) (h1 : ∀ u ∈ vs, u.oneCell' = true) (hx1 : ∀ u ∈ xs, u.oneCell' = true) (hn : n < 1000000) (hk : k < n) (hroom : n + 1 ≤ cap) :
    Calls Tryd.prog 81 #[.slice (some ⟨g, 0, none⟩) n cap, .int .i64 k, .slice (some ⟨bv, 0, none⟩) 1 1] w fun e w' => ∃ v', e = .returned v' ∧ St w0 (osl 99 8 v' (n + 1) (xs.take (k * 8) ++ vs ++ xs.drop (k * 8)) :: L) w' := by
  obtain ⟨i0, hi, hz0, hz1, hz2⟩ := info_parts it_nmInfo
  rcases h.osl_cases with ⟨hc, _⟩ | ⟨g', cap', cur, hc, hnc, hcm, hcs, htake, hxl, hblk⟩
  · simp at hc
  · simp only [Value.slice.injEq, Option.some.injEq, Addr.mk.injEq, and_true, true_and] at hc
    obtain ⟨rfl, rfl⟩ := hc
    have hov : ∀ o n c o' n' c', (callFunc 96 #[.slice (some ⟨bv, o, none⟩) n c, .slice (some ⟨g, o', none⟩) n' c']).run Tryd.prog w = .ok (.value (.bool false)) w := fun o n c o' n' c' => by
      rw [run_callFunc_extern Tryd.func96 (by kernel_rfl) (by kernel_rfl) (by kernel_rfl) (e := Extern.SlicesOverlaps.overlaps #[42, 42] #[4]) (by kernel_rfl),
        overlaps_no 42 4 99 i0 Tryd.underlying42 hi hblk.swap2 o n c o' n' c' (by rw [hcs]; omega)]
      rfl
    have HB := Lib.hid hblk
    have hne : ((k : Int) == (n : Int)) = false := by simp; omega
    have hcap : cap < 9223372036854775808 := by unfold maxLen at hcm; omega
    have hsz : (cur.toList.take (n * 8)).length = n * 8 := by simp; omega
    have hcl : cur.toList.length = cap * 8 := by simpa using hcs
    have hmin : Nat.min (n + 1 - k) (n - k) = n - k := Nat.min_eq_right (by omega)
    have hm1 : ∀ u ∈ (cur.toList.take (n * 8)).drop (k * 8), u.oneCell' = true := fun u hu => hx1 u (htake ▸ List.mem_of_mem_drop hu)
    have hl1 : ((cur.toList.take (n * 8)).drop (k * 8)).length = Nat.min (n + 1 - k) (n - k) * i0.size := by
      rw [List.length_drop, hsz, hz1, hmin, Nat.sub_mul]
    have hc1 := run_copy_any (P := Tryd.prog) w.drew 42 42 3 99 i0 g ((k + 1) * 8) (n - k) (cap - (k + 1)) ⟨g, k * 8, none⟩ (n + 1 - k) (cap - k) cur 99 _ Tryd.underlying42 hi hblk.drew.look.2 hl1
      (hblk.drew.hasCells fun j u hj => by
        rw [List.getElem?_drop, List.getElem?_take] at hj
        split at hj
        · simpa using hj
        · simp at hj) (by rw [hl1, hz1, hmin, hcs]; omega) hm1
    have hs1 := hblk.drew.setRow (c' := (cur.toList.take ((k + 1) * 8) ++ (cur.toList.take (n * 8)).drop (k * 8) ++ cur.toList.drop ((k + 1) * 8 + ((cur.toList.take (n * 8)).drop (k * 8)).length)).toArray)
    have hlen1 : ((cur.toList.take (n * 8)).drop (k * 8)).length = n * 8 - k * 8 := by rw [List.length_drop, hsz]
    generalize hC1 : cur.toList.take ((k + 1) * 8) ++ (cur.toList.take (n * 8)).drop (k * 8) ++ cur.toList.drop ((k + 1) * 8 + ((cur.toList.take (n * 8)).drop (k * 8)).length) = C1 at hc1 hs1
    have hC1l : C1.length = cap * 8 := by rw [← hC1]; simp only [List.length_append, List.length_take, hlen1, List.length_drop, hcl]; omega
    have hc2 := run_copy_any (P := Tryd.prog) (w.drew.setRow g C1.toArray) 42 42 3 99 i0 g (k * 8) (n + 1 - k) (cap - k) ⟨bv, 0, none⟩ 1 1 C1.toArray 99 vs Tryd.underlying42 hi hs1.look.2
      (by rw [hv, hz1, show Nat.min 1 (n + 1 - k) = 1 from Nat.min_eq_left (by omega), Nat.one_mul]) (hs1.drop.hasCells fun j u hj => by simpa using hj) (by rw [hv]; simp [hC1l]; omega) h1
    have hs2 := hs1.setRow (c' := (C1.take (k * 8) ++ vs ++ C1.drop (k * 8 + vs.length)).toArray)
    have hmin2 : Nat.min 1 (n + 1 - k) = 1 := Nat.min_eq_left (by omega)
    rw [hmin2] at hc2
    rw [hmin] at hc1
    have hfin : ((C1.take (k * 8) ++ vs ++ C1.drop (k * 8 + vs.length)).toArray).toList.take ((n + 1) * 8) = xs.take (k * 8) ++ vs ++ xs.drop (k * 8) := by
      have := take_drop_splice cur.toList vs (k * 8) 8 (n * 8) (cap * 8) (by omega) hv (by omega) hcl
      simp only [htake] at this
      rw [hv]
      have e : (k + 1) * 8 = k * 8 + 8 := by omega
      have e2 : (n + 1) * 8 = n * 8 + 8 := by omega
      have e3 : (k * 8 + 8 + (n * 8 - k * 8)) = n * 8 + 8 := by omega
      rw [htake, e, show (xs.drop (k * 8)).length = n * 8 - k * 8 by rw [List.length_drop, hxl], e3] at hC1
      rw [← hC1, e2]
      exact this
    have hout := hs2.osl_mk (n := n + 1) (size := 8) (cap := cap) hroom hcm (by simp [hC1l, hv]; omega) hfin
    generalize C1.take (k * 8) ++ vs ++ C1.drop (k * 8 + vs.length) = C2 at hc2 hout hs2 hfin
    have HC1 := Lib.hid hc1
    have HC2 := Lib.hid hc2
    have HO := Lib.hid hout
    clear h hblk hcm hi hz0 hz1 hz2 hcs htake hxl hx1 h1 hv hc1 hc2 hout hs1 hs2 hfin hC1 hlen1 hl1 hm1 hcl hsz hmin hmin2 hC1l
    go_enter Tryd.func81, Tryd.ntmps81
    go_wp2_with fail
    refine wp_region_ord [.pure, .pure, .pure, .pure, .pure, .pure, .pure, .pure, .write] [0, 1, 2, 3, 4, 5, 6, 7, 8] (by kernel_rfl) (by kernel_rfl) ?_
    simp only [List.map_cons, List.map_nil, item, List.getD_cons_zero, List.getD_cons_succ]
    repeat ((with_reducible refine vcL_pure (v := ?_) (a' := ?_) ?_ ?_ ?_ ?_); rotate_left 2; (rfl); ((intro w'; go_simp; (try (go_bits; (try go_simp); (try (go_bits; (try go_simp))))); (repeat (first | rewrite [if_pos (by omega)] | rewrite [if_neg (by omega)]))) <;> rfl); (go_simp; rfl))
    refine vcL_writeVal (a' := ?_) (v := ?_) (w' := ?_) rfl ?_ ?_ ?_
    rotate_left 3
    · rw [exec_copy2 _ _ _ _ rfl (.slice (some ⟨g, (k + 1) * 8, none⟩) (n - k) (cap - (k + 1))) (.slice (some ⟨g, k * 8, none⟩) (n + 1 - k) (cap - k)) rfl rfl HC1.out]
    · go_simp; rfl
    refine vcL_nil ?_
    go_wp2_with (refine wpL_copy rfl _ _ _ _ rfl (.slice (some ⟨g, k * 8, none⟩) (n + 1 - k) (cap - k)) (.slice (some ⟨bv, 0, none⟩) 1 1) rfl rfl HC2.out ?_; intro K hK; go_simp)
    go_ret
    exact ⟨_, rfl, HO.out.swap2.drop⟩
end Go.Proofs.YtjhogocabcdjbaaDoor
