/- waybillkeep.NamesChains -/
import Derived.Test.YtjhogocabcdjbaaDoorNmP
namespace Go.Proofs.YtjhogocabcdjbaaDoor
open Go Go.RowKit WB
def CLoop (w0 : World) (bw b6 b7 bm : Nat) (w : World) : Prop := ∃ ln m, CInv ln m ∧ St w0 [omap bm m, NmS b7 [], NmS b6 ln, blk bw (.cells wds.toArray 9 (0, 0))] w
theorem zeroNm (w : World) : (zeroValue 30).run Tryd.prog w = .ok (.agg #[.string ⟨#[]⟩, .string ⟨#[]⟩, .int .i64 0]) w := by kernel_rfl
set_option maxHeartbeats 4000000 in
set_option maxRecDepth 100000 in
theorem chains_any (w : World) (v : Value) (xs : List Nm) (turn : Int) (hin : NamesAt w v xs) (hg : ErrType w) :
    Calls Tryd.prog 3 #[v, .int .i64 turn] w fun e w' => e = .returned (.bool true) ∧ Below w.heap.size w w' := by
  obtain ⟨sa, cap, rfl, hc⟩ := hin
  have HX := Lib.hid hc
  generalize hN : xs.length = n at *
  have HN := Lib.hid hN
  have HI := Lib.hid (St.init w)
  by_cases hlen : n ≤ 40
  · clear hc hN
    have hmm := @run_makeMap Tryd.prog
    go_enter Tryd.func3, Tryd.ntmps3
    go_wp2_with fail
    refine (stands_any _).mono ?_
    rintro e w1 ⟨rfl, hb⟩
    have HS1 := Lib.hid (HI.out.below_step hb)
    clear hb
    go_wp2_with fail
    have hs2 := (((HS1.out.alloc (.cells wds.toArray 9)) |> NmS.mk) |> NmS.mk).omap_make
    have e1 : ∀ (w : World) (o : Obj), (w.alloc o).heap.size = w.heap.size + 1 := fun w o => by simp [World.alloc_eq]
    simp only [e1] at hs2
    change St w [omap (w1.heap.size + 1 + 1 + 1) [], NmS (w1.heap.size + 1 + 1) [], NmS (w1.heap.size + 1) [], blk w1.heap.size (.cells wds.toArray 9 (0, 0))] ((((w1.alloc (Obj.cells #[Value.string { data := #[97] }, Value.string { data := #[98] }, Value.string { data := #[99] }, Value.string { data := #[100] }, Value.string { data := #[101] }] 9)).alloc
                (Obj.cells #[Value.slice none 0 0] 26)).alloc (Obj.cells #[Value.slice none 0 0] 26)).alloc (.map #[] 0)) at hs2
    generalize ((((w1.alloc (Obj.cells #[Value.string { data := #[97] }, Value.string { data := #[98] }, Value.string { data := #[99] }, Value.string { data := #[100] }, Value.string { data := #[101] }] 9)).alloc
                (Obj.cells #[Value.slice none 0 0] 26)).alloc (Obj.cells #[Value.slice none 0 0] 26)).alloc (.map #[] 0)) = w2 at hs2 ⊢
    generalize w1.heap.size + 1 + 1 + 1 = bm at *
    generalize w1.heap.size + 1 + 1 = b7 at *
    generalize w1.heap.size + 1 = b6 at *
    generalize w1.heap.size = bw at *
    have HS2 := Lib.hid hs2
    clear hs2 e1
    go_loopw [9] (fun i wr => ∃ k : Nat, k ≤ n ∧ i = .int .i64 k ∧ CLoop w bw b6 b7 bm wr) (fun i _ => (n - (intOf i).toNat))
    case atStart => exact ⟨0, by omega, rfl, [], [], CInv.nil, HS2.out⟩
    case round =>
      obtain ⟨k, hk, rfl, ln, m, hci, hs3⟩ := hrel
      have HS3 := Lib.hid hs3
      have HQ := Lib.hid hci
      clear hci hs3
      by_cases hlt : k < n
      · obtain ⟨ad, rfl, d0, d1, d2⟩ := HX.out k hlt
        have hE : Ext w wr := Ext.of_below HS3.out.below
        have d0 := hE.cell d0
        have d1 := hE.cell d1
        have d2 := hE.cell d2
        clear hE
        generalize nmAt xs k = x at *
        obtain ⟨nm, t, hs⟩ := x
        have hwd : ∀ p, p < 5 → wr.cell? ⟨bw, p, none⟩ = some (.string (wd p)) := fun p hp => HS3.out.cellP (.tail (.tail (.tail .head))) (wds_at p hp)
        go_wp2_with fail
        refine wp_region_ord [.pure, .pure, .pure, .pure, .pure, .read, .pure, .pure, .pure, .pure, .pure, .read, .pure, .pure, .pure, .pure, .pure, .read, .pure, .pure, .pure, .pure, .pure, .pure, .read, .pure, .pure, .pure, .pure, .read, .pure, .pure, .pure, .keep, .write] (List.range 35) (by kernel_rfl) (by kernel_rfl) ?_
        rw [show List.range 35 = [0, 1, 2, 3, 4, 5, 6, 7, 8, 9, 10, 11, 12, 13, 14, 15, 16, 17, 18, 19, 20, 21, 22, 23, 24, 25, 26, 27, 28, 29, 30, 31, 32, 33, 34] from rfl]
        simp only [List.map_cons, List.map_nil, item, List.getD_cons_zero, List.getD_cons_succ]
        repeat ((with_reducible refine vcL_pure (v := ?_) (a' := ?_) ?_ ?_ ?_ ?_); rotate_left 2; (rfl); ((intro w'; go_simp; (try (go_bits; (try go_simp); (try (go_bits; (try go_simp))))); (repeat (first | rewrite [if_pos (by omega)] | rewrite [if_neg (by omega)]))) <;> rfl); (go_simp; rfl))
        refine vcL_ld1 (a' := ?_) (v := .string nm) (ad := ad.add (k * 3)) rfl rfl (fun _ => by simp) d0 ?_ ?_
        rotate_left 1
        · go_simp; rfl
        repeat ((with_reducible refine vcL_pure (v := ?_) (a' := ?_) ?_ ?_ ?_ ?_); rotate_left 2; (rfl); ((intro w'; go_simp; (try (go_bits; (try go_simp); (try (go_bits; (try go_simp))))); (repeat (first | rewrite [if_pos (by omega)] | rewrite [if_neg (by omega)]))) <;> rfl); (go_simp; rfl))
        ((with_reducible refine vcL_pick (x := ?_) (a' := ?_) 5 ?_ ?_ (by decide) (by decide) ?_ ?_); rotate_left 1; (rfl); (intro w'; go_simp; rfl); rotate_left 1; (intro p; go_simp; rfl))
        intro p1 hp1
        have hp1 : p1 < 5 := by omega
        repeat ((with_reducible refine vcL_pure (v := ?_) (a' := ?_) ?_ ?_ ?_ ?_); rotate_left 2; (rfl); ((intro w'; go_simp; (try (go_bits; (try go_simp); (try (go_bits; (try go_simp))))); (repeat (first | rewrite [if_pos (by omega)] | rewrite [if_neg (by omega)]))) <;> rfl); (go_simp; rfl))
        refine vcL_ld1 (a' := ?_) (v := .string (wd p1)) (ad := ⟨bw, p1, none⟩) rfl rfl (fun _ => by simp) (hwd p1 hp1) ?_ ?_
        rotate_left 1
        · go_simp; rfl
        repeat ((with_reducible refine vcL_pure (v := ?_) (a' := ?_) ?_ ?_ ?_ ?_); rotate_left 2; (rfl); ((intro w'; go_simp; (try (go_bits; (try go_simp); (try (go_bits; (try go_simp))))); (repeat (first | rewrite [if_pos (by omega)] | rewrite [if_neg (by omega)]))) <;> rfl); (go_simp; rfl))
        refine vcL_ld1 (a' := ?_) (v := .string t) (ad := (ad.add (k * 3)).add 1) rfl rfl (fun _ => by simp) d1 ?_ ?_
        rotate_left 1
        · go_simp; rfl
        repeat ((with_reducible refine vcL_pure (v := ?_) (a' := ?_) ?_ ?_ ?_ ?_); rotate_left 2; (rfl); ((intro w'; go_simp; (try (go_bits; (try go_simp); (try (go_bits; (try go_simp))))); (repeat (first | rewrite [if_pos (by omega)] | rewrite [if_neg (by omega)]))) <;> rfl); (go_simp; rfl))
        ((with_reducible refine vcL_pick (x := ?_) (a' := ?_) 5 ?_ ?_ (by decide) (by decide) ?_ ?_); rotate_left 1; (rfl); (intro w'; go_simp; rfl); rotate_left 1; (intro p; go_simp; rfl))
        intro p2 hp2
        have hp2 : p2 < 5 := by omega
        repeat ((with_reducible refine vcL_pure (v := ?_) (a' := ?_) ?_ ?_ ?_ ?_); rotate_left 2; (rfl); ((intro w'; go_simp; (try (go_bits; (try go_simp); (try (go_bits; (try go_simp))))); (repeat (first | rewrite [if_pos (by omega)] | rewrite [if_neg (by omega)]))) <;> rfl); (go_simp; rfl))
        refine vcL_ld1 (a' := ?_) (v := .string (wd p2)) (ad := ⟨bw, p2, none⟩) rfl rfl (fun _ => by simp) (hwd p2 hp2) ?_ ?_
        rotate_left 1
        · go_simp; rfl
        repeat ((with_reducible refine vcL_pure (v := ?_) (a' := ?_) ?_ ?_ ?_ ?_); rotate_left 2; (rfl); ((intro w'; go_simp; (try (go_bits; (try go_simp); (try (go_bits; (try go_simp))))); (repeat (first | rewrite [if_pos (by omega)] | rewrite [if_neg (by omega)]))) <;> rfl); (go_simp; rfl))
        refine vcL_ld1 (a' := ?_) (v := .int .i64 hs) (ad := (ad.add (k * 3)).add 2) rfl rfl (fun _ => by simp) d2 ?_ ?_
        rotate_left 1
        · go_simp; rfl
        repeat ((with_reducible refine vcL_pure (v := ?_) (a' := ?_) ?_ ?_ ?_ ?_); rotate_left 2; (rfl); ((intro w'; go_simp; (try (go_bits; (try go_simp); (try (go_bits; (try go_simp))))); (repeat (first | rewrite [if_pos (by omega)] | rewrite [if_neg (by omega)]))) <;> rfl); (go_simp; rfl))
        ((with_reducible refine vcL_pick (x := ?_) (a' := ?_) 6 ?_ ?_ (by decide) (by decide) ?_ ?_); rotate_left 1; (rfl); (intro w'; go_simp; rfl); rotate_left 1; (intro p; go_simp; rfl))
        intro p3 hp3
        repeat ((with_reducible refine vcL_pure (v := ?_) (a' := ?_) ?_ ?_ ?_ ?_); rotate_left 2; (rfl); ((intro w'; go_simp; (try (go_bits; (try go_simp); (try (go_bits; (try go_simp))))); (repeat (first | rewrite [if_pos (by omega)] | rewrite [if_neg (by omega)]))) <;> rfl); (go_simp; rfl))
        refine vcL_keepRun (a' := ?_) (v := .pointer (some ⟨wr.heap.size, 0, none⟩)) (w' := (wr.alloc (.cells #[.string ⟨#[]⟩, .string ⟨#[]⟩, .int .i64 0] 30)).drew) rfl ?_ ?_ ?_ ?_
        rotate_left 1
        · go_simp
        · exact Ext.alloc wr _
        · go_simp; rfl
        obtain ⟨hh, hhe⟩ : ∃ hh : Int, hh = (p3 : Int) - 2 := ⟨_, rfl⟩
        obtain ⟨w4, hst4, hs4, hz4⟩ := (HS3.out.alloc (.cells #[.string ⟨#[]⟩, .string ⟨#[]⟩, .int .i64 0] 30)).drew.store_all (P := Tryd.prog) (T := 30) #[.string (wd p1), .string (wd p2), .int .i64 hh] rfl (by simp) (by simp; exact ⟨rfl, rfl, rfl⟩)
        rw [hhe] at hst4
        refine vcL_writeSkip (a' := ?_) (w' := w4) rfl (exec_store rfl rfl hst4) ?_ ?_
        rotate_left 1
        · go_simp; rfl
        refine vcL_nil ?_
        rw [← hhe]
        have HS4 := Lib.hid hs4
        clear hst4 hz4 hs4 d0 d1 d2 hwd
        have hh1 : -2 ≤ hh ∧ hh ≤ 3 := by omega
        clear hhe
        generalize wr.heap.size = bx at *
        have c0 : w4.cell? ⟨bx, 0, none⟩ = some (.string (wd p1)) := HS4.out.cell rfl
        have c1 : w4.cell? ⟨bx, 1, none⟩ = some (.string (wd p2)) := HS4.out.cell rfl
        have c2 : w4.cell? ⟨bx, 2, none⟩ = some (.int .i64 hh) := HS4.out.cell rfl
        by_cases hneg : hh < -1
        · have HX1 := Lib.hid (right_one hp1)
          have hneg2 : decide (hh < -1) = true := by simpa using hneg
          go_wp2_with (refine wpL_store rfl _ _ _ rfl HS4.out rfl _ rfl rfl (by simp) (by simp; exact ⟨rfl, rfl, rfl⟩) ?_; intro w5 hs5 hz5; have e0 : w5.cell? ⟨bx, 0, none⟩ = some (.string (wd p1)) := hs5.cell rfl; have e1 : w5.cell? ⟨bx, 1, none⟩ = some (.string ⟨#[]⟩) := hs5.cell rfl; have e2 : w5.cell? ⟨bx, 2, none⟩ = some (.int .i64 (-1)) := hs5.cell rfl; have HS5 := Lib.hid hs5; clear hs5 hz5)
          refine (nset ⟨wd p1, ⟨#[]⟩, -1⟩ (HS5.out.pick (.tail (.tail (.tail .head)))) HQ.out.sorted HX1.out (right_sizes HX1.out).1 (right_sizes HX1.out).2 (by have := HQ.out.len; omega)).mono ?_
          rintro e w6 ⟨rfl, hs6⟩
          have f0 : w6.cell? ⟨bx, 0, none⟩ = some (.string (wd p1)) := hs6.cellP (.tail .head) rfl
          have f1 : w6.cell? ⟨bx, 1, none⟩ = some (.string ⟨#[]⟩) := hs6.cellP (.tail .head) rfl
          have f2 : w6.cell? ⟨bx, 2, none⟩ = some (.int .i64 (-1)) := hs6.cellP (.tail .head) rfl
          have HS6 := Lib.hid (hs6.pick (.tail (.tail .head)))
          clear hs6
          go_wp2_with (at_mapUpdate; refine wpL_mapUpdate rfl _ _ _ _ rfl Tryd.underlying27 Tryd.underlying9 rfl HS6.out _ _ rfl rfl ?_; intro w7 hs7 hz7)
          go_roundw
          case rel => exact ⟨k + 1, by omega, by go_num, _, _, HQ.out.step (x := ⟨wd p1, ⟨#[]⟩, -1⟩) (wd_mem p1 hp1) HX1.out, ((hs7.pick (.tail (.tail .head))).drop.pick (.tail (.tail .head))).pick (.tail .head)⟩
          case measure => simp [intOf]; omega
        · have HX1 := Lib.hid (right_two hp1 hp2 (k := hh) (by omega) (by omega))
          have hneg2 : decide (hh < -1) = false := by simpa using hneg
          go_wp2_with fail
          refine (nset ⟨wd p1, wd p2, hh⟩ (HS4.out.pick (.tail (.tail (.tail .head)))) HQ.out.sorted HX1.out (right_sizes HX1.out).1 (right_sizes HX1.out).2 (by have := HQ.out.len; omega)).mono ?_
          rintro e w6 ⟨rfl, hs6⟩
          have f0 : w6.cell? ⟨bx, 0, none⟩ = some (.string (wd p1)) := hs6.cellP (.tail .head) rfl
          have f1 : w6.cell? ⟨bx, 1, none⟩ = some (.string (wd p2)) := hs6.cellP (.tail .head) rfl
          have f2 : w6.cell? ⟨bx, 2, none⟩ = some (.int .i64 hh) := hs6.cellP (.tail .head) rfl
          have HS6 := Lib.hid (hs6.pick (.tail (.tail .head)))
          clear hs6
          go_wp2_with (at_mapUpdate; refine wpL_mapUpdate rfl _ _ _ _ rfl Tryd.underlying27 Tryd.underlying9 rfl HS6.out _ _ rfl rfl ?_; intro w7 hs7 hz7)
          go_roundw
          case rel => exact ⟨k + 1, by omega, by go_num, _, _, HQ.out.step (x := ⟨wd p1, wd p2, hh⟩) (wd_mem p1 hp1) HX1.out, ((hs7.pick (.tail (.tail .head))).drop.pick (.tail (.tail .head))).pick (.tail .head)⟩
          case measure => simp [intOf]; omega
      · go_wp2_with fail
        obtain ⟨t0, ht0, ht5⟩ : ∃ t : Nat, (t : Int) < 5 ∧ pk turn 5 = t := by
          have h := pk_lt turn (n := 5) (by omega)
          obtain ⟨t, ht⟩ := Int.eq_ofNat_of_zero_le h.1
          exact ⟨t, by omega, ht⟩
        go_loopw [11] (fun i wr => ∃ j : Nat, j ≤ 5 ∧ i = .int .i64 j ∧ ∃ lm, DInv ln lm (fun s => ∃ i, i < j ∧ s = wd ((i + t0) % 5)) ∧ St w [omap bm m, NmS b7 lm, NmS b6 ln, blk bw (.cells wds.toArray 9 (0, 0))] wr) (fun i _ => (5 - (intOf i).toNat))
        case atStart => exact ⟨0, by omega, rfl, [], (DInv.nil ln).weak (by rintro s ⟨i, hi, _⟩; omega), HS3.out⟩
        case round =>
          obtain ⟨j, hj, rfl, lm, hd, hs4⟩ := hrel
          have HS4 := Lib.hid hs4
          have HD := Lib.hid hd
          clear hs4 hd
          by_cases hjt : j < 5
          · obtain ⟨q, hqe⟩ : ∃ q, q = (j + t0) % 5 := ⟨_, rfl⟩
            have hq5 : q < 5 := by omega
            have hwd : wr.cell? ⟨bw, (j + t0) % 5, none⟩ = some (.string (wd q)) := by rw [← hqe]; exact HS4.out.cellP (.tail (.tail (.tail .head))) (wds_at q hq5)
            have HQ5 := Lib.hid hq5
            have HQE := Lib.hid hqe
            clear hqe hq5
            cases hlk : lk ln (wd q) with
            | none =>
              have HL := Lib.hid hlk
              have HG := Lib.hid (show getA m (wd q) = none by rw [HQ.out.map, hlk]; rfl)
              clear hlk
              go_wp2_with fail
              refine (pick_any turn 5 _ (by decide) (by decide)).mono ?_
              rintro e w5 ⟨rfl, rfl⟩
              rw [ht5]
              go_wp2_with (at_lookup; refine wpL_lookup rfl _ _ _ rfl Tryd.underlying27 Tryd.underlying9 (zeroNm _) rfl HS4.out _ rfl ?_; rw [HG.out])
              go_roundw
              case rel => exact ⟨j + 1, by omega, by go_num, lm, HD.out.skip HQ.out.sorted HL.out (by rw [HQE.out]; exact done_step j t0), (HS4.out.alloc _).drop⟩
              case measure => simp [intOf]; omega
            | some x =>
              obtain ⟨nm, t, hs⟩ := x
              have HR := Lib.hid (HQ.out.right _ (lk_some hlk).1)
              have HNM := Lib.hid (show nm = wd q from (lk_some hlk).2)
              have HL := Lib.hid (show lk ln nm = some ⟨nm, t, hs⟩ by have e : nm = wd q := HNM.out; rw [← e] at hlk; exact hlk)
              have HG := Lib.hid (show getA m (wd q) = some (.agg #[.string nm, .string t, .int .i64 hs]) by rw [HQ.out.map, hlk]; rfl)
              clear hlk
              go_wp2_with fail
              refine (pick_any turn 5 _ (by decide) (by decide)).mono ?_
              rintro e w5 ⟨rfl, rfl⟩
              rw [ht5]
              go_wp2_with (at_lookup; refine wpL_lookup rfl _ _ _ rfl Tryd.underlying27 Tryd.underlying9 (zeroNm _) rfl HS4.out _ rfl ?_; rw [HG.out])
              have hs5 := (HS4.out.alloc (.cells #[.string nm, .string t, .int .i64 hs] 30)).pick (.tail (.tail .head))
              refine (nset ⟨nm, t, hs⟩ hs5 HD.out.sorted HR.out (right_sizes HR.out).1 (right_sizes HR.out).2 (by have := HD.out.words HQ.out; omega)).mono ?_
              rintro e w6 ⟨rfl, hs6⟩
              have HS6 := Lib.hid hs6
              clear hs6
              go_wp2_with fail
              go_roundw
              case rel => exact ⟨j + 1, by omega, by go_num, _, HD.out.put HL.out (by show ∀ s, _ → s = nm ∨ _; rw [HNM.out, HQE.out]; exact done_step j t0), (HS6.out.pick (.tail .head)).drop.pick (.tail .head)⟩
              case measure => simp [intOf]; omega
          · obtain rfl : j = 5 := by omega
            have heq : lm = ln := HD.out.all HQ.out fun s hs => by
              obtain ⟨p, hp, rfl⟩ := mem_wd hs
              refine ⟨(p + (5 - t0)) % 5, by omega, ?_⟩
              rw [show ((p + (5 - t0)) % 5 + t0) % 5 = p by omega]
            subst heq
            go_wp2_with fail
            have HG := Lib.hid (show wr.cell? _ = _ from (Ext.of_below HS4.out.below).cell hg)
            go_loopw [14] (fun i wr => ∃ j : Nat, j ≤ 5 ∧ i = .int .i64 j ∧ St w [omap bm m, NmS b7 lm, NmS b6 lm, blk bw (.cells wds.toArray 9 (0, 0))] wr) (fun i _ => (5 - (intOf i).toNat))
            case atStart => exact ⟨0, by omega, rfl, HS4.out⟩
            case round =>
            clear HG HS4 HD
            obtain ⟨j, hj, rfl, hs4⟩ := hrel
            have HS4 := Lib.hid hs4
            have HG := Lib.hid (show wr.cell? _ = _ from (Ext.of_below hs4.below).cell hg)
            clear hs4
            by_cases hjt : j < 5
            · have hwd : wr.cell? ⟨bw, j, none⟩ = some (.string (wd j)) := HS4.out.cellP (.tail (.tail (.tail .head))) (wds_at j hjt)
              cases hlk : lk lm (wd j) with
              | none =>
              have HA := Lib.hid (show getA m (wd j) = none by rw [HQ.out.map, hlk]; rfl)
              have HR := Lib.hid (show resN lm (lm.length + 1) (wd j) = (⟨#[]⟩, 0, 7) from resN_none (by rw [look_sorted HQ.out.sorted, hlk]) _)
              have EV := Lib.hid (show errV 37 7 = .iface 37 (.int .i64 7) from rfl)
              have TELL := fun w hg => tell_errno 7 w hg
              clear hlk
              have c5 := HQ.out.len
              go_wp2_with fail
              refine (nres_is (wd j) (HS4.out.pick (.tail (.tail .head))) HQ.out.sorted (by omega) HR.out).mono ?_
              rintro e w5 ⟨rfl, hb5⟩
              have HS5 := Lib.hid (HS4.out.below_step hb5)
              have hwd5 := (Ext.of_below hb5).cell hwd
              have hg5 := (Ext.of_below hb5).cell HG.out
              clear hb5
              rw [EV.out]
              go_wp2_with fail
              refine (nres_is (wd j) (HS5.out.pick (.tail .head)) HQ.out.sorted (by omega) HR.out).mono ?_
              rintro e w6 ⟨rfl, hb6⟩
              have HS6 := Lib.hid (HS5.out.below_step hb6)
              have hwd6 := (Ext.of_below hb6).cell hwd5
              have hg6 := (Ext.of_below hb6).cell hg5
              clear hb6
              rw [EV.out]
              go_wp2_with fail
              refine (TELL _ hg6).mono ?_
              rintro e w7 ⟨rfl, hb7⟩
              have HS7 := Lib.hid (HS6.out.below_step hb7)
              have hwd7 := (Ext.of_below hb7).cell hwd6
              have hg7 := (Ext.of_below hb7).cell hg6
              clear hb7
              go_wp2_with fail
              refine (TELL _ hg7).mono ?_
              rintro e w8 ⟨rfl, hb8⟩
              have HS8 := Lib.hid (HS7.out.below_step hb8)
              have hwd8 := (Ext.of_below hb8).cell hwd7
              have hg8 := (Ext.of_below hb8).cell hg7
              clear hb8
              clear hwd hwd5 hwd6 hwd7 hg5 hg6 hg7
              go_wp2_with (at_lookup; refine wpL_lookup rfl _ _ _ rfl Tryd.underlying27 Tryd.underlying9 (zeroNm _) rfl HS8.out _ rfl ?_; rw [HA.out])
              refine (TELL _ (((Ext.alloc w8 _).trans (Ext.refl _)).cell hg8)).mono ?_
              rintro e w9 ⟨rfl, hb9⟩
              have HS9 := Lib.hid (((HS8.out.alloc _).below_step hb9).drop)
              clear hb9
              go_wp2_with fail
              refine ⟨?_, ?measure⟩
              repeat apply Exists.intro
              refine ⟨?rel, rfl⟩
              case rel => exact ⟨j + 1, by omega, by go_num, HS9.out⟩
              case measure => simp [intOf]; omega
              | some x =>
              obtain ⟨nm, t, hs⟩ := x
              have HL := Lib.hid (show WB.look lm (wd j) = some ⟨nm, t, hs⟩ by rw [look_sorted HQ.out.sorted, hlk])
              have HA := Lib.hid (show getA m (wd j) = some (.agg #[.string nm, .string t, .int .i64 hs]) by rw [HQ.out.map, hlk]; rfl)
              clear hlk
              cases he : emptyB t with
              | true =>
              have he1 : t.toList.isEmpty = true := he
              have he2 : t.toList = [] := by simpa [emptyB] using he
              have HLB := Lib.hid (show localB lm (wd j) = true by simp [localB, HL.out, he])
              have HR := Lib.hid (show resN lm (lm.length + 1) (wd j) = (wd j, -1, 0) by rw [resN, HL.out]; simp [he])
              have EV := Lib.hid (show errV 37 0 = .nilIface from rfl)
              have TELL := fun w (_ : w.cell? ⟨0, 0, none⟩ = some (.iface 160 (.agg #[.pointer (some ⟨9, 32, none⟩)]))) => tell_nil w
              clear he
              have c5 := HQ.out.len
              go_wp2_with fail
              refine (nres_is (wd j) (HS4.out.pick (.tail (.tail .head))) HQ.out.sorted (by omega) HR.out).mono ?_
              rintro e w5 ⟨rfl, hb5⟩
              have HS5 := Lib.hid (HS4.out.below_step hb5)
              have hwd5 := (Ext.of_below hb5).cell hwd
              have hg5 := (Ext.of_below hb5).cell HG.out
              clear hb5
              rw [EV.out]
              go_wp2_with fail
              refine (nres_is (wd j) (HS5.out.pick (.tail .head)) HQ.out.sorted (by omega) HR.out).mono ?_
              rintro e w6 ⟨rfl, hb6⟩
              have HS6 := Lib.hid (HS5.out.below_step hb6)
              have hwd6 := (Ext.of_below hb6).cell hwd5
              have hg6 := (Ext.of_below hb6).cell hg5
              clear hb6
              rw [EV.out]
              go_wp2_with fail
              refine (TELL _ hg6).mono ?_
              rintro e w7 ⟨rfl, hb7⟩
              have HS7 := Lib.hid (HS6.out.below_step hb7)
              have hwd7 := (Ext.of_below hb7).cell hwd6
              have hg7 := (Ext.of_below hb7).cell hg6
              clear hb7
              go_wp2_with fail
              refine (TELL _ hg7).mono ?_
              rintro e w8 ⟨rfl, hb8⟩
              have HS8 := Lib.hid (HS7.out.below_step hb8)
              have hwd8 := (Ext.of_below hb8).cell hwd7
              have hg8 := (Ext.of_below hb8).cell hg7
              clear hb8
              clear hwd hwd5 hwd6 hwd7 hg5 hg6 hg7
              go_wp2_with (at_lookup; refine wpL_lookup rfl _ _ _ rfl Tryd.underlying27 Tryd.underlying9 (zeroNm _) rfl HS8.out _ rfl ?_; rw [HA.out])
              refine wp_region_ord [.pure, .pure, .pure, .read, .keep, .pure, .read, .pure, .pure] [0, 1, 2, 3, 5, 6, 7, 4, 8] (by kernel_rfl) (by kernel_rfl) ?_
              simp only [List.map_cons, List.map_nil, item, List.getD_cons_zero, List.getD_cons_succ]
              have hs9 := (HS8.out.alloc (.cells #[.string nm, .string t, .int .i64 hs] 30)).drew
              have HS9 := Lib.hid hs9
              have hwd9 : (w8.alloc (.cells #[.string nm, .string t, .int .i64 hs] 30)).drew.cell? ⟨bw, j, none⟩ = some (.string (wd j)) := hs9.cellP (.tail (.tail (.tail (.tail .head)))) (wds_at j hjt)
              have d1 : (w8.alloc (.cells #[.string nm, .string t, .int .i64 hs] 30)).drew.cell? ⟨w8.heap.size, 1, none⟩ = some (.string t) := hs9.cell rfl
              clear hs9
              repeat ((with_reducible refine vcL_pure (v := ?_) (a' := ?_) ?_ ?_ ?_ ?_); rotate_left 2; (rfl); ((intro w'; go_simp; (try (go_bits; (try go_simp); (try (go_bits; (try go_simp))))); (repeat (first | rewrite [if_pos (by omega)] | rewrite [if_neg (by omega)]))) <;> rfl); (go_simp; rfl))
              refine vcL_ld1 (a' := ?_) (v := .string (wd j)) (ad := ⟨bw, j, none⟩) rfl rfl (fun _ => by simp) hwd9 ?_ ?_
              rotate_left 1
              · go_simp; rfl
              repeat ((with_reducible refine vcL_pure (v := ?_) (a' := ?_) ?_ ?_ ?_ ?_); rotate_left 2; (rfl); ((intro w'; go_simp; (try (go_bits; (try go_simp); (try (go_bits; (try go_simp))))); (repeat (first | rewrite [if_pos (by omega)] | rewrite [if_neg (by omega)]))) <;> rfl); (go_simp; rfl))
              refine vcL_ld1 (a' := ?_) (v := .string t) (ad := ⟨w8.heap.size, 1, none⟩) rfl rfl (fun _ => by simp) d1 ?_ ?_
              rotate_left 1
              · go_simp; rfl
              repeat ((with_reducible refine vcL_pure (v := ?_) (a' := ?_) ?_ ?_ ?_ ?_); rotate_left 2; (rfl); ((intro w'; go_simp; (try (go_bits; (try go_simp); (try (go_bits; (try go_simp))))); (repeat (first | rewrite [if_pos (by omega)] | rewrite [if_neg (by omega)]))) <;> rfl); (go_simp; rfl))
              refine vcL_keepCall rfl (f := 14) (args := #[.pointer (some ⟨b6, 0, none⟩), .string (wd j)]) (w' := (w8.alloc (.cells #[.string nm, .string t, .int .i64 hs] 30)).drew) ?_ (nloc (wd j) (HS9.out.pick (.tail (.tail (.tail .head)))) HQ.out.sorted (by omega)) ?_
              · go_simp
              rintro e w10 ⟨rfl, hb10⟩
              refine ⟨_, rfl, Ext.of_below hb10, ?_⟩
              have HS10 := Lib.hid (HS9.out.below_step hb10)
              have hg10 := (Ext.of_below hb10).cell (((Ext.alloc w8 (.cells #[.string nm, .string t, .int .i64 hs] 30)).trans (Ext.drew _)).cell hg8)
              have d10 := (Ext.of_below hb10).cell d1
              have d20 : w10.cell? ⟨w8.heap.size, 2, none⟩ = some (.int .i64 hs) := HS10.out.cell rfl
              clear hb10
              rw [HLB.out]
              go_simp
              repeat ((with_reducible refine vcL_pure (v := ?_) (a' := ?_) ?_ ?_ ?_ ?_); rotate_left 2; (rfl); ((intro w'; go_simp; (try (go_bits; (try go_simp); (try (go_bits; (try go_simp))))); (repeat (first | rewrite [if_pos (by omega)] | rewrite [if_neg (by omega)]))) <;> rfl); (go_simp; rfl))
              refine vcL_nil ?_
              go_wp2_with fail
              refine (nloc (wd j) (HS10.out.pick (.tail (.tail (.tail .head)))) HQ.out.sorted (by omega)).mono ?_
              rintro e w11 ⟨rfl, hb11⟩
              rw [HLB.out]
              have HS11 := Lib.hid (HS10.out.below_step hb11)
              clear hb11
              go_wp2_with fail
              refine ⟨?_, ?measure⟩
              repeat apply Exists.intro
              refine ⟨?rel, rfl⟩
              case rel => exact ⟨j + 1, by omega, by go_num, HS11.out.drop⟩
              case measure => simp [intOf]; omega
              | false =>
              have he1 : t.toList.isEmpty = false := he
              have he2 : (t.toList == []) = false := by simpa [emptyB] using he
              have HLB := Lib.hid (show localB lm (wd j) = false by simp [localB, HL.out, he])
              by_cases hh : 0 ≤ hs
              · have hd : decide (hs < 0) = false := by simpa using hh
                have HR := Lib.hid (show resN lm (lm.length + 1) (wd j) = (t, hs, 0) by rw [resN, HL.out]; simp [he, hh])
                clear he hh
                have EV := Lib.hid (show errV 37 0 = .nilIface from rfl)
                have TELL := fun w (_ : w.cell? ⟨0, 0, none⟩ = some (.iface 160 (.agg #[.pointer (some ⟨9, 32, none⟩)]))) => tell_nil w
                have c5 := HQ.out.len
                go_wp2_with fail
                refine (nres_is (wd j) (HS4.out.pick (.tail (.tail .head))) HQ.out.sorted (by omega) HR.out).mono ?_
                rintro e w5 ⟨rfl, hb5⟩
                have HS5 := Lib.hid (HS4.out.below_step hb5)
                have hwd5 := (Ext.of_below hb5).cell hwd
                have hg5 := (Ext.of_below hb5).cell HG.out
                clear hb5
                rw [EV.out]
                go_wp2_with fail
                refine (nres_is (wd j) (HS5.out.pick (.tail .head)) HQ.out.sorted (by omega) HR.out).mono ?_
                rintro e w6 ⟨rfl, hb6⟩
                have HS6 := Lib.hid (HS5.out.below_step hb6)
                have hwd6 := (Ext.of_below hb6).cell hwd5
                have hg6 := (Ext.of_below hb6).cell hg5
                clear hb6
                rw [EV.out]
                go_wp2_with fail
                refine (TELL _ hg6).mono ?_
                rintro e w7 ⟨rfl, hb7⟩
                have HS7 := Lib.hid (HS6.out.below_step hb7)
                have hwd7 := (Ext.of_below hb7).cell hwd6
                have hg7 := (Ext.of_below hb7).cell hg6
                clear hb7
                go_wp2_with fail
                refine (TELL _ hg7).mono ?_
                rintro e w8 ⟨rfl, hb8⟩
                have HS8 := Lib.hid (HS7.out.below_step hb8)
                have hwd8 := (Ext.of_below hb8).cell hwd7
                have hg8 := (Ext.of_below hb8).cell hg7
                clear hb8
                clear hwd hwd5 hwd6 hwd7 hg5 hg6 hg7
                go_wp2_with (at_lookup; refine wpL_lookup rfl _ _ _ rfl Tryd.underlying27 Tryd.underlying9 (zeroNm _) rfl HS8.out _ rfl ?_; rw [HA.out])
                refine wp_region_ord [.pure, .pure, .pure, .read, .keep, .pure, .read, .pure, .pure] [0, 1, 2, 3, 5, 6, 7, 4, 8] (by kernel_rfl) (by kernel_rfl) ?_
                simp only [List.map_cons, List.map_nil, item, List.getD_cons_zero, List.getD_cons_succ]
                have hs9 := (HS8.out.alloc (.cells #[.string nm, .string t, .int .i64 hs] 30)).drew
                have HS9 := Lib.hid hs9
                have hwd9 : (w8.alloc (.cells #[.string nm, .string t, .int .i64 hs] 30)).drew.cell? ⟨bw, j, none⟩ = some (.string (wd j)) := hs9.cellP (.tail (.tail (.tail (.tail .head)))) (wds_at j hjt)
                have d1 : (w8.alloc (.cells #[.string nm, .string t, .int .i64 hs] 30)).drew.cell? ⟨w8.heap.size, 1, none⟩ = some (.string t) := hs9.cell rfl
                clear hs9
                repeat ((with_reducible refine vcL_pure (v := ?_) (a' := ?_) ?_ ?_ ?_ ?_); rotate_left 2; (rfl); ((intro w'; go_simp; (try (go_bits; (try go_simp); (try (go_bits; (try go_simp))))); (repeat (first | rewrite [if_pos (by omega)] | rewrite [if_neg (by omega)]))) <;> rfl); (go_simp; rfl))
                refine vcL_ld1 (a' := ?_) (v := .string (wd j)) (ad := ⟨bw, j, none⟩) rfl rfl (fun _ => by simp) hwd9 ?_ ?_
                rotate_left 1
                · go_simp; rfl
                repeat ((with_reducible refine vcL_pure (v := ?_) (a' := ?_) ?_ ?_ ?_ ?_); rotate_left 2; (rfl); ((intro w'; go_simp; (try (go_bits; (try go_simp); (try (go_bits; (try go_simp))))); (repeat (first | rewrite [if_pos (by omega)] | rewrite [if_neg (by omega)]))) <;> rfl); (go_simp; rfl))
                refine vcL_ld1 (a' := ?_) (v := .string t) (ad := ⟨w8.heap.size, 1, none⟩) rfl rfl (fun _ => by simp) d1 ?_ ?_
                rotate_left 1
                · go_simp; rfl
                repeat ((with_reducible refine vcL_pure (v := ?_) (a' := ?_) ?_ ?_ ?_ ?_); rotate_left 2; (rfl); ((intro w'; go_simp; (try (go_bits; (try go_simp); (try (go_bits; (try go_simp))))); (repeat (first | rewrite [if_pos (by omega)] | rewrite [if_neg (by omega)]))) <;> rfl); (go_simp; rfl))
                refine vcL_keepCall rfl (f := 14) (args := #[.pointer (some ⟨b6, 0, none⟩), .string (wd j)]) (w' := (w8.alloc (.cells #[.string nm, .string t, .int .i64 hs] 30)).drew) ?_ (nloc (wd j) (HS9.out.pick (.tail (.tail (.tail .head)))) HQ.out.sorted (by omega)) ?_
                · go_simp
                rintro e w10 ⟨rfl, hb10⟩
                refine ⟨_, rfl, Ext.of_below hb10, ?_⟩
                have HS10 := Lib.hid (HS9.out.below_step hb10)
                have hg10 := (Ext.of_below hb10).cell (((Ext.alloc w8 (.cells #[.string nm, .string t, .int .i64 hs] 30)).trans (Ext.drew _)).cell hg8)
                have d10 := (Ext.of_below hb10).cell d1
                have d20 : w10.cell? ⟨w8.heap.size, 2, none⟩ = some (.int .i64 hs) := HS10.out.cell rfl
                clear hb10
                rw [HLB.out]
                go_simp
                repeat ((with_reducible refine vcL_pure (v := ?_) (a' := ?_) ?_ ?_ ?_ ?_); rotate_left 2; (rfl); ((intro w'; go_simp; (try (go_bits; (try go_simp); (try (go_bits; (try go_simp))))); (repeat (first | rewrite [if_pos (by omega)] | rewrite [if_neg (by omega)]))) <;> rfl); (go_simp; rfl))
                refine vcL_nil ?_
                go_wp2_with fail
                refine ⟨?_, ?measure⟩
                repeat apply Exists.intro
                refine ⟨?rel, rfl⟩
                case rel => exact ⟨j + 1, by omega, by go_num, HS10.out.drop⟩
                case measure => simp [intOf]; omega
              · have hd : decide (hs < 0) = true := by simpa using hh
                obtain ⟨⟨t2, k2, c2⟩, hR2⟩ : ∃ r, resN lm (lm.length + 1) t = r := ⟨_, rfl⟩
                have HR2 := Lib.hid hR2
                clear hR2
                have hnx : nxt lm (wd j) = some t := by simp [nxt, HL.out, he, hh]
                have HR := Lib.hid (show resN lm (lm.length + 1) (wd j) = (t2, k2, c2) by rw [resN_nxt hnx, resN_fewer hnx]; exact HR2.out)
                clear he hh hnx
                by_cases hc : c2 = 0
                · subst hc
                  by_cases hk2 : k2 < 0
                  · have HLT := Lib.hid (resN_local HR2.out hk2)
                    have hk3 : decide (k2 < 0) = true := by simpa using hk2
                    clear hk2

                    have EV := Lib.hid (show errV 37 0 = .nilIface from rfl)
                    have TELL := fun w (_ : w.cell? ⟨0, 0, none⟩ = some (.iface 160 (.agg #[.pointer (some ⟨9, 32, none⟩)]))) => tell_nil w
                    have c5 := HQ.out.len
                    go_wp2_with fail
                    refine (nres_is (wd j) (HS4.out.pick (.tail (.tail .head))) HQ.out.sorted (by omega) HR.out).mono ?_
                    rintro e w5 ⟨rfl, hb5⟩
                    have HS5 := Lib.hid (HS4.out.below_step hb5)
                    have hwd5 := (Ext.of_below hb5).cell hwd
                    have hg5 := (Ext.of_below hb5).cell HG.out
                    clear hb5
                    rw [EV.out]
                    go_wp2_with fail
                    refine (nres_is (wd j) (HS5.out.pick (.tail .head)) HQ.out.sorted (by omega) HR.out).mono ?_
                    rintro e w6 ⟨rfl, hb6⟩
                    have HS6 := Lib.hid (HS5.out.below_step hb6)
                    have hwd6 := (Ext.of_below hb6).cell hwd5
                    have hg6 := (Ext.of_below hb6).cell hg5
                    clear hb6
                    rw [EV.out]
                    go_wp2_with fail
                    refine (TELL _ hg6).mono ?_
                    rintro e w7 ⟨rfl, hb7⟩
                    have HS7 := Lib.hid (HS6.out.below_step hb7)
                    have hwd7 := (Ext.of_below hb7).cell hwd6
                    have hg7 := (Ext.of_below hb7).cell hg6
                    clear hb7
                    go_wp2_with fail
                    refine (TELL _ hg7).mono ?_
                    rintro e w8 ⟨rfl, hb8⟩
                    have HS8 := Lib.hid (HS7.out.below_step hb8)
                    have hwd8 := (Ext.of_below hb8).cell hwd7
                    have hg8 := (Ext.of_below hb8).cell hg7
                    clear hb8
                    clear hwd hwd5 hwd6 hwd7 hg5 hg6 hg7
                    go_wp2_with (at_lookup; refine wpL_lookup rfl _ _ _ rfl Tryd.underlying27 Tryd.underlying9 (zeroNm _) rfl HS8.out _ rfl ?_; rw [HA.out])
                    refine wp_region_ord [.pure, .pure, .pure, .read, .keep, .pure, .read, .pure, .pure] [0, 1, 2, 3, 5, 6, 7, 4, 8] (by kernel_rfl) (by kernel_rfl) ?_
                    simp only [List.map_cons, List.map_nil, item, List.getD_cons_zero, List.getD_cons_succ]
                    have hs9 := (HS8.out.alloc (.cells #[.string nm, .string t, .int .i64 hs] 30)).drew
                    have HS9 := Lib.hid hs9
                    have hwd9 : (w8.alloc (.cells #[.string nm, .string t, .int .i64 hs] 30)).drew.cell? ⟨bw, j, none⟩ = some (.string (wd j)) := hs9.cellP (.tail (.tail (.tail (.tail .head)))) (wds_at j hjt)
                    have d1 : (w8.alloc (.cells #[.string nm, .string t, .int .i64 hs] 30)).drew.cell? ⟨w8.heap.size, 1, none⟩ = some (.string t) := hs9.cell rfl
                    clear hs9
                    repeat ((with_reducible refine vcL_pure (v := ?_) (a' := ?_) ?_ ?_ ?_ ?_); rotate_left 2; (rfl); ((intro w'; go_simp; (try (go_bits; (try go_simp); (try (go_bits; (try go_simp))))); (repeat (first | rewrite [if_pos (by omega)] | rewrite [if_neg (by omega)]))) <;> rfl); (go_simp; rfl))
                    refine vcL_ld1 (a' := ?_) (v := .string (wd j)) (ad := ⟨bw, j, none⟩) rfl rfl (fun _ => by simp) hwd9 ?_ ?_
                    rotate_left 1
                    · go_simp; rfl
                    repeat ((with_reducible refine vcL_pure (v := ?_) (a' := ?_) ?_ ?_ ?_ ?_); rotate_left 2; (rfl); ((intro w'; go_simp; (try (go_bits; (try go_simp); (try (go_bits; (try go_simp))))); (repeat (first | rewrite [if_pos (by omega)] | rewrite [if_neg (by omega)]))) <;> rfl); (go_simp; rfl))
                    refine vcL_ld1 (a' := ?_) (v := .string t) (ad := ⟨w8.heap.size, 1, none⟩) rfl rfl (fun _ => by simp) d1 ?_ ?_
                    rotate_left 1
                    · go_simp; rfl
                    repeat ((with_reducible refine vcL_pure (v := ?_) (a' := ?_) ?_ ?_ ?_ ?_); rotate_left 2; (rfl); ((intro w'; go_simp; (try (go_bits; (try go_simp); (try (go_bits; (try go_simp))))); (repeat (first | rewrite [if_pos (by omega)] | rewrite [if_neg (by omega)]))) <;> rfl); (go_simp; rfl))
                    refine vcL_keepCall rfl (f := 14) (args := #[.pointer (some ⟨b6, 0, none⟩), .string (wd j)]) (w' := (w8.alloc (.cells #[.string nm, .string t, .int .i64 hs] 30)).drew) ?_ (nloc (wd j) (HS9.out.pick (.tail (.tail (.tail .head)))) HQ.out.sorted (by omega)) ?_
                    · go_simp
                    rintro e w10 ⟨rfl, hb10⟩
                    refine ⟨_, rfl, Ext.of_below hb10, ?_⟩
                    have HS10 := Lib.hid (HS9.out.below_step hb10)
                    have hg10 := (Ext.of_below hb10).cell (((Ext.alloc w8 (.cells #[.string nm, .string t, .int .i64 hs] 30)).trans (Ext.drew _)).cell hg8)
                    have d10 := (Ext.of_below hb10).cell d1
                    have d20 : w10.cell? ⟨w8.heap.size, 2, none⟩ = some (.int .i64 hs) := HS10.out.cell rfl
                    clear hb10
                    rw [HLB.out]
                    go_simp
                    repeat ((with_reducible refine vcL_pure (v := ?_) (a' := ?_) ?_ ?_ ?_ ?_); rotate_left 2; (rfl); ((intro w'; go_simp; (try (go_bits; (try go_simp); (try (go_bits; (try go_simp))))); (repeat (first | rewrite [if_pos (by omega)] | rewrite [if_neg (by omega)]))) <;> rfl); (go_simp; rfl))
                    refine vcL_nil ?_
                    go_wp2_with fail
                    refine (nres_is t (HS10.out.pick (.tail (.tail (.tail .head)))) HQ.out.sorted (by omega) HR2.out).mono ?_
                    rintro e w11 ⟨rfl, hb11⟩
                    have HS11 := Lib.hid (HS10.out.below_step hb11)
                    have hg11 := (Ext.of_below hb11).cell hg10
                    clear hb11
                    rw [EV.out]
                    go_wp2_with fail
                    refine (TELL _ hg11).mono ?_
                    rintro e w12 ⟨rfl, hb12⟩
                    have HS12 := Lib.hid (HS11.out.below_step hb12)
                    have hg12 := (Ext.of_below hb12).cell hg11
                    clear hb12
                    go_wp2_with fail
                    refine (TELL _ hg12).mono ?_
                    rintro e w13 ⟨rfl, hb13⟩
                    have HS13 := Lib.hid (HS12.out.below_step hb13)
                    clear hb13
                    go_wp2_with fail
                    refine (nloc t2 (HS13.out.pick (.tail (.tail (.tail .head)))) HQ.out.sorted (by omega)).mono ?_
                    rintro e w14 ⟨rfl, hb14⟩
                    rw [HLT.out]
                    have HS14 := Lib.hid (HS13.out.below_step hb14)
                    clear hb14
                    go_wp2_with fail
                    refine ⟨?_, ?measure⟩
                    repeat apply Exists.intro
                    refine ⟨?rel, rfl⟩
                    case rel => exact ⟨j + 1, by omega, by go_num, HS14.out.drop⟩
                    case measure => simp [intOf]; omega
                  · have hk3 : decide (k2 < 0) = false := by simpa using hk2
                    have EV := Lib.hid (show errV 37 0 = .nilIface from rfl)
                    have TELL := fun w (_ : w.cell? ⟨0, 0, none⟩ = some (.iface 160 (.agg #[.pointer (some ⟨9, 32, none⟩)]))) => tell_nil w
                    have c5 := HQ.out.len
                    go_wp2_with fail
                    refine (nres_is (wd j) (HS4.out.pick (.tail (.tail .head))) HQ.out.sorted (by omega) HR.out).mono ?_
                    rintro e w5 ⟨rfl, hb5⟩
                    have HS5 := Lib.hid (HS4.out.below_step hb5)
                    have hwd5 := (Ext.of_below hb5).cell hwd
                    have hg5 := (Ext.of_below hb5).cell HG.out
                    clear hb5
                    rw [EV.out]
                    go_wp2_with fail
                    refine (nres_is (wd j) (HS5.out.pick (.tail .head)) HQ.out.sorted (by omega) HR.out).mono ?_
                    rintro e w6 ⟨rfl, hb6⟩
                    have HS6 := Lib.hid (HS5.out.below_step hb6)
                    have hwd6 := (Ext.of_below hb6).cell hwd5
                    have hg6 := (Ext.of_below hb6).cell hg5
                    clear hb6
                    rw [EV.out]
                    go_wp2_with fail
                    refine (TELL _ hg6).mono ?_
                    rintro e w7 ⟨rfl, hb7⟩
                    have HS7 := Lib.hid (HS6.out.below_step hb7)
                    have hwd7 := (Ext.of_below hb7).cell hwd6
                    have hg7 := (Ext.of_below hb7).cell hg6
                    clear hb7
                    go_wp2_with fail
                    refine (TELL _ hg7).mono ?_
                    rintro e w8 ⟨rfl, hb8⟩
                    have HS8 := Lib.hid (HS7.out.below_step hb8)
                    have hwd8 := (Ext.of_below hb8).cell hwd7
                    have hg8 := (Ext.of_below hb8).cell hg7
                    clear hb8
                    clear hwd hwd5 hwd6 hwd7 hg5 hg6 hg7
                    go_wp2_with (at_lookup; refine wpL_lookup rfl _ _ _ rfl Tryd.underlying27 Tryd.underlying9 (zeroNm _) rfl HS8.out _ rfl ?_; rw [HA.out])
                    refine wp_region_ord [.pure, .pure, .pure, .read, .keep, .pure, .read, .pure, .pure] [0, 1, 2, 3, 5, 6, 7, 4, 8] (by kernel_rfl) (by kernel_rfl) ?_
                    simp only [List.map_cons, List.map_nil, item, List.getD_cons_zero, List.getD_cons_succ]
                    have hs9 := (HS8.out.alloc (.cells #[.string nm, .string t, .int .i64 hs] 30)).drew
                    have HS9 := Lib.hid hs9
                    have hwd9 : (w8.alloc (.cells #[.string nm, .string t, .int .i64 hs] 30)).drew.cell? ⟨bw, j, none⟩ = some (.string (wd j)) := hs9.cellP (.tail (.tail (.tail (.tail .head)))) (wds_at j hjt)
                    have d1 : (w8.alloc (.cells #[.string nm, .string t, .int .i64 hs] 30)).drew.cell? ⟨w8.heap.size, 1, none⟩ = some (.string t) := hs9.cell rfl
                    clear hs9
                    repeat ((with_reducible refine vcL_pure (v := ?_) (a' := ?_) ?_ ?_ ?_ ?_); rotate_left 2; (rfl); ((intro w'; go_simp; (try (go_bits; (try go_simp); (try (go_bits; (try go_simp))))); (repeat (first | rewrite [if_pos (by omega)] | rewrite [if_neg (by omega)]))) <;> rfl); (go_simp; rfl))
                    refine vcL_ld1 (a' := ?_) (v := .string (wd j)) (ad := ⟨bw, j, none⟩) rfl rfl (fun _ => by simp) hwd9 ?_ ?_
                    rotate_left 1
                    · go_simp; rfl
                    repeat ((with_reducible refine vcL_pure (v := ?_) (a' := ?_) ?_ ?_ ?_ ?_); rotate_left 2; (rfl); ((intro w'; go_simp; (try (go_bits; (try go_simp); (try (go_bits; (try go_simp))))); (repeat (first | rewrite [if_pos (by omega)] | rewrite [if_neg (by omega)]))) <;> rfl); (go_simp; rfl))
                    refine vcL_ld1 (a' := ?_) (v := .string t) (ad := ⟨w8.heap.size, 1, none⟩) rfl rfl (fun _ => by simp) d1 ?_ ?_
                    rotate_left 1
                    · go_simp; rfl
                    repeat ((with_reducible refine vcL_pure (v := ?_) (a' := ?_) ?_ ?_ ?_ ?_); rotate_left 2; (rfl); ((intro w'; go_simp; (try (go_bits; (try go_simp); (try (go_bits; (try go_simp))))); (repeat (first | rewrite [if_pos (by omega)] | rewrite [if_neg (by omega)]))) <;> rfl); (go_simp; rfl))
                    refine vcL_keepCall rfl (f := 14) (args := #[.pointer (some ⟨b6, 0, none⟩), .string (wd j)]) (w' := (w8.alloc (.cells #[.string nm, .string t, .int .i64 hs] 30)).drew) ?_ (nloc (wd j) (HS9.out.pick (.tail (.tail (.tail .head)))) HQ.out.sorted (by omega)) ?_
                    · go_simp
                    rintro e w10 ⟨rfl, hb10⟩
                    refine ⟨_, rfl, Ext.of_below hb10, ?_⟩
                    have HS10 := Lib.hid (HS9.out.below_step hb10)
                    have hg10 := (Ext.of_below hb10).cell (((Ext.alloc w8 (.cells #[.string nm, .string t, .int .i64 hs] 30)).trans (Ext.drew _)).cell hg8)
                    have d10 := (Ext.of_below hb10).cell d1
                    have d20 : w10.cell? ⟨w8.heap.size, 2, none⟩ = some (.int .i64 hs) := HS10.out.cell rfl
                    clear hb10
                    rw [HLB.out]
                    go_simp
                    repeat ((with_reducible refine vcL_pure (v := ?_) (a' := ?_) ?_ ?_ ?_ ?_); rotate_left 2; (rfl); ((intro w'; go_simp; (try (go_bits; (try go_simp); (try (go_bits; (try go_simp))))); (repeat (first | rewrite [if_pos (by omega)] | rewrite [if_neg (by omega)]))) <;> rfl); (go_simp; rfl))
                    refine vcL_nil ?_
                    go_wp2_with fail
                    refine (nres_is t (HS10.out.pick (.tail (.tail (.tail .head)))) HQ.out.sorted (by omega) HR2.out).mono ?_
                    rintro e w11 ⟨rfl, hb11⟩
                    have HS11 := Lib.hid (HS10.out.below_step hb11)
                    have hg11 := (Ext.of_below hb11).cell hg10
                    clear hb11
                    rw [EV.out]
                    go_wp2_with fail
                    refine (TELL _ hg11).mono ?_
                    rintro e w12 ⟨rfl, hb12⟩
                    have HS12 := Lib.hid (HS11.out.below_step hb12)
                    have hg12 := (Ext.of_below hb12).cell hg11
                    clear hb12
                    go_wp2_with fail
                    refine (TELL _ hg12).mono ?_
                    rintro e w13 ⟨rfl, hb13⟩
                    have HS13 := Lib.hid (HS12.out.below_step hb13)
                    clear hb13
                    go_wp2_with fail
                    refine ⟨?_, ?measure⟩
                    repeat apply Exists.intro
                    refine ⟨?rel, rfl⟩
                    case rel => exact ⟨j + 1, by omega, by go_num, HS13.out.drop⟩
                    case measure => simp [intOf]; omega
                · have EV := Lib.hid (show errV 37 c2 = .iface 37 (.int .i64 c2) from if_neg hc)
                  have TELL := fun w hg => tell_errno c2 w hg
                  have c5 := HQ.out.len
                  go_wp2_with fail
                  refine (nres_is (wd j) (HS4.out.pick (.tail (.tail .head))) HQ.out.sorted (by omega) HR.out).mono ?_
                  rintro e w5 ⟨rfl, hb5⟩
                  have HS5 := Lib.hid (HS4.out.below_step hb5)
                  have hwd5 := (Ext.of_below hb5).cell hwd
                  have hg5 := (Ext.of_below hb5).cell HG.out
                  clear hb5
                  rw [EV.out]
                  go_wp2_with fail
                  refine (nres_is (wd j) (HS5.out.pick (.tail .head)) HQ.out.sorted (by omega) HR.out).mono ?_
                  rintro e w6 ⟨rfl, hb6⟩
                  have HS6 := Lib.hid (HS5.out.below_step hb6)
                  have hwd6 := (Ext.of_below hb6).cell hwd5
                  have hg6 := (Ext.of_below hb6).cell hg5
                  clear hb6
                  rw [EV.out]
                  go_wp2_with fail
                  refine (TELL _ hg6).mono ?_
                  rintro e w7 ⟨rfl, hb7⟩
                  have HS7 := Lib.hid (HS6.out.below_step hb7)
                  have hwd7 := (Ext.of_below hb7).cell hwd6
                  have hg7 := (Ext.of_below hb7).cell hg6
                  clear hb7
                  go_wp2_with fail
                  refine (TELL _ hg7).mono ?_
                  rintro e w8 ⟨rfl, hb8⟩
                  have HS8 := Lib.hid (HS7.out.below_step hb8)
                  have hwd8 := (Ext.of_below hb8).cell hwd7
                  have hg8 := (Ext.of_below hb8).cell hg7
                  clear hb8
                  clear hwd hwd5 hwd6 hwd7 hg5 hg6 hg7
                  go_wp2_with (at_lookup; refine wpL_lookup rfl _ _ _ rfl Tryd.underlying27 Tryd.underlying9 (zeroNm _) rfl HS8.out _ rfl ?_; rw [HA.out])
                  refine wp_region_ord [.pure, .pure, .pure, .read, .keep, .pure, .read, .pure, .pure] [0, 1, 2, 3, 5, 6, 7, 4, 8] (by kernel_rfl) (by kernel_rfl) ?_
                  simp only [List.map_cons, List.map_nil, item, List.getD_cons_zero, List.getD_cons_succ]
                  have hs9 := (HS8.out.alloc (.cells #[.string nm, .string t, .int .i64 hs] 30)).drew
                  have HS9 := Lib.hid hs9
                  have hwd9 : (w8.alloc (.cells #[.string nm, .string t, .int .i64 hs] 30)).drew.cell? ⟨bw, j, none⟩ = some (.string (wd j)) := hs9.cellP (.tail (.tail (.tail (.tail .head)))) (wds_at j hjt)
                  have d1 : (w8.alloc (.cells #[.string nm, .string t, .int .i64 hs] 30)).drew.cell? ⟨w8.heap.size, 1, none⟩ = some (.string t) := hs9.cell rfl
                  clear hs9
                  repeat ((with_reducible refine vcL_pure (v := ?_) (a' := ?_) ?_ ?_ ?_ ?_); rotate_left 2; (rfl); ((intro w'; go_simp; (try (go_bits; (try go_simp); (try (go_bits; (try go_simp))))); (repeat (first | rewrite [if_pos (by omega)] | rewrite [if_neg (by omega)]))) <;> rfl); (go_simp; rfl))
                  refine vcL_ld1 (a' := ?_) (v := .string (wd j)) (ad := ⟨bw, j, none⟩) rfl rfl (fun _ => by simp) hwd9 ?_ ?_
                  rotate_left 1
                  · go_simp; rfl
                  repeat ((with_reducible refine vcL_pure (v := ?_) (a' := ?_) ?_ ?_ ?_ ?_); rotate_left 2; (rfl); ((intro w'; go_simp; (try (go_bits; (try go_simp); (try (go_bits; (try go_simp))))); (repeat (first | rewrite [if_pos (by omega)] | rewrite [if_neg (by omega)]))) <;> rfl); (go_simp; rfl))
                  refine vcL_ld1 (a' := ?_) (v := .string t) (ad := ⟨w8.heap.size, 1, none⟩) rfl rfl (fun _ => by simp) d1 ?_ ?_
                  rotate_left 1
                  · go_simp; rfl
                  repeat ((with_reducible refine vcL_pure (v := ?_) (a' := ?_) ?_ ?_ ?_ ?_); rotate_left 2; (rfl); ((intro w'; go_simp; (try (go_bits; (try go_simp); (try (go_bits; (try go_simp))))); (repeat (first | rewrite [if_pos (by omega)] | rewrite [if_neg (by omega)]))) <;> rfl); (go_simp; rfl))
                  refine vcL_keepCall rfl (f := 14) (args := #[.pointer (some ⟨b6, 0, none⟩), .string (wd j)]) (w' := (w8.alloc (.cells #[.string nm, .string t, .int .i64 hs] 30)).drew) ?_ (nloc (wd j) (HS9.out.pick (.tail (.tail (.tail .head)))) HQ.out.sorted (by omega)) ?_
                  · go_simp
                  rintro e w10 ⟨rfl, hb10⟩
                  refine ⟨_, rfl, Ext.of_below hb10, ?_⟩
                  have HS10 := Lib.hid (HS9.out.below_step hb10)
                  have hg10 := (Ext.of_below hb10).cell (((Ext.alloc w8 (.cells #[.string nm, .string t, .int .i64 hs] 30)).trans (Ext.drew _)).cell hg8)
                  have d10 := (Ext.of_below hb10).cell d1
                  have d20 : w10.cell? ⟨w8.heap.size, 2, none⟩ = some (.int .i64 hs) := HS10.out.cell rfl
                  clear hb10
                  rw [HLB.out]
                  go_simp
                  repeat ((with_reducible refine vcL_pure (v := ?_) (a' := ?_) ?_ ?_ ?_ ?_); rotate_left 2; (rfl); ((intro w'; go_simp; (try (go_bits; (try go_simp); (try (go_bits; (try go_simp))))); (repeat (first | rewrite [if_pos (by omega)] | rewrite [if_neg (by omega)]))) <;> rfl); (go_simp; rfl))
                  refine vcL_nil ?_
                  go_wp2_with fail
                  refine (nres_is t (HS10.out.pick (.tail (.tail (.tail .head)))) HQ.out.sorted (by omega) HR2.out).mono ?_
                  rintro e w11 ⟨rfl, hb11⟩
                  have HS11 := Lib.hid (HS10.out.below_step hb11)
                  have hg11 := (Ext.of_below hb11).cell hg10
                  clear hb11
                  rw [EV.out]
                  go_wp2_with fail
                  refine (TELL _ hg11).mono ?_
                  rintro e w12 ⟨rfl, hb12⟩
                  have HS12 := Lib.hid (HS11.out.below_step hb12)
                  have hg12 := (Ext.of_below hb12).cell hg11
                  clear hb12
                  go_wp2_with fail
                  refine (TELL _ hg12).mono ?_
                  rintro e w13 ⟨rfl, hb13⟩
                  have HS13 := Lib.hid (HS12.out.below_step hb13)
                  clear hb13
                  go_wp2_with fail
                  refine ⟨?_, ?measure⟩
                  repeat apply Exists.intro
                  refine ⟨?rel, rfl⟩
                  case rel => exact ⟨j + 1, by omega, by go_num, HS13.out.drop⟩
                  case measure => simp [intOf]; omega
            · obtain rfl : j = 5 := by omega
              go_wp2_with fail
              go_ret
              exact ⟨rfl, HS4.out.below⟩
  · clear hc hN HX HN HI
    have hlen2 : decide (40 < (n : Int)) = true := by simp; omega
    go_enter Tryd.func3, Tryd.ntmps3
    go_wp2_with fail
    go_ret
    exact ⟨rfl, Below.refl _ _⟩
end Go.Proofs.YtjhogocabcdjbaaDoor
