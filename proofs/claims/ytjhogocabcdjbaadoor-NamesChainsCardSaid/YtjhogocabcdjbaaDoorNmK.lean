/- names.Set, of what may be. -/
import Derived.Test.YtjhogocabcdjbaaDoorNmJ
namespace Go.Proofs.YtjhogocabcdjbaaDoor
open Go Go.RowKit WB
set_option maxHeartbeats 1000000 in
/-- there are MaxNames -/
theorem set_full (b off : Nat) (c : Array Value) (T : TypeId) (v : Value) (l : List Nm) (x : Nm) (w w0 : World) (L : List HP)
    (h : St w0 (blk b (.cells c T (0, 0)) :: osl 30 3 v l.length (nmCells l) :: L) w) (hc : c[off]? = some v) (hr : rightNm x = true) (h1 : x.name.size ≤ maxLen) (h2 : x.to.size ≤ maxLen)
    (hm : Mono l x.name) (hl : 20 ≤ l.length) (hl2 : l.length < 1000000) (hit : hitB l x.name (srchN l x.name) = false) :
    Calls Tryd.prog 11 #[.pointer (some ⟨b, off, none⟩), .agg x.cells.toArray] w fun e w' => e = .returned (.iface 37 (.int .i64 12)) ∧
      St w0 (blk b (.cells c T (0, 0)) :: osl 30 3 v l.length (nmCells l) :: L) w' := by
  have HC := Lib.hid (fun w => right_is x true w h1 h2 hr)
  have hs0 := h.alloc (.cells x.cells.toArray 30)
  have HS := Lib.hid hs0
  have HF := Lib.hid (fun (w : World) (h : St w0 (blk b (.cells c T (0, 0)) :: osl 30 3 v l.length (nmCells l) :: L) w) => find_any b off c T (0, 0) v l x.name w w0 L h hc hl2 hm)
  have HK := Lib.hid (fun k (hk : Srch l x.name k) => srch_eq hk)
  have HI := Lib.hid hit
  have hv : ∃ a cap, v = .slice a l.length cap := by
    rcases h.drop.osl_cases with ⟨hv, hz, _⟩ | ⟨g, cap, _, hv, _⟩
    · exact ⟨none, 0, by rw [hv, hz]⟩
    · exact ⟨_, _, hv⟩
  obtain ⟨a, cap, rfl⟩ := hv
  have HCC := Lib.hid hc
  clear h h1 h2 hr hs0 hm hit hc
  generalize hN : l.length = n at *
  have HN := Lib.hid hN
  clear hN
  obtain ⟨nm, t, hs⟩ := x
  simp only [Nm.cells] at HC HS HF HK HI ⊢
  go_enter Tryd.func11, Tryd.ntmps11
  go_wp2_with fail
  refine (HC.out _).mono ?_
  rintro e w1 ⟨rfl, hb1⟩
  have HS1 := Lib.hid (HS.out.below_step hb1)
  have c0 := HS1.out.cell (off := 0) rfl
  clear hb1
  go_wp2_with fail
  refine (HF.out _ HS1.out.drop).mono ?_
  rintro e w2 ⟨k, hk, rfl, hb2⟩
  have HS2 := Lib.hid (HS1.out.below_step hb2)
  rw [HK.out k hk, HI.out]
  clear hb2 c0 hk
  have c1 : w2.cell? ⟨b, off, none⟩ = some (.slice a n cap) := HS2.out.cellP (.tail .head) HCC.out
  go_wp2_with fail
  go_ret
  exact ⟨rfl, HS2.out.drop⟩
set_option maxHeartbeats 2000000 in
set_option maxRecDepth 100000 in
/-- in the place of one of that name -/
theorem set_hit (b off : Nat) (c : Array Value) (T : TypeId) (v : Value) (l : List Nm) (x : Nm) (w w0 : World) (L : List HP)
    (h : St w0 (blk b (.cells c T (0, 0)) :: osl 30 3 v l.length (nmCells l) :: L) w) (hc : c[off]? = some v) (hr : rightNm x = true) (h1 : x.name.size ≤ maxLen) (h2 : x.to.size ≤ maxLen)
    (hm : Mono l x.name) (hl2 : l.length < 1000000) (hit : hitB l x.name (srchN l x.name) = true) :
    Calls Tryd.prog 11 #[.pointer (some ⟨b, off, none⟩), .agg x.cells.toArray] w fun e w' => e = .returned .nilIface ∧
      St w0 (blk b (.cells c T (0, 0)) :: osl 30 3 v l.length (nmCells (l.set (srchN l x.name) x)) :: L) w' := by
  have HC := Lib.hid (fun w => right_is x true w h1 h2 hr)
  have hs0 := h.alloc (.cells x.cells.toArray 30)
  have HS := Lib.hid hs0
  have HF := Lib.hid (fun (w : World) (h : St w0 (blk b (.cells c T (0, 0)) :: osl 30 3 v l.length (nmCells l) :: L) w) => find_any b off c T (0, 0) v l x.name w w0 L h hc hl2 hm)
  have HK := Lib.hid (fun k (hk : Srch l x.name k) => srch_eq hk)
  have HI := Lib.hid hit
  have hklt : srchN l x.name < l.length := by
    unfold hitB at hit
    rw [Bool.and_eq_true] at hit
    simpa using hit.1
  have HSET := Lib.hid (nmCells_set l x (srchN l x.name) hklt)
  have hv : ∃ g cap, v = .slice (some ⟨g, 0, none⟩) l.length cap := by
    rcases h.drop.osl_cases with ⟨hv, hz, _⟩ | ⟨g, cap, _, hv, _⟩
    · omega
    · exact ⟨_, _, hv⟩
  obtain ⟨g, cap, rfl⟩ := hv
  have HCC := Lib.hid hc
  clear h h1 h2 hr hs0 hm hit hc
  generalize hN : l.length = n at *
  have HN := Lib.hid hN
  clear hN
  obtain ⟨nm, t, hs⟩ := x
  simp only [Nm.cells] at HC HS HF HK HI HSET hklt ⊢
  generalize hK : srchN l nm = k0 at *
  clear hK
  go_enter Tryd.func11, Tryd.ntmps11
  go_wp2_with fail
  refine (HC.out _).mono ?_
  rintro e w1 ⟨rfl, hb1⟩
  have HS1 := Lib.hid (HS.out.below_step hb1)
  have c0 := HS1.out.cell (off := 0) rfl
  clear hb1
  go_wp2_with fail
  refine (HF.out _ HS1.out.drop).mono ?_
  rintro e w2 ⟨k, hk, rfl, hb2⟩
  have HS2 := Lib.hid (HS1.out.below_step hb2)
  obtain rfl := HK.out k hk
  rw [HI.out]
  clear hb2 c0 hk
  have c1 : w2.cell? ⟨b, off, none⟩ = some (.slice (some ⟨g, 0, none⟩) n cap) := HS2.out.cellP (.tail .head) HCC.out
  have c2 : HasCells w2 ⟨w.heap.size, 0, none⟩ [.string nm, .string t, .int .i64 hs] := HS2.out.hasCells fun j u hj => by simpa using hj
  -- the store
  obtain ⟨w3, hw3, hs3⟩ : ∃ w3, (storeVar 30 ⟨g, k * 3, none⟩ (.agg #[.string nm, .string t, .int .i64 hs])).run Tryd.prog w2.drew = .ok () w3 ∧
      St w0 (blk b (.cells c T (0, 0)) :: osl 30 3 (.slice (some ⟨g, 0, none⟩) n cap) n (nmCells (l.set k ⟨nm, t, hs⟩)) :: L) w3 := by
    have h4 := (HS2.out.drop.pick (.tail .head)).drew
    rcases h4.osl_cases with ⟨hc, _⟩ | ⟨g', cap', cur, hc, hnc, hcm, hcs, htake, hxl, hblk⟩
    · simp at hc
    · simp only [Value.slice.injEq, Option.some.injEq, Addr.mk.injEq, and_true, true_and] at hc
      obtain ⟨rfl, rfl⟩ := hc
      refine ⟨_, run_store_row hblk (by simp [Value.cells]) (by simp [Value.cells]; omega) (by simp [Value.cells]; exact ⟨rfl, rfl, rfl⟩), ?_⟩
      refine ((hblk.setRow).osl_mk hnc hcm ?_ ?_).swap2
      · simp [Value.cells]; omega
      · rw [← HSET.out, ← htake]
        exact splice_take cur.toList [.string nm, .string t, .int .i64 hs] (k * 3) 3 (n * 3) rfl (by omega) (by simp; omega)
  have HW3 := Lib.hid hw3
  have HS3 := Lib.hid hs3
  clear hw3 hs3
  go_wp2_with fail
  refine wp_region_ord [.pure, .pure, .pure, .read, .pure, .read, .pure, .write] [0, 1, 2, 3, 4, 5, 6, 7] (by kernel_rfl) (by kernel_rfl) ?_
  simp only [List.map_cons, List.map_nil, item, List.getD_cons_zero, List.getD_cons_succ]
  repeat ((with_reducible refine vcL_pure (v := ?_) (a' := ?_) ?_ ?_ ?_ ?_); rotate_left 2; (rfl); ((intro w'; go_simp; (try (go_bits; (try go_simp); (try (go_bits; (try go_simp))))); (repeat (first | rewrite [if_pos (by omega)] | rewrite [if_neg (by omega)]))) <;> rfl); (go_simp; rfl))
  refine vcL_ld1 (a' := ?_) (v := .slice (some ⟨g, 0, none⟩) n cap) (ad := ⟨b, off, none⟩) rfl rfl (fun _ => by simp) c1 ?_ ?_
  rotate_left 1
  · go_simp; rfl
  repeat ((with_reducible refine vcL_pure (v := ?_) (a' := ?_) ?_ ?_ ?_ ?_); rotate_left 2; (rfl); ((intro w'; go_simp; (try (go_bits; (try go_simp); (try (go_bits; (try go_simp))))); (repeat (first | rewrite [if_pos (by omega)] | rewrite [if_neg (by omega)]))) <;> rfl); (go_simp; rfl))
  refine vcL_ldn (a' := ?_) (cs := [.string nm, .string t, .int .i64 hs]) (ad := ⟨w.heap.size, 0, none⟩) rfl rfl (fun _ => by simp) (fun _ => by simp) c2 ?_ ?_
  rotate_left 1
  · go_simp; rfl
  repeat ((with_reducible refine vcL_pure (v := ?_) (a' := ?_) ?_ ?_ ?_ ?_); rotate_left 2; (rfl); ((intro w'; go_simp; (try (go_bits; (try go_simp); (try (go_bits; (try go_simp))))); (repeat (first | rewrite [if_pos (by omega)] | rewrite [if_neg (by omega)]))) <;> rfl); (go_simp; rfl))
  refine vcL_writeSkip (a' := ?_) (w' := w3) rfl ?_ ?_ ?_
  rotate_left 1
  · exact exec_store rfl rfl HW3.out
  · go_simp; rfl
  refine vcL_nil ?_
  clear c1 c2
  go_wp2_with fail
  go_ret
  exact ⟨rfl, HS3.out⟩
end Go.Proofs.YtjhogocabcdjbaaDoor
