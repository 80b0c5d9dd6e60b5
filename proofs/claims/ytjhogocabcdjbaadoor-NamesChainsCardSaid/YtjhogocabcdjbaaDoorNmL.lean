/- names.Set, of a new name. -/
import Derived.Test.YtjhogocabcdjbaaDoorNmK
namespace Go.Proofs.YtjhogocabcdjbaaDoor
open Go Go.RowKit WB
set_option maxHeartbeats 4000000 in
set_option maxRecDepth 100000 in
theorem set_new (b off : Nat) (c : Array Value) (T : TypeId) (v : Value) (l : List Nm) (x : Nm) (w w0 : World) (L : List HP)
    (h : St w0 (blk b (.cells c T (0, 0)) :: osl 30 3 v l.length (nmCells l) :: L) w) (hc : c[off]? = some v) (hr : rightNm x = true) (h1 : x.name.size ≤ maxLen) (h2 : x.to.size ≤ maxLen)
    (hm : Mono l x.name) (hl : l.length < 20) (hit : hitB l x.name (srchN l x.name) = false) :
    Calls Tryd.prog 11 #[.pointer (some ⟨b, off, none⟩), .agg x.cells.toArray] w fun e w' => e = .returned .nilIface ∧
      ∃ v', St w0 (blk b (.cells (c.setIfInBounds off v') T (0, 0)) :: osl 30 3 v' (l.length + 1) (nmCells (l.take (srchN l x.name) ++ x :: l.drop (srchN l x.name))) :: L) w' := by
  have HC := Lib.hid (fun w => right_is x true w h1 h2 hr)
  have hs0 := h.alloc (.cells x.cells.toArray 30)
  have HS := Lib.hid hs0
  have HF := Lib.hid (fun (w : World) (h : St w0 (blk b (.cells c T (0, 0)) :: osl 30 3 v l.length (nmCells l) :: L) w) => find_any b off c T (0, 0) v l x.name w w0 L h hc (by omega) hm)
  have HK := Lib.hid (fun k (hk : Srch l x.name k) => srch_eq hk)
  have HI := Lib.hid hit
  have hkle : srchN l x.name ≤ l.length := takeWhile_len_le _ _
  have HINS := Lib.hid (fun (w : World) (bv : Nat) (L' : List HP) (h : St w0 (osl 30 3 v l.length (nmCells l) :: blk bv (.cells x.cells.toArray 30 (0, 0)) :: L') w) => ins_any w w0 L' v l x (srchN l x.name) bv l.length rfl h hkle (by omega))
  have hv : ∃ a cap, v = .slice a l.length cap := by
    rcases h.drop.osl_cases with ⟨hv, hz, _⟩ | ⟨g, cap, _, hv, _⟩
    · exact ⟨none, 0, by rw [hv, hz]⟩
    · exact ⟨_, _, hv⟩
  obtain ⟨sa, cap, rfl⟩ := hv
  have HCC := Lib.hid hc
  have hoff : off < c.size := (Array.getElem?_eq_some_iff.1 hc).1
  clear h h1 h2 hr hs0 hm hit hc
  obtain ⟨nm, t, hs⟩ := x
  simp only [Nm.cells] at HC HS HF HK HI HINS hkle ⊢
  generalize hK : srchN l nm = k0 at *
  generalize hN : l.length = n at HF HINS HS HCC hkle hl ⊢
  clear hK
  go_enter Tryd.func11, Tryd.ntmps11
  go_wp2_with fail
  refine (HC.out _).mono ?_
  rintro e w1 ⟨rfl, hb1⟩
  have HS1 := Lib.hid (HS.out.below_step hb1)
  have c0 := HS1.out.cell (off := 0) rfl
  clear hb1
  go_wp2_with fail
  refine (HF.out _ HS1.out.drop).mono ?_
  rintro e w2 ⟨k, hk, rfl, hb2⟩
  have HS2 := Lib.hid (HS1.out.below_step hb2)
  obtain rfl := HK.out k hk
  rw [HI.out]
  clear hb2 c0 hk
  have c1 : w2.cell? ⟨b, off, none⟩ = some (.slice sa n cap) := HS2.out.cellP (.tail .head) HCC.out
  have c2 : HasCells w2 ⟨w.heap.size, 0, none⟩ [.string nm, .string t, .int .i64 hs] := HS2.out.hasCells fun j u hj => by simpa using hj
  go_wp2_with fail
  refine wp_region_ord [.pure, .pure, .pure, .pure, .read, .pure, .read, .keep, .write, .pure, .pure, .write] [0, 1, 2, 3, 4, 5, 6, 9, 10, 7, 8, 11] (by kernel_rfl) (by kernel_rfl) ?_
  simp only [List.map_cons, List.map_nil, item, List.getD_cons_zero, List.getD_cons_succ]
  repeat ((with_reducible refine vcL_pure (v := ?_) (a' := ?_) ?_ ?_ ?_ ?_); rotate_left 2; (rfl); ((intro w'; go_simp; (try (go_bits; (try go_simp); (try (go_bits; (try go_simp))))); (repeat (first | rewrite [if_pos (by omega)] | rewrite [if_neg (by omega)]))) <;> rfl); (go_simp; rfl))
  refine vcL_ld1 (a' := ?_) (v := .slice sa n cap) (ad := ⟨b, off, none⟩) rfl rfl (fun _ => by simp) c1 ?_ ?_
  rotate_left 1
  · go_simp; rfl
  repeat ((with_reducible refine vcL_pure (v := ?_) (a' := ?_) ?_ ?_ ?_ ?_); rotate_left 2; (rfl); ((intro w'; go_simp; (try (go_bits; (try go_simp); (try (go_bits; (try go_simp))))); (repeat (first | rewrite [if_pos (by omega)] | rewrite [if_neg (by omega)]))) <;> rfl); (go_simp; rfl))
  refine vcL_ldn (a' := ?_) (cs := [.string nm, .string t, .int .i64 hs]) (ad := ⟨w.heap.size, 0, none⟩) rfl rfl (fun _ => by simp) (fun _ => by simp) c2 ?_ ?_
  rotate_left 1
  · go_simp; rfl
  repeat ((with_reducible refine vcL_pure (v := ?_) (a' := ?_) ?_ ?_ ?_ ?_); rotate_left 2; (rfl); ((intro w'; go_simp; (try (go_bits; (try go_simp); (try (go_bits; (try go_simp))))); (repeat (first | rewrite [if_pos (by omega)] | rewrite [if_neg (by omega)]))) <;> rfl); (go_simp; rfl))
  refine vcL_keepRun (a' := ?_) (v := .slice (some ⟨w2.heap.size, 0, none⟩) 1 1) (w' := (w2.alloc (.cells #[.string nm, .string t, .int .i64 hs] 30)).drew) rfl ?_ ?_ ?_ ?_
  rotate_left 1
  · go_simp
  · exact Ext.alloc w2 _
  · go_simp; rfl
  have hs3 := HS2.out.alloc (.cells #[.string nm, .string t, .int .i64 hs] 30)
  have hs4 : St w0 (osl 30 3 (.slice sa n cap) n (nmCells l) :: blk w2.heap.size (.cells [Value.string nm, Value.string t, Value.int .i64 hs].toArray 30 (0, 0)) :: blk w.heap.size (.cells #[.string nm, .string t, .int .i64 hs] 30) :: blk b (.cells c T (0, 0)) :: L)
      (w2.alloc (.cells #[.string nm, .string t, .int .i64 hs] 30)).drew := (hs3.pick (.tail (.tail (.tail .head)))).drew
  refine vcL_writeCall rfl (f := 46) (args := #[.slice sa n cap, .int .i64 k, .slice (some ⟨w2.heap.size, 0, none⟩) 1 1]) (w' := (w2.alloc (.cells #[.string nm, .string t, .int .i64 hs] 30)).drew) ?_ (HINS.out _ _ _ hs4) ?_
  · go_simp
  rintro e w3 ⟨v', rfl, hs5⟩
  refine ⟨v', rfl, ?_⟩
  have hv' : ∃ sa' n' cap', v' = .slice sa' n' cap' := by
    rcases hs5.osl_cases with ⟨hv, _⟩ | ⟨g, cap, _, hv, _⟩
    · exact ⟨_, _, _, hv⟩
    · exact ⟨_, _, _, hv⟩
  obtain ⟨sa', n', cap', rfl⟩ := hv'
  have hb6 : St w0 (blk b (.cells c T (0, 0)) :: osl 30 3 (.slice sa' n' cap') (n + 1) (nmCells (l.take k ++ ⟨nm, t, hs⟩ :: l.drop k)) :: blk w.heap.size (.cells #[.string nm, .string t, .int .i64 hs] 30) :: L) w3 := hs5.pick (.tail (.tail .head))
  have hst := run_store_row (P := Tryd.prog) (T := 22) (off := off) (v := .slice sa' n' cap') hb6 (by simp [Value.cells]) (by simp [Value.cells]; omega) (by simp [Value.cells]; rfl)
  have hs7 := hb6.setRow (c' := (c.toList.take off ++ (Value.slice sa' n' cap').cells.toList ++ c.toList.drop (off + (Value.slice sa' n' cap').cells.toList.length)).toArray)
  have e7 : (c.toList.take off ++ (Value.slice sa' n' cap').cells.toList ++ c.toList.drop (off + (Value.slice sa' n' cap').cells.toList.length)).toArray = c.setIfInBounds off (.slice sa' n' cap') := setRow_one hoff
  rw [e7] at hst hs7
  refine vcL_writeSkip (a' := ?_) (w' := w3.setRow b (c.setIfInBounds off (.slice sa' n' cap'))) rfl ?_ ?_ ?_
  rotate_left 1
  · exact exec_store rfl rfl hst
  · go_simp; rfl
  have HS7 := Lib.hid (hs7.pick (.tail (.tail .head))).drop
  clear hs3 hs4 hs5 hb6 hs7 hst e7 c1 c2
  refine vcL_nil ?_
  go_wp2_with fail
  go_ret
  exact ⟨rfl, _, HS7.out⟩
end Go.Proofs.YtjhogocabcdjbaaDoor
