/- names.Resolve. -/
import Derived.Test.YtjhogocabcdjbaaDoorNmM
namespace Go.Proofs.YtjhogocabcdjbaaDoor
open Go Go.RowKit WB
def ResRel (l : List Nm) (s : ByteArray) (w : World) (x i : Value) (wr : World) : Prop :=
  ∃ (k : Nat) (t : ByteArray), k ≤ l.length + 1 ∧ x = .string t ∧ i = .int .i64 k ∧ resN l (l.length + 1 - k) t = resN l (l.length + 1) s ∧ Below w.heap.size w wr
def ResPost (l : List Nm) (s : ByteArray) (w : World) (e : Ending) (w' : World) : Prop :=
  e = .returned (.tuple #[.string (resN l (l.length + 1) s).1, .int .i64 (resN l (l.length + 1) s).2.1, errV 37 (resN l (l.length + 1) s).2.2]) ∧ Below w.heap.size w w'
theorem ResPost.mk {l : List Nm} {s : ByteArray} {w w' : World} {r : ByteArray × Int × Int} (h : r = resN l (l.length + 1) s) (hb : Below w.heap.size w w') {v : Value} (hv : v = errV 37 r.2.2) :
    ResPost l s w (.returned (.tuple #[.string r.1, .int .i64 r.2.1, v])) w' := by
  subst hv; rw [h]; exact ⟨rfl, hb⟩
set_option maxHeartbeats 4000000 in
set_option maxRecDepth 100000 in
theorem resolve_any (b off : Nat) (c : Array Value) (T : TypeId) (v : Value) (l : List Nm) (s : ByteArray) (w w0 : World) (L : List HP)
    (h : St w0 (blk b (.cells c T (0, 0)) :: osl 30 3 v l.length (nmCells l) :: L) w) (hc : c[off]? = some v) (hm : ∀ s, Mono l s) (hl : l.length < 1000000) :
    Calls Tryd.prog 12 #[.pointer (some ⟨b, off, none⟩), .string s] w (ResPost l s w) := by
  have hv : ∃ sa cap, v = .slice sa l.length cap ∧ (0 < l.length → ∃ g, sa = some ⟨g, 0, none⟩) := by
    rcases h.drop.osl_cases with ⟨hv, hz, _⟩ | ⟨g, cap, _, hv, _⟩
    · exact ⟨none, 0, by rw [hv, hz], fun h => by omega⟩
    · exact ⟨_, _, hv, fun _ => ⟨g, rfl⟩⟩
  obtain ⟨sa, cap, rfl, hsa⟩ := hv
  have HF := Lib.hid (fun (w : World) (t : ByteArray) (h : St w0 (blk b (.cells c T (0, 0)) :: osl 30 3 (.slice sa l.length cap) l.length (nmCells l) :: L) w) => find_any b off c T (0, 0) _ l t w w0 L h hc hl (hm t))
  have HS := Lib.hid h
  have HCC := Lib.hid hc
  have HSA := Lib.hid hsa
  have c0 : w.cell? ⟨b, off, none⟩ = some (.slice sa l.length cap) := h.cell hc
  clear h hm hc hsa
  obtain ⟨n, hN⟩ : ∃ n, l.length = n := ⟨_, rfl⟩
  rw [hN] at c0 hl
  have HN := Lib.hid hN
  clear hN
  go_enter Tryd.func12, Tryd.ntmps12
  go_wp2_with fail
  clear c0
  go_loopw [1, 16] (fun x i wr => ResRel l s w x i wr) (fun _ i _ => (n + 1 - (intOf i).toNat))
  case atStart => exact ⟨0, s, by omega, rfl, rfl, rfl, Below.refl _ _⟩
  case round =>
    obtain ⟨k, t, hk, rfl, rfl, hr, hbel⟩ := hrel
    rw [HN.out] at hk
    have HR := Lib.hid hr
    have HB := Lib.hid hbel
    have HS1 := Lib.hid (HS.out.below_step hbel)
    clear hr hbel
    by_cases hlt : k < n + 1
    · obtain ⟨m, hm⟩ : ∃ m, n + 1 - k = m + 1 := ⟨n - k, by omega⟩
      have HM := Lib.hid (show l.length + 1 - k = m + 1 by rw [HN.out]; exact hm)
      have HM2 := Lib.hid (show l.length + 1 - (k + 1) = m by rw [HN.out]; omega)
      clear hm
      cases hit : hitB l t (srchN l t) with
      | false =>
        have HI := Lib.hid hit
        have HE := Lib.hid (show (⟨#[]⟩, 0, 7) = resN l (l.length + 1) s by rw [← HR.out, HM.out, resN, look_none hit])
        clear hit
        go_wp2_with fail
        refine (HF.out _ _ HS1.out).mono ?_
        rintro e w2 ⟨k', hk', rfl, hb2⟩
        have HB2 := Lib.hid (HB.out.trans (hb2.mono HB.out.size))
        rw [srch_eq hk', HI.out]
        clear hb2 hk'
        go_wp2_with fail
        go_ret3
        exact ResPost.mk HE.out HB2.out rfl
      | true =>
        have hlt2 := hit_lt hit
        obtain ⟨g, rfl⟩ := HSA.out (by omega)
        have HI := Lib.hid hit
        have HL := Lib.hid (look_some hit)
        have HLT := Lib.hid hlt2
        have hlt3 : srchN l t < n := by rw [← HN.out]; exact hlt2
        clear hit hlt2
        cases he : emptyB (nmAt l (srchN l t)).to with
        | true =>
          have HE := Lib.hid (show (t, -1, 0) = resN l (l.length + 1) s by rw [← HR.out, HM.out, resN, HL.out]; simp only [he, if_true])
          have he1 : (nmAt l (srchN l t)).to.toList.isEmpty = true := he
          have he2 : (nmAt l (srchN l t)).to.toList = [] := by simpa [emptyB] using he
          clear he
          generalize hK : srchN l t = k0 at *
          have HK := Lib.hid hK
          clear hK
          go_wp2_with fail
          refine (HF.out _ _ HS1.out).mono ?_
          rintro e w2 ⟨k', hk', rfl, hb2⟩
          have HB2 := Lib.hid (HB.out.trans (hb2.mono HB.out.size))
          have HS2 := Lib.hid (HS1.out.below_step hb2)
          rw [srch_eq hk', HK.out, HI.out]
          clear hb2 hk'
          have c1 : w2.cell? ⟨b, off, none⟩ = some (.slice (some ⟨g, 0, none⟩) n cap) := by rw [← HN.out]; exact HS2.out.cell HCC.out
          obtain ⟨d0, d1, d2⟩ := nm_cells HS2.out.drop HLT.out
          go_wp2_with fail
          go_ret3
          exact ResPost.mk HE.out (HB2.out.alloc HB2.out.size _) rfl
        | false =>
          have he1 : (nmAt l (srchN l t)).to.toList.isEmpty = false := he
          have he2 : ((nmAt l (srchN l t)).to.toList == []) = false := by simpa [emptyB] using he
          by_cases hh : 0 ≤ (nmAt l (srchN l t)).house
          · have HE := Lib.hid (show ((nmAt l (srchN l t)).to, (nmAt l (srchN l t)).house, 0) = resN l (l.length + 1) s by rw [← HR.out, HM.out, resN, HL.out]; simp only [he, hh, if_true, Bool.false_eq_true, if_false])
            have hd : decide (0 ≤ (nmAt l (srchN l t)).house) = true := by simpa using hh
            clear he hh
            generalize hK : srchN l t = k0 at *
            have HK := Lib.hid hK
            clear hK
            go_wp2_with fail
            refine (HF.out _ _ HS1.out).mono ?_
            rintro e w2 ⟨k', hk', rfl, hb2⟩
            have HB2 := Lib.hid (HB.out.trans (hb2.mono HB.out.size))
            have HS2 := Lib.hid (HS1.out.below_step hb2)
            rw [srch_eq hk', HK.out, HI.out]
            clear hb2 hk'
            have c1 : w2.cell? ⟨b, off, none⟩ = some (.slice (some ⟨g, 0, none⟩) n cap) := by rw [← HN.out]; exact HS2.out.cell HCC.out
            obtain ⟨d0, d1, d2⟩ := nm_cells HS2.out.drop HLT.out
            go_wp2_with fail
            refine wp_region_ord [.pure, .read, .pure, .read, .pure, .pure, .pure] [0, 1, 2, 3, 4, 5, 6] (by kernel_rfl) (by kernel_rfl) ?_
            simp only [List.map_cons, List.map_nil, item, List.getD_cons_zero, List.getD_cons_succ]
            repeat ((with_reducible refine vcL_pure (v := ?_) (a' := ?_) ?_ ?_ ?_ ?_); rotate_left 2; (rfl); ((intro w'; go_simp; (try (go_bits; (try go_simp); (try (go_bits; (try go_simp))))); (repeat (first | rewrite [if_pos (by omega)] | rewrite [if_neg (by omega)]))) <;> rfl); (go_simp; rfl))
            refine vcL_ld1 (a' := ?_) (v := .string (nmAt l k0).to) (ad := ⟨w2.heap.size, 1, none⟩) rfl rfl (fun _ => by simp) (by simp) ?_ ?_
            rotate_left 1
            · go_simp; rfl
            repeat ((with_reducible refine vcL_pure (v := ?_) (a' := ?_) ?_ ?_ ?_ ?_); rotate_left 2; (rfl); ((intro w'; go_simp; (try (go_bits; (try go_simp); (try (go_bits; (try go_simp))))); (repeat (first | rewrite [if_pos (by omega)] | rewrite [if_neg (by omega)]))) <;> rfl); (go_simp; rfl))
            refine vcL_ld1 (a' := ?_) (v := .int .i64 (nmAt l k0).house) (ad := ⟨w2.heap.size, 2, none⟩) rfl rfl (fun _ => by simp) (by simp) ?_ ?_
            rotate_left 1
            · go_simp; rfl
            repeat ((with_reducible refine vcL_pure (v := ?_) (a' := ?_) ?_ ?_ ?_ ?_); rotate_left 2; (rfl); ((intro w'; go_simp; (try (go_bits; (try go_simp); (try (go_bits; (try go_simp))))); (repeat (first | rewrite [if_pos (by omega)] | rewrite [if_neg (by omega)]))) <;> rfl); (go_simp; rfl))
            refine vcL_nil ?_
            go_wp2_with fail
            go_ret3
            exact ResPost.mk HE.out (HB2.out.alloc HB2.out.size _).drew rfl
          · have HE := Lib.hid (show resN l m (nmAt l (srchN l t)).to = resN l (l.length + 1) s by rw [← HR.out, HM.out, resN, HL.out]; simp only [he, hh, Bool.false_eq_true, if_false])
            have hd : decide (0 ≤ (nmAt l (srchN l t)).house) = false := by simpa using hh
            clear he hh
            generalize hK : srchN l t = k0 at *
            have HK := Lib.hid hK
            clear hK
            go_wp2_with fail
            refine (HF.out _ _ HS1.out).mono ?_
            rintro e w2 ⟨k', hk', rfl, hb2⟩
            have HB2 := Lib.hid (HB.out.trans (hb2.mono HB.out.size))
            have HS2 := Lib.hid (HS1.out.below_step hb2)
            rw [srch_eq hk', HK.out, HI.out]
            clear hb2 hk'
            have c1 : w2.cell? ⟨b, off, none⟩ = some (.slice (some ⟨g, 0, none⟩) n cap) := by rw [← HN.out]; exact HS2.out.cell HCC.out
            obtain ⟨d0, d1, d2⟩ := nm_cells HS2.out.drop HLT.out
            go_wp2_with fail
            go_roundw
            case rel => exact ⟨k + 1, (nmAt l k0).to, by rw [HN.out]; omega, rfl, by go_num, by rw [HM2.out]; exact HE.out, HB2.out.alloc HB2.out.size _⟩
            case measure => simp [intOf]; omega
    · obtain rfl : k = n + 1 := by omega
      have HE := Lib.hid (show (⟨#[]⟩, 0, 11) = resN l (l.length + 1) s by rw [← HR.out, HN.out, Nat.sub_self]; rfl)
      go_wp2_with fail
      go_ret3
      exact ResPost.mk HE.out HB.out rfl
end Go.Proofs.YtjhogocabcdjbaaDoor
