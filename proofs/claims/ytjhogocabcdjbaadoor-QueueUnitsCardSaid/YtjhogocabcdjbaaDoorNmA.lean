/- names: how a name is looked for. -/
import Derived.Test.YtjhogocabcdjbaaDoorShelf
import Derived.Test.YtjhogocabcdjbaaDoorWbN
set_option linter.unusedSimpArgs false
set_option linter.unusedVariables false
namespace Go.Proofs.YtjhogocabcdjbaaDoor
open Go Go.RowKit WB
theorem find1_any (a b s : ByteArray) (h : Int) (w : World) :
    Calls Tryd.prog 69 #[.agg #[.string a, .string b, .int .i64 h], .string s] w fun e w' => e = .returned (.int .i64 (cmpN a s)) ∧ Below w.heap.size w w' := by
  go_enter Tryd.func69, Tryd.ntmps69
  go_wp2_with (go_at_call 70; refine (Tryd.strings_Compare _ _ _).mono ?_; rintro e w' ⟨rfl, rfl⟩)
  go_ret
  exact ⟨rfl, (Below.refl _ _).alloc (Nat.le_refl _) _⟩
def BsInv (l : List Nm) (s : ByteArray) (w : World) (i j : Value) (wr : World) : Prop :=
  ∃ p q : Nat, p ≤ q ∧ q ≤ l.length ∧ i = .int .i64 p ∧ j = .int .i64 q ∧ (∀ k, k < p → cmpN (nmAt l k).name s < 0) ∧ (∀ k, q ≤ k → k < l.length → 0 ≤ cmpN (nmAt l k).name s) ∧ Below w.heap.size w wr
def BsPost (l : List Nm) (s : ByteArray) (w : World) (e : Ending) (w' : World) : Prop :=
  ∃ k : Nat, Srch l s k ∧ e = .returned (.tuple #[.int .i64 k, .bool (hitB l s k)]) ∧ Below w.heap.size w w'
set_option maxHeartbeats 1000000 in
theorem bsf_some (g n cap : Nat) (l : List Nm) (s : ByteArray) (w w0 : World) (L : List HP) (h : St w0 (osl 30 3 (.slice (some ⟨g, 0, none⟩) n cap) n (nmCells l) :: L) w) (hn2 : n < 1000000) (hmono : Mono l s) :
    Calls Tryd.prog 68 #[.slice (some ⟨g, 0, none⟩) n cap, .string s, .func (.func 69) #[] #[]] w (BsPost l s w) := by
  have hn : n = l.length := by have := h.osl_len; rw [nmCells_len] at this; omega
  have HN := Lib.hid hn
  have HS := Lib.hid h
  clear hn h
  go_enter Tryd.func68, Tryd.ntmps68
  go_wp2_with fail
  go_loopw [9, 10] (fun i j wr => BsInv l s w i j wr) (fun i j _ => (intOf j - intOf i).toNat)
  case atStart => exact ⟨0, n, by omega, by rw [HN.out]; exact Nat.le_refl _, rfl, rfl, fun k hk => by omega, fun k h1 h2 => by rw [← HN.out] at h2; omega, Below.refl _ _⟩
  case round =>
    obtain ⟨p, q, hpq, hq, rfl, rfl, h1, h2, hbel⟩ := hrel
    have hqn : q ≤ n := by rw [HN.out]; exact hq
    have H1 := Lib.hid h1
    have H2 := Lib.hid h2
    have HB := Lib.hid hbel
    clear h1 h2 hbel hq
    by_cases hlt : p < q
    · have hm : (p + q) / 2 < n := by omega
      obtain ⟨c0, c1, c2⟩ := nm_cells HS.out (i := (p + q) / 2) (by rw [← HN.out]; exact hm)
      have d0 := Below.cells HB.out c0
      have d1 := Below.cells HB.out c1
      have d2 := Below.cells HB.out c2
      clear c0 c1 c2
      go_wp2_with fail
      refine (find1_any _ _ _ _ _).mono ?_
      rintro e w1 ⟨rfl, hb1⟩
      have HB1 := Lib.hid hb1
      clear hb1 d0 d1 d2
      by_cases hc : cmpN (nmAt l ((p + q) / 2)).name s < 0
      · have hd : decide (cmpN (nmAt l ((p + q) / 2)).name s < 0) = true := by simpa using hc
        go_wp2_with fail
        go_roundw
        case rel =>
          refine ⟨(p + q) / 2 + 1, q, by omega, by rw [← HN.out]; exact hqn, by go_num, rfl, fun k hk => ?_, H2.out, HB.out.trans (HB1.out.mono HB.out.size)⟩
          exact hmono k ((p + q) / 2) (by omega) (by rw [← HN.out]; exact hm) hc
        case measure => simp [intOf]; omega
      · have hd : decide (cmpN (nmAt l ((p + q) / 2)).name s < 0) = false := by simpa using hc
        go_wp2_with fail
        go_roundw
        case rel =>
          refine ⟨p, (p + q) / 2, by omega, by rw [← HN.out]; omega, rfl, by go_num, H1.out, fun k hk1 hk2 => ?_, HB.out.trans (HB1.out.mono HB.out.size)⟩
          exact Int.not_lt.1 fun hk => absurd (hmono _ k hk1 hk2 hk) (Int.not_lt.2 hc)
        case measure => simp [intOf]; omega
    · obtain rfl : p = q := by omega
      by_cases hlt2 : p < n
      · obtain ⟨c0, c1, c2⟩ := nm_cells HS.out (i := p) (by rw [← HN.out]; exact hlt2)
        have d0 := Below.cells HB.out c0
        have d1 := Below.cells HB.out c1
        have d2 := Below.cells HB.out c2
        clear c0 c1 c2
        go_wp2_with fail
        refine (find1_any _ _ _ _ _).mono ?_
        rintro e w1 ⟨rfl, hb1⟩
        have HB1 := Lib.hid hb1
        clear hb1 d0 d1 d2
        go_wp2_with fail
        go_ret2
        exact ⟨p, ⟨by rw [← HN.out]; omega, H1.out, H2.out⟩, by simp [hitB, ← HN.out, hlt2], HB.out.trans (HB1.out.mono HB.out.size)⟩
      · go_wp2_with fail
        go_ret2
        exact ⟨p, ⟨by rw [← HN.out]; omega, H1.out, H2.out⟩, by simp [hitB, ← HN.out, hlt2], HB.out⟩
end Go.Proofs.YtjhogocabcdjbaaDoor
