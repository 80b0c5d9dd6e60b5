/- names: which may be. -/
import Derived.Test.YtjhogocabcdjbaaDoorNmC
set_option linter.unusedSimpArgs false
set_option linter.unusedVariables false
namespace Go.Proofs.YtjhogocabcdjbaaDoor
open Go Go.RowKit WB
theorem word_is (s : ByteArray) (b : Bool) (w : World) (hs : s.size ≤ maxLen) (hb : wordB s = b) :
    Calls Tryd.prog 30 #[.string s] w fun e w' => e = .returned (.bool b) ∧ Below w.heap.size w w' := by
  subst hb
  have H := Lib.hid (letters_any s 8 w hs (by omega))
  go_enter Tryd.func30, Tryd.ntmps30
  go_wp2_with fail
  refine H.out.mono ?_
  rintro e w' ⟨rfl, hb⟩
  go_wp2_with fail
  go_ret
  exact ⟨rfl, hb⟩
theorem body_is (s : ByteArray) (b : Bool) (w : World) (hs : s.size ≤ maxLen) (hb : bodyB s = b) :
    Calls Tryd.prog 32 #[.string s] w fun e w' => e = .returned (.bool b) ∧ Below w.heap.size w w' := by
  subst hb
  have H := Lib.hid (letters_any s 12 w hs (by omega))
  go_enter Tryd.func32, Tryd.ntmps32
  go_wp2_with fail
  refine H.out.mono ?_
  rintro e w' ⟨rfl, hb⟩
  go_wp2_with fail
  go_ret
  exact ⟨rfl, hb⟩
set_option maxHeartbeats 800000 in
theorem right_any (x : Nm) (w : World) (h1 : x.name.size ≤ maxLen) (h2 : x.to.size ≤ maxLen) :
    Calls Tryd.prog 44 #[.agg x.cells.toArray] w fun e w' => e = .returned (.bool (rightNm x)) ∧ Below w.heap.size w w' := by
  obtain ⟨a, b, n⟩ := x
  simp only at h1 h2
  show Calls Tryd.prog 44 #[.agg #[.string a, .string b, .int .i64 n]] w _
  have W1 : ∀ (v : Bool) (w : World), wordB a = v → Calls Tryd.prog 30 #[.string a] w fun e w' => e = .returned (.bool v) ∧ Below w.heap.size w w' := fun v w hv => word_is a v w h1 hv
  have W2 : ∀ (v : Bool) (w : World), wordB b = v → Calls Tryd.prog 30 #[.string b] w fun e w' => e = .returned (.bool v) ∧ Below w.heap.size w w' := fun v w hv => word_is b v w h2 hv
  have H1 := Lib.hid W1
  have H2 := Lib.hid W2
  clear W1 W2 h1 h2
  have hb0 : Below w.heap.size w (w.alloc (.cells #[.string a, .string b, .int .i64 n] 30)) := (Below.refl _ _).alloc (Nat.le_refl _) _
  have HB0 := Lib.hid hb0
  clear hb0
  cases hA : wordB a with
  | false =>
    have HF := Lib.hid (show rightNm ⟨a, b, n⟩ = false by simp [rightNm, hA])
    have HA := Lib.hid hA
    clear hA
    go_enter Tryd.func44, Tryd.ntmps44
    go_wp2_with fail
    refine (H1.out _ _ HA.out).mono ?_
    rintro e w1 ⟨rfl, hb1⟩
    have HB1 := Lib.hid (HB0.out.trans (hb1.mono (by simp)))
    clear hb1
    go_wp2_with fail
    go_ret
    exact ⟨ret_bool HF.out.symm, HB1.out⟩
  | true =>
    have HA := Lib.hid hA
    by_cases hn1 : n < -1
    · have HF := Lib.hid (show rightNm ⟨a, b, n⟩ = false by simp [rightNm]; omega)
      have hd : decide (n < -1) = true := by simpa using hn1
      clear hA hn1
      go_enter Tryd.func44, Tryd.ntmps44
      go_wp2_with fail
      refine (H1.out _ _ HA.out).mono ?_
      rintro e w1 ⟨rfl, hb1⟩
      have HB1 := Lib.hid (HB0.out.trans (hb1.mono (by simp)))
      obtain ⟨c0, c1, c2⟩ : w1.cell? ⟨w.heap.size, 0, none⟩ = some (.string a) ∧ w1.cell? ⟨w.heap.size, 1, none⟩ = some (.string b) ∧ w1.cell? ⟨w.heap.size, 2, none⟩ = some (.int .i64 n) :=
        ⟨Below.cells hb1 (by simp), Below.cells hb1 (by simp), Below.cells hb1 (by simp)⟩
      clear hb1
      go_wp2_with fail
      go_ret
      exact ⟨ret_bool HF.out.symm, HB1.out⟩
    · by_cases hn2 : n ≥ 4
      · have HF := Lib.hid (show rightNm ⟨a, b, n⟩ = false by simp [rightNm]; omega)
        have hd : decide (n < -1) = false := by simpa using hn1
        have hd2 : decide ((4 : Int) ≤ n) = true := by simpa using hn2
        clear hA hn1 hn2
        go_enter Tryd.func44, Tryd.ntmps44
        go_wp2_with fail
        refine (H1.out _ _ HA.out).mono ?_
        rintro e w1 ⟨rfl, hb1⟩
        have HB1 := Lib.hid (HB0.out.trans (hb1.mono (by simp)))
        obtain ⟨c0, c1, c2⟩ : w1.cell? ⟨w.heap.size, 0, none⟩ = some (.string a) ∧ w1.cell? ⟨w.heap.size, 1, none⟩ = some (.string b) ∧ w1.cell? ⟨w.heap.size, 2, none⟩ = some (.int .i64 n) :=
          ⟨Below.cells hb1 (by simp), Below.cells hb1 (by simp), Below.cells hb1 (by simp)⟩
        clear hb1
        go_wp2_with fail
        go_ret
        exact ⟨ret_bool HF.out.symm, HB1.out⟩
      · have hd : decide (n < -1) = false := by simpa using hn1
        have hd2 : decide ((4 : Int) ≤ n) = false := by simpa using hn2
        cases hB : wordB b with
        | true =>
          have HF := Lib.hid (show rightNm ⟨a, b, n⟩ = true by simp [rightNm, hA, hB]; omega)
          have HB := Lib.hid hB
          clear hA hn1 hn2 hB
          go_enter Tryd.func44, Tryd.ntmps44
          go_wp2_with fail
          refine (H1.out _ _ HA.out).mono ?_
          rintro e w1 ⟨rfl, hb1⟩
          have HB1 := Lib.hid (HB0.out.trans (hb1.mono (by simp)))
          obtain ⟨c0, c1, c2⟩ : w1.cell? ⟨w.heap.size, 0, none⟩ = some (.string a) ∧ w1.cell? ⟨w.heap.size, 1, none⟩ = some (.string b) ∧ w1.cell? ⟨w.heap.size, 2, none⟩ = some (.int .i64 n) :=
            ⟨Below.cells hb1 (by simp), Below.cells hb1 (by simp), Below.cells hb1 (by simp)⟩
          clear hb1
          go_wp2_with fail
          refine (H2.out _ _ HB.out).mono ?_
          rintro e w2 ⟨rfl, hb2⟩
          have HB2 := Lib.hid (HB1.out.trans (hb2.mono HB1.out.size))
          clear hb2
          go_wp2_with fail
          go_ret
          exact ⟨ret_bool HF.out.symm, HB2.out⟩
        | false =>
          have HB := Lib.hid hB
          cases hE : emptyB b with
          | false =>
            have HF := Lib.hid (show rightNm ⟨a, b, n⟩ = false by simp [rightNm, hB, hE])
            have he1 : b.toList.isEmpty = false := hE
            have he2 : (b.toList == []) = false := by simpa [emptyB] using hE
            clear hA hn1 hn2 hB hE
            go_enter Tryd.func44, Tryd.ntmps44
            go_wp2_with fail
            refine (H1.out _ _ HA.out).mono ?_
            rintro e w1 ⟨rfl, hb1⟩
            have HB1 := Lib.hid (HB0.out.trans (hb1.mono (by simp)))
            obtain ⟨c0, c1, c2⟩ : w1.cell? ⟨w.heap.size, 0, none⟩ = some (.string a) ∧ w1.cell? ⟨w.heap.size, 1, none⟩ = some (.string b) ∧ w1.cell? ⟨w.heap.size, 2, none⟩ = some (.int .i64 n) :=
              ⟨Below.cells hb1 (by simp), Below.cells hb1 (by simp), Below.cells hb1 (by simp)⟩
            clear hb1
            go_wp2_with fail
            refine (H2.out _ _ HB.out).mono ?_
            rintro e w2 ⟨rfl, hb2⟩
            have HB2 := Lib.hid (HB1.out.trans (hb2.mono HB1.out.size))
            have d0 := Below.cells hb2 c0
            have d1 := Below.cells hb2 c1
            have d2 := Below.cells hb2 c2
            clear hb2 c0 c1 c2
            go_wp2_with fail
            go_ret
            exact ⟨ret_bool HF.out.symm, HB2.out⟩
          | true =>
            have p1 : decide (-1 ≤ n) = true := by simp; omega
            have p2 : decide (n ≤ 3) = true := by simp; omega
            have HF := Lib.hid (show rightNm ⟨a, b, n⟩ = (n == -1) by simp only [rightNm, hA, hB, hE, p1, p2, Bool.true_and, Bool.false_or])
            clear p1 p2
            have he1 : b.toList.isEmpty = true := hE
            have he2 : b.toList = [] := by simpa [emptyB] using hE
            clear hA hn1 hn2 hB hE
            go_enter Tryd.func44, Tryd.ntmps44
            go_wp2_with fail
            refine (H1.out _ _ HA.out).mono ?_
            rintro e w1 ⟨rfl, hb1⟩
            have HB1 := Lib.hid (HB0.out.trans (hb1.mono (by simp)))
            obtain ⟨c0, c1, c2⟩ : w1.cell? ⟨w.heap.size, 0, none⟩ = some (.string a) ∧ w1.cell? ⟨w.heap.size, 1, none⟩ = some (.string b) ∧ w1.cell? ⟨w.heap.size, 2, none⟩ = some (.int .i64 n) :=
              ⟨Below.cells hb1 (by simp), Below.cells hb1 (by simp), Below.cells hb1 (by simp)⟩
            clear hb1
            go_wp2_with fail
            refine (H2.out _ _ HB.out).mono ?_
            rintro e w2 ⟨rfl, hb2⟩
            have HB2 := Lib.hid (HB1.out.trans (hb2.mono HB1.out.size))
            have d0 := Below.cells hb2 c0
            have d1 := Below.cells hb2 c1
            have d2 := Below.cells hb2 c2
            clear hb2 c0 c1 c2
            go_wp2_with fail
            go_ret
            exact ⟨ret_bool HF.out.symm, HB2.out⟩
end Go.Proofs.YtjhogocabcdjbaaDoor
