/- msg: which texts are words, and bodies; names: which may be. -/
import Derived.Test.YtjhogocabcdjbaaDoorNmB
import Derived.Shelf.Strings.SlTrimAscii
set_option linter.unusedSimpArgs false
set_option linter.unusedVariables false
namespace Go.Proofs.YtjhogocabcdjbaaDoor
open Go Go.RowKit WB
theorem trim_set (s : ByteArray) (w : World) (hs : s.size ≤ 9223372036854775807) :
    Calls Tryd.prog 86 #[.string s, .string cutset] w fun e w' => e = .returned (.string ⟨(Lib.trimS s.data.toList cutset.data.toList).toArray⟩) ∧ Below w.heap.size w w' :=
  Any.strings_Trim_laid Tryd.lays160 (by kernel_rfl) s cutset w hs (by decide) (ascii_of_all (by decide))
set_option maxHeartbeats 400000 in
theorem letters_any (s : ByteArray) (most : Nat) (w : World) (hs : s.size ≤ maxLen) (_hm : most < 100) :
    Calls Tryd.prog 63 #[.string s, .int .i64 most] w fun e w' => e = .returned (.bool (lettersB s most)) ∧ Below w.heap.size w w' := by
  have hs' : s.size ≤ 9223372036854775807 := by unfold maxLen at hs; exact hs
  clear hs
  have ht := trim_set s w hs'
  have HT := Lib.hid ht
  have HN := Lib.hid (trimS_nil s)
  clear ht
  by_cases h1 : 1 ≤ s.size
  · by_cases h2 : s.size ≤ most
    · have hd1 : decide ((1 : Int) ≤ (s.size : Int)) = true := by simp; omega
      have hd2 : decide ((s.size : Int) ≤ (most : Int)) = true := by simp; omega
      by_cases h3 : allLet s = true
      · have hfin : lettersB s most = true := by simp [lettersB, h1, h2, h3]
        have HF := Lib.hid hfin
        have HE := Lib.hid (HN.out.2 h3)
        clear hfin h3
        go_enter Tryd.func63, Tryd.ntmps63
        go_wp2_with fail
        refine HT.out.mono ?_
        rintro e w' ⟨rfl, hb⟩
        rw [HE.out]
        go_wp2_with fail
        go_ret
        exact ⟨ret_bool HF.out.symm, hb⟩
      · have hfin : lettersB s most = false := by simp [lettersB, h3]
        have HF := Lib.hid hfin
        have hne : Lib.trimS s.data.toList cutset.data.toList ≠ [] := fun h => h3 (HN.out.1 h)
        obtain ⟨x, xs, hx⟩ := List.exists_cons_of_ne_nil hne
        have HE := Lib.hid hx
        clear hfin h3 hne hx
        go_enter Tryd.func63, Tryd.ntmps63
        go_wp2_with fail
        refine HT.out.mono ?_
        rintro e w' ⟨rfl, hb⟩
        rw [HE.out]
        go_wp2_with fail
        go_ret
        exact ⟨ret_bool HF.out.symm, hb⟩
    · have hd1 : decide ((1 : Int) ≤ (s.size : Int)) = true := by simp; omega
      have hd2 : decide ((s.size : Int) ≤ (most : Int)) = false := by simp; omega
      have hfin : lettersB s most = false := by simp [lettersB, h2]
      have HF := Lib.hid hfin
      clear hfin
      go_enter Tryd.func63, Tryd.ntmps63
      go_wp2_with fail
      go_ret
      exact ⟨ret_bool HF.out.symm, Below.refl _ _⟩
  · have hd1 : decide ((1 : Int) ≤ (s.size : Int)) = false := by simp; omega
    have hfin : lettersB s most = false := by simp [lettersB, h1]
    have HF := Lib.hid hfin
    clear hfin
    go_enter Tryd.func63, Tryd.ntmps63
    go_wp2_with fail
    go_ret
    exact ⟨ret_bool HF.out.symm, Below.refl _ _⟩
end Go.Proofs.YtjhogocabcdjbaaDoor
