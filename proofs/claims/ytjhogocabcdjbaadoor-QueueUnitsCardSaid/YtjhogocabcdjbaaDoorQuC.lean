/- slices.Insert of one value. -/
import Derived.Test.YtjhogocabcdjbaaDoorQuB
import Derived.Test.YtjhogocabcdjbaaDoorWbW
set_option linter.unusedSimpArgs false
set_option linter.unusedVariables false
namespace Go.Proofs.YtjhogocabcdjbaaDoor
open Go Go.RowKit WB
theorem it_nmInfo : (Tryd.prog.info? 99).map (fun i => (i.zero, i.size, i.bytes)) = some (some (Value.agg #[.int .i64 0, .int .i64 0, .string ⟨#[]⟩, .string ⟨#[]⟩, .int .i64 0, .int .i64 0, .int .i64 0, .int .i64 0]), 8, 80) := by kernel_rfl
set_option maxHeartbeats 1000000 in
/-- at the end -/
theorem it_ins_end (w w0 : World) (L : List HP) (v : Value) (n : Nat) (xs vs : List Value) (bv : Nat) (h : St w0 (osl 99 8 v n xs :: blk bv (.cells vs.toArray 99 (0, 0)) :: L) w)
    (hv : vs.length = 8) (h1 : ∀ u ∈ vs, u.oneCell' = true) (hn : n < 1000000) :
    Calls Tryd.prog 81 #[v, .int .i64 n, .slice (some ⟨bv, 0, none⟩) 1 1] w fun e w' => ∃ v', e = .returned v' ∧ St w0 (osl 99 8 v' (n + 1) (xs ++ vs) :: L) w' := by
  obtain ⟨i0, hi, hz0, hz1, hz2⟩ := info_parts it_nmInfo
  have hnews : HasCells w ⟨bv, 0, none⟩ vs := by
    have h2 := h.pick (.tail .head)
    exact h2.hasCells fun j u hj => by simpa using hj
  obtain ⟨v', w1, hr, hst⟩ := append_st (P := Tryd.prog) 42 42 99 i0 _ 8 80 Tryd.underlying42 hi hz0 hz1 hz2 rfl h ⟨bv, 0, none⟩ 1 1 vs (by rw [hv]) hnews h1 (by unfold maxLen; omega) (by omega)
  have HR := Lib.hid hr
  have HS := Lib.hid hst
  have hcase : v = .slice none 0 0 ∧ n = 0 ∨ ∃ g cap, v = .slice (some ⟨g, 0, none⟩) n cap ∧ n ≤ cap := by
    rcases h.osl_cases with ⟨h1, h2, _⟩ | ⟨g, cap, _, h1, h2, _⟩
    · exact .inl ⟨h1, h2⟩
    · exact .inr ⟨g, cap, h1, h2⟩
  clear h hr hst hnews hi hz0 hz1 hz2
  rcases hcase with ⟨rfl, rfl⟩ | ⟨g, cap, rfl, hnc⟩
  · go_enter Tryd.func81, Tryd.ntmps81
    go_wp2_with (at_builtin; refine Lib.wpList_append_run _ rfl _ _ _ _ rfl _ _ rfl rfl _ _ HR.out ?_)
    go_ret
    exact ⟨_, rfl, HS.out.swap2.drop⟩
  · have hE : ((n : Int) == (n : Int)) = true := by simp
    by_cases hcn : cap = n
    · have hcn' : n = cap := hcn.symm
      subst hcn'
      go_enter Tryd.func81, Tryd.ntmps81
      go_wp2_with (at_builtin; refine Lib.wpList_append_run _ rfl _ _ _ _ rfl _ _ rfl rfl _ _ HR.out ?_)
      go_ret
      exact ⟨_, rfl, HS.out.swap2.drop⟩
    · go_enter Tryd.func81, Tryd.ntmps81
      go_wp2_with (at_builtin; refine Lib.wpList_append_run _ rfl _ _ _ _ rfl _ _ rfl rfl _ _ HR.out ?_)
      go_ret
      exact ⟨_, rfl, HS.out.swap2.drop⟩
end Go.Proofs.YtjhogocabcdjbaaDoor
