/- names: where a name stands. -/
import Derived.Test.YtjhogocabcdjbaaDoorNmA
set_option linter.unusedSimpArgs false
set_option linter.unusedVariables false
namespace Go.Proofs.YtjhogocabcdjbaaDoor
open Go Go.RowKit WB
theorem mono_nil (s : ByteArray) : Mono [] s := fun p q _ hq => by simp at hq
set_option maxHeartbeats 1000000 in
theorem bsf_nil (s : ByteArray) (w : World) :
    Calls Tryd.prog 68 #[.slice none 0 0, .string s, .func (.func 69) #[] #[]] w (BsPost [] s w) := by
  go_enter Tryd.func68, Tryd.ntmps68
  go_wp2_with fail
  refine wp_loop_rounds 1 ?_
  rw [rounds_succ]
  go_wp2_with fail
  go_ret2
  exact ⟨0, ⟨by simp, fun p hp => by omega, fun p _ hp => by simp at hp⟩, by simp [hitB], Below.refl _ _⟩
/-- a names' block: the slice lies in cell off of block b -/
theorem find_any (b off : Nat) (c : Array Value) (T : TypeId) (fz : Nat × Nat) (v : Value) (l : List Nm) (s : ByteArray) (w w0 : World) (L : List HP)
    (h : St w0 (blk b (.cells c T fz) :: osl 30 3 v l.length (nmCells l) :: L) w) (hc : c[off]? = some v) (hn2 : l.length < 1000000) (hmono : Mono l s) :
    Calls Tryd.prog 45 #[.pointer (some ⟨b, off, none⟩), .string s] w (BsPost l s w) := by
  have hcell : w.cell? ⟨b, off, none⟩ = some v := by rw [World.cell?, h.look.2]; exact hc
  have HS := Lib.hid h
  clear h hc
  rcases HS.out.drop.osl_cases with ⟨rfl, hz, hx, _⟩ | ⟨g, cap, cur, rfl, _⟩
  · obtain rfl : l = [] := List.eq_nil_of_length_eq_zero hz
    clear hz hx
    go_enter Tryd.func45, Tryd.ntmps45
    go_wp2_with (go_at_call 68; refine (bsf_nil _ _).mono ?_; rintro e w' ⟨k, hk, rfl, hb⟩)
    go_ret2
    exact ⟨k, hk, rfl, hb⟩
  · have hc2 := bsf_some g l.length cap l s w w0 L HS.out.drop hn2 hmono
    have HC := Lib.hid hc2
    clear hc2 hmono
    generalize l.length = n at *
    go_enter Tryd.func45, Tryd.ntmps45
    go_wp2_with fail
    refine HC.out.mono ?_
    rintro e w' ⟨k, hk, rfl, hb⟩
    go_wp2_with fail
    go_ret2
    exact ⟨k, hk, rfl, hb⟩
end Go.Proofs.YtjhogocabcdjbaaDoor
