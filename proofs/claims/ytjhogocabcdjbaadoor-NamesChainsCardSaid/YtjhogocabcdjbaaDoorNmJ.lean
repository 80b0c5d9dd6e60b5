/- names.Set. -/
import Derived.Test.YtjhogocabcdjbaaDoorNmI
import Derived.Test.YtjhogocabcdjbaaDoorWbX
namespace Go.Proofs.YtjhogocabcdjbaaDoor
open Go Go.RowKit WB
theorem ins_any (w w0 : World) (L : List HP) (v : Value) (l : List Nm) (x : Nm) (k bv n : Nat) (hn : n = l.length) (h : St w0 (osl 30 3 v n (nmCells l) :: blk bv (.cells x.cells.toArray 30 (0, 0)) :: L) w)
    (hk : k ≤ l.length) (hn2 : l.length < 1000000) :
    Calls Tryd.prog 46 #[v, .int .i64 k, .slice (some ⟨bv, 0, none⟩) 1 1] w fun e w' => ∃ v', e = .returned v' ∧ St w0 (osl 30 3 v' (l.length + 1) (nmCells (l.take k ++ x :: l.drop k)) :: L) w' := by
  subst hn
  by_cases hkn : k = l.length
  · subst hkn
    have := ins_end w w0 L v l.length (nmCells l) x.cells bv h rfl x.cells_one hn2
    refine this.mono ?_
    rintro e w' ⟨v', he, hs⟩
    refine ⟨v', he, ?_⟩
    rw [show nmCells (l.take l.length ++ x :: l.drop l.length) = nmCells l ++ x.cells by simp [nmCells]]
    exact hs
  · have hlt : k < l.length := by omega
    rcases h.osl_cases with ⟨_, hz, _⟩ | ⟨g, cap, cur, rfl, hnc, _⟩
    · omega
    · rw [← nmCells_insert l x k hk]
      by_cases hr : l.length + 1 ≤ cap
      · exact ins_room w w0 L g l.length cap k (nmCells l) x.cells bv h rfl x.cells_one (nmCells_one l) hn2 hlt hr
      · exact ins_grow w w0 L g l.length k cap (nmCells l) x.cells bv h rfl x.cells_one (nmCells_one l) hn2 hlt (by omega)
theorem right_is (x : Nm) (b : Bool) (w : World) (h1 : x.name.size ≤ maxLen) (h2 : x.to.size ≤ maxLen) (hb : rightNm x = b) :
    Calls Tryd.prog 44 #[.agg x.cells.toArray] w fun e w' => e = .returned (.bool b) ∧ Below w.heap.size w w' := by
  rw [← hb]; exact right_any x w h1 h2
set_option maxHeartbeats 1000000 in
/-- what may not be -/
theorem set_bad (b off : Nat) (c : Array Value) (T : TypeId) (v : Value) (l : List Nm) (x : Nm) (w w0 : World) (L : List HP)
    (h : St w0 (blk b (.cells c T (0, 0)) :: osl 30 3 v l.length (nmCells l) :: L) w) (hr : rightNm x = false) (h1 : x.name.size ≤ maxLen) (h2 : x.to.size ≤ maxLen) :
    Calls Tryd.prog 11 #[.pointer (some ⟨b, off, none⟩), .agg x.cells.toArray] w fun e w' => e = .returned (.iface 37 (.int .i64 1)) ∧
      St w0 (blk b (.cells c T (0, 0)) :: osl 30 3 v l.length (nmCells l) :: L) w' := by
  have HC := Lib.hid (fun w => right_is x false w h1 h2 hr)
  have hs0 := h.alloc (.cells x.cells.toArray 30)
  have HS := Lib.hid hs0
  clear h h1 h2 hr hs0
  obtain ⟨a, t, n⟩ := x
  simp only [Nm.cells] at HC HS ⊢
  go_enter Tryd.func11, Tryd.ntmps11
  go_wp2_with fail
  refine (HC.out _).mono ?_
  rintro e w1 ⟨rfl, hb1⟩
  have HS1 := Lib.hid (HS.out.below_step hb1)
  clear hb1
  go_wp2_with fail
  go_ret
  exact ⟨rfl, HS1.out.drop⟩
end Go.Proofs.YtjhogocabcdjbaaDoor
