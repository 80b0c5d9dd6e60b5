/- names: Set, Local. -/
import Derived.Test.YtjhogocabcdjbaaDoorNmL
import Derived.Test.YtjhogocabcdjbaaDoorWbY
namespace Go.Proofs.YtjhogocabcdjbaaDoor
open Go Go.RowKit WB
theorem set_any (b off : Nat) (c : Array Value) (T : TypeId) (v : Value) (l : List Nm) (x : Nm) (w w0 : World) (L : List HP)
    (h : St w0 (blk b (.cells c T (0, 0)) :: osl 30 3 v l.length (nmCells l) :: L) w) (hc : c[off]? = some v) (h1 : x.name.size ≤ maxLen) (h2 : x.to.size ≤ maxLen)
    (hm : Mono l x.name) (hl : l.length ≤ 20) :
    Calls Tryd.prog 11 #[.pointer (some ⟨b, off, none⟩), .agg x.cells.toArray] w fun e w' => e = .returned (errV 37 (setErr l x)) ∧
      ∃ v', St w0 (blk b (.cells (c.setIfInBounds off v') T (0, 0)) :: osl 30 3 v' (setNm l x).length (nmCells (setNm l x)) :: L) w' := by
  cases hr : rightNm x with
  | false =>
    refine (set_bad b off c T v l x w w0 L h hr h1 h2).mono ?_
    rintro e w' ⟨rfl, hs⟩
    refine ⟨by simp [errV, setErr, hr], v, ?_⟩
    rw [set_same hc]; simp only [setNm, hr, if_true]; exact hs
  | true =>
    cases hit : hitB l x.name (srchN l x.name) with
    | true =>
      refine (set_hit b off c T v l x w w0 L h hc hr h1 h2 hm (by omega) hit).mono ?_
      rintro e w' ⟨rfl, hs⟩
      refine ⟨by simp [errV, setErr, hr, hit], v, ?_⟩
      rw [set_same hc]; simp only [setNm, hr, hit, if_true, Bool.true_eq_false, if_false, List.length_set]; exact hs
    | false =>
      by_cases hf : 20 ≤ l.length
      · refine (set_full b off c T v l x w w0 L h hc hr h1 h2 hm hf (by omega) hit).mono ?_
        rintro e w' ⟨rfl, hs⟩
        refine ⟨by simp [errV, setErr, hr, hit, hf], v, ?_⟩
        rw [set_same hc]; simp only [setNm, hr, hit, hf, if_true, Bool.true_eq_false, Bool.false_eq_true, if_false]; exact hs
      · refine (set_new b off c T v l x w w0 L h hc hr h1 h2 hm (by omega) hit).mono ?_
        rintro e w' ⟨rfl, v', hs⟩
        refine ⟨by simp [errV, setErr, hr, hit, hf], v', ?_⟩
        have hk : srchN l x.name ≤ l.length := takeWhile_len_le _ _
        have e1 : setNm l x = l.take (srchN l x.name) ++ x :: l.drop (srchN l x.name) := by simp [setNm, hr, hit, hf]
        rw [e1, show (l.take (srchN l x.name) ++ x :: l.drop (srchN l x.name)).length = l.length + 1 by simp; omega]
        exact hs
set_option maxHeartbeats 1000000 in
theorem local_any (b off : Nat) (c : Array Value) (T : TypeId) (v : Value) (l : List Nm) (s : ByteArray) (w w0 : World) (L : List HP)
    (h : St w0 (blk b (.cells c T (0, 0)) :: osl 30 3 v l.length (nmCells l) :: L) w) (hc : c[off]? = some v) (hm : Mono l s) (hl : l.length < 1000000) :
    Calls Tryd.prog 14 #[.pointer (some ⟨b, off, none⟩), .string s] w fun e w' => e = .returned (.bool (localB l s)) ∧ Below w.heap.size w w' := by
  have HF := Lib.hid (find_any b off c T (0, 0) v l s w w0 L h hc hl hm)
  have HK := Lib.hid (fun k (hk : Srch l s k) => srch_eq hk)
  have HS := Lib.hid h
  have HCC := Lib.hid hc
  cases hit : hitB l s (srchN l s) with
  | false =>
    have HI := Lib.hid hit
    have HE := Lib.hid (show localB l s = false by simp [localB, look_none hit])
    clear h hm hit hc
    go_enter Tryd.func14, Tryd.ntmps14
    go_wp2_with fail
    refine HF.out.mono ?_
    rintro e w2 ⟨k, hk, rfl, hb2⟩
    have HB2 := Lib.hid hb2
    rw [HK.out k hk, HI.out]
    clear hb2 hk
    go_wp2_with fail
    go_ret
    exact ⟨ret_bool HE.out.symm, HB2.out⟩
  | true =>
    have hlt := hit_lt hit
    have hv : ∃ g cap, v = .slice (some ⟨g, 0, none⟩) l.length cap := by
      rcases h.drop.osl_cases with ⟨hv, hz, _⟩ | ⟨g, cap, _, hv, _⟩
      · omega
      · exact ⟨_, _, hv⟩
    obtain ⟨g, cap, rfl⟩ := hv
    have HI := Lib.hid hit
    have HE := Lib.hid (show localB l s = emptyB (nmAt l (srchN l s)).to by simp [localB, look_some hit])
    have HN := Lib.hid (show srchN l s < l.length from hlt)
    clear h hm hit hc
    generalize hN : l.length = n at HF hlt hl
    generalize hK : srchN l s = k0 at HI HE HN HK hlt
    clear hK
    cases he : emptyB (nmAt l k0).to with
    | false =>
      have he1 : (nmAt l k0).to.toList.isEmpty = false := he
      have he2 : ((nmAt l k0).to.toList == []) = false := by simpa [emptyB] using he
      have HE2 := Lib.hid he
      have HNN := Lib.hid hN
      clear he hN
      go_enter Tryd.func14, Tryd.ntmps14
      go_wp2_with fail
      refine HF.out.mono ?_
      rintro e w2 ⟨k, hk, rfl, hb2⟩
      have HB2 := Lib.hid hb2
      have HS2 := Lib.hid (HS.out.below_step hb2)
      obtain rfl := HK.out k hk
      rw [HI.out]
      clear hb2 hk
      have c1 : w2.cell? ⟨b, off, none⟩ = some (.slice (some ⟨g, 0, none⟩) n cap) := by rw [← HNN.out]; exact HS2.out.cell HCC.out
      obtain ⟨d0, d1, d2⟩ := nm_cells HS2.out.drop HN.out
      go_wp2_with fail
      go_ret
      exact ⟨ret_bool (by rw [HE.out, HE2.out]), HB2.out⟩
    | true =>
      have he1 : (nmAt l k0).to.toList.isEmpty = true := he
      have he2 : (nmAt l k0).to.toList = [] := by simpa [emptyB] using he
      have HE2 := Lib.hid he
      have HNN := Lib.hid hN
      clear he hN
      go_enter Tryd.func14, Tryd.ntmps14
      go_wp2_with fail
      refine HF.out.mono ?_
      rintro e w2 ⟨k, hk, rfl, hb2⟩
      have HB2 := Lib.hid hb2
      have HS2 := Lib.hid (HS.out.below_step hb2)
      obtain rfl := HK.out k hk
      rw [HI.out]
      clear hb2 hk
      have c1 : w2.cell? ⟨b, off, none⟩ = some (.slice (some ⟨g, 0, none⟩) n cap) := by rw [← HNN.out]; exact HS2.out.cell HCC.out
      obtain ⟨d0, d1, d2⟩ := nm_cells HS2.out.drop HN.out
      go_wp2_with fail
      go_ret
      exact ⟨ret_bool (by rw [HE.out, HE2.out]), HB2.out⟩
end Go.Proofs.YtjhogocabcdjbaaDoor
