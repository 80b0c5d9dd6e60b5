/- waybillkeep.pick, stands -/
import Derived.Test.YtjhogocabcdjbaaDoorNmN
import Derived.Test.YtjhogocabcdjbaaDoorWbO
namespace Go.Proofs.YtjhogocabcdjbaaDoor
open Go Go.RowKit WB
def pk (a n : Int) : Int := (a % 18446744073709551616) % n
theorem pk_lt (a : Int) {n : Int} (h1 : 1 ≤ n) : 0 ≤ pk a n ∧ pk a n < n := ⟨Int.emod_nonneg _ (by omega), Int.emod_lt_of_pos _ (by omega)⟩
theorem pick_any (a n : Int) (w : World) (h1 : 1 ≤ n) (h2 : n ≤ 1000) : Calls Tryd.prog 10 #[.int .i64 a, .int .i64 n] w fun e w' => e = .returned (.int .i64 (pk a n)) ∧ w' = w := by
  have hu : IntKind.u64.wrap a = a % 18446744073709551616 := rfl
  have h0 : 0 ≤ a % 18446744073709551616 := Int.emod_nonneg _ (by omega)
  have hp : (IntKind.u64.wrap a).tmod n = pk a n := by rw [hu, Int.tmod_eq_emod_of_nonneg h0]; rfl
  have hw : wrap64 ((IntKind.u64.wrap a).tmod n) = pk a n := by rw [hp]; have := pk_lt a h1; unfold wrap64; omega
  have HW := Lib.hid hw
  clear hw hp h0 hu
  go_enter Tryd.func10, Tryd.ntmps10
  go_wp2_with fail
  rw [HW.out]
  go_ret
  exact ⟨rfl, rfl⟩
theorem vcL_pick {ops : Array Oper} {Q : Exit → Act → World → Prop} {rest : List (Kd × Oper)} {o : Oper} {a : Act} {w : World} {x : Int} (n : Int) (hw : Region.wanted o (yielded ops a.tmps) = true)
    (he : ∀ w', (execOp a.eval o).run Tryd.prog w' = .ok (.enter 10 #[.int .i64 x, .int .i64 n]) w') (h1 : 1 ≤ n) (h2 : n ≤ 1000)
    {a' : Nat → Act} (hp : ∀ p : Nat, a.put o.dst (.int .i64 p) = a' p) (h : ∀ p : Nat, (p : Int) < n → vcL Tryd.prog ops Q rest (a' p) w) : vcL Tryd.prog ops Q ((.pure, o) :: rest) a w := by
  obtain ⟨q1, q2⟩ := pk_lt x h1
  obtain ⟨p, hq⟩ := Int.eq_ofNat_of_zero_le q1
  rw [hq] at q2
  exact vcL_pureCall _ _ _ hw he (fun w' => pick_any x n w' h1 h2) rfl (by have := h p (by omega); rw [hq, hp]; exact this)
/-- a list of names behind a pointer -/
def NmS (b : Nat) (l : List Nm) : HP := ex fun v => sep (blk b (.cells #[v] 26 (0, 0))) (osl 30 3 v l.length (nmCells l))
variable {w0 w : World} {L : List HP} {b : Nat} {l : List Nm}
theorem NmS.mk (h : St w0 L w) : St w0 (NmS w.heap.size [] :: L) (w.alloc (.cells #[.slice none 0 0] 26)) :=
  St.exi (.slice none 0 0) (St.join ((h.osl_nil (e := 30) (size := 3)).alloc (.cells #[.slice none 0 0] 26)))
theorem nset (x : Nm) (h : St w0 (NmS b l :: L) w) (hs : Sorted l) (hr : rightNm x = true) (h1 : x.name.size ≤ maxLen) (h2 : x.to.size ≤ maxLen) (hl : l.length < 20) :
    Calls Tryd.prog 11 #[.pointer (some ⟨b, 0, none⟩), .agg x.cells.toArray] w fun e w' => e = .returned .nilIface ∧ St w0 (NmS b (insN x l) :: L) w' := by
  obtain ⟨v, h⟩ := h.exs
  refine (set_any b 0 #[v] 26 v l x w w0 L h.split rfl h1 h2 (hs.mono _) (by omega)).mono ?_
  rintro e w' ⟨rfl, v', hs'⟩
  obtain ⟨e1, e2⟩ := setNm_right hr hl
  rw [e1] at hs'
  exact ⟨by rw [e2]; rfl, St.exi v' hs'.join⟩
theorem nres (s : ByteArray) (h : St w0 (NmS b l :: L) w) (hs : Sorted l) (hl : l.length < 20) : Calls Tryd.prog 12 #[.pointer (some ⟨b, 0, none⟩), .string s] w (ResPost l s w) := by
  obtain ⟨v, h⟩ := h.exs
  exact resolve_any b 0 #[v] 26 v l s w w0 L h.split rfl hs.mono (by omega)
theorem nres_is (s : ByteArray) (h : St w0 (NmS b l :: L) w) (hs : Sorted l) (hl : l.length < 20) {t : ByteArray} {k c : Int} (hr : resN l (l.length + 1) s = (t, k, c)) :
    Calls Tryd.prog 12 #[.pointer (some ⟨b, 0, none⟩), .string s] w fun e w' => e = .returned (.tuple #[.string t, .int .i64 k, errV 37 c]) ∧ Below w.heap.size w w' :=
  (nres s h hs hl).mono fun e w' he => ⟨by rw [he.1, hr], he.2⟩
theorem nloc (s : ByteArray) (h : St w0 (NmS b l :: L) w) (hs : Sorted l) (hl : l.length < 20) : Calls Tryd.prog 14 #[.pointer (some ⟨b, 0, none⟩), .string s] w fun e w' => e = .returned (.bool (localB l s)) ∧ Below w.heap.size w w' := by
  obtain ⟨v, h⟩ := h.exs
  exact local_any b 0 #[v] 26 v l s w w0 L h.split rfl (hs.mono _) (by omega)
def sA : ByteArray := ⟨#[97]⟩
def sB : ByteArray := ⟨#[98]⟩
def sX : ByteArray := ⟨#[120]⟩
def st1 : Nm := ⟨sA, sB, -1⟩
def st2 : Nm := ⟨sB, sX, 2⟩
set_option maxRecDepth 100000 in
theorem stands_any (w : World) : Calls Tryd.prog 9 #[] w fun e w' => e = .returned (.bool true) ∧ Below w.heap.size w w' := by
  have h0 := NmS.mk (St.init w)
  have HS := Lib.hid h0
  have H1 := Lib.hid (nset st1 h0 sorted_nil (by decide +kernel) (by decide) (by decide) (by decide))
  clear h0
  go_enter Tryd.func9, Tryd.ntmps9
  go_wp2_with fail
  refine H1.out.mono ?_
  rintro e w1 ⟨rfl, hs1⟩
  have HS1 := Lib.hid hs1
  clear hs1
  go_wp2_with fail
  refine (nset st2 HS1.out (insN_sorted sorted_nil) (by decide +kernel) (by decide) (by decide) (by decide)).mono ?_
  rintro e w2 ⟨rfl, hs2⟩
  have HS2 := Lib.hid hs2
  have hl2 : insN st2 (insN st1 []) = [st1, st2] := by kernel_rfl
  rw [hl2] at HS2
  clear hs2
  have srt : Sorted [st1, st2] := hl2 ▸ insN_sorted (insN_sorted sorted_nil)
  have SRT := Lib.hid srt
  clear hl2 srt
  go_wp2_with fail
  refine (nres_is sA HS2.out SRT.out (by decide) (t := ⟨#[120]⟩) (k := 2) (c := 0) (by decide +kernel)).mono ?_
  rintro e w3 ⟨rfl, hb⟩
  have HS3 := Lib.hid (HS2.out.below_step hb)
  rw [show errV 37 0 = .nilIface from rfl]
  clear hb
  go_wp2_with fail
  refine (nloc sA HS3.out SRT.out (by decide)).mono ?_
  rintro e w4 ⟨rfl, hb⟩
  have HB := Lib.hid (HS3.out.below_step hb)
  clear hb
  have hloc : localB [st1, st2] sA = false := by decide +kernel
  rw [hloc]
  go_wp2_with fail
  go_ret
  exact ⟨rfl, HB.out.below⟩
end Go.Proofs.YtjhogocabcdjbaaDoor
