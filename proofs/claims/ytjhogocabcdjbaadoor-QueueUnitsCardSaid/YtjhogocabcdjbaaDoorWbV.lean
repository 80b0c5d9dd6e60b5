import Derived.Test.YtjhogocabcdjbaaDoorWbU
import Derived.Laws.CopyOwn
set_option linter.unusedSimpArgs false
set_option linter.unusedVariables false
namespace WB
open Go Go.RowKit

/-- A slice of the call's own (nil, or the head of a row of its own), its cells. -/
def osl (e : TypeId) (size : Nat) (v : Value) (n : Nat) (xs : List Value) : HP := fun h =>
  xs.length = n * size ∧ ((v = .slice none 0 0 ∧ n = 0 ∧ emp h) ∨
    ∃ g cap cur, v = .slice (some ⟨g, 0, none⟩) n cap ∧ n ≤ cap ∧ cap ≤ maxLen ∧ cur.size = cap * size ∧ cur.toList.take (n * size) = xs ∧ blk g (.cells cur e (0, 0)) h)

theorem ex_of_own {w0 w : World} {L : List HP} {A : HP} {p : Prop} (h : St w0 (A :: L) w) (f : ∀ x, A x → p) : p := by
  obtain ⟨x, hx, h1, h2, d, e, a, b⟩ := h.own
  exact f _ a

namespace St
variable {w0 w w' : World} {L : List HP} {e : TypeId} {size : Nat} {v v' : Value} {n n' : Nat} {xs xs' : List Value}

theorem osl_cases (h : St w0 (osl e size v n xs :: L) w) :
    (v = .slice none 0 0 ∧ n = 0 ∧ xs = [] ∧ St w0 L w) ∨
    ∃ g cap cur, v = .slice (some ⟨g, 0, none⟩) n cap ∧ n ≤ cap ∧ cap ≤ maxLen ∧ cur.size = cap * size ∧ cur.toList.take (n * size) = xs ∧ xs.length = n * size ∧ St w0 (blk g (.cells cur e (0, 0)) :: L) w := by
  obtain ⟨x, hx, h1, h2, d, e', ⟨hl, a⟩, b⟩ := h.own
  rcases a with ⟨rfl, rfl, he⟩ | ⟨g, cap, cur, rfl, a1, a2, a3, a4, a5⟩
  · exact .inl ⟨rfl, rfl, List.eq_nil_of_length_eq_zero (by simpa using hl), h.drop⟩
  · exact .inr ⟨g, cap, cur, rfl, a1, a2, a3, a4, hl, { h with own := ⟨x, hx, h1, h2, d, e', a5, b⟩ }⟩
theorem osl_nil (h : St w0 L w) : St w0 (osl e size (.slice none 0 0) 0 [] :: L) w :=
  h.empi.imp fun _ he => ⟨by simp, .inl ⟨rfl, rfl, he⟩⟩
theorem osl_mk {g cap : Nat} {cur : Array Value} (h : St w0 (blk g (.cells cur e (0, 0)) :: L) w) (hn : n ≤ cap) (hc : cap ≤ maxLen) (hs : cur.size = cap * size)
    (ht : cur.toList.take (n * size) = xs) : St w0 (osl e size (.slice (some ⟨g, 0, none⟩) n cap) n xs :: L) w :=
  h.imp fun _ hb => ⟨by rw [← ht, List.length_take, Array.length_toList, hs]; exact Nat.min_eq_left (Nat.mul_le_mul_right _ hn), .inr ⟨g, cap, cur, rfl, hn, hc, hs, ht, hb⟩⟩
theorem osl_len (h : St w0 (osl e size v n xs :: L) w) : xs.length = n * size := ex_of_own h fun _ hx => hx.1
theorem osl_owns (h : St w0 (osl e size v n xs :: L) w) : w.ownsRow w0.heap.size e size v n xs := by
  refine ⟨h.osl_len, ?_⟩
  rcases h.osl_cases with ⟨rfl, rfl, rfl, _⟩ | ⟨g, cap, cur, rfl, h1, h2, h3, h4, h5, h6⟩
  · exact .inl ⟨rfl, rfl⟩
  · exact .inr ⟨g, cap, cur, rfl, h6.look.1, h6.look.2, h1, h2, h3, h4⟩

theorem setRow {b : Nat} {c c' : Array Value} {T : TypeId} {fz : Nat × Nat} (h : St w0 (blk b (.cells c T fz) :: L) w) :
    St w0 (blk b (.cells c' T fz) :: L) (w.setRow b c') :=
  h.upd rfl rfl rfl (by simp) (setRow_heap w b c c' T fz h.look.2) fun k hk => setRow_other w b k c' hk

theorem below_step (h : St w0 L w) (hb : Below w.heap.size w w') : St w0 L w' := by
  refine ⟨hb.os.trans h.os, hb.tape.trans h.tape, hb.output.trans h.output, Nat.le_trans h.size hb.size, fun k hk => ?_, ?_⟩
  · rw [hb.block k (Nat.lt_of_lt_of_le hk h.size)]; exact h.block k hk
  · obtain ⟨x, hx, c⟩ := h.own
    refine ⟨x, fun k o hk => ?_, c⟩
    have := hx k o hk
    exact ⟨this.1, by rw [hb.block k (Array.getElem?_eq_some_iff.1 this.2).1]; exact this.2⟩
end St

theorem append_st {P : Program} {w0 w : World} {L : List HP} (t ty e : TypeId) (i : TypeInfo) (z : Value) (size bytes : Nat) (ht : P.underlying t = some (.slice e)) (hi : P.info? e = some i) (hz : i.zero = some z)
    (hsize : i.size = size) (hby : i.bytes = bytes) (hzs : z.cells.size = size)
    {v : Value} {n : Nat} {xs : List Value} (h : St w0 (osl e size v n xs :: L) w)
    (a : Addr) (m c : Nat) (news : List Value) (hl : news.length = m * size) (hnews : HasCells w a news) (h1 : ∀ u ∈ news, u.oneCell' = true)
    (h63 : n + m ≤ maxLen) (hbytes : (n + m) * bytes ≤ 140737488355328) :
    ∃ v' w', (Builtin.append_ #[t, t] ty #[v, .slice (some a) m c]).run P w = .ok v' w' ∧ St w0 (osl e size v' (n + m) (xs ++ news) :: L) w' := by
  subst hsize
  subst hby
  have hsmall : n + m ≤ 9223372036854775807 := by simp only [maxLen] at h63; omega
  have hxl := h.osl_len
  have fresh : ∀ (old : Nat), St w0 L w → St w0 (osl e i.size (.slice (some ⟨w.heap.size, 0, none⟩) (n + m) (grownCap w (n + m) old e)) (n + m) (xs ++ news) :: L)
      (w.drew.alloc (.cells (xs.toArray ++ news.toArray ++ Builtin.zeroCells z.cells (grownCap w (n + m) old e - (n + m))) e)) := by
    intro old hL
    refine (hL.drew.alloc _).osl_mk (grownCap_ge w (n + m) old e) (grownCap_le_maxLen w (n + m) old e h63) ?_ ?_
    · have hge := grownCap_ge w (n + m) old e
      simp only [Array.size_append, List.size_toArray, size_zeroCells, hzs, hxl, hl, ← Nat.add_mul]
      congr 1
      omega
    · simp only [Array.toList_append, List.append_assoc]
      rw [← List.append_assoc, show (n + m) * i.size = (xs ++ news).length by rw [List.length_append, hxl, hl, Nat.add_mul]]
      exact List.take_left
  rcases h.osl_cases with ⟨rfl, rfl, rfl, hL⟩ | ⟨g, cap, cur, rfl, hnc, hcm, hcs, htake, _, hblk⟩
  · by_cases hm : m = 0
    · subst hm
      obtain rfl : news = [] := List.eq_nil_of_length_eq_zero (by simpa using hl)
      refine ⟨.slice none 0 0, w, ?_, hL.osl_nil⟩
      simp [Builtin.append_, run_underlying ht, Go.sizeOf, typeInfo, hi, Builtin.lenOf, Builtin.firstCells, loadCells, loadCellsFrom]
    · have hr := run_append_nil (P := P) w t ty e i z ht hi hz a m c news hl hnews (by omega) (by omega) (by have hb := hbytes; simp only [Nat.zero_add] at hb; omega)
      have hf := fresh 0 hL
      simp only [Nat.zero_add, List.nil_append, Array.empty_append] at hf ⊢
      exact ⟨_, _, hr, hf⟩
  · by_cases hroom : n + m ≤ cap
    · have hfit : n * i.size + news.length ≤ cur.size := by rw [hl, hcs, ← Nat.add_mul]; exact Nat.mul_le_mul_right _ hroom
      have hr := run_append_room (P := P) w t ty e i ht hi g n cap cur hblk.look.2 a m c news hl hnews h1 hroom hfit
      refine ⟨_, _, hr, hblk.setRow.osl_mk hroom hcm ?_ ?_⟩
      · simp only [List.size_toArray, List.length_append, List.length_take, List.length_drop, Array.length_toList]
        omega
      · simp only [List.append_assoc]
        rw [htake, ← List.append_assoc, show (n + m) * i.size = (xs ++ news).length by rw [List.length_append, hxl, hl, Nat.add_mul]]
        exact List.take_left
    · have holds : ∀ j u, xs[j]? = some u → w.cell? ((⟨g, 0, none⟩ : Addr).add j) = some u := h.osl_owns.cells (g := g) rfl
      have hr := run_append_grow (P := P) w t ty e i z ht hi hz ⟨g, 0, none⟩ n cap xs hxl holds a m c news hl hnews (by omega) (by omega) (growslice_fits (by omega) hbytes)
      exact ⟨_, _, hr, fresh cap hblk.drop⟩

section
variable {P : Program} {ops : Array Oper} {Q : Exit → Act → World → Prop} {rest : List Oper} {a : Act} {w w' : World} {d : Option Tmp} {ty : TypeId} {pos : String} {after : Array Edge} {args : Array Operand} {argTypes : Array TypeId} {v : Value}
theorem exec_append (hr : (Builtin.append_ argTypes ty (args.map a.eval)).run P w = .ok v w') :
    (execOp a.eval ⟨d, .call ⟨.builtin .append, args, argTypes⟩, ty, pos, after, none⟩).run P w = .ok (.value v) w' := by
  simp [execOp, resolve, invoke, builtin, hr]
theorem exec_copy (hr : (Builtin.copy_ argTypes ty (args.map a.eval)).run P w = .ok v w') :
    (execOp a.eval ⟨d, .call ⟨.builtin .copy, args, argTypes⟩, ty, pos, after, none⟩).run P w = .ok (.value v) w' := by
  simp [execOp, resolve, invoke, builtin, hr]
theorem wpL_val {o : Oper} (hw : Region.wanted o (yielded ops a.tmps) = true) (hr : (execOp a.eval o).run P w = .ok (.value v) w')
    (h : ∀ K : Act → World → Prop, (∀ a w, wpList P ops Q rest a w → K a w) → K (a.put o.dst v) w') : wpList P ops Q (o :: rest) a w := by
  refine wpList_step fun K hK => ?_
  rw [if_pos hw, Oper.wp, hr]
  exact h K hK
end
end WB
