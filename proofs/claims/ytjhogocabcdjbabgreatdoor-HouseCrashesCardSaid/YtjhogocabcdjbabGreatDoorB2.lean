import Derived.Lib.AppendIntMem
import Derived.RangeFuncRecord
import Derived.RangeFuncCalls
import Derived.RangeFuncBound
import Derived.OrdersIn
import Derived.Lib.SplitLaws
import Derived.Lib.AtoiAll
import Derived.Lib.IndexLaws
import Derived.Lib.IndexBytes
import Derived.Lib.ItoaMem
import Derived.Laws.Strings3
import Derived.Laws.Slices
import Derived.Test.YtjhogocabcdjbabGreatDoorShelf
import Derived.Lib.AtoiErrMem
import Derived.Maps.OwnOps
import Derived.Lib.SliceRun
import Derived.Lib.CutLaws
import Derived.Test.YtjhogocabcdjbabGreatDoorB1
set_option linter.unusedSimpArgs false
set_option linter.unusedVariables false
/- messages' text: Itoa, Join, the document's Words and Write, the program's Write. -/
namespace Go.Proofs.YtjhogocabcdjbabGreatDoor
open Go Go.RowKit WB
def Tab (w : World) : Prop := Lib.TabIs Tryz.prog w "internal/strconv.uint64pow10" .u64 Lib.pow10Tab
theorem Tab.ext {w w' : World} (h : Tab w) (e : Ext w w') : Tab w' := by
  unfold Tab Lib.TabIs World.var? at *
  cases hg : Tryz.prog.globalNamed "internal/strconv.uint64pow10" with
  | none => rw [hg] at h; simp at h
  | some g =>
    rw [hg] at h
    simp only [Option.bind_some] at h ⊢
    cases hb : w.heap[g]? with
    | none => rw [hb] at h; simp at h
    | some o => rw [e.2 g (Array.getElem?_eq_some_iff.1 hb).1, hb]; rw [hb] at h; exact h
theorem itoa_e (w0 : World) (L : List HP) (n : Int) (hT : Tab w0) (hn : intB n) : KE Tryz.prog 59 #[.int .i64 n] w0 L (fun u M => u = .string (itoaS n) ∧ M = L) := KE.of_below fun w hw => by
  refine (Tryz.strconv_Itoa n hn.1 hn.2 w (hT.ext (Ext.of_below hw.below))).mono ?_
  rintro e w' ⟨rfl, k, os, rfl⟩
  exact ⟨rfl, Lib.below_grow _ _ (Nat.le_refl _) _ _⟩
theorem rdA_extM {W W' : World} {v : Value} {xs : List Ms} (h : RdA W 5 msC v xs) (e : Ext W W') : RdA W' 5 msC v xs := by
  obtain ⟨a, cap, rfl, hc⟩ := h
  exact ⟨a, cap, rfl, fun i x hx => by obtain ⟨ad, rfl, hh⟩ := hc i x hx; exact ⟨ad, rfl, hh.ext e⟩⟩
def strC (s : ByteArray) : List Value := [.string s]
abbrev strS (v : Value) (xs : List ByteArray) : HP := SL 9 1 strC v xs
theorem str_info : (Tryz.prog.info? 9).map (fun i => (i.zero, i.size, i.bytes)) = some (some (Value.string ⟨#[]⟩), 1, 16) := by kernel_rfl
theorem join_e (w0 : World) (L R : List HP) (v : Value) (xs : List ByteArray) (sep : ByteArray) (hp : Pick L (strS v xs) R) (hn : xs.length ≤ 1000000) (hs : (joinS xs sep).size ≤ 1000000000) : KE Tryz.prog 62 #[v, .string sep] w0 L (fun u M => u = .string (joinS xs sep) ∧ M = L) := KE.of_below fun w hw => by
  rcases (hw.pick hp).osl_cases with ⟨h1, h2, _⟩ | ⟨g, cap, cur, h1, h2, h3, h4, h5, h6, h7⟩
  · have hx : xs = [] := List.eq_nil_of_length_eq_zero h2
    subst hx; subst h1
    refine (Tryz.strings_Join_none none 0 sep w).mono ?_
    rintro e w' ⟨rfl, rfl⟩
    exact ⟨rfl, Below.refl _ _⟩
  · subst h1
    have hc : ∀ (j : Nat) x, xs[j]? = some x → w.cell? ⟨g, 0 + j, none⟩ = some (.string x) := fun j x hx => by
      have := SL_cells (cf := strC) (sz := 1) (fun _ => rfl) (hw.pick hp) hx 0 (by decide)
      rw [Nat.zero_add]
      simpa [strC] using this
    refine (Tryz.strings_Join g 0 cap xs sep w hc h7.lt (by omega) h2 (by rw [join_len]; omega)).mono ?_
    rintro e w' ⟨rfl, hb⟩
    exact ⟨rfl, hb⟩
def inC (n : Int) : List Value := [.int .i64 n]
theorem mwrite1_e (w0 : World) (L : List HP) (m : Ms) (hb : m.body.size ≤ maxLen) (hq : m.queue.size ≤ maxLen) : KE Tryz.prog 154 #[.agg (msC m).toArray] w0 L (fun u M => u = .bool (!msRight m) ∧ M = L) := by
  refine KE.mk (n := 6) Tryz.func154 rfl Tryz.ntmps154 (by simp) ?_
  intro w hw
  repeat ((with_reducible refine K.seq ?_))
  refine K.reg ?_
  refine KO.box rfl rfl (by exact rfl) rfl ?_; intro b1
  refine KO.as rfl rfl ?_
  refine KO.nil ?_
  repeat (first | (with_reducible refine K.seq ?_) | (with_reducible refine KQ.next ?_))
  refine K.reg ?_
  refine KO.ldB0 rfl rfl Tryz.isAgg44 Tryz.sizeOf44 (by with_reducible (repeat (exact Pick.head))) (by exact rfl) rfl ?_
  refine KO.ce (cp := []) rfl rfl rfl Tryz.call145 rfl (right_e w _ m hb hq) ?_; rintro v' L' ⟨rfl, rfl⟩
  refine KO.not rfl rfl ?_
  refine KO.as rfl rfl ?_
  refine KO.nil ?_
  repeat (first | (with_reducible refine KQ.next ?_) | (with_reducible refine K.ret ?_))
  refine KQ.ret1 rfl rfl (fun w' hs => ⟨_, _, rfl, ⟨rfl, rfl⟩, hw.below_step hs.below, hs.below⟩)
theorem idxm_e (w0 : World) (L : List HP) (v : Value) (xs : List Ms) (f : FuncId) (cp : List Value) (pf : Ms → Bool) (hr : ∀ w, St w0 L w → RdA w 5 msC v xs) (hlen : xs.length < 1000000) (hcall : ∀ args w, (callFunc f args).run Tryz.prog w = .ok (.enter f args) w)
    (hcl : ∀ e, e ∈ xs → KE Tryz.prog f ([] ++ ([Value.agg (msC e).toArray] ++ cp)).toArray w0 L (fun v L' => v = .bool (pf e) ∧ L' = L)) :
    KE Tryz.prog 153 #[v, .func (.func f) [].toArray cp.toArray] w0 L (fun v L' => v = .int .i64 (fidx pf xs) ∧ L' = L) := by
  refine KE.mk (n := 19) Tryz.func153 rfl Tryz.ntmps153 (by simp) ?_
  intro w hw
  obtain ⟨a, cap, rfl, hc⟩ := hr w hw
  repeat ((with_reducible refine K.seq ?_))
  refine K.reg ?_
  refine KO.as rfl rfl ?_
  refine KO.nil ?_
  repeat (first | (with_reducible refine K.seq ?_) | (with_reducible refine KQ.next ?_))
  refine K.reg ?_
  refine KO.mv rfl rfl ?_
  refine KO.len rfl Tryz.underlying49 rfl ?_
  refine KO.mv rfl rfl ?_
  refine KO.nil ?_
  repeat (first | (with_reducible refine KQ.next ?_) | (with_reducible refine K.block ?_))
  refine K.loop (fun k : Nat => [(0, .slice a xs.length cap), (1, .func (.func f) [].toArray cp.toArray), (7, .int .i64 (xs.length : Nat)), (8, .int .i64 (k : Nat))]) (fun _ => []) (fun k => k ≤ xs.length ∧ ∀ (j : Nat) (u : Ms), j < k → xs[j]? = some u → pf u = false) (fun k => xs.length - k) 0 ⟨by omega, fun j u h => by omega⟩ ⟨rfl, rfl, rfl, rfl, trivial⟩ (fun _ h => h) ?_
  rintro k ⟨hk, hno⟩
  repeat ((with_reducible refine K.seq ?_))
  refine K.reg ?_
  refine KO.lss rfl rfl rfl ?_
  refine KO.nil ?_
  repeat (first | (with_reducible refine K.seq ?_) | (with_reducible refine KQ.next ?_))
  refine K.condD rfl (fun h => ?_) (fun h => ?_)
  · have hlt : k < xs.length := by omega
    obtain ⟨e, he⟩ : ∃ e, xs[k]? = some e := ⟨xs[k], List.getElem?_eq_getElem hlt⟩
    obtain ⟨ad, rfl, hh⟩ := hc k e he
    repeat (first | (with_reducible refine K.seq ?_) | (with_reducible refine KQ.next ?_) | (with_reducible refine K.skip ?_) | (with_reducible refine K.block ?_))
    refine K.reg ?_
    refine KO.mv rfl rfl ?_
    refine KO.as rfl rfl ?_
    refine KO.nil ?_
    repeat (first | (with_reducible refine K.seq ?_) | (with_reducible refine KQ.next ?_))
    refine K.reg ?_
    refine KO.mv rfl rfl ?_
    refine KO.mv rfl rfl ?_
    refine KO.mv rfl rfl ?_
    refine KO.idxH rfl rfl Tryz.runUnderlying49 Tryz.sizeOf44 (by exact rfl) (by omega) rfl ?_
    refine KO.ldN0 (cs := (msC e).toArray) rfl rfl Tryz.isAgg44 Tryz.sizeOf44 rfl hh rfl ?_
    refine KO.ce rfl rfl rfl hcall rfl ((hcl e (List.mem_of_getElem? he)).rebase hw) ?_; rintro v L' ⟨rfl, rfl⟩
    refine KO.nil ?_
    repeat ((with_reducible refine KQ.next ?_))
    refine K.cond rfl (fun h1 => ?_) (fun h1 => ?_)
    · repeat ((with_reducible refine K.seq ?_))
      refine K.reg ?_
      refine KO.mv rfl rfl ?_
      refine KO.as rfl rfl ?_
      refine KO.nil ?_
      repeat (first | (with_reducible refine KQ.next ?_) | (with_reducible refine KQ.then_ret ?_) | (with_reducible refine KQ.blk_ret ?_) | (with_reducible refine K.ret ?_))
      refine KQ.ret1 rfl rfl (fun w' hs => ⟨_, _, rfl, ⟨?_, rfl⟩, hw.below_step hs.below, hs.below⟩)
      rw [fidx_hit he h1 hno]
    · repeat (first | (with_reducible refine KQ.next ?_) | (with_reducible refine KQ.blk_normal ?_) | (with_reducible refine K.skip ?_))
      refine K.reg ?_
      refine KO.add rfl rfl rfl (by omega) rfl ?_
      refine KO.mv rfl rfl ?_
      refine KO.nil ?_
      refine KQ.round (k + 1) ⟨by omega, fun j u hj hu => ?_⟩ (by omega) ⟨rfl, rfl, rfl, rfl, trivial⟩ (fun _ h => h)
      by_cases hjk : j = k
      · subst hjk; rw [he] at hu; simp only [Option.some.injEq] at hu; rw [← hu]; exact h1
      · exact hno j u (by omega) hu
  · repeat (first | (with_reducible refine K.seq ?_) | (with_reducible refine KQ.next ?_) | (with_reducible refine KQ.then_exit ?_) | (with_reducible refine KQ.blk_exit ?_) | (with_reducible refine K.exit ?_))
    refine K.reg ?_
    refine KO.as rfl rfl ?_
    refine KO.nil ?_
    repeat (first | (with_reducible refine KQ.next ?_) | (with_reducible refine K.ret ?_))
    refine KQ.ret1 rfl rfl (fun w' hs => ⟨_, _, rfl, ⟨?_, rfl⟩, hw.below_step hs.below, hs.below⟩)
    rw [fidx_miss fun j u hu => hno j u (by have := (List.getElem?_eq_some_iff.1 hu).1; omega) hu]
/-- what msg.Write answers -/
def MwR (L : List HP) (xs : List Ms) (u : Value) (M : List HP) : Prop :=
  match badI xs with
  | none => u = .tuple #[.string (writeS xs), .nilIface] ∧ M = L
  | some k => ∃ b, u = .tuple #[.string ⟨#[]⟩, atV b] ∧ M = atB b 1 k :: L
set_option maxRecDepth 100000 in
theorem mwrite_e (w0 : World) (L : List HP) (v : Value) (xs : List Ms) (hr : ∀ w, St w0 L w → RdA w 5 msC v xs) (hT : Tab w0) (hsz : ∀ m ∈ xs, m.body.size ≤ maxLen ∧ m.queue.size ≤ maxLen) (hl : xs.length ≤ 100000) :
    KE Tryz.prog 60 #[v] w0 L (MwR L xs) := by
  refine KE.mk (n := 49) Tryz.func60 rfl Tryz.ntmps60 (by simp) ?_
  intro w hw
  have hTw := hT.ext (Ext.of_below hw.below)
  have hrw := hr w hw
  obtain ⟨sa, cap, rfl, hc⟩ := hrw
  repeat ((with_reducible refine K.seq ?_))
  refine K.reg ?_
  refine KO.as rfl rfl ?_
  refine KO.as rfl rfl ?_
  refine KO.nil ?_
  repeat (first | (with_reducible refine K.seq ?_) | (with_reducible refine KQ.next ?_))
  refine K.reg ?_
  refine KO.mv rfl rfl ?_
  refine KO.ce (cp := []) rfl rfl rfl Tryz.call153 rfl (idxm_e w _ _ xs 154 [] (fun m => !msRight m) (fun w' hw' => rdA_extM ⟨sa, cap, rfl, hc⟩ (Ext.of_below hw'.below)) (by omega) Tryz.call154 (fun e he => mwrite1_e w _ e (hsz e he).1 (hsz e he).2)) ?_; rintro v' L' ⟨rfl, rfl⟩
  refine KO.as rfl rfl ?_
  refine KO.nil ?_
  repeat (first | (with_reducible refine K.seq ?_) | (with_reducible refine KQ.next ?_))
  refine K.reg ?_
  refine KO.mv rfl rfl ?_
  refine KO.geq rfl rfl rfl ?_
  refine KO.nil ?_
  repeat ((with_reducible refine KQ.next ?_))
  refine K.condD rfl (fun h => ?_) (fun h => ?_)
  · obtain ⟨k, m, hk, hm, hb, hlt, hfi⟩ := fidx_nonneg h
    have hbad : badI xs = some k := hfi
    rw [hk]
    repeat ((with_reducible refine K.seq ?_))
    refine K.reg ?_
    refine KO.mv rfl rfl ?_
    refine KO.bldS (pl := [(0, 1), (1, 1)]) [.int .i64 1, .int .i64 (k : Nat)] rfl Tryz.zeroValue248 Tryz.runUnderlying248 (by intro w; simp [Tryz.sizeOf3, Tryz.sizeOf70]) rfl rfl ?_
    refine KO.box rfl rfl (by exact rfl) rfl ?_; intro b14
    refine KO.mki rfl (by kernel_rfl) rfl ?_
    refine KO.as rfl rfl ?_
    refine KO.as rfl rfl ?_
    refine KO.nil ?_
    repeat (first | (with_reducible refine KQ.next ?_) | (with_reducible refine KQ.then_ret ?_) | (with_reducible refine K.ret ?_))
    refine KQ.ret2 rfl rfl rfl (fun w' hs => ⟨_, _, rfl, ?_, hw.stack hs, hs.below⟩)
    unfold MwR; rw [hbad]
    exact ⟨_, rfl, rfl⟩
  · have hbad : badI xs = none := fidx_neg (by omega)
    have hall := badI_all hbad
    repeat (first | (with_reducible refine K.seq ?_) | (with_reducible refine KQ.next ?_) | (with_reducible refine K.skip ?_))
    refine K.reg ?_
    refine KO.as rfl rfl ?_
    refine KO.nil ?_
    repeat (first | (with_reducible refine K.seq ?_) | (with_reducible refine KQ.next ?_))
    refine K.reg ?_
    refine KO.mv rfl rfl ?_
    refine KO.len rfl Tryz.underlying49 rfl ?_
    refine KO.mv rfl rfl ?_
    refine KO.nil ?_
    repeat (first | (with_reducible refine KQ.next ?_) | (with_reducible refine K.block ?_))
    refine K.loop (fun s : Nat × Value => [(5, s.2), (16, .slice sa xs.length cap), (17, .int .i64 (xs.length : Nat)), (18, .int .i64 (s.1 : Nat))]) (fun s => [strS s.2 ((xs.take s.1).map msgS)]) (fun s => s.1 ≤ xs.length) (fun s => xs.length - s.1) (0, .slice none 0 0)
      (Nat.zero_le _) ⟨rfl, rfl, rfl, rfl, trivial⟩ (fun _ h => SL_nil h) ?_
    rintro ⟨k, vo⟩ hk
    dsimp only at hk ⊢
    repeat ((with_reducible refine K.seq ?_))
    refine K.reg ?_
    refine KO.lss rfl rfl rfl ?_
    refine KO.nil ?_
    repeat (first | (with_reducible refine K.seq ?_) | (with_reducible refine KQ.next ?_))
    refine K.condD rfl (fun h1 => ?_) (fun h1 => ?_)
    · obtain ⟨m, hm⟩ : ∃ e, xs[k]? = some e := ⟨xs[k], List.getElem?_eq_getElem (by omega)⟩
      obtain ⟨ad, rfl, hh⟩ := hc k m hm
      have h6 := hall m (List.mem_of_getElem? hm)
      have hrp := msRight_parts h6
      have i1 : intB m.id := ⟨by omega, by omega⟩
      have i2 : intB m.pri := ⟨by omega, by omega⟩
      have i3 : intB m.house := ⟨by omega, by omega⟩
      have z1 := itoaS_size i1
      have z2 := itoaS_size i2
      have z3 := itoaS_size i3
      have z4 : m.body.size ≤ 12 := by have := hrp.2.2.2.2.1; unfold bodyB lettersB at this; simp at this; omega
      have z5 : m.queue.size ≤ 8 := by have := hrp.2.2.2.2.2.1; unfold wordB lettersB at this; simp at this; omega
      have z6 : (⟨#[32]⟩ : ByteArray).size = 1 := rfl
      have z7 : sp.size = 1 := rfl
      have hlen : ((xs.take k).map msgS).length < 1000000 := by simp; omega
      repeat (first | (with_reducible refine K.seq ?_) | (with_reducible refine KQ.next ?_) | (with_reducible refine K.skip ?_) | (with_reducible refine K.block ?_))
      refine K.reg ?_
      refine KO.idxH rfl rfl Tryz.runUnderlying49 Tryz.sizeOf44 (by exact rfl) (by omega) rfl ?_
      refine KO.ldN0 (cs := (msC m).toArray) rfl rfl Tryz.isAgg44 Tryz.sizeOf44 rfl hh rfl ?_
      refine KO.alloc rfl Tryz.zeroValue44 (by exact rfl) rfl ?_; intro b7
      refine KO.sto0 rfl rfl rfl (by exact rfl) (by exact Tryz.sizeOf44) (by exact rfl) (by with_reducible (repeat (exact Pick.head))) (by exact rfl) ?_
      refine KO.nil ?_
      repeat ((with_reducible refine KQ.next ?_))
      refine K.draw [.pure, .pure, .read, .keep, .pure, .pure, .read, .keep, .pure, .pure, .pure, .read, .pure, .pure, .pure, .read, .pure, .pure, .pure, .read, .keep, .pure, .keep, .write, .pure] [0, 1, 2, 5, 6, 10, 11, 14, 15, 18, 19, 3, 4, 7, 8, 9, 12, 13, 16, 17, 20, 21, 22, 23, 24] (by kernel_rfl) (by kernel_rfl) ?_
      refine KO.mv rfl rfl ?_
      refine KO.fo0 (off := 0) rfl Tryz.runUnderlying44 rfl rfl Tryz.sizeOf3 rfl ?_
      refine KO.ld rfl rfl Tryz.isAgg3 (by with_reducible (repeat (exact Pick.head))) (by exact rfl) rfl ?_
      refine KO.fo0 (off := 1) rfl Tryz.runUnderlying44 rfl rfl Tryz.sizeOf3 rfl ?_
      refine KO.ld rfl rfl Tryz.isAgg3 (by with_reducible (repeat (exact Pick.head))) (by exact rfl) rfl ?_
      refine KO.fo0 (off := 2) rfl Tryz.runUnderlying44 rfl rfl Tryz.sizeOf9 rfl ?_
      refine KO.ld rfl rfl Tryz.isAgg9 (by with_reducible (repeat (exact Pick.head))) (by exact rfl) rfl ?_
      refine KO.fo0 (off := 3) rfl Tryz.runUnderlying44 rfl rfl Tryz.sizeOf9 rfl ?_
      refine KO.ld rfl rfl Tryz.isAgg9 (by with_reducible (repeat (exact Pick.head))) (by exact rfl) rfl ?_
      refine KO.fo0 (off := 4) rfl Tryz.runUnderlying44 rfl rfl Tryz.sizeOf3 rfl ?_
      refine KO.ld rfl rfl Tryz.isAgg3 (by with_reducible (repeat (exact Pick.head))) (by exact rfl) rfl ?_
      refine KO.ce (cp := []) rfl rfl rfl Tryz.call59 rfl (itoa_e w _ m.id hTw i1) ?_; rintro v' L' ⟨rfl, rfl⟩
      refine KO.cat rfl rfl (by simp only [ByteArray.size_append, z6, z7]; omega) rfl ?_
      refine KO.ce (cp := []) rfl rfl rfl Tryz.call59 rfl (itoa_e w _ m.pri hTw i2) ?_; rintro v' L' ⟨rfl, rfl⟩
      refine KO.cat rfl rfl (by simp only [ByteArray.size_append, z6, z7]; omega) rfl ?_
      refine KO.cat rfl rfl (by simp only [ByteArray.size_append, z6, z7]; omega) rfl ?_
      refine KO.cat rfl rfl (by simp only [ByteArray.size_append, z6, z7]; omega) rfl ?_
      refine KO.cat rfl rfl (by simp only [ByteArray.size_append, z6, z7]; omega) rfl ?_
      refine KO.cat rfl rfl (by simp only [ByteArray.size_append, z6, z7]; omega) rfl ?_
      refine KO.cat rfl rfl (by simp only [ByteArray.size_append, z6, z7]; omega) rfl ?_
      refine KO.ce (cp := []) rfl rfl rfl Tryz.call59 rfl (itoa_e w _ m.house hTw i3) ?_; rintro v' L' ⟨rfl, rfl⟩
      refine KO.cat rfl rfl (by simp only [ByteArray.size_append, z6, z7]; omega) rfl ?_
      refine KO.bs1 (z := (Value.string ⟨#[]⟩)) (sz := 1) (by' := 16) rfl rfl Tryz.underlying115 (by kernel_rfl) (by exact rfl) (by exact rfl) (by decide) (by decide) rfl ?_; intro b44
      refine KO.app (z := Value.string ⟨#[]⟩) (sz := 1) (by' := 16) rfl rfl rfl (by with_reducible (repeat (first | exact Pick.head | apply Pick.tail))) (by with_reducible (repeat (exact Pick.head))) Tryz.underlying115 str_info rfl (msgS m) (by exact rfl) (by exact rfl) (by exact rfl) (by omega) (by decide) rfl ?_; intro v'
      refine KO.as rfl rfl ?_
      refine KO.nil ?_
      repeat (first | (with_reducible refine KQ.next ?_) | (with_reducible refine KQ.blk_normal ?_))
      refine K.reg ?_
      refine KO.add rfl rfl rfl (by omega) rfl ?_
      refine KO.mv rfl rfl ?_
      refine KO.nil ?_
      refine KQ.round (k + 1, v') (by dsimp only; omega) (by dsimp only; omega) ⟨rfl, rfl, rfl, rfl, trivial⟩ (fun _ h => ?_)
      dsimp only
      rw [take_succ_some hm, List.map_append, List.map_cons, List.map_nil]
      exact (h.pick (by with_reducible (repeat (exact Pick.head)))).gc1 (LSub.nil _)
    · have hkl : k = xs.length := by omega
      rw [hkl, List.take_length]
      have hws := writeS_size hall
      repeat (first | (with_reducible refine K.seq ?_) | (with_reducible refine KQ.next ?_) | (with_reducible refine KQ.then_exit ?_) | (with_reducible refine KQ.blk_exit ?_) | (with_reducible refine K.exit ?_))
      refine K.reg ?_
      refine KO.mv rfl rfl ?_
      refine KO.ce (cp := []) rfl rfl rfl Tryz.call62 rfl (join_e w _ _ vo (xs.map msgS) plus (by with_reducible (repeat (exact Pick.head))) (by simp; omega) (by unfold writeS at hws; omega)) ?_; rintro v' L' ⟨rfl, rfl⟩
      refine KO.as rfl rfl ?_
      refine KO.as rfl rfl ?_
      refine KO.nil ?_
      repeat (first | (with_reducible refine KQ.next ?_) | (with_reducible refine K.ret ?_))
      refine KQ.ret2 rfl rfl rfl (fun w' hs => ⟨_, _, rfl, ?_, hw.below_step hs.below, hs.below⟩)
      unfold MwR; rw [hbad]
      exact ⟨rfl, rfl⟩
end Go.Proofs.YtjhogocabcdjbabGreatDoor
/- A RANGE OVER A FUNCTION in the calculus: the code of a round, the statement, the call of yield -/
namespace WB
open Go Go.RowKit
def notDefer (o : Oper) : Bool := match o.op with | .defer _ => false | _ => true
abbrev FR (l : Nat) : Fence := Fence.wide.inRound l
section
variable {P : Program} {ops : Array Oper} {Q : Exit → Act → World → Prop} {l : Nat}
theorem notDefer_ne {o : Oper} (h : notDefer o = true) : ∀ c, o.op ≠ .defer c := fun c e => by unfold notDefer at h; rw [e] at h; cases h
theorem rowsIn_of {row : String} {args : Array Value} {w : World} {R : Value → World → Prop} (h : Rows P row args w R) : RowsIn (FR l) 0 P row args w R := fun c cs _ =>
  let ⟨v, w', r, s⟩ := h c cs; ⟨v, w', r, stepsIn_wide.2 s⟩
theorem uponIn_of {o : Oper} {a : Act} {N N' : Act → World → Prop} {r : Result Next} (hn : ∀ a w, N a w → N' a w) (h : o.upon P a N Q r) : o.uponIn (FR l) 0 P a N' Q r := by
  cases r with
  | ok x w' =>
    cases x with
    | value v => exact hn _ _ h
    | skip => exact hn _ _ h
    | defer d => exact hn _ _ h
    | enter f args =>
      refine ⟨fun _ => by simp [Fence.wide] at *, CallsIn.inRound l (callsIn_wide.2 (h.mono fun e w hh => ?_))⟩
      cases e with
      | returned v => exact hn _ _ hh
      | panicked c => exact hh
      | outgrown => exact hh
    | row row args => exact ⟨fun _ => by simp [Fence.wide] at *, (rowsIn_of h).mono fun v w hh => hn _ _ hh⟩
    | _ => exact h.elim
  | halt s w' =>
    cases s with
    | panic v => exact h
    | _ => exact h.elim
theorem wpIn_of_wp {o : Oper} {a : Act} {w : World} {N N' : Act → World → Prop} (hd : notDefer o = true) (hn : ∀ a w, N a w → N' a w) (h : o.wp P a w N Q) : o.wpIn (FR l) 0 P a w N' Q :=
  ⟨fun _ _ => trivial, by
    show o.uponIn (FR l) 0 P a N' Q ((o.semAt (some l) a.eval).run P w)
    rw [Oper.semAt_some l _ _ (notDefer_ne hd)]
    exact uponIn_of hn h⟩
theorem wpListIn_of (hQ : ∀ a w, ¬ Q .outgrown a w) : ∀ {os : List Oper} (_ : os.all notDefer = true) {a : Act} {w : World}, wpList P ops Q os a w → wpListIn (FR l) 0 P ops Q os a w
  | [], _, _, _, h => h
  | o :: os, hd, a, w, h => by
    simp only [List.all_cons, Bool.and_eq_true] at hd
    unfold wpList at h
    unfold wpListIn
    split
    · rename_i hw
      rw [if_pos hw] at h
      rcases h with h | ⟨_, a0, w0, h⟩
      · exact wpIn_of_wp hd.1 (fun a w hh => wpListIn_of hQ hd.2 hh) h
      · exact absurd h (hQ _ _)
    · rename_i hw
      rw [if_neg hw] at h
      exact ⟨fun _ _ => trivial, wpListIn_of hQ hd.2 h⟩
theorem wpOpsIn_of (hQ : ∀ a w, ¬ Q .outgrown a w) (hd : ops.toList.all notDefer = true) : ∀ {s : List Nat} {a : Act} {w : World}, wpOps P ops Q s a w → wpOpsIn (FR l) 0 P ops Q s a w
  | [], _, _, h => h
  | i :: s, a, w, h => by
    unfold wpOps at h
    unfold wpOpsIn
    cases ho : ops[i]? with
    | none => rw [ho] at h; exact wpOpsIn_of hQ hd h
    | some o =>
      rw [ho] at h
      simp only at h ⊢
      split
      · rename_i hw
        rw [if_pos hw] at h
        rcases h with h | ⟨_, a0, w0, h⟩
        · exact wpIn_of_wp (List.all_eq_true.1 hd o (Array.mem_toList_iff.2 (Array.mem_of_getElem? ho))) (fun a w hh => wpOpsIn_of hQ hd hh) h
        · exact absurd h (hQ _ _)
      · rename_i hw
        rw [if_neg hw] at h
        exact ⟨fun _ _ => trivial, wpOpsIn_of hQ hd h⟩
/-- a region that draws, in a round, in the one order 'ord' -/
theorem wpIn_region_ord {id : Nat} {a : Act} {w : World} (ks : List Kd) (ord : List Nat) (hmix : P.follows .mixedOrders = true) (hok : okR ops ks ord = true) (hQ : ∀ a w, ¬ Q .outgrown a w) (hd : ops.toList.all notDefer = true)
    (h : vcL P ops Q (ord.map (item ops ks)) a w.drew) : (Code.region id ops true).wpIn (FR l) 0 P Q a w := by
  simp only [okR, Bool.and_eq_true] at hok
  obtain ⟨hb, ha, hall, hlt, hp⟩ := hok
  refine wpIn_region_draw fun t => wpOpsIn_of hQ hd ?_
  have hv : Valid ops (Region.schedule (P.follows .mixedOrders) ops t) := schedule_valid _ hmix _ _ fun i o ho d hd => by
    have hi : i < ops.size := (Array.getElem?_eq_some_iff.1 ho).1
    have h1 := List.all_eq_true.1 (List.all_eq_true.1 hb i (List.mem_range.2 hi)) d (by
      have : ops.toList.getD i default = o := by
        simp [Array.getElem?_eq_getElem hi] at ho ⊢
        simp [ho]
      rw [this]; exact hd)
    simpa [Nat.blt_eq] using h1
  generalize Region.schedule (P.follows .mixedOrders) ops t = l at hv ⊢
  refine main_step hb ha hv l [] ord rfl (fun x => ?_) hp a _ h
  rw [hv.2.1 x]
  constructor
  · intro hx; simpa [Nat.blt_eq] using List.all_eq_true.1 hlt x hx
  · intro hx; exact List.contains_iff_mem.1 (List.all_eq_true.1 hall x (List.mem_range.2 hx))
end
/-! code in a round -/
def KR (l : Nat) (P : Program) (c : Code) (Q : Exit → Act → World → Prop) (n : Nat) (D : List Deferred) (w0 : World) (G : Env) (L : List HP) : Prop :=
  ∀ a w, Knows n D G a → St w0 L w → c.wpIn (FR l) 0 P Q a w
section
variable {P : Program} {ops : Array Oper} {Q : Exit → Act → World → Prop} {n l : Nat} {D : List Deferred} {w0 : World} {G G' : Env} {L L' R : List HP} {c x y : Code} {e : Exit}
theorem KR.reg {id : Nat} {os : List Oper} (hd : os.all notDefer = true) (hQ : ∀ a w, ¬ Q .outgrown a w) (h : KO P os.toArray false Q n D w0 G L (wr os)) : KR l P (.region id os.toArray false) Q n D w0 G L := fun a w ha hw => by
  have := h a w ha hw
  simp only [vcG, wr_map] at this
  exact wpIn_region_lit (wpListIn_of hQ hd this)
theorem KR.draw {id : Nat} (ks : List Kd) (ord : List Nat) (hmix : P.follows .mixedOrders = true) (hok : okR ops ks ord = true) (hd : ops.toList.all notDefer = true) (hQ : ∀ a w, ¬ Q .outgrown a w)
    (h : KO P ops true Q n D w0 G L (ord.map (item ops ks))) : KR l P (.region id ops true) Q n D w0 G L := fun a _ ha hw =>
  wpIn_region_ord ks ord hmix hok hQ hd (h a _ ha hw.drew)
theorem KR.seq (h : KR l P x (Exit.then (y.wpIn (FR l) 0 P Q) Q) n D w0 G L) : KR l P (.seq x y) Q n D w0 G L := fun a w ha hw => wpIn_seq (h a w ha hw)
theorem KR.block {id : Nat} (h : KR l P x (Exit.inBlock id Q) n D w0 G L) : KR l P (.block id x) Q n D w0 G L := fun a w ha hw => wpIn_block (h a w ha hw)
theorem KR.ret (h : KQ Q .ret n D w0 G L) : KR l P .ret Q n D w0 G L := fun a w ha hw => wpIn_ret (h a w ha hw)
theorem KR.skip (h : KQ Q .normal n D w0 G L) : KR l P .skip Q n D w0 G L := fun a w ha hw => wpIn_skip (h a w ha hw)
theorem KR.exit {id : Nat} (h : KQ Q (.exit id) n D w0 G L) : KR l P (.exit id) Q n D w0 G L := fun a w ha hw => wpIn_exit (h a w ha hw)
theorem KR.cond {cd : Operand} {b : Bool} (hc : ev G cd = some (.bool b)) (ht : b = true → KR l P x Q n D w0 G L) (hf : b = false → KR l P y Q n D w0 G L) : KR l P (.cond cd x y) Q n D w0 G L := fun a w ha hw =>
  wpIn_cond_split (ha.eval hc) (fun e => ht e a w ha hw) (fun e => hf e a w ha hw)
theorem KR.condD {cd : Operand} {p : Prop} [Decidable p] (hc : ev G cd = some (.bool (decide p))) (ht : p → KR l P x Q n D w0 G L) (hf : ¬ p → KR l P y Q n D w0 G L) : KR l P (.cond cd x y) Q n D w0 G L :=
  KR.cond hc (fun e => ht (of_decide_eq_true e)) (fun e => hf (of_decide_eq_false e))
theorem KR.condT {cd : Operand} {b : Bool} (hc : ev G cd = some (.bool b)) (hb : b = true) (h : KR l P x Q n D w0 G L) : KR l P (.cond cd x y) Q n D w0 G L :=
  KR.cond hc (fun _ => h) (fun e => by rw [hb] at e; cases e)
theorem KR.condF {cd : Operand} {b : Bool} (hc : ev G cd = some (.bool b)) (hb : b = false) (h : KR l P y Q n D w0 G L) : KR l P (.cond cd x y) Q n D w0 G L :=
  KR.cond hc (fun e => by rw [hb] at e; cases e) (fun _ => h)
theorem KQ.nextR (h : KR l P y Q n D w0 G L) : KQ (Exit.then (y.wpIn (FR l) 0 P Q) Q) .normal n D w0 G L := h
theorem KR.conv (hs : ∀ w, St w0 L w → St w0 L' w) (h : KR l P c Q n D w0 G L') : KR l P c Q n D w0 G L := fun a w ha hw => h a w ha (hs w hw)
theorem KR.cut {α : Type} {c1 c2 : Code} {L : List HP} (E : α → Env) (H : α → List HP) (φ : α → Prop) (h1 : KR l P c1 (Exit.then (MidI n D w0 E H φ) Q) n D w0 G L) (h2 : ∀ y, φ y → KR l P c2 Q n D w0 (E y) (H y)) : KR l P c1 (Exit.then (c2.wpIn (FR l) 0 P Q) Q) n D w0 G L := fun a w ha hw =>
  Go.wpIn_mono (h1 a w ha hw) fun e a w hq => by
    cases e with
    | normal => obtain ⟨y, hy, ha, hw⟩ := hq; exact h2 y hy a w ha hw
    | _ => exact hq
theorem KR.loop {α : Type} (E : α → Env) (H : α → List HP) (φ : α → Prop) (m : α → Nat) (x0 : α) (h0 : φ x0) (hG : SubL G (E x0)) (hL : ∀ w, St w0 L w → St w0 (H x0) w)
    (round : ∀ x, φ x → KR l P c (Exit.then (LoopI n D w0 E H φ m x) Q) n D w0 (E x) (H x)) : KR l P (.loop c) Q n D w0 G L := fun a w ha hw => by
  intro b k cs hro hb hr
  have key : ∀ (N : Nat) (x : α) (a : Act) (w : World), m x < N → φ x → Knows n D (E x) a → St w0 (H x) w →
      ∃ e a' w', Q e a' w' ∧ ArrivesIn (Machine.fenced P (FR l)) P (lone (b.atR a (.code c :: .inLoop c :: k)) cs w) b k cs e a' w' := by
    intro N
    induction N with
    | zero => intro x a w h; omega
    | succ N ih =>
      intro x a w hlt hx ha hw
      obtain ⟨e, a₁, w₁, hq, harr⟩ := round x hx a w ha hw b (.inLoop c :: k) cs hro hb hr
      cases e with
      | normal =>
        obtain ⟨y, hy, hlt', ha', hw'⟩ := hq
        obtain ⟨e₂, a₂, w₂, hq₂, harr₂⟩ := ih y a₁ w₁ (by omega) hy ha' hw'
        exact ⟨e₂, a₂, w₂, hq₂, .of_steps (StepsIn.trans harr (.one (fenced_calm hb hr rfl) stepR_inLoop)) harr₂⟩
      | exit id => exact ⟨_, a₁, w₁, hq, .pass (x := .inLoop c) rfl (fun _ _ => .inl (by simp)) harr⟩
      | goto l => exact ⟨_, a₁, w₁, hq, .pass (x := .inLoop c) rfl (fun _ _ => .inl (by simp)) harr⟩
      | ret => exact ⟨_, a₁, w₁, hq, .pass (x := .inLoop c) rfl (fun _ _ => .inl (by simp)) harr⟩
      | panic ch => exact ⟨_, a₁, w₁, hq, .pass (x := .inLoop c) rfl (fun _ _ => .inl (by simp)) harr⟩
      | outgrown => exact ⟨_, a₁, w₁, hq, .pass (x := .inLoop c) rfl (fun _ _ => .inl (by simp)) harr⟩
  obtain ⟨e, a', w', hq, harr⟩ := key (m x0 + 1) x0 a w (Nat.lt_succ_self _) h0 (ha.sub hG) (hL w hw)
  exact ⟨e, a', w', hq, .of_steps (.one (fenced_calm hb hr rfl) stepR_loop) harr⟩
end
/-! a function that holds such a loop -/
def mkD (b : Nat) : Deferred := { target := .collected b, args := #[] }
theorem St.put {w0 w : World} {L : List HP} {b : Nat} {o : Obj} (h : St w0 (blk b o :: L) w) (o' : Obj) : St w0 (blk b o' :: L) (w.putObj b o') :=
  h.upd rfl rfl rfl (by simp) (World.putObj_heap_same h.lt) fun k hk => World.putObj_heap_other hk
section
variable {P : Program} {f : FuncId} {args : Array Value} {w0 : World} {L M M' KL : List HP} {R : Value → List HP → Prop} {fn : Func} {n : Nat} {G : Env} {RE : Ending → World → Prop} {v v1 v2 : Value} {t1 t2 : Nat} {T T' E E' : TypeId} {b1 b2 : Nat} {cs cs' : List Value} {fz fz' : Nat × Nat}
theorem KE.mkM {c : Code} (hf : P.funcs[f]? = some fn) (hb : fn.body = some c) (hn : fn.ntmps = n) (hsz : args.size ≤ n)
    (h : ∀ w, St w0 L w → K P c (bodyPostM Fence.wide 0 P fn fun e w' => ∃ v L', e = .returned v ∧ R v L' ∧ St w0 L' w' ∧ Below w.heap.size w w') n [] w (argEnv 0 args.toList) []) : KE P f args w0 L R := fun w hw => by
  subst hn
  exact callsIn_wide.1 (callsIn_of_wp_marks (n := 0) hf hb trivial (wpIn_wide.2 (h w hw _ w (Knows.enter hsz) (St.init w))))
theorem KQ.finM (hr : ∀ a w, Knows n [] G a → St w0 L w → (results fn a.tmps).run P w = .ok v w) (h : ∀ w, St w0 L w → RE (.returned v) w) : KQ (bodyPostM Fence.wide 0 P fn RE) .ret n [] w0 G L := fun a w ha hw => by
  show LeavesInM _ _ _ _ _ _ a.defers _ _
  rw [ha.defers]
  exact ⟨v, hr a w ha hw, h w hw⟩
theorem KQ.finM1 {b : Nat} (hp : Pick L (blk b (.deferred (some []))) M) (hr : ∀ a w, Knows n [mkD b] G a → St w0 M w → (results fn a.tmps).run P w = .ok v w) (h : ∀ w, St w0 M w → RE (.returned v) w) : KQ (bodyPostM Fence.wide 0 P fn RE) .ret n [mkD b] w0 G L := fun a w ha hw => by
  show LeavesInM _ _ _ _ _ _ a.defers _ _
  rw [ha.defers]
  have h1 := hw.pick hp
  have h2 := (h1.put (.deferred none)).drop
  exact ⟨by simp, .inl ⟨b, _, rfl, run_takeDeferred h1.look.2, v, hr a _ ha h2, h _ h2⟩⟩
/-- two results, each in a cell of its own block -/
theorem res2C {D : List Deferred} (hr : fn.results = #[.cell t1 T, .cell t2 T']) (h1 : envAt G t1 = some (.pointer (some ⟨b1, 0, none⟩))) (h2 : envAt G t2 = some (.pointer (some ⟨b2, 0, none⟩)))
    (hT : ∀ w, (isAgg T).run P w = .ok false w) (hT' : ∀ w, (isAgg T').run P w = .ok false w) (hp : Pick L (blk b1 (.cells [v1].toArray E fz)) M) (hp' : Pick L (blk b2 (.cells [v2].toArray E' fz')) M') (a : Act) (w : World) (ha : Knows n D G a) (hw : St w0 L w) :
    (results fn a.tmps).run P w = .ok (.tuple #[v1, v2]) w := by
  have l1 : (loadVar T ⟨b1, 0, none⟩).run P w = .ok v1 w := run_load_one (hT w) (by rw [World.cell?, (hw.lookP hp).2]; simp)
  have l2 : (loadVar T' ⟨b2, 0, none⟩).run P w = .ok v2 w := run_load_one (hT' w) (by rw [World.cell?, (hw.lookP hp').2]; simp)
  simp [results, hr, Array.getD_eq_getD_getElem?, ha.get _ _ h1, ha.get _ _ h2, asAddr, l1, l2]
theorem KQ.retM2C (hr : fn.results = #[.cell t1 T, .cell t2 T']) (h1 : envAt G t1 = some (.pointer (some ⟨b1, 0, none⟩))) (h2 : envAt G t2 = some (.pointer (some ⟨b2, 0, none⟩)))
    (hT : ∀ w, (isAgg T).run P w = .ok false w) (hT' : ∀ w, (isAgg T').run P w = .ok false w) (hp : Pick L (blk b1 (.cells [v1].toArray E fz)) M) (hp' : Pick L (blk b2 (.cells [v2].toArray E' fz')) M') (h : ∀ w, St w0 L w → RE (.returned (.tuple #[v1, v2])) w) :
    KQ (bodyPostM Fence.wide 0 P fn RE) .ret n [] w0 G L := KQ.finM (fun a w ha hw => res2C hr h1 h2 hT hT' hp hp' a w ha hw) h
theorem KQ.retM2C1 {b : Nat} (hd : Pick L (blk b (.deferred (some []))) KL) (hr : fn.results = #[.cell t1 T, .cell t2 T']) (h1 : envAt G t1 = some (.pointer (some ⟨b1, 0, none⟩))) (h2 : envAt G t2 = some (.pointer (some ⟨b2, 0, none⟩)))
    (hT : ∀ w, (isAgg T).run P w = .ok false w) (hT' : ∀ w, (isAgg T').run P w = .ok false w) (hp : Pick KL (blk b1 (.cells [v1].toArray E fz)) M) (hp' : Pick KL (blk b2 (.cells [v2].toArray E' fz')) M') (h : ∀ w, St w0 KL w → RE (.returned (.tuple #[v1, v2])) w) :
    KQ (bodyPostM Fence.wide 0 P fn RE) .ret n [mkD b] w0 G L := KQ.finM1 hd (fun a w ha hw => res2C hr h1 h2 hT hT' hp hp' a w ha hw) h
end
/-! the statement -/
section
variable {P : Program} {Q : Exit → Act → World → Prop} {n : Nat} {D : List Deferred} {w0 : World} {G : Env} {L M : List HP}
theorem K.rangeFunc {g : Operand} {ps : Array Tmp} {assign body : Code} {gf : Nat} {cap : Array Value} (hg : ev G g = some (.func (.func gf) #[] cap)) (eg : ∀ args w, (callFunc gf args).run P w = .ok (.enter gf args) w)
    (h : ∀ (fn : FuncId) (tm : Array Value) (b l : Nat), Knows n D G { tmps := tm, defers := D } → ∀ w, St w0 (blk l (.loop ⟨.ready, none, fn, tm, ps, assign, body, b⟩) :: blk b (.deferred (some [])) :: L) w →
      Calls P gf (#[.func (.yield l) #[] #[]] ++ cap) w fun e w' => ∃ v L' st pe, e = .returned v ∧ st ≠ LoopState.busy ∧ St w0 (blk l (.loop ⟨st, pe, fn, tm, ps, assign, body, b⟩) :: blk b (.deferred (some [])) :: L') w' ∧
        (match pe with | none => KQ Q .normal n (mkD b :: D) w0 G (blk b (.deferred (some [])) :: L') | some c => K P c Q n (mkD b :: D) w0 G (blk b (.deferred (some [])) :: L'))) :
    K P (.rangeFunc g ps assign body) Q n D w0 G L := fun a w ha hw => by
  refine wpIn_wide.1 (wpIn_rangeFunc (F := Fence.wide) (n := 0) fun fn _ => ?_)
  have h1 := (hw.alloc (.deferred (some []))).alloc (.loop { state := .ready, pending := none, fn, tmps := a.tmps, params := ps, assign, body, defers := w.heap.size })
  rw [World.size_alloc] at h1
  obtain ⟨W1, hW1⟩ : ∃ W1, (w.alloc (.deferred (some []))).alloc (.loop { state := .ready, pending := none, fn, tmps := a.tmps, params := ps, assign, body, defers := w.heap.size }) = W1 := ⟨_, rfl⟩
  rw [hW1] at h1
  refine ⟨w.heap.size + 1, [mkD w.heap.size], W1, { target := .fn (.func gf) cap, args := #[.func (.yield (w.heap.size + 1)) #[] #[]] }, W1, gf, #[.func (.yield (w.heap.size + 1)) #[] #[]] ++ cap, W1, by rw [← hW1]; exact run_enterLoop_outer _ _ _ _ _, ?_, ?_, ?_, fun hh => by simp [Fence.wide] at hh, ?_⟩
  · simp only [resolve, ha.eval hg]
    simp [go_sem]
  · intro _ _; trivial
  · simp [invoke, go_sem, eg]
  · refine callsIn_wide.2 ((h fn a.tmps w.heap.size (w.heap.size + 1) ⟨ha.size, rfl, ha.get⟩ _ h1).mono ?_)
    rintro e w' ⟨v, L', st, pe, rfl, hst, hs, hj⟩
    have h2 := hs.put (.loop ⟨.exhausted, pe, fn, a.tmps, ps, assign, body, w.heap.size⟩)
    refine ⟨pe, _, run_endLoop hs.look.2 hst, ?_⟩
    have ha2 : Knows n (mkD w.heap.size :: D) G { a with defers := [mkD w.heap.size] ++ a.defers } := ⟨ha.size, by rw [ha.defers]; rfl, ha.get⟩
    cases pe with
    | none => exact hj _ _ ha2 h2.drop
    | some c => exact wpIn_wide.2 (hj _ _ ha2 h2.drop)
end
/-! yield, from the iterator's side: what a round makes of the caller's parts -/
def KY (P : Program) (l : Nat) (x : Value) (w0 : World) (L : List HP) (Rt Rf : List HP → Prop) : Prop :=
  ∀ (N : List HP) (w : World), St w0 (L ++ N) w → YieldAt Fence.wide 0 P l #[x] w fun e w' => (e = .returned (.bool true) ∧ ∃ L', Rt L' ∧ St w0 (L' ++ N) w') ∨ (e = .returned (.bool false) ∧ ∃ L', Rf L' ∧ St w0 (L' ++ N) w')
def BeginQ (P : Program) (l : Nat) (body : Code) (R : Ending → World → Prop) : Exit → Act → World → Prop :=
  Exit.then (fun a₁ w₁ => ∃ w₂, (Instr.beginRound l).run P w₁ = .ok () w₂ ∧ body.wpIn (FR l) 0 P (roundPost P l R) a₁ w₂) (fun _ _ _ => False)
section
variable {P : Program} {Q : Exit → Act → World → Prop} {n l : Nat} {D : List Deferred} {w0 : World} {G : Env} {L M : List HP} {x : Value} {Rt Rf : List HP → Prop} {R : Ending → World → Prop}
theorem Knows.setP {tm : Array Value} {p : Nat} (h : Knows n D G { tmps := tm, defers := D }) (hp : Nat.blt p n = true) (v : Value) : Knows n [] ((p, v) :: G) { tmps := tm.setIfInBounds p v, defers := [] } := by
  have := h.put p v (by simpa [Nat.blt_eq] using hp)
  exact ⟨this.size, rfl, this.get⟩
theorem KY.mk {fn : FuncId} {tm : Array Value} {p b : Nat} {assign body : Code} (hk : Knows n D G { tmps := tm, defers := D }) (hp : Nat.blt p n = true)
    (h : ∀ N, KR l P assign (BeginQ P l body fun e w' => (e = .returned (.bool true) ∧ ∃ L', Rt L' ∧ St w0 (L' ++ N) w') ∨ (e = .returned (.bool false) ∧ ∃ L', Rf L' ∧ St w0 (L' ++ N) w')) n [] w0 ((p, x) :: G)
      (blk l (.loop ⟨.ready, none, fn, tm, #[p], assign, body, b⟩) :: (M ++ N))) :
    KY P l x w0 (blk l (.loop ⟨.ready, none, fn, tm, #[p], assign, body, b⟩) :: M) Rt Rf := fun N w hw => by
  refine ⟨fn, _, assign, body, run_yield (args := #[x]) hw.look.2 rfl, roundIn_of_wpIn (F := Fence.wide) (n := 0) trivial ?_⟩
  exact h N _ w (by simpa using hk.setP hp x) hw
theorem KQ.begin {rc : Loop} {body : Code} (hp : Pick L (blk l (.loop rc)) M) (hs : rc.state = .ready) (h : KR l P body (roundPost P l R) n D w0 G (blk l (.loop { rc with state := .busy }) :: M)) : KQ (BeginQ P l body R) .normal n D w0 G L := fun a w ha hw =>
  have h1 := hw.pick hp
  ⟨_, run_beginRound h1.look.2 hs, h a _ ha (h1.put _)⟩
theorem KQ.goes {rc : Loop} (hp : Pick L (blk l (.loop rc)) M) (h : ∀ w, St w0 (blk l (.loop { rc with state := .ready, pending := none }) :: M) w → R (.returned (.bool true)) w) : KQ (roundPost P l R) .normal n D w0 G L := fun a w ha hw =>
  have h1 := hw.pick hp
  ⟨_, _, run_endRound none h1.look.2, h _ (h1.put _)⟩
theorem KQ.leaves {rc : Loop} (hp : Pick L (blk l (.loop rc)) M) (h : ∀ w, St w0 (blk l (.loop { rc with state := .done, pending := some .ret }) :: M) w → R (.returned (.bool false)) w) : KQ (roundPost P l R) .ret n D w0 G L := fun a w ha hw =>
  have h1 := hw.pick hp
  ⟨_, _, run_endRound (some .ret) h1.look.2, h _ (h1.put _)⟩
end
/-! a region in which yield is called -/
def KOI (P : Program) (ops : Array Oper) (Q : Exit → Act → World → Prop) (n : Nat) (D : List Deferred) (w0 : World) (G : Env) (L : List HP) (os : List Oper) : Prop :=
  ∀ a w, Knows n D G a → St w0 L w → wpListIn Fence.wide 0 P ops Q os a w
section
variable {P : Program} {ops : Array Oper} {Q : Exit → Act → World → Prop} {n l t : Nat} {D : List Deferred} {w0 : World} {G : Env} {L M N : List HP} {os : List Oper} {op : Op} {ty T T' E : TypeId} {pos : String} {af : Array Edge} {x y : Operand} {v : Value} {bb : Bool} {b off : Nat}
  {Rt Rf : List HP → Prop}
theorem K.regI {id : Nat} {os : List Oper} (h : KOI P os.toArray Q n D w0 G L os) : K P (.region id os.toArray false) Q n D w0 G L := fun a w ha hw => wpIn_wide.1 (wpIn_region_lit (h a w ha hw))
theorem KOI.nil (h : KQ Q .normal n D w0 G L) : KOI P ops Q n D w0 G L [] := h
theorem KOI.val (hv : ∀ a w, Knows n D G a → St w0 L w → (execOp a.eval ⟨some t, op, ty, pos, af, none⟩).run P w = .ok (.value v) w) (ht : Nat.blt t n = true) (h : KOI P ops Q n D w0 ((t, v) :: G) L os) : KOI P ops Q n D w0 G L (⟨some t, op, ty, pos, af, none⟩ :: os) := fun a w ha hw => by
  refine wpListIn_plain rfl fun K hK => ⟨fun _ _ => trivial, ?_⟩
  show Oper.uponIn _ _ _ _ _ _ _ ((execOp a.eval _).run P w)
  rw [hv a w ha hw]
  exact hK _ _ (h _ w (put_dst ha v ht) hw)
theorem KOI.mv (hx : ev G x = some v) (ht : Nat.blt t n = true) (h : KOI P ops Q n D w0 ((t, v) :: G) L os) : KOI P ops Q n D w0 G L (⟨some t, .move x, ty, pos, af, none⟩ :: os) :=
  KOI.val (fun a w ha _ => by simp [execOp, ha.eval hx]) ht h
theorem KOI.not (hx : ev G x = some (.bool bb)) (ht : Nat.blt t n = true) (h : KOI P ops Q n D w0 ((t, .bool (!bb)) :: G) L os) : KOI P ops Q n D w0 G L (⟨some t, .unOp .not T x, ty, pos, af, none⟩ :: os) :=
  KOI.val (fun a w ha _ => by simp [execOp, ha.eval hx, Op.unary]) ht h
theorem KOI.ld {cs : List Value} {fz : Nat × Nat} (hx : ev G x = some (.pointer (some ⟨b, off, none⟩))) (hT : ∀ w, (isAgg T).run P w = .ok false w) (hp : Pick L (blk b (.cells cs.toArray E fz)) M) (hc : cs[off]? = some v) (ht : Nat.blt t n = true) (h : KOI P ops Q n D w0 ((t, v) :: G) L os) :
    KOI P ops Q n D w0 G L (⟨some t, .load T x, ty, pos, af, none⟩ :: os) :=
  KOI.val (fun a w ha hw => by
    have hcell : w.cell? ⟨b, off, none⟩ = some v := by rw [World.cell?, (hw.lookP hp).2]; simpa using hc
    simp [execOp, ha.eval hx, Instr.loadAt, Instr.sureAddr, run_load_one (hT w) hcell]) ht h
theorem KOI.yield {ts : Array TypeId} {dst : Option Nat} (hx : ev G x = some (.func (.yield l) #[] #[])) (hy : ev G y = some v) (hY : KY P l v w0 M Rt Rf) (hs : ∀ w, St w0 L w → St w0 (M ++ N) w)
    (ht : ∀ L', Rt L' → ∀ a w, Knows n D G a → St w0 (L' ++ N) w → wpListIn Fence.wide 0 P ops Q os (a.put dst (.bool true)) w)
    (hf : ∀ L', Rf L' → ∀ a w, Knows n D G a → St w0 (L' ++ N) w → wpListIn Fence.wide 0 P ops Q os (a.put dst (.bool false)) w) :
    KOI P ops Q n D w0 G L (⟨dst, .call ⟨.value x, #[y], ts⟩, ty, pos, af, none⟩ :: os) := fun a w ha hw => by
  refine wpListIn_plain rfl fun K hK => ⟨fun _ _ => trivial, ?_⟩
  obtain ⟨fn, tmps, assign, body, hy', hR⟩ := hY N w (hs w hw)
  have he : (execOp a.eval ⟨dst, .call ⟨.value x, #[y], ts⟩, ty, pos, af, none⟩).run P w = .ok (.round l fn tmps assign body) w := by
    simp [execOp, resolve, ha.eval hx, ha.eval hy, Deferred.ofValue, invoke, hy']
  rw [show Oper.semAt Fence.wide.round a.eval ⟨dst, .call ⟨.value x, #[y], ts⟩, ty, pos, af, none⟩ = execOp a.eval ⟨dst, .call ⟨.value x, #[y], ts⟩, ty, pos, af, none⟩ from rfl, he]
  refine ⟨fun hh => by simp [Fence.wide] at hh, hR.mono ?_⟩
  rintro e w' (⟨rfl, L', h1, h2⟩ | ⟨rfl, L', h1, h2⟩)
  · exact hK _ _ (ht L' h1 a w' ha h2)
  · exact hK _ _ (hf L' h1 a w' ha h2)
theorem KOI.yieldT {ts : Array TypeId} (hx : ev G x = some (.func (.yield l) #[] #[])) (hy : ev G y = some v) (hY : KY P l v w0 M Rt Rf) (hs : ∀ w, St w0 L w → St w0 (M ++ N) w) (hb : Nat.blt t n = true)
    (ht : ∀ L', Rt L' → KOI P ops Q n D w0 ((t, .bool true) :: G) (L' ++ N) os) (hf : ∀ L', Rf L' → KOI P ops Q n D w0 ((t, .bool false) :: G) (L' ++ N) os) :
    KOI P ops Q n D w0 G L (⟨some t, .call ⟨.value x, #[y], ts⟩, ty, pos, af, none⟩ :: os) :=
  KOI.yield hx hy hY hs (fun L' h a w ha hw => ht L' h _ w (put_dst ha _ hb) hw) (fun L' h a w ha hw => hf L' h _ w (put_dst ha _ hb) hw)
end
end WB
/- texts and their pieces: plain -/
namespace WB
open Go
/-! pieces -/
def pieces (c : UInt8) : List UInt8 → List (List UInt8)
  | [] => [[]]
  | b :: l => if b = c then [] :: pieces c l else match pieces c l with | [] => [[b]] | p :: ps => (b :: p) :: ps
theorem pieces_ne (c : UInt8) : ∀ l, pieces c l ≠ []
  | [] => by simp [pieces]
  | b :: l => by
    unfold pieces
    split
    · simp
    · split <;> simp
theorem pieces_eq (c : UInt8) (l : List UInt8) : pieces c (c :: l) = [] :: pieces c l := by rw [pieces, if_pos rfl]
theorem pieces_neq {b c : UInt8} (h : b ≠ c) {l p : List UInt8} {ps : List (List UInt8)} (e : pieces c l = p :: ps) : pieces c (b :: l) = (b :: p) :: ps := by rw [pieces, if_neg h, e]
theorem pieces_app {c : UInt8} (r : List UInt8) : ∀ {p : List UInt8}, (∀ b ∈ p, b ≠ c) → pieces c (p ++ c :: r) = p :: pieces c r
  | [], _ => pieces_eq c r
  | b :: p, h => pieces_neq (h b (by simp)) (pieces_app r (fun x hx => h x (by simp [hx])))
theorem pieces_free {c : UInt8} : ∀ {p : List UInt8}, (∀ b ∈ p, b ≠ c) → pieces c p = [p]
  | [], _ => rfl
  | b :: p, h => pieces_neq (h b (by simp)) (pieces_free (fun x hx => h x (by simp [hx])))
theorem pieces_miss {c : UInt8} {l : List UInt8} (h : Lib.indexByte l c = -1) : pieces c l = [l] := pieces_free fun b hb e => by
  subst e
  obtain ⟨i, hi, he⟩ := List.getElem_of_mem hb
  exact Lib.indexByte_none h i (by rw [List.getElem?_eq_getElem hi, he])
theorem pieces_hit {c : UInt8} {l : List UInt8} {i : Nat} (h : Lib.indexByte l c = i) : pieces c l = l.take i :: pieces c (l.drop (i + 1)) := by
  obtain ⟨h1, h2⟩ := Lib.indexByte_some h
  obtain ⟨hlt, he⟩ := List.getElem?_eq_some_iff.1 h1
  have e : l = l.take i ++ c :: l.drop (i + 1) := by
    rw [← he, List.getElem_cons_drop, List.take_append_drop]
  have := pieces_app (c := c) (l.drop (i + 1)) (p := l.take i) fun b hb e' => by
    subst e'
    obtain ⟨j, hj, hb⟩ := List.getElem_of_mem hb
    rw [List.length_take] at hj
    have hj' : j < i := by omega
    refine h2 j hj' ?_
    rw [List.getElem?_eq_getElem (by omega)]
    simpa using hb
  rw [← e] at this
  exact this
theorem pieces_mem (c : UInt8) : ∀ l, ∀ p ∈ pieces c l, ∀ b ∈ p, b ≠ c
  | [], p, hp, b, hb => by simp [pieces] at hp; subst hp; simp at hb
  | a :: l, p, hp, b, hb => by
    by_cases h : a = c
    · subst h; rw [pieces_eq] at hp
      rcases List.mem_cons.1 hp with rfl | hp
      · simp at hb
      · exact pieces_mem a l p hp b hb
    · obtain ⟨q, qs, e⟩ := List.exists_cons_of_ne_nil (pieces_ne c l)
      rw [pieces_neq h e] at hp
      rcases List.mem_cons.1 hp with rfl | hp
      · rcases List.mem_cons.1 hb with rfl | hb
        · exact h
        · exact pieces_mem c l q (by rw [e]; simp) b hb
      · exact pieces_mem c l p (by rw [e]; simp [hp]) b hb
theorem pieces_join {c : UInt8} : ∀ {ps : List (List UInt8)}, ps ≠ [] → (∀ p ∈ ps, ∀ b ∈ p, b ≠ c) → pieces c (Lib.join ps [c]) = ps
  | [], h, _ => absurd rfl h
  | [p], _, h => by rw [Lib.join_one]; exact pieces_free (h p (by simp))
  | p :: q :: r, _, h => by
    rw [join_cons2, List.append_assoc]
    show pieces c (p ++ c :: Lib.join (q :: r) [c]) = _
    rw [pieces_app _ (h p (by simp)), pieces_join (by simp) (fun x hx => h x (List.mem_cons_of_mem _ hx))]
theorem pieces_len (c : UInt8) : ∀ l, (pieces c l).length = l.count c + 1
  | [] => rfl
  | b :: l => by
    by_cases h : b = c
    · subst h; rw [pieces_eq, List.length_cons, pieces_len]; simp
    · obtain ⟨q, qs, e⟩ := List.exists_cons_of_ne_nil (pieces_ne c l)
      have := pieces_len c l
      rw [pieces_neq h e]; rw [e] at this
      rw [List.count_cons_of_ne h]; simpa using this
theorem splitK_pieces (c : UInt8) : ∀ (k : Nat) (l : List UInt8), l.count c = k → Lib.splitK [c] 0 k l = pieces c l
  | 0, l, h => by
    have : Lib.indexByte l c = -1 := by
      rcases Int.lt_or_le (Lib.indexByte l c) 0 with h1 | h1
      · have := Lib.indexByte_ge l c; omega
      · obtain ⟨i, hi⟩ := Int.eq_ofNat_of_zero_le h1
        have := (Lib.indexByte_some hi).1
        exact absurd (List.mem_of_getElem? this) (List.count_eq_zero.1 h)
    rw [pieces_miss this]; rfl
  | k + 1, l, h => by
    have hm : c ∈ l := by
      rcases Decidable.em (c ∈ l) with hm | hm
      · exact hm
      · rw [List.count_eq_zero.2 hm] at h; cases h
    obtain ⟨i, hi⟩ : ∃ i : Nat, Lib.indexByte l c = i := by
      rcases Int.lt_or_le (Lib.indexByte l c) 0 with h1 | h1
      · exfalso
        have h2 : Lib.indexByte l c = -1 := by have := Lib.indexByte_ge l c; omega
        obtain ⟨j, hj, he⟩ := List.getElem_of_mem hm
        exact Lib.indexByte_none h2 j (by rw [List.getElem?_eq_getElem hj, he])
      · obtain ⟨i, hi⟩ := Int.eq_ofNat_of_zero_le h1; exact ⟨i, hi⟩
    have hx : Lib.index l [c] = i := by rw [Lib.index_one]; exact hi
    have hne : ¬ (Lib.index l [c] == -1) = true := fun e => by have := beq_iff_eq.1 e; omega
    have hc : (l.drop (i + 1)).count c = k := by
      have h1 := pieces_len c l
      have h2 := pieces_hit hi
      rw [h2] at h1
      have h3 := pieces_len c (l.drop (i + 1))
      simp at h1; omega
    unfold Lib.splitK
    rw [if_neg hne, hx, pieces_hit hi]
    simp only [Int.toNat_natCast, Nat.add_zero, List.length_cons, List.length_nil, Nat.zero_add]
    rw [splitK_pieces c k _ hc]
def toB (l : List UInt8) : ByteArray := ⟨l.toArray⟩
theorem data_toB (l : List UInt8) : (toB l).data.toList = l := rfl
def pcs (c : UInt8) (s : ByteArray) : List ByteArray := (pieces c s.data.toList).map toB
theorem ba_ext {a b : ByteArray} (h : a.data.toList = b.data.toList) : a = b := by
  apply ByteArray.ext; exact Array.ext' h
theorem pcs_data (c : UInt8) (s : ByteArray) : (pcs c s).map (·.data.toList) = pieces c s.data.toList := by
  unfold pcs; rw [List.map_map]; conv => rhs; rw [← List.map_id (pieces c s.data.toList)]
  rfl
theorem maps_inj {xs ys : List ByteArray} (h : xs.map (·.data.toList) = ys.map (·.data.toList)) : xs = ys := by
  have h2 := congrArg (List.map toB) h
  rw [List.map_map, List.map_map] at h2
  have e : (toB ∘ fun x : ByteArray => x.data.toList) = id := rfl
  rw [e, List.map_id, List.map_id] at h2
  exact h2
theorem pcs_split (c : UInt8) (s : ByteArray) : Lib.splitB ⟨#[c]⟩ 0 (Lib.countB s ⟨#[c]⟩) s = pcs c s := by
  refine maps_inj ?_
  rw [Lib.splitB_data, pcs_data]
  have : Lib.countB s ⟨#[c]⟩ = s.data.toList.count c := Lib.count_one c s.data.toList
  rw [this]
  exact splitK_pieces c _ _ rfl
theorem pcs_len (c : UInt8) (s : ByteArray) : (pcs c s).length = Lib.countB s ⟨#[c]⟩ + 1 := by
  have : Lib.countB s ⟨#[c]⟩ = s.data.toList.count c := Lib.count_one c s.data.toList
  rw [this]; unfold pcs; rw [List.length_map, pieces_len]
theorem pcs_miss {c : UInt8} {s : ByteArray} (h : Lib.indexByte s.data.toList c = -1) : pcs c s = [s] := by
  unfold pcs; rw [pieces_miss h]; rfl
theorem pcs_hit {c : UInt8} {s : ByteArray} {i : Nat} (h : Lib.indexByte s.data.toList c = i) : pcs c s = s.extract 0 i :: pcs c (s.extract (i + 1) s.size) := by
  unfold pcs; rw [pieces_hit h, List.map_cons]
  congr 1
  · exact ba_ext (Lib.extract_from_zero s i).symm
  · rw [Lib.extract_to_end]
theorem pcs_join {c : UInt8} {xs : List ByteArray} (h0 : xs ≠ []) (h : ∀ x ∈ xs, ∀ b ∈ x.data.toList, b ≠ c) : pcs c (joinS xs ⟨#[c]⟩) = xs := by
  refine maps_inj ?_
  rw [pcs_data]
  show pieces c (Lib.join (xs.map (·.data.toList)) [c]) = _
  exact pieces_join (by simpa using h0) (fun p hp b hb => by obtain ⟨x, hx, rfl⟩ := List.mem_map.1 hp; exact h x hx b hb)
theorem indexByte_lt {c : UInt8} {s : ByteArray} {i : Nat} (h : Lib.indexByte s.data.toList c = i) : i < s.size := by
  have := (List.getElem?_eq_some_iff.1 (Lib.indexByte_some h).1).1
  rw [ba_size]; exact this
/-! numbers -/
theorem parse_app (c : UInt8) : ∀ (l : List UInt8) (acc a : Nat), Lib.parseUint10 acc l = .ok a → Lib.parseUint10 acc (l ++ [c]) = Lib.parseUint10 a [c]
  | [], acc, a, h => by simp only [Lib.parseUint10] at h; injection h with h; subst h; rfl
  | b :: l, acc, a, h => by
    simp only [Lib.parseUint10, List.cons_append] at h ⊢
    split at h
    · rename_i h1
      split at h
      · cases h
      · rename_i h2
        split at h
        · cases h
        · rename_i h3
          rw [if_pos h1, if_neg h2, if_neg h3, parse_app c l _ a h]; rfl
    · cases h
theorem digit_nat {d : Nat} (h : d < 10) : (UInt8.ofNat (48 + d)).toNat = 48 + d := by simp [UInt8.toNat_ofNat']; omega
theorem parse_dec : ∀ (u : Nat), u < 18446744073709551616 → Lib.parseUint10 0 (Lib.decDigits u) = .ok u := by
  intro u
  induction u using Nat.strongRecOn with
  | _ u ih =>
    intro hu
    rw [Lib.decDigits]
    split
    · rename_i h
      have e := digit_nat h
      simp only [Lib.parseUint10, e]
      rw [if_pos (by omega), if_neg (by omega), if_neg (by omega)]
      simp only [Lib.NumEnd.ok.injEq]; omega
    · rename_i h
      have e := digit_nat (d := u % 10) (by omega)
      rw [parse_app _ _ _ _ (ih (u / 10) (by omega) (by omega))]
      simp only [Lib.parseUint10, e]
      rw [if_pos (by omega), if_neg (by omega), if_neg (by omega)]
      simp only [Lib.NumEnd.ok.injEq]; omega
theorem dec_mem : ∀ (u : Nat), ∀ b ∈ Lib.decDigits u, 48 ≤ b.toNat ∧ b.toNat ≤ 57 := by
  intro u
  induction u using Nat.strongRecOn with
  | _ u ih =>
    intro b hb
    rw [Lib.decDigits] at hb
    split at hb
    · rename_i h
      rw [List.mem_singleton.1 hb]
      have := digit_nat h; omega
    · rename_i h
      rcases List.mem_append.1 hb with hb | hb
      · exact ih (u / 10) (by omega) b hb
      · rw [List.mem_singleton.1 hb]
        have := digit_nat (d := u % 10) (by omega); omega
theorem dec_ne (u : Nat) : Lib.decDigits u ≠ [] := by
  rw [Lib.decDigits]; split <;> simp
theorem atoi_itoa {n : Int} (h : intB n) : Lib.atoiAll (itoaS n).data.toList = .ok n := by
  obtain ⟨h1, h2⟩ := h
  show Lib.atoiAll (Lib.itoa n) = _
  rcases Int.lt_or_le n 0 with h0 | h0
  · obtain ⟨u, rfl⟩ : ∃ u : Nat, n = -(u : Int) := ⟨n.natAbs, by omega⟩
    rw [Lib.itoa_neg u (by omega)]
    have hp : Lib.parseMag (Lib.decDigits u) = .ok u := by unfold Lib.parseMag; rw [if_neg (dec_ne u)]; exact parse_dec u (by omega)
    simp only [Lib.atoiAll]
    rw [if_pos (by decide), hp]
    simp
    omega
  · obtain ⟨u, rfl⟩ : ∃ u : Nat, n = (u : Int) := ⟨n.toNat, by omega⟩
    rw [Lib.itoa_nonneg u]
    have hp : Lib.parseMag (Lib.decDigits u) = .ok u := by unfold Lib.parseMag; rw [if_neg (dec_ne u)]; exact parse_dec u (by omega)
    have hm := dec_mem u
    have hne := dec_ne u
    revert hp hm hne
    cases Lib.decDigits u with
    | nil => intro _ _ h; exact absurd rfl h
    | cons c r =>
      intro hp hm _
      have hc := hm c (by simp)
      simp only [Lib.atoiAll]
      rw [if_neg (by omega), hp]
      have : ¬ c.toNat = 45 := by omega
      simp [this]
      omega
theorem itoa_mem {n : Int} : ∀ b ∈ (itoaS n).data.toList, b.toNat = 45 ∨ (48 ≤ b.toNat ∧ b.toNat ≤ 57) := fun b hb => by
  have hb : b ∈ Lib.itoa n := hb
  unfold Lib.itoa at hb
  split at hb
  · rcases List.mem_cons.1 hb with rfl | hb
    · exact .inl rfl
    · exact .inr (dec_mem _ b hb)
  · exact .inr (dec_mem _ b hb)
end WB
/- the steps of the calculus: pieces of strings -/
namespace WB
open Go Go.RowKit
section
variable {P : Program} {ops : Array Oper} {d : Bool} {Q : Exit → Act → World → Prop} {n : Nat} {D : List Deferred} {w0 : World} {G : Env} {L R : List HP} {l : List (Kd × Oper)} {k : Kd}
  {t : Nat} {ty T : TypeId} {pos : String} {af : Array Edge} {x y z : Operand} {s : ByteArray} {i j : Nat} {a c : Int} {kk kk' : IntKind}
theorem KO.strTo (hx : ev G x = some (.string s)) (hy : ev G y = some (.int kk a)) (hT : P.underlying T = some .string) (ha : a = (i : Int)) (hi : i ≤ s.size) (ht : Nat.blt t n = true) (h : KO P ops d Q n D w0 ((t, .string (s.extract 0 i)) :: G) L l) :
    KO P ops d Q n D w0 G L ((k, ⟨some t, .slice T x none (some y) none, ty, pos, af, none⟩) :: l) :=
  KO.val (fun a' w ha' => by
    subst ha
    have := run_slice_string_to_if (P := P) w T s kk (i : Int) hT
    rw [if_pos (by omega)] at this
    simp [execOp, ha'.eval hx, ha'.eval hy, run_sliceAt_string w T _ _ _ _ hT, this]) ht h
theorem KO.strFrom (hx : ev G x = some (.string s)) (hy : ev G y = some (.int kk a)) (hT : P.underlying T = some .string) (ha : a = (i : Int)) (hi : i ≤ s.size) (ht : Nat.blt t n = true) (h : KO P ops d Q n D w0 ((t, .string (s.extract i s.size)) :: G) L l) :
    KO P ops d Q n D w0 G L ((k, ⟨some t, .slice T x (some y) none none, ty, pos, af, none⟩) :: l) :=
  KO.val (fun a' w ha' => by
    subst ha
    have := run_slice_string_from_if (P := P) w T s kk (i : Int) hT
    rw [if_pos (by omega)] at this
    simp [execOp, ha'.eval hx, ha'.eval hy, run_sliceAt_string w T _ _ _ _ hT, this]) ht h
/-- an element of an array's value -/
theorem KO.idxAg {cs : List Value} {len : Nat} {E : TypeId} {v : Value} (hx : ev G x = some (.agg cs.toArray)) (hy : ev G y = some (.int kk a)) (hT : P.underlying T = some (.array len E)) (hA : ∀ w, (isAgg E).run P w = .ok false w) (hs : ∀ w, (Go.sizeOf E).run P w = .ok 1 w) (ha : a = (i : Int)) (hi : i < len) (hv : cs[i]? = some v) (ht : Nat.blt t n = true)
    (h : KO P ops d Q n D w0 ((t, v) :: G) L l) : KO P ops d Q n D w0 G L ((k, ⟨some t, .index T x y, ty, pos, af, none⟩) :: l) :=
  KO.val (fun a' w ha' => by
    subst ha
    have h1 : (0 : Int) ≤ (i : Int) ∧ (i : Int) < (len : Int) := ⟨by omega, by omega⟩
    have h2 : cs.toArray[i]? = some v := by simpa using hv
    simp [execOp, ha'.eval hx, ha'.eval hy, Instr.index, asIntOf, run_underlying hT, h1, hs w, part, hA w, hi, hv]
    ) ht h
end
theorem RdA.ofSL {α : Type} {w0 w : World} {L R : List HP} {E : TypeId} {cf : α → List Value} {sz : Nat} {xs : List α} {v : Value} (hsz : ∀ e, (cf e).length = sz) (hp : Pick L (SL E sz cf v xs) R) (hw : St w0 L w) : RdA w sz cf v xs := by
  obtain ⟨a, cap, h1, h2, h3⟩ := RdS.of hsz hp w hw
  refine ⟨a, cap, h1, fun i x hx => ?_⟩
  have hl := (List.getElem?_eq_some_iff.1 hx).1
  obtain ⟨g, rfl⟩ := h2 (by omega)
  exact ⟨_, rfl, by rw [Addr.add_lit, Nat.zero_add]; exact h3 g rfl i x hx⟩
end WB
/- strings.SplitSeq at a sep of one byte: the iterator -/
namespace Go.Proofs.YtjhogocabcdjbabGreatDoor
open Go Go.RowKit WB
theorem St.swapApp {w0 w : World} {A B : List HP} (h : St w0 (A ++ B) w) : St w0 (B ++ A) w := h.mapOwn fun _ x => seps_append.2 (sep_comm (seps_append.1 x))
def itV (b4 b3 b5 : Nat) : Value := .func (.func 274) #[] #[.pointer (some ⟨b4, 0, none⟩), .pointer (some ⟨b3, 0, none⟩), .pointer (some ⟨b5, 0, none⟩)]
def itP (b4 b3 b5 : Nat) (s sep : ByteArray) : List HP := [blk b3 (.cells [.string s].toArray 9 (0, 0)), blk b4 (.cells [.string sep].toArray 9 (0, 0)), blk b5 (.cells [.int .i64 0].toArray 3 (0, 0))]
theorem seq1_e (w0 : World) (L : List HP) (s sep : ByteArray) : KE Tryz.prog 199 #[.string s, .string sep, .int .i64 0] w0 L (fun u M => ∃ b4 b3 b5, u = itV b4 b3 b5 ∧ M = itP b4 b3 b5 s sep ++ L) := by
  refine KE.mk (n := 8) Tryz.func199 rfl Tryz.ntmps199 (by simp) ?_
  intro w hw
  repeat ((with_reducible refine K.seq ?_))
  refine K.reg ?_
  refine KO.box rfl rfl (by exact rfl) rfl ?_; intro b3
  refine KO.box rfl rfl (by exact rfl) rfl ?_; intro b4
  refine KO.box rfl rfl (by exact rfl) rfl ?_; intro b5
  refine KO.as rfl rfl ?_
  refine KO.nil ?_
  repeat (first | (with_reducible refine K.seq ?_) | (with_reducible refine KQ.next ?_))
  refine K.reg ?_
  refine KO.mkc rfl rfl rfl ?_
  refine KO.as rfl rfl ?_
  refine KO.nil ?_
  repeat (first | (with_reducible refine KQ.next ?_) | (with_reducible refine K.ret ?_))
  refine KQ.ret1 rfl rfl (fun w' hs => ⟨_, _, rfl, ⟨_, _, _, rfl, rfl⟩, hw.stack (M := itP b4 b3 b5 s sep) (by unfold itP; exact hs.all (by with_reducible repeat (first | exact PAll.refl | refine PAll.cons (by with_reducible repeat (first | exact Pick.head | apply Pick.tail)) ?_))), hs.below⟩)
theorem seq_e (w0 : World) (L : List HP) (s sep : ByteArray) : KE Tryz.prog 113 #[.string s, .string sep] w0 L (fun u M => ∃ b4 b3 b5, u = itV b4 b3 b5 ∧ M = itP b4 b3 b5 s sep ++ L) := by
  refine KE.mk (n := 8) Tryz.func113 rfl Tryz.ntmps113 (by simp) ?_
  intro w hw
  repeat ((with_reducible refine K.seq ?_))
  refine K.reg ?_
  refine KO.as rfl rfl ?_
  refine KO.nil ?_
  repeat (first | (with_reducible refine K.seq ?_) | (with_reducible refine KQ.next ?_))
  refine K.reg ?_
  refine KO.mv rfl rfl ?_
  refine KO.mv rfl rfl ?_
  refine KO.ce (cp := []) rfl rfl rfl Tryz.call199 rfl (seq1_e w _ s sep) ?_; rintro v' L' ⟨b4, b3, b5, rfl, rfl⟩
  refine KO.as rfl rfl ?_
  refine KO.nil ?_
  repeat (first | (with_reducible refine KQ.next ?_) | (with_reducible refine K.ret ?_))
  refine KQ.ret1 rfl rfl (fun w' hs => ⟨_, _, rfl, ⟨_, _, _, rfl, rfl⟩, hw.stack (M := itP b4 b3 b5 s sep) (by simpa using hs), hs.below⟩)
theorem index_e (w0 : World) (L : List HP) (s : ByteArray) (c : UInt8) : KE Tryz.prog 276 #[.string s, .string ⟨#[c]⟩] w0 L (fun u M => u = .int .i64 (Lib.indexByte s.data.toList c) ∧ M = L) :=
  KE.of_below fun w hw => (Tryz.strings_Index_one s c w).mono fun e w' h => ⟨h.1, by rw [h.2]; exact Below.refl _ _⟩
set_option maxRecDepth 100000 in
theorem iter_e (w0 : World) (l : Nat) (c : UInt8) (s : ByteArray) (hsz : s.size ≤ 4294967280) (b4 b3 b5 : Nat) (J : Nat → List HP → Prop) (X : List HP → Prop) (hY : ∀ k p L, (pcs c s)[k]? = some p → J k L → KY Tryz.prog l (.string p) w0 L (J (k + 1)) X) (L : List HP) (h0 : J 0 L) :
    KC Tryz.prog 274 #[.func (.yield l) #[] #[], .pointer (some ⟨b4, 0, none⟩), .pointer (some ⟨b3, 0, none⟩), .pointer (some ⟨b5, 0, none⟩)] w0 (itP b4 b3 b5 s ⟨#[c]⟩ ++ L) (fun v M => ∃ s' M', M = itP b4 b3 b5 s' ⟨#[c]⟩ ++ M' ∧ (J (pcs c s).length M' ∨ X M')) := by
  unfold itP
  refine KC.mk (n := 52) Tryz.func274 rfl Tryz.ntmps274 (by simp) ?_
  repeat ((with_reducible refine K.seq ?_))
  simp only [List.cons_append, List.nil_append]
  refine K.reg ?_
  refine KO.ld rfl rfl Tryz.isAgg9 (by with_reducible (repeat (first | exact Pick.head | apply Pick.tail))) (by exact rfl) rfl ?_
  refine KO.lenS rfl Tryz.underlying9 rfl ?_
  refine KO.eqI rfl rfl rfl ?_
  refine KO.nil ?_
  repeat ((with_reducible refine KQ.next ?_))
  refine K.condF rfl (by rfl) ?_
  refine K.skip ?_
  repeat with_reducible refine KQ.next ?_
  refine K.seq ?_
  have hfin : ∀ r k, (pcs c s).drop k = pcs c r → Lib.indexByte r.data.toList c = -1 → (pcs c s)[k]? = some r ∧ k + 1 = (pcs c s).length := fun r k h1 h2 => by
    rw [pcs_miss h2] at h1
    have h3 : (pcs c s)[k]? = some r := by
      have := congrArg (fun l => l[0]?) h1
      simpa using this
    have h4 := congrArg List.length h1
    have h5 := (List.getElem?_eq_some_iff.1 h3).1
    simp at h4
    exact ⟨h3, by omega⟩
  refine K.cut (fun y : Nat × ByteArray × List HP => [(0, .func (.yield l) #[] #[]), (2, .pointer (some ⟨b3, 0, none⟩))]) (fun y => itP b4 b3 b5 y.2.1 ⟨#[c]⟩ ++ y.2.2) (fun y => J y.1 y.2.2 ∧ (pcs c s)[y.1]? = some y.2.1 ∧ y.1 + 1 = (pcs c s).length) ?_ ?_
  · refine K.block ?_
    refine K.loop (fun y : Nat × ByteArray × List HP => [(0, .func (.yield l) #[] #[]), (1, .pointer (some ⟨b4, 0, none⟩)), (2, .pointer (some ⟨b3, 0, none⟩)), (3, .pointer (some ⟨b5, 0, none⟩))]) (fun y => itP b4 b3 b5 y.2.1 ⟨#[c]⟩ ++ y.2.2)
      (fun y => J y.1 y.2.2 ∧ (pcs c s).drop y.1 = pcs c y.2.1 ∧ y.2.1.size ≤ 4294967280) (fun y => y.2.1.size) (0, s, L) ⟨h0, rfl, hsz⟩ ⟨rfl, rfl, rfl, rfl, trivial⟩ (fun _ h => h) ?_
    rintro ⟨k, r, M⟩ ⟨hJ, hd, hrs⟩
    dsimp only at hJ hd hrs ⊢
    simp only [itP, List.cons_append, List.nil_append]
    repeat (first | (with_reducible refine K.seq ?_) | (with_reducible refine K.block ?_))
    refine K.reg ?_
    refine KO.ld rfl rfl Tryz.isAgg9 (by with_reducible (repeat (exact Pick.head))) (by exact rfl) rfl ?_
    refine KO.ld rfl rfl Tryz.isAgg9 (by with_reducible (repeat (first | exact Pick.head | apply Pick.tail))) (by exact rfl) rfl ?_
    refine KO.ce (cp := []) rfl rfl rfl Tryz.call276 rfl (index_e w0 _ r c) ?_; rintro v' L' ⟨rfl, rfl⟩
    refine KO.as rfl rfl ?_
    refine KO.nil ?_
    repeat (first | (with_reducible refine K.seq ?_) | (with_reducible refine KQ.next ?_))
    refine K.reg ?_
    refine KO.mv rfl rfl ?_
    refine KO.lss rfl rfl rfl ?_
    refine KO.nil ?_
    repeat ((with_reducible refine KQ.next ?_))
    refine K.condD rfl (fun h1 => ?_) (fun h1 => ?_)
    · have h2 : Lib.indexByte r.data.toList c = -1 := by have := Lib.indexByte_ge r.data.toList c; omega
      obtain ⟨h3, h4⟩ := hfin r k hd h2
      repeat (first | (with_reducible refine KQ.then_exit ?_) | (with_reducible refine KQ.blk_exit ?_) | (refine KQ.blk_pass rfl ?_) | (with_reducible refine K.exit ?_))
      exact KQ.mid (k, r, M) ⟨hJ, h3, h4⟩ ⟨rfl, rfl, trivial⟩ (fun _ h => by simpa [itP] using h)
    · obtain ⟨i, hi⟩ : ∃ i : Nat, Lib.indexByte r.data.toList c = i := ⟨(Lib.indexByte r.data.toList c).toNat, by omega⟩
      have hlt := indexByte_lt hi
      have hp := pcs_hit hi
      rw [hp] at hd
      have hk : (pcs c s)[k]? = some (r.extract 0 i) := by
        have := congrArg (fun l => l[0]?) hd
        simpa using this
      have hd2 : (pcs c s).drop (k + 1) = pcs c (r.extract (i + 1) r.size) := by
        rw [← List.drop_drop, hd]; rfl
      have hc1 : (⟨#[c]⟩ : ByteArray).size = 1 := rfl
      rw [hi]
      repeat (first | (with_reducible refine K.seq ?_) | (with_reducible refine KQ.next ?_) | (with_reducible refine K.skip ?_))
      refine K.reg ?_
      refine KO.ld rfl rfl Tryz.isAgg9 (by with_reducible (repeat (exact Pick.head))) (by exact rfl) rfl ?_
      refine KO.mv rfl rfl ?_
      refine KO.ld rfl rfl Tryz.isAgg3 (by with_reducible (repeat (first | exact Pick.head | apply Pick.tail))) (by exact rfl) rfl ?_
      refine KO.add rfl rfl rfl (by omega) rfl ?_
      refine KO.strTo (i := i) rfl rfl Tryz.underlying9 (by simp) (by omega) rfl ?_
      refine KO.as rfl rfl ?_
      refine KO.nil ?_
      repeat (first | (with_reducible refine K.seq ?_) | (with_reducible refine KQ.next ?_))
      refine K.regI ?_
      refine KOI.mv rfl rfl ?_
      refine KOI.mv rfl rfl ?_
      refine KOI.yieldT (N := itP b4 b3 b5 r ⟨#[c]⟩) rfl rfl (hY k _ M hk hJ) (fun w hw => St.swapApp hw) rfl (fun L' hL => ?_) (fun L' hL => ?_)
      · refine KOI.not rfl rfl ?_
        refine KOI.nil ?_
        refine KQ.next ?_
        refine K.condF rfl rfl ?_
        repeat (first | (with_reducible refine KQ.next ?_) | (with_reducible refine K.skip ?_))
        refine K.conv (fun w hw => (St.swapApp hw : St w0 (itP b4 b3 b5 r ⟨#[c]⟩ ++ L') w)) ?_
        simp only [itP, List.cons_append, List.nil_append]
        refine K.reg ?_
        refine KO.ld rfl rfl Tryz.isAgg9 (by with_reducible (repeat (exact Pick.head))) (by exact rfl) rfl ?_
        refine KO.mv rfl rfl ?_
        refine KO.ld rfl rfl Tryz.isAgg9 (by with_reducible (repeat (first | exact Pick.head | apply Pick.tail))) (by exact rfl) rfl ?_
        refine KO.lenS rfl Tryz.underlying9 rfl ?_
        refine KO.add rfl rfl (show (i : Int) + (⟨#[c]⟩ : ByteArray).size = (i + 1 : Nat) by rw [hc1]; rfl) (by omega) rfl ?_
        refine KO.strFrom (i := i + 1) rfl rfl Tryz.underlying9 rfl (by omega) rfl ?_
        refine KO.sto0 rfl rfl rfl (by exact rfl) (by exact Tryz.sizeOf9) (by exact rfl) (by with_reducible (repeat (exact Pick.head))) (by exact rfl) ?_
        refine KO.nil ?_
        repeat ((with_reducible refine KQ.blk_normal ?_))
        refine KQ.round (k + 1, r.extract (i + 1) r.size, L') ⟨hL, hd2, by simp; omega⟩ (by simp; omega) ⟨rfl, rfl, rfl, rfl, trivial⟩ (fun _ h => by simpa [itP] using h)
      · refine KOI.not rfl rfl ?_
        refine KOI.nil ?_
        refine KQ.next ?_
        refine K.condT rfl rfl ?_
        repeat (first | (with_reducible refine KQ.then_ret ?_) | (with_reducible refine KQ.blk_ret ?_) | (with_reducible refine K.ret ?_))
        exact KQ.ret0 rfl (fun w' hs => ⟨_, _, rfl, ⟨r, L', rfl, .inr hL⟩, St.swapApp hs⟩)
  · rintro ⟨k, r, M⟩ ⟨hJ, hk, hk2⟩
    dsimp only at hJ hk hk2 ⊢
    refine K.regI ?_
    refine KOI.mv rfl rfl ?_
    refine KOI.ld (b := b3) (off := 0) (cs := [.string r]) rfl Tryz.isAgg9 (by unfold itP; exact .head) rfl rfl ?_
    refine KOI.yieldT (N := itP b4 b3 b5 r ⟨#[c]⟩) rfl rfl (hY k _ M hk hJ) (fun w hw => St.swapApp hw) rfl (fun L' hL => ?_) (fun L' hL => ?_)
    · refine KOI.nil ?_
      rw [hk2] at hL
      exact KQ.end0 rfl (fun w' hs => ⟨_, _, rfl, ⟨r, L', rfl, .inl hL⟩, St.swapApp hs⟩)
    · refine KOI.nil ?_
      exact KQ.end0 rfl (fun w' hs => ⟨_, _, rfl, ⟨r, L', rfl, .inr hL⟩, St.swapApp hs⟩)
theorem St.swap3 {w0 w : World} {A B C : List HP} (h : St w0 (A ++ (B ++ C)) w) : St w0 (B ++ (A ++ C)) w := h.mapOwn fun _ x =>
  seps_append.2 (sep_mono (fun _ x => x) (fun _ x => seps_append.2 x) (sep_left (sep_mono (fun _ x => x) (fun _ x => seps_append.1 x) (seps_append.1 x))))
theorem St.dropApp {w0 w : World} {A B : List HP} (h : St w0 (A ++ B) w) : St w0 B w := (St.joins h).drop
/-- for x := range strings.SplitSeq(s, c) -/
theorem K.rangeSeq {Q : Exit → Act → World → Prop} {n : Nat} {D : List Deferred} {w0 : World} {G2 : ByteArray → Env} {G0 : Env} {g : Operand} {p : Nat} {assign body : Code} {b4 b3 b5 : Nat} {c : UInt8} {s : ByteArray} {L : List HP}
    (C : Nat → List HP → Prop) (X : List HP → Prop) (hg : ev G0 g = some (itV b4 b3 b5)) (hp : Nat.blt p n = true) (hsz : s.size ≤ 4294967280) (h0 : C 0 L)
    (ha : ∀ (l : Nat) (N : List HP) q, KR l Tryz.prog assign (Exit.then (MidI n [] w0 (fun _ : Unit => G2 q) (fun _ => N) (fun _ => True)) (fun _ _ _ => False)) n [] w0 ((p, .string q) :: G0) N)
    (hb : ∀ k q M (l : Nat) (N : List HP) (RQ : Exit → Act → World → Prop), (pcs c s)[k]? = some q → C k M → (∀ a w, ¬ RQ .outgrown a w) → (∀ M' G', C (k + 1) M' → KQ RQ .normal n [] w0 G' (M' ++ N)) → (∀ M' G', X M' → KQ RQ .ret n [] w0 G' (M' ++ N)) →
      KR l Tryz.prog body RQ n [] w0 (G2 q) (M ++ N))
    (hdone : ∀ b M, C (pcs c s).length M → KQ Q .normal n (mkD b :: D) w0 G0 (blk b (.deferred (some [])) :: M))
    (hstop : ∀ b M, X M → KQ Q .ret n (mkD b :: D) w0 G0 (blk b (.deferred (some [])) :: M)) :
    K Tryz.prog (.rangeFunc g #[p] assign body) Q n D w0 G0 (itP b4 b3 b5 s ⟨#[c]⟩ ++ L) := by
  refine K.rangeFunc hg Tryz.call274 fun fn tm b l hk w hw => ?_
  have hY : ∀ k q L', (pcs c s)[k]? = some q → (∃ M, C k M ∧ L' = blk l (.loop ⟨.ready, none, fn, tm, #[p], assign, body, b⟩) :: blk b (.deferred (some [])) :: M) →
      KY Tryz.prog l (.string q) w0 L' (fun L' => ∃ M, C (k + 1) M ∧ L' = blk l (.loop ⟨.ready, none, fn, tm, #[p], assign, body, b⟩) :: blk b (.deferred (some [])) :: M)
        (fun L' => ∃ M, X M ∧ L' = blk l (.loop ⟨.done, some .ret, fn, tm, #[p], assign, body, b⟩) :: blk b (.deferred (some [])) :: M) := by
    rintro k q _ hq ⟨M, hM, rfl⟩
    refine KY.mk hk hp fun N => ?_
    intro a w' ha' hw'
    refine Go.wpIn_mono (ha l _ q a w' ha' hw') ?_
    rintro e a2 w2 hh
    cases e with
    | normal =>
      obtain ⟨_, _, ha2, hw2⟩ := hh
      refine KQ.begin (G := G2 q) .head rfl ?_ a2 w2 ha2 hw2
      refine KR.conv (L' := M ++ (blk l (.loop ⟨.busy, none, fn, tm, #[p], assign, body, b⟩) :: blk b (.deferred (some [])) :: N)) (fun w hw => St.swap3 (A := [blk l (.loop ⟨.busy, none, fn, tm, #[p], assign, body, b⟩), blk b (.deferred (some []))]) hw) ?_
      refine hb k q M l _ _ hq hM (fun _ _ h => h) (fun M' G' hM' => ?_) (fun M' G' hM' => ?_)
      · refine KQ.conv (fun w hw => (St.swap3 (B := [blk l (.loop ⟨.busy, none, fn, tm, #[p], assign, body, b⟩), blk b (.deferred (some []))]) hw)) ?_
        refine KQ.goes .head fun w hw => .inl ⟨rfl, _, ⟨M', hM', rfl⟩, hw⟩
      · refine KQ.conv (fun w hw => (St.swap3 (B := [blk l (.loop ⟨.busy, none, fn, tm, #[p], assign, body, b⟩), blk b (.deferred (some []))]) hw)) ?_
        refine KQ.leaves .head fun w hw => .inr ⟨rfl, _, ⟨M', hM', rfl⟩, hw⟩
    | _ => exact hh.elim
  have hw2 := St.swap3 (A := [blk l (.loop ⟨.ready, none, fn, tm, #[p], assign, body, b⟩), blk b (.deferred (some []))]) (B := itP b4 b3 b5 s ⟨#[c]⟩) (C := L) hw
  refine ((iter_e w0 l c s hsz b4 b3 b5 (fun k L' => ∃ M, C k M ∧ L' = blk l (.loop ⟨.ready, none, fn, tm, #[p], assign, body, b⟩) :: blk b (.deferred (some [])) :: M)
    (fun L' => ∃ M, X M ∧ L' = blk l (.loop ⟨.done, some .ret, fn, tm, #[p], assign, body, b⟩) :: blk b (.deferred (some [])) :: M) hY _ ⟨L, h0, rfl⟩) w hw2).mono ?_
  rintro e w' ⟨v, L', rfl, ⟨s', M', rfl, (⟨M, hM, rfl⟩ | ⟨M, hM, rfl⟩)⟩, hs⟩
  · refine ⟨_, itP b4 b3 b5 s' ⟨#[c]⟩ ++ M, .ready, none, rfl, (by decide), St.swap3 (B := [blk l (.loop ⟨.ready, none, fn, tm, #[p], assign, body, b⟩), blk b (.deferred (some []))]) hs, ?_⟩
    exact KQ.conv (fun w hw => St.dropApp (St.swap3 (A := [blk b (.deferred (some []))]) (B := itP b4 b3 b5 s' ⟨#[c]⟩) hw)) (hdone b M hM)
  · refine ⟨_, itP b4 b3 b5 s' ⟨#[c]⟩ ++ M, .done, some .ret, rfl, (by decide), St.swap3 (B := [blk l (.loop ⟨.done, some .ret, fn, tm, #[p], assign, body, b⟩), blk b (.deferred (some []))]) hs, ?_⟩
    exact K.ret (KQ.conv (fun w hw => St.dropApp (St.swap3 (A := [blk b (.deferred (some []))]) (B := itP b4 b3 b5 s' ⟨#[c]⟩) hw)) (hstop b M hM))
end Go.Proofs.YtjhogocabcdjbabGreatDoor
/- messages' text read: plain -/
namespace WB
open Go
def numO (s : ByteArray) : Option Int := match Lib.atoiAll s.data.toList with | .ok v => some v | _ => none
def parse1 (p : ByteArray) : Option Ms :=
  match pcs 32 p with
  | [a, b, c, d, e] => match numO a, numO b, numO e with | some x, some y, some z => some ⟨x, y, c, d, z⟩ | _, _, _ => none
  | _ => none
def parseL : List ByteArray → Option (List Ms)
  | [] => some []
  | p :: ps => match parse1 p, parseL ps with | some m, some ms => some (m :: ms) | _, _ => none
/-- what messages' text stands for -/
def mrd (s : ByteArray) : Option (List Ms) :=
  if s = ⟨#[]⟩ then some [] else match parseL (pcs 43 s) with | none => none | some xs => if badI xs = none ∧ writeS xs = s then some xs else none
theorem parseL_snoc {p : ByteArray} : ∀ {ps : List ByteArray} {xs : List Ms}, parseL ps = some xs → parseL (ps ++ [p]) = (parse1 p).map fun m => xs ++ [m]
  | [], xs, h => by
    simp only [parseL, Option.some.injEq] at h; subst h
    simp only [List.nil_append, parseL]
    cases parse1 p <;> rfl
  | q :: ps, xs, h => by
    simp only [parseL] at h
    cases h1 : parse1 q with
    | none => rw [h1] at h; simp at h
    | some m =>
      rw [h1] at h
      cases h2 : parseL ps with
      | none => rw [h2] at h; simp at h
      | some ms =>
        rw [h2] at h
        simp only [Option.some.injEq] at h; subst h
        have ih := parseL_snoc (p := p) h2
        simp only [List.cons_append, parseL, h1, ih]
        cases parse1 p <;> rfl
theorem parseL_none {p : ByteArray} (hp : parse1 p = none) : ∀ {ps : List ByteArray}, p ∈ ps → parseL ps = none
  | [], h => by cases h
  | q :: ps, h => by
    rcases List.mem_cons.1 h with rfl | h
    · simp only [parseL, hp]
    · simp only [parseL, parseL_none hp h]
      cases parse1 q <;> rfl
theorem parseL_all : ∀ {xs : List Ms} {f : Ms → ByteArray}, (∀ m ∈ xs, parse1 (f m) = some m) → parseL (xs.map f) = some xs
  | [], _, _ => rfl
  | m :: xs, f, h => by
    simp only [List.map_cons, parseL, h m (by simp), parseL_all (fun x hx => h x (List.mem_cons_of_mem _ hx))]
theorem parseL_len : ∀ {ps : List ByteArray} {xs : List Ms}, parseL ps = some xs → xs.length = ps.length
  | [], xs, h => by simp only [parseL, Option.some.injEq] at h; subst h; rfl
  | q :: ps, xs, h => by
    simp only [parseL] at h
    cases h1 : parse1 q with
    | none => rw [h1] at h; simp at h
    | some m =>
      rw [h1] at h
      cases h2 : parseL ps with
      | none => rw [h2] at h; simp at h
      | some ms =>
        rw [h2] at h
        simp only [Option.some.injEq] at h; subst h
        simp [parseL_len h2]
theorem let_free {s : ByteArray} (h : allLet s = true) : ∀ b ∈ s.data.toList, b ≠ 32 ∧ b ≠ 43 := fun b hb => by
  unfold allLet at h
  have := List.all_eq_true.1 h b hb
  constructor <;> (rintro rfl; revert this; decide)
theorem itoa_free {n : Int} : ∀ b ∈ (itoaS n).data.toList, b ≠ 32 ∧ b ≠ 43 := fun b hb => by
  have := itoa_mem b hb
  constructor <;> (rintro rfl; revert this; decide)
theorem body_let {s : ByteArray} (h : bodyB s = true) : allLet s = true := by unfold bodyB lettersB at h; simp at h; exact h.2.2
theorem word_let {s : ByteArray} (h : wordB s = true) : allLet s = true := by unfold wordB lettersB at h; simp at h; exact h.2.2
theorem msgS_join (m : Ms) : msgS m = joinS [itoaS m.id, itoaS m.pri, m.body, m.queue, itoaS m.house] sp := by
  rw [joinS_cons2, joinS_cons2, joinS_cons2, joinS_two]
  unfold msgS
  simp only [cat_assoc]
theorem numO_itoa {n : Int} (h : intB n) : numO (itoaS n) = some n := by unfold numO; rw [atoi_itoa h]
theorem parse_msg {m : Ms} (h : msRight m = true) : parse1 (msgS m) = some m := by
  obtain ⟨h1, h2, h3, h4, h5, h6, h7, h8⟩ := msRight_parts h
  have hb := let_free (body_let h5)
  have hq := let_free (word_let h6)
  have : pcs 32 (msgS m) = [itoaS m.id, itoaS m.pri, m.body, m.queue, itoaS m.house] := by
    rw [msgS_join]
    refine pcs_join (by simp) fun x hx b hb' => ?_
    simp only [List.mem_cons, List.not_mem_nil, or_false] at hx
    rcases hx with rfl | rfl | rfl | rfl | rfl
    · exact (itoa_free b hb').1
    · exact (itoa_free b hb').1
    · exact (hb b hb').1
    · exact (hq b hb').1
    · exact (itoa_free b hb').1
  unfold parse1
  rw [this]
  simp only [numO_itoa (n := m.id) ⟨by omega, by omega⟩, numO_itoa (n := m.pri) ⟨by omega, by omega⟩, numO_itoa (n := m.house) ⟨by omega, by omega⟩]
theorem mem_joinS {sep : ByteArray} : ∀ {l : List ByteArray} {b : UInt8}, b ∈ (joinS l sep).data.toList → b ∈ sep.data.toList ∨ ∃ x ∈ l, b ∈ x.data.toList
  | [], b, h => by rw [joinS_nil] at h; simp at h
  | [x], b, h => by rw [joinS_one] at h; exact .inr ⟨x, by simp, h⟩
  | x :: y :: r, b, h => by
    rw [joinS_cons2] at h
    simp only [ByteArray.data_append, Array.toList_append, List.mem_append] at h
    rcases h with (h | h) | h
    · exact .inr ⟨x, by simp, h⟩
    · exact .inl h
    · rcases mem_joinS h with h | ⟨z, hz, h⟩
      · exact .inl h
      · exact .inr ⟨z, List.mem_cons_of_mem _ hz, h⟩
theorem msg_plus {m : Ms} (h : msRight m = true) : ∀ b ∈ (msgS m).data.toList, b ≠ 43 := fun b hb => by
  obtain ⟨h1, h2, h3, h4, h5, h6, h7, h8⟩ := msRight_parts h
  rw [msgS_join] at hb
  rcases mem_joinS hb with hb | ⟨x, hx, hb⟩
  · have : b = 32 := by simpa [sp] using hb
    subst this; decide
  · simp only [List.mem_cons, List.not_mem_nil, or_false] at hx
    rcases hx with rfl | rfl | rfl | rfl | rfl
    · exact (itoa_free b hb).2
    · exact (itoa_free b hb).2
    · exact (let_free (body_let h5) b hb).2
    · exact (let_free (word_let h6) b hb).2
    · exact (itoa_free b hb).2
theorem parse_write {xs : List Ms} (h : badI xs = none) (h0 : xs ≠ []) : parseL (pcs 43 (writeS xs)) = some xs := by
  have hr := badI_all h
  have : pcs 43 (writeS xs) = xs.map msgS := by
    unfold writeS
    refine pcs_join (by simpa using h0) fun x hx => ?_
    obtain ⟨m, hm, rfl⟩ := List.mem_map.1 hx
    exact msg_plus (hr m hm)
  rw [this]
  exact parseL_all fun m hm => parse_msg (hr m hm)
theorem msgS_ne (m : Ms) : 1 ≤ (msgS m).size := by
  unfold msgS
  simp only [ByteArray.size_append]
  have : sp.size = 1 := rfl
  omega
theorem writeS_ne {xs : List Ms} (h0 : xs ≠ []) : writeS xs ≠ ⟨#[]⟩ := by
  cases xs with
  | nil => exact absurd rfl h0
  | cons m r =>
    intro h
    have h1 := congrArg ByteArray.size h
    have h2 := msgS_ne m
    unfold writeS at h1
    rw [List.map_cons] at h1
    cases r with
    | nil => rw [List.map_nil, joinS_one] at h1; have : (⟨#[]⟩ : ByteArray).size = 0 := rfl; omega
    | cons m' r => rw [List.map_cons, joinS_cons2] at h1; simp only [ByteArray.size_append] at h1; have : (⟨#[]⟩ : ByteArray).size = 0 := rfl; omega
/-- what is written is read -/
theorem mrd_write {xs : List Ms} (h : badI xs = none) : mrd (writeS xs) = some xs := by
  unfold mrd
  by_cases h0 : xs = []
  · subst h0; rfl
  · rw [if_neg (writeS_ne h0), parse_write h h0]
    simp [h]
/-- what is read is written so -/
theorem mrd_some {s : ByteArray} {xs : List Ms} (h : mrd s = some xs) : badI xs = none ∧ writeS xs = s := by
  unfold mrd at h
  split at h
  · rename_i h0
    simp only [Option.some.injEq] at h; subst h; exact ⟨rfl, h0.symm⟩
  · split at h
    · cases h
    · split at h
      · rename_i h1
        simp only [Option.some.injEq] at h; subst h; exact h1
      · cases h
theorem pieces_size (c : UInt8) : ∀ l, ∀ p ∈ pieces c l, p.length ≤ l.length
  | [], p, hp => by simp [pieces] at hp; subst hp; exact Nat.le_refl _
  | a :: l, p, hp => by
    by_cases h : a = c
    · subst h; rw [pieces_eq] at hp
      rcases List.mem_cons.1 hp with rfl | hp
      · simp
      · have := pieces_size a l p hp; simp; omega
    · obtain ⟨q, qs, e⟩ := List.exists_cons_of_ne_nil (pieces_ne c l)
      rw [pieces_neq h e] at hp
      rcases List.mem_cons.1 hp with rfl | hp
      · have := pieces_size c l q (by rw [e]; simp); simp; omega
      · have := pieces_size c l p (by rw [e]; simp [hp]); simp; omega
theorem pcs_size {c : UInt8} {s p : ByteArray} (h : p ∈ pcs c s) : p.size ≤ s.size := by
  unfold pcs at h
  obtain ⟨q, hq, rfl⟩ := List.mem_map.1 h
  have := pieces_size c _ q hq
  rw [ba_size, ba_size, data_toB]; exact this
theorem parse1_size {p : ByteArray} {m : Ms} (h : parse1 p = some m) : m.body.size ≤ p.size ∧ m.queue.size ≤ p.size := by
  unfold parse1 at h
  split at h
  · rename_i a b c d e hp
    split at h
    · simp only [Option.some.injEq] at h; subst h
      exact ⟨pcs_size (c := 32) (by rw [hp]; simp), pcs_size (c := 32) (by rw [hp]; simp)⟩
    · cases h
  · cases h
theorem parseL_size {B : Nat} : ∀ {ps : List ByteArray} {xs : List Ms}, parseL ps = some xs → (∀ p ∈ ps, p.size ≤ B) → ∀ m ∈ xs, m.body.size ≤ B ∧ m.queue.size ≤ B
  | [], xs, h, _, m, hm => by simp only [parseL, Option.some.injEq] at h; subst h; cases hm
  | q :: ps, xs, h, hB, m, hm => by
    simp only [parseL] at h
    cases h1 : parse1 q with
    | none => rw [h1] at h; simp at h
    | some m' =>
      rw [h1] at h
      cases h2 : parseL ps with
      | none => rw [h2] at h; simp at h
      | some ms =>
        rw [h2] at h
        simp only [Option.some.injEq] at h; subst h
        rcases List.mem_cons.1 hm with rfl | hm
        · have := parse1_size h1; have := hB q (by simp); omega
        · exact parseL_size h2 (fun p hp => hB p (List.mem_cons_of_mem _ hp)) m hm
theorem right_size {m : Ms} (h : msRight m = true) : m.body.size ≤ maxLen ∧ m.queue.size ≤ maxLen := by
  obtain ⟨h1, h2, h3, h4, h5, h6, h7, h8⟩ := msRight_parts h
  have a4 : m.body.size ≤ 12 := by unfold bodyB lettersB at h5; simp at h5; omega
  have a5 : m.queue.size ≤ 8 := by unfold wordB lettersB at h6; simp at h6; omega
  unfold maxLen; omega
end WB
/- what msg.Read calls: strings.Split, strconv.Atoi; plain.Same of lists that lie anywhere -/
namespace Go.Proofs.YtjhogocabcdjbabGreatDoor
open Go Go.RowKit WB
/-- the variables that the library reads -/
def Lim (w : World) : Prop := (∃ m, w.cell? ⟨1, 0, none⟩ = some (.int .i64 m)) ∧ (∃ t p, w.cell? ⟨2, 0, none⟩ = some (.iface t p)) ∧ (∃ t p, w.cell? ⟨3, 0, none⟩ = some (.iface t p))
theorem Lim.ext {w w' : World} (h : Lim w) (e : Ext w w') : Lim w' := by
  obtain ⟨⟨m, h1⟩, ⟨t, p, h2⟩, ⟨t', p', h3⟩⟩ := h
  exact ⟨⟨m, e.cell h1⟩, ⟨t, p, e.cell h2⟩, ⟨t', p', e.cell h3⟩⟩
theorem strS_blkM {w0 w : World} {L : List HP} {b k : Nat} {xs : List ByteArray} {vs : List Value} (h : St w0 (blk b (.cells vs.toArray 9 (0, 0)) :: L) w) (hvs : vs = xs.map Value.string) (hk : xs.length = k) (hle : k ≤ 1000000000) : St w0 (strS (.slice (some ⟨b, 0, none⟩) k k) xs :: L) w := by
  subst hk
  have hf : xs.flatMap strC = vs := by rw [hvs]; clear hvs h hle; induction xs with
    | nil => rfl
    | cons a l ih => rw [List.flatMap_cons, ih]; rfl
  refine h.osl_mk (Nat.le_refl _) (by unfold maxLen; omega) ?_ ?_
  · rw [hvs]; simp
  · rw [hf, hvs, Nat.mul_one]; exact List.take_of_length_le (by simp)
theorem split_e (w0 : World) (L : List HP) (s : ByteArray) (c : UInt8) (hs : s.size ≤ 100000000) (hM : Lim w0) : KE Tryz.prog 133 #[.string s, .string ⟨#[c]⟩] w0 L (fun u M => ∃ b, u = .slice (some ⟨b, 0, none⟩) (pcs c s).length (pcs c s).length ∧ M = strS (.slice (some ⟨b, 0, none⟩) (pcs c s).length (pcs c s).length) (pcs c s) :: L) := fun w hw => by
  obtain ⟨⟨m, hm⟩, _⟩ := hM.ext (Ext.of_below hw.below)
  refine (Tryz.strings_Split s ⟨#[c]⟩ m w (by omega) hm (Nat.le_refl _)).mono ?_
  rintro e w' ⟨rfl, rfl⟩
  rw [pcs_split, ← pcs_len]
  have hl : (pcs c s).length ≤ s.size + 1 := by unfold pcs; rw [List.length_map, pieces_len]; have := List.count_le_length (a := c) (l := s.data.toList); rw [ba_size]; omega
  exact ⟨_, _, rfl, ⟨w.heap.size, rfl, rfl⟩, strS_blkM (hw.alloc _) rfl rfl (by omega), Below.alloc (Below.refl _ w) (Nat.le_refl _) _⟩
def atoiR (s : ByteArray) (u : Value) : Prop := match numO s with | some v => u = .tuple #[.int .i64 v, .nilIface] | none => ∃ x T y, u = .tuple #[.int .i64 x, .iface T y]
theorem atoi_e (w0 : World) (L : List HP) (s : ByteArray) (hs : s.size ≤ 100000000) (hM : Lim w0) : KE Tryz.prog 136 #[.string s] w0 L (fun u M => atoiR s u ∧ M = L) := fun w hw => by
  obtain ⟨_, ⟨t, p, h2⟩, ⟨t', p', h3⟩⟩ := hM.ext (Ext.of_below hw.below)
  unfold atoiR
  rcases h : Lib.atoiAll s.data.toList with v | _ | _
  · have hn : numO s = some v := by unfold numO; rw [h]
    refine (Tryz.strconv_Atoi_ok s (by omega) v h w).mono ?_
    rintro e w' ⟨rfl, hw'⟩
    have hb : Below w.heap.size w w' := by
      rcases hw' with rfl | ⟨t, rfl⟩
      · exact Below.refl _ _
      · exact Lib.bytesWorld_below _ _ _
    exact ⟨_, _, rfl, ⟨by rw [hn], rfl⟩, hw.below_step hb, hb⟩
  · have hn : numO s = none := by unfold numO; rw [h]
    refine (Tryz.strconv_Atoi_syntax s (by omega) h _ w h2 (.inr ⟨t, p, rfl⟩)).mono ?_
    rintro e w' ⟨N, rfl, _, _, hb⟩
    exact ⟨_, _, rfl, ⟨by rw [hn]; exact ⟨_, _, _, rfl⟩, rfl⟩, hw.below_step hb, hb⟩
  · have hn : numO s = none := by unfold numO; rw [h]
    refine (Tryz.strconv_Atoi_range s (by omega) h _ w h3 (.inr ⟨t', p', rfl⟩)).mono ?_
    rintro e w' ⟨N, rfl, _, _, hb⟩
    exact ⟨_, _, rfl, ⟨by rw [hn]; exact ⟨_, _, _, rfl⟩, rfl⟩, hw.below_step hb, hb⟩
end Go.Proofs.YtjhogocabcdjbabGreatDoor
/- msg.Read: the walk -/
namespace Go.Proofs.YtjhogocabcdjbabGreatDoor
open Go Go.RowKit WB
def MrR (L : List HP) (s : ByteArray) (u : Value) (M : List HP) : Prop :=
  match mrd s with
  | some xs => ∃ v, u = .tuple #[v, .nilIface] ∧ M = SL 44 5 msC v xs :: L
  | none => u = .tuple #[.slice none 0 0, errV 70 3] ∧ M = L
def arr5 (x y z : Int) : Nat → List Value
  | 0 => [.int .i64 0, .int .i64 0, .int .i64 0, .int .i64 0, .int .i64 0]
  | 1 => [.int .i64 x, .int .i64 0, .int .i64 0, .int .i64 0, .int .i64 0]
  | 2 => [.int .i64 x, .int .i64 y, .int .i64 0, .int .i64 0, .int .i64 0]
  | _ => [.int .i64 x, .int .i64 y, .int .i64 0, .int .i64 0, .int .i64 z]
def rdP (b4 b3 b2 : Nat) (v e : Value) (xs : List Ms) : List HP := [blk b4 (.cells [v].toArray 49 (0, 0)), blk b3 (.cells [e].toArray 31 (0, 0)), blk b2 (.cells [.slice none 0 0].toArray 49 (0, 0)), SL 44 5 msC v xs]
def rdC (s : ByteArray) (b4 b3 b2 : Nat) (k : Nat) (M : List HP) : Prop := ∃ v xs, M = rdP b4 b3 b2 v .nilIface xs ∧ parseL ((pcs 43 s).take k) = some xs
def rdX (s : ByteArray) (b4 b3 b2 : Nat) (M : List HP) : Prop := (∃ v xs, M = rdP b4 b3 b2 v (errV 70 3) xs) ∧ parseL (pcs 43 s) = none
theorem msr_info : (Tryz.prog.info? 44).map (fun i => (i.zero, i.size, i.bytes)) = some (some (Value.agg #[.int .i64 0, .int .i64 0, .string ⟨#[]⟩, .string ⟨#[]⟩, .int .i64 0]), 5, 56) := by kernel_rfl
set_option maxRecDepth 100000 in
set_option maxHeartbeats 4000000 in
theorem mread_e (w0 : World) (L : List HP) (s : ByteArray) (hs : s.size ≤ 90000) (hT0 : Tab w0) (hM0 : Lim w0) : KE Tryz.prog 160 #[.string s] w0 L (MrR L s) := by
  refine KE.mkM (n := 74) Tryz.func160 rfl Tryz.ntmps160 (by simp) ?_
  intro w hw
  have hT := hT0.ext (Ext.of_below hw.below)
  have hM := hM0.ext (Ext.of_below hw.below)
  unfold MrR
  repeat ((with_reducible refine K.seq ?_))
  refine K.reg ?_
  refine KO.alloc rfl Tryz.zeroValue49 (by exact rfl) rfl ?_; intro b2
  refine KO.alloc rfl Tryz.zeroValue31 (by exact rfl) rfl ?_; intro b3
  refine KO.nil ?_
  repeat (first | (with_reducible refine K.seq ?_) | (with_reducible refine KQ.next ?_))
  by_cases h0 : s = ⟨#[]⟩
  · have e0 : mrd s = some [] := by unfold mrd; rw [if_pos h0]
    rw [e0]
    refine K.reg ?_
    refine KO.mv rfl rfl ?_
    refine KO.eqS rfl rfl rfl ?_
    refine KO.nil ?_
    repeat ((with_reducible refine KQ.next ?_))
    refine K.condT rfl (by simpa using h0) ?_
    repeat ((with_reducible refine K.seq ?_))
    refine K.reg ?_
    refine KO.sto0 rfl rfl rfl (by exact rfl) (by exact Tryz.sizeOf49) (by exact rfl) (by with_reducible (repeat (first | exact Pick.head | apply Pick.tail))) (by exact rfl) ?_
    refine KO.sto0 rfl rfl rfl (by exact rfl) (by exact Tryz.sizeOf31) (by exact rfl) (by with_reducible (repeat (first | exact Pick.head | apply Pick.tail))) (by exact rfl) ?_
    refine KO.nil ?_
    repeat (first | (with_reducible refine KQ.next ?_) | (with_reducible refine KQ.then_ret ?_) | (with_reducible refine K.ret ?_))
    refine KQ.retM2C rfl rfl rfl Tryz.isAgg49 Tryz.isAgg31 (by with_reducible (repeat (first | exact Pick.head | apply Pick.tail))) (by with_reducible (repeat (exact Pick.head))) (fun w' hs => ⟨_, _, rfl, ⟨_, rfl, rfl⟩, ?_, hs.below⟩)
    exact SL_nil (hw.below_step hs.below)
  refine K.reg ?_
  refine KO.mv rfl rfl ?_
  refine KO.eqS rfl rfl rfl ?_
  refine KO.nil ?_
  repeat ((with_reducible refine KQ.next ?_))
  refine K.condF rfl (by simpa using h0) ?_
  repeat (first | (with_reducible refine K.seq ?_) | (with_reducible refine KQ.next ?_) | (with_reducible refine K.skip ?_))
  refine K.reg ?_
  refine KO.alloc rfl Tryz.zeroValue49 (by exact rfl) rfl ?_; intro b4
  refine KO.nil ?_
  repeat (first | (with_reducible refine K.seq ?_) | (with_reducible refine KQ.next ?_))
  refine K.reg ?_
  refine KO.mv rfl rfl ?_
  refine KO.ce (cp := []) rfl rfl rfl Tryz.call113 rfl (seq_e w _ s ⟨#[43]⟩) ?_; rintro v' L' ⟨i4, i3, i5, rfl, rfl⟩
  refine KO.nil ?_
  refine KQ.next ?_
  refine K.block ?_
  refine K.conv (L' := itP i4 i3 i5 s ⟨#[43]⟩ ++ rdP b4 b3 b2 (.slice none 0 0) .nilIface []) (fun w hw => ?_) ?_
  · simp only [rdP, itP, List.cons_append, List.nil_append] at hw ⊢
    exact (SL_nil hw).all (by with_reducible repeat (first | exact PAll.refl | refine PAll.cons (by with_reducible repeat (first | exact Pick.head | apply Pick.tail)) ?_))
  have hlen : (pcs 43 s).length ≤ s.size + 1 := by unfold pcs; rw [List.length_map, pieces_len]; have := List.count_le_length (a := 43) (l := s.data.toList); rw [ba_size]; omega
  refine K.rangeSeq (rdC s b4 b3 b2) (rdX s b4 b3 b2) (G2 := fun q => [(5, .string q), (0, .string s), (2, .pointer (some ⟨b2, 0, none⟩)), (3, .pointer (some ⟨b3, 0, none⟩)), (4, .pointer (some ⟨b4, 0, none⟩))]) rfl rfl (by omega) ⟨_, _, rfl, rfl⟩ ?_ ?_ ?_ ?_
  · intro l N q
    refine KR.reg (by kernel_rfl) (fun a w h => by exact h) ?_
    refine KO.as rfl rfl ?_
    refine KO.nil ?_
    exact KQ.mid () trivial ⟨rfl, rfl, rfl, rfl, rfl, trivial⟩ (fun _ h => h)
  · rintro k q M l N RQ hq ⟨v, xs, rfl, hxs⟩ hno hgo hret
    have hxl : xs.length < 100000 := by have := parseL_len hxs; rw [List.length_take] at this; omega
    have hqs : q.size ≤ 90000 := by have := pcs_size (List.mem_of_getElem? hq); omega
    simp only [rdP, List.cons_append, List.nil_append]
    repeat (first | (with_reducible refine KR.seq ?_) | (with_reducible refine KR.block ?_))
    refine KR.reg (by kernel_rfl) (fun a w h => by exact hno a w h) ?_
    refine KO.mv rfl rfl ?_
    refine KO.ce (cp := []) rfl rfl rfl Tryz.call133 rfl (split_e w _ q 32 (by omega) hM) ?_; rintro v' L' ⟨bq, rfl, rfl⟩
    refine KO.as rfl rfl ?_
    refine KO.nil ?_
    repeat (first | (with_reducible refine KR.seq ?_) | (with_reducible refine KQ.nextR ?_))
    by_cases h5 : (pcs 32 q).length = 5
    case neg =>
      refine KR.reg (by kernel_rfl) (fun a w h => by exact hno a w h) ?_
      refine KO.mv rfl rfl ?_
      refine KO.len rfl Tryz.underlying115 rfl ?_
      refine KO.neI rfl rfl rfl ?_
      refine KO.nil ?_
      repeat ((with_reducible refine KQ.nextR ?_))
      refine KR.condT rfl (by simp; omega) ?_
      repeat ((with_reducible refine KR.seq ?_))
      refine KR.reg (by kernel_rfl) (fun a w h => by exact hno a w h) ?_
      refine KO.mki rfl (by kernel_rfl) rfl ?_
      refine KO.sto0 rfl rfl rfl (by exact rfl) (by exact Tryz.sizeOf49) (by exact rfl) (by with_reducible (repeat (first | exact Pick.head | apply Pick.tail))) (by exact rfl) ?_
      refine KO.sto0 rfl rfl rfl (by exact rfl) (by exact Tryz.sizeOf31) (by exact rfl) (by with_reducible (repeat (first | exact Pick.head | apply Pick.tail))) (by exact rfl) ?_
      refine KO.nil ?_
      repeat (first | (with_reducible refine KQ.nextR ?_) | (with_reducible refine KQ.then_ret ?_) | (with_reducible refine KQ.blk_ret ?_) | (with_reducible refine KR.ret ?_))
      refine KQ.conv (fun w hw => hw.all (M := rdP b4 b3 b2 v (errV 70 3) xs ++ N) (by repeat (first | exact PAll.refl | refine PAll.cons (by repeat (first | exact Pick.head | apply Pick.tail)) ?_ | apply PAll.drop))) ?_
      refine hret _ _ ⟨⟨_, _, rfl⟩, parseL_none (p := q) ?_ (List.mem_of_getElem? hq)⟩
      unfold parse1
      split
      · rename_i h; rw [h] at h5; exact absurd rfl h5
      · rfl
    refine KR.reg (by kernel_rfl) (fun a w h => by exact hno a w h) ?_
    refine KO.mv rfl rfl ?_
    refine KO.len rfl Tryz.underlying115 rfl ?_
    refine KO.neI rfl rfl rfl ?_
    refine KO.nil ?_
    repeat ((with_reducible refine KQ.nextR ?_))
    refine KR.condF rfl (by simp; omega) ?_
    repeat (first | (with_reducible refine KR.seq ?_) | (with_reducible refine KQ.nextR ?_) | (with_reducible refine KR.skip ?_))
    obtain ⟨wa, wb, wc, wd, we, hws⟩ : ∃ wa wb wc wd we, pcs 32 q = [wa, wb, wc, wd, we] := by
      generalize pcs 32 q = l at h5
      match l, h5 with
      | [a, b, c, d, e], _ => exact ⟨a, b, c, d, e, rfl⟩
    have hwz : ∀ x ∈ [wa, wb, wc, wd, we], x.size ≤ 100000000 := fun x hx => by have := pcs_size (c := 32) (s := q) (p := x) (by rw [hws]; exact hx); omega
    rw [hws]
    refine KR.reg (by kernel_rfl) (fun a w h => by exact hno a w h) ?_
    refine KO.alloc rfl Tryz.zeroValue333 (by exact rfl) rfl ?_; intro b7
    refine KO.nil ?_
    repeat (first | (with_reducible refine KR.seq ?_) | (with_reducible refine KQ.nextR ?_))
    refine KR.reg (by kernel_rfl) (fun a w h => by exact hno a w h) ?_
    refine KO.bld rfl (by intro w; go_simp; rfl) rfl ?_
    refine KO.mv rfl rfl ?_
    refine KO.nil ?_
    repeat (first | (with_reducible refine KQ.nextR ?_) | (with_reducible refine KR.block ?_))
    obtain ⟨x, hx⟩ : ∃ x, x = (numO wa).getD 0 := ⟨_, rfl⟩
    obtain ⟨y, hy⟩ : ∃ x, x = (numO wb).getD 0 := ⟨_, rfl⟩
    obtain ⟨z, hz⟩ : ∃ x, x = (numO we).getD 0 := ⟨_, rfl⟩
    refine KR.loop (fun i : Nat => [(26, .int .i64 (i : Nat)), (25, .agg [.int .i64 0, .int .i64 1, .int .i64 4].toArray), (7, .pointer (some ⟨b7, 0, none⟩)), (6, .slice (some ⟨bq, 0, none⟩) 5 5), (5, .string q), (0, .string s), (2, .pointer (some ⟨b2, 0, none⟩)), (3, .pointer (some ⟨b3, 0, none⟩)), (4, .pointer (some ⟨b4, 0, none⟩))])
      (fun i => blk b7 (.cells (arr5 x y z i).toArray 333 (0, 0)) :: strS (.slice (some ⟨bq, 0, none⟩) 5 5) [wa, wb, wc, wd, we] :: (rdP b4 b3 b2 v .nilIface xs ++ N))
      (fun i => i ≤ 3 ∧ (0 < i → numO wa = some x) ∧ (1 < i → numO wb = some y) ∧ (2 < i → numO we = some z)) (fun i => 3 - i) 0
      ⟨by omega, fun h => by omega, fun h => by omega, fun h => by omega⟩ ⟨rfl, rfl, rfl, rfl, rfl, rfl, rfl, rfl, rfl, trivial⟩ (fun w hw => hw.all (by repeat (exact PAll.refl))) ?_
    rintro i ⟨hi, hp1, hp2, hp3⟩
    have hcase : i = 0 ∨ i = 1 ∨ i = 2 ∨ i = 3 := by omega
    simp only [rdP, List.cons_append, List.nil_append]
    rcases hcase with rfl | rfl | rfl | rfl
    · -- round 0
      repeat ((with_reducible refine KR.seq ?_))
      refine KR.reg (by kernel_rfl) (fun a w h => by exact hno a w h) ?_
      refine KO.lss rfl rfl rfl ?_
      refine KO.nil ?_
      repeat (first | (with_reducible refine KR.seq ?_) | (with_reducible refine KQ.nextR ?_))
      refine KR.condT rfl rfl ?_
      repeat (first | (with_reducible refine KR.seq ?_) | (with_reducible refine KQ.nextR ?_) | (with_reducible refine KR.skip ?_) | (with_reducible refine KR.block ?_))
      refine KR.reg (by kernel_rfl) (fun a w h => by exact hno a w h) ?_
      refine KO.idxAg (cs := [.int .i64 0, .int .i64 1, .int .i64 4]) (i := 0) rfl rfl Tryz.underlying334 Tryz.isAgg3 Tryz.sizeOf3 rfl (by decide) rfl rfl ?_
      refine KO.as rfl rfl ?_
      refine KO.nil ?_
      repeat (first | (with_reducible refine KR.seq ?_) | (with_reducible refine KQ.nextR ?_))
      cases hn : numO wa with
      | none =>
        refine KR.reg (by kernel_rfl) (fun a w h => by exact hno a w h) ?_
        refine KO.mv rfl rfl ?_
        refine KO.mv rfl rfl ?_
        refine KO.idx0 (i := 0) rfl rfl Tryz.runUnderlying115 Tryz.sizeOf9 rfl (by decide) rfl ?_
        refine KO.ldE0 (i := 0) (sz := 1) (cf := strC) (e := wa) rfl rfl Tryz.isAgg9 (by with_reducible (repeat (first | exact Pick.head | apply Pick.tail))) (fun _ => rfl) rfl (by exact rfl) (by exact rfl) rfl ?_
        refine KO.ce (cp := []) rfl rfl rfl Tryz.call136 rfl (atoi_e w _ wa (hwz wa (by simp)) hM) ?_; rintro v' L' ⟨hR, rfl⟩; unfold atoiR at hR; rw [hn] at hR; obtain ⟨xx, TT, yy, rfl⟩ := hR
        refine KO.mv rfl rfl ?_
        refine KO.extrL rfl (by exact rfl) rfl ?_
        refine KO.extrL rfl (by exact rfl) rfl ?_
        refine KO.as rfl rfl ?_
        refine KO.as rfl rfl ?_
        refine KO.nil ?_
        repeat (first | (with_reducible refine KR.seq ?_) | (with_reducible refine KQ.nextR ?_))
        refine KR.reg (by kernel_rfl) (fun a w h => by exact hno a w h) ?_
        refine KO.mv rfl rfl ?_
        refine KO.neIf rfl (by kernel_rfl) rfl ?_
        refine KO.nil ?_
        repeat ((with_reducible refine KQ.nextR ?_))
        refine KR.condT rfl rfl ?_
        repeat ((with_reducible refine KR.seq ?_))
        refine KR.reg (by kernel_rfl) (fun a w h => by exact hno a w h) ?_
        refine KO.mki rfl (by kernel_rfl) rfl ?_
        refine KO.sto0 rfl rfl rfl (by exact rfl) (by exact Tryz.sizeOf49) (by exact rfl) (by with_reducible (repeat (first | exact Pick.head | apply Pick.tail))) (by exact rfl) ?_
        refine KO.sto0 rfl rfl rfl (by exact rfl) (by exact Tryz.sizeOf31) (by exact rfl) (by with_reducible (repeat (first | exact Pick.head | apply Pick.tail))) (by exact rfl) ?_
        refine KO.nil ?_
        repeat (first | (with_reducible refine KQ.nextR ?_) | (with_reducible refine KQ.then_ret ?_) | (with_reducible refine KQ.blk_ret ?_) | (with_reducible refine KR.ret ?_))
        refine KQ.conv (fun w hw => hw.all (M := rdP b4 b3 b2 v (errV 70 3) xs ++ N) (by repeat (first | exact PAll.refl | refine PAll.cons (by repeat (first | exact Pick.head | apply Pick.tail)) ?_ | apply PAll.drop))) ?_
        refine hret _ _ ⟨⟨_, _, rfl⟩, parseL_none (p := q) ?_ (List.mem_of_getElem? hq)⟩
        unfold parse1; rw [hws]; simp only []; rw [hn]
        all_goals (cases numO wa <;> cases numO wb <;> cases numO we <;> rfl)
      | some vv =>
        have hvx : vv = x := by rw [hx, hn]; rfl
        refine KR.reg (by kernel_rfl) (fun a w h => by exact hno a w h) ?_
        refine KO.mv rfl rfl ?_
        refine KO.mv rfl rfl ?_
        refine KO.idx0 (i := 0) rfl rfl Tryz.runUnderlying115 Tryz.sizeOf9 rfl (by decide) rfl ?_
        refine KO.ldE0 (i := 0) (sz := 1) (cf := strC) (e := wa) rfl rfl Tryz.isAgg9 (by with_reducible (repeat (first | exact Pick.head | apply Pick.tail))) (fun _ => rfl) rfl (by exact rfl) (by exact rfl) rfl ?_
        refine KO.ce (cp := []) rfl rfl rfl Tryz.call136 rfl (atoi_e w _ wa (hwz wa (by simp)) hM) ?_; rintro v' L' ⟨hR, rfl⟩; unfold atoiR at hR; rw [hn] at hR; subst hR
        refine KO.mv rfl rfl ?_
        refine KO.extrL rfl (by exact rfl) rfl ?_
        refine KO.extrL rfl (by exact rfl) rfl ?_
        refine KO.as rfl rfl ?_
        refine KO.as rfl rfl ?_
        refine KO.nil ?_
        repeat (first | (with_reducible refine KR.seq ?_) | (with_reducible refine KQ.nextR ?_))
        refine KR.reg (by kernel_rfl) (fun a w h => by exact hno a w h) ?_
        refine KO.mv rfl rfl ?_
        refine KO.neI0 rfl (by kernel_rfl) rfl ?_
        refine KO.nil ?_
        repeat ((with_reducible refine KQ.nextR ?_))
        refine KR.condF rfl rfl ?_
        repeat (first | (with_reducible refine KQ.nextR ?_) | (with_reducible refine KR.skip ?_))
        refine KR.reg (by kernel_rfl) (fun a w h => by exact hno a w h) ?_
        refine KO.mv rfl rfl ?_
        refine KO.mv rfl rfl ?_
        refine KO.idxA (i := 0) rfl rfl Tryz.runUnderlying333 Tryz.sizeOf3 rfl (by decide) rfl ?_
        refine KO.stAt (i := 0) rfl rfl rfl (by exact rfl) (by exact Tryz.sizeOf3) rfl (by with_reducible (repeat (exact Pick.head))) (by rfl) (by simp [arr5]) ?_
        refine KO.nil ?_
        repeat (first | (with_reducible refine KQ.nextR ?_) | (with_reducible refine KQ.blk_normal ?_))
        refine KR.reg (by kernel_rfl) (fun a w h => by exact hno a w h) ?_
        refine KO.add rfl rfl rfl (by omega) rfl ?_
        refine KO.mv rfl rfl ?_
        refine KO.nil ?_
        subst hvx
        refine KQ.round 1 ⟨by omega, fun h => ?_, fun h => ?_, fun h => ?_⟩ (by decide) ⟨rfl, rfl, rfl, rfl, rfl, rfl, rfl, rfl, rfl, trivial⟩ (fun w hw => hw.all (by repeat (exact PAll.refl)))
        all_goals first | omega | rfl
    · -- round 1
      repeat ((with_reducible refine KR.seq ?_))
      refine KR.reg (by kernel_rfl) (fun a w h => by exact hno a w h) ?_
      refine KO.lss rfl rfl rfl ?_
      refine KO.nil ?_
      repeat (first | (with_reducible refine KR.seq ?_) | (with_reducible refine KQ.nextR ?_))
      refine KR.condT rfl rfl ?_
      repeat (first | (with_reducible refine KR.seq ?_) | (with_reducible refine KQ.nextR ?_) | (with_reducible refine KR.skip ?_) | (with_reducible refine KR.block ?_))
      refine KR.reg (by kernel_rfl) (fun a w h => by exact hno a w h) ?_
      refine KO.idxAg (cs := [.int .i64 0, .int .i64 1, .int .i64 4]) (i := 1) rfl rfl Tryz.underlying334 Tryz.isAgg3 Tryz.sizeOf3 rfl (by decide) rfl rfl ?_
      refine KO.as rfl rfl ?_
      refine KO.nil ?_
      repeat (first | (with_reducible refine KR.seq ?_) | (with_reducible refine KQ.nextR ?_))
      cases hn : numO wb with
      | none =>
        refine KR.reg (by kernel_rfl) (fun a w h => by exact hno a w h) ?_
        refine KO.mv rfl rfl ?_
        refine KO.mv rfl rfl ?_
        refine KO.idx0 (i := 1) rfl rfl Tryz.runUnderlying115 Tryz.sizeOf9 rfl (by decide) rfl ?_
        refine KO.ldE0 (i := 1) (sz := 1) (cf := strC) (e := wb) rfl rfl Tryz.isAgg9 (by with_reducible (repeat (first | exact Pick.head | apply Pick.tail))) (fun _ => rfl) rfl (by exact rfl) (by exact rfl) rfl ?_
        refine KO.ce (cp := []) rfl rfl rfl Tryz.call136 rfl (atoi_e w _ wb (hwz wb (by simp)) hM) ?_; rintro v' L' ⟨hR, rfl⟩; unfold atoiR at hR; rw [hn] at hR; obtain ⟨xx, TT, yy, rfl⟩ := hR
        refine KO.mv rfl rfl ?_
        refine KO.extrL rfl (by exact rfl) rfl ?_
        refine KO.extrL rfl (by exact rfl) rfl ?_
        refine KO.as rfl rfl ?_
        refine KO.as rfl rfl ?_
        refine KO.nil ?_
        repeat (first | (with_reducible refine KR.seq ?_) | (with_reducible refine KQ.nextR ?_))
        refine KR.reg (by kernel_rfl) (fun a w h => by exact hno a w h) ?_
        refine KO.mv rfl rfl ?_
        refine KO.neIf rfl (by kernel_rfl) rfl ?_
        refine KO.nil ?_
        repeat ((with_reducible refine KQ.nextR ?_))
        refine KR.condT rfl rfl ?_
        repeat ((with_reducible refine KR.seq ?_))
        refine KR.reg (by kernel_rfl) (fun a w h => by exact hno a w h) ?_
        refine KO.mki rfl (by kernel_rfl) rfl ?_
        refine KO.sto0 rfl rfl rfl (by exact rfl) (by exact Tryz.sizeOf49) (by exact rfl) (by with_reducible (repeat (first | exact Pick.head | apply Pick.tail))) (by exact rfl) ?_
        refine KO.sto0 rfl rfl rfl (by exact rfl) (by exact Tryz.sizeOf31) (by exact rfl) (by with_reducible (repeat (first | exact Pick.head | apply Pick.tail))) (by exact rfl) ?_
        refine KO.nil ?_
        repeat (first | (with_reducible refine KQ.nextR ?_) | (with_reducible refine KQ.then_ret ?_) | (with_reducible refine KQ.blk_ret ?_) | (with_reducible refine KR.ret ?_))
        refine KQ.conv (fun w hw => hw.all (M := rdP b4 b3 b2 v (errV 70 3) xs ++ N) (by repeat (first | exact PAll.refl | refine PAll.cons (by repeat (first | exact Pick.head | apply Pick.tail)) ?_ | apply PAll.drop))) ?_
        refine hret _ _ ⟨⟨_, _, rfl⟩, parseL_none (p := q) ?_ (List.mem_of_getElem? hq)⟩
        unfold parse1; rw [hws]; simp only []; rw [hn]
        all_goals (cases numO wa <;> cases numO wb <;> cases numO we <;> rfl)
      | some vv =>
        have hvx : vv = y := by rw [hy, hn]; rfl
        refine KR.reg (by kernel_rfl) (fun a w h => by exact hno a w h) ?_
        refine KO.mv rfl rfl ?_
        refine KO.mv rfl rfl ?_
        refine KO.idx0 (i := 1) rfl rfl Tryz.runUnderlying115 Tryz.sizeOf9 rfl (by decide) rfl ?_
        refine KO.ldE0 (i := 1) (sz := 1) (cf := strC) (e := wb) rfl rfl Tryz.isAgg9 (by with_reducible (repeat (first | exact Pick.head | apply Pick.tail))) (fun _ => rfl) rfl (by exact rfl) (by exact rfl) rfl ?_
        refine KO.ce (cp := []) rfl rfl rfl Tryz.call136 rfl (atoi_e w _ wb (hwz wb (by simp)) hM) ?_; rintro v' L' ⟨hR, rfl⟩; unfold atoiR at hR; rw [hn] at hR; subst hR
        refine KO.mv rfl rfl ?_
        refine KO.extrL rfl (by exact rfl) rfl ?_
        refine KO.extrL rfl (by exact rfl) rfl ?_
        refine KO.as rfl rfl ?_
        refine KO.as rfl rfl ?_
        refine KO.nil ?_
        repeat (first | (with_reducible refine KR.seq ?_) | (with_reducible refine KQ.nextR ?_))
        refine KR.reg (by kernel_rfl) (fun a w h => by exact hno a w h) ?_
        refine KO.mv rfl rfl ?_
        refine KO.neI0 rfl (by kernel_rfl) rfl ?_
        refine KO.nil ?_
        repeat ((with_reducible refine KQ.nextR ?_))
        refine KR.condF rfl rfl ?_
        repeat (first | (with_reducible refine KQ.nextR ?_) | (with_reducible refine KR.skip ?_))
        refine KR.reg (by kernel_rfl) (fun a w h => by exact hno a w h) ?_
        refine KO.mv rfl rfl ?_
        refine KO.mv rfl rfl ?_
        refine KO.idxA (i := 1) rfl rfl Tryz.runUnderlying333 Tryz.sizeOf3 rfl (by decide) rfl ?_
        refine KO.stAt (i := 1) rfl rfl rfl (by exact rfl) (by exact Tryz.sizeOf3) rfl (by with_reducible (repeat (exact Pick.head))) (by rfl) (by simp [arr5]) ?_
        refine KO.nil ?_
        repeat (first | (with_reducible refine KQ.nextR ?_) | (with_reducible refine KQ.blk_normal ?_))
        refine KR.reg (by kernel_rfl) (fun a w h => by exact hno a w h) ?_
        refine KO.add rfl rfl rfl (by omega) rfl ?_
        refine KO.mv rfl rfl ?_
        refine KO.nil ?_
        subst hvx
        refine KQ.round 2 ⟨by omega, fun h => ?_, fun h => ?_, fun h => ?_⟩ (by decide) ⟨rfl, rfl, rfl, rfl, rfl, rfl, rfl, rfl, rfl, trivial⟩ (fun w hw => hw.all (by repeat (exact PAll.refl)))
        all_goals first | omega | rfl | exact hp1 (by omega)
    · -- round 2
      repeat ((with_reducible refine KR.seq ?_))
      refine KR.reg (by kernel_rfl) (fun a w h => by exact hno a w h) ?_
      refine KO.lss rfl rfl rfl ?_
      refine KO.nil ?_
      repeat (first | (with_reducible refine KR.seq ?_) | (with_reducible refine KQ.nextR ?_))
      refine KR.condT rfl rfl ?_
      repeat (first | (with_reducible refine KR.seq ?_) | (with_reducible refine KQ.nextR ?_) | (with_reducible refine KR.skip ?_) | (with_reducible refine KR.block ?_))
      refine KR.reg (by kernel_rfl) (fun a w h => by exact hno a w h) ?_
      refine KO.idxAg (cs := [.int .i64 0, .int .i64 1, .int .i64 4]) (i := 2) rfl rfl Tryz.underlying334 Tryz.isAgg3 Tryz.sizeOf3 rfl (by decide) rfl rfl ?_
      refine KO.as rfl rfl ?_
      refine KO.nil ?_
      repeat (first | (with_reducible refine KR.seq ?_) | (with_reducible refine KQ.nextR ?_))
      cases hn : numO we with
      | none =>
        refine KR.reg (by kernel_rfl) (fun a w h => by exact hno a w h) ?_
        refine KO.mv rfl rfl ?_
        refine KO.mv rfl rfl ?_
        refine KO.idx0 (i := 4) rfl rfl Tryz.runUnderlying115 Tryz.sizeOf9 rfl (by decide) rfl ?_
        refine KO.ldE0 (i := 4) (sz := 1) (cf := strC) (e := we) rfl rfl Tryz.isAgg9 (by with_reducible (repeat (first | exact Pick.head | apply Pick.tail))) (fun _ => rfl) rfl (by exact rfl) (by exact rfl) rfl ?_
        refine KO.ce (cp := []) rfl rfl rfl Tryz.call136 rfl (atoi_e w _ we (hwz we (by simp)) hM) ?_; rintro v' L' ⟨hR, rfl⟩; unfold atoiR at hR; rw [hn] at hR; obtain ⟨xx, TT, yy, rfl⟩ := hR
        refine KO.mv rfl rfl ?_
        refine KO.extrL rfl (by exact rfl) rfl ?_
        refine KO.extrL rfl (by exact rfl) rfl ?_
        refine KO.as rfl rfl ?_
        refine KO.as rfl rfl ?_
        refine KO.nil ?_
        repeat (first | (with_reducible refine KR.seq ?_) | (with_reducible refine KQ.nextR ?_))
        refine KR.reg (by kernel_rfl) (fun a w h => by exact hno a w h) ?_
        refine KO.mv rfl rfl ?_
        refine KO.neIf rfl (by kernel_rfl) rfl ?_
        refine KO.nil ?_
        repeat ((with_reducible refine KQ.nextR ?_))
        refine KR.condT rfl rfl ?_
        repeat ((with_reducible refine KR.seq ?_))
        refine KR.reg (by kernel_rfl) (fun a w h => by exact hno a w h) ?_
        refine KO.mki rfl (by kernel_rfl) rfl ?_
        refine KO.sto0 rfl rfl rfl (by exact rfl) (by exact Tryz.sizeOf49) (by exact rfl) (by with_reducible (repeat (first | exact Pick.head | apply Pick.tail))) (by exact rfl) ?_
        refine KO.sto0 rfl rfl rfl (by exact rfl) (by exact Tryz.sizeOf31) (by exact rfl) (by with_reducible (repeat (first | exact Pick.head | apply Pick.tail))) (by exact rfl) ?_
        refine KO.nil ?_
        repeat (first | (with_reducible refine KQ.nextR ?_) | (with_reducible refine KQ.then_ret ?_) | (with_reducible refine KQ.blk_ret ?_) | (with_reducible refine KR.ret ?_))
        refine KQ.conv (fun w hw => hw.all (M := rdP b4 b3 b2 v (errV 70 3) xs ++ N) (by repeat (first | exact PAll.refl | refine PAll.cons (by repeat (first | exact Pick.head | apply Pick.tail)) ?_ | apply PAll.drop))) ?_
        refine hret _ _ ⟨⟨_, _, rfl⟩, parseL_none (p := q) ?_ (List.mem_of_getElem? hq)⟩
        unfold parse1; rw [hws]; simp only []; rw [hn]
        all_goals (cases numO wa <;> cases numO wb <;> cases numO we <;> rfl)
      | some vv =>
        have hvx : vv = z := by rw [hz, hn]; rfl
        refine KR.reg (by kernel_rfl) (fun a w h => by exact hno a w h) ?_
        refine KO.mv rfl rfl ?_
        refine KO.mv rfl rfl ?_
        refine KO.idx0 (i := 4) rfl rfl Tryz.runUnderlying115 Tryz.sizeOf9 rfl (by decide) rfl ?_
        refine KO.ldE0 (i := 4) (sz := 1) (cf := strC) (e := we) rfl rfl Tryz.isAgg9 (by with_reducible (repeat (first | exact Pick.head | apply Pick.tail))) (fun _ => rfl) rfl (by exact rfl) (by exact rfl) rfl ?_
        refine KO.ce (cp := []) rfl rfl rfl Tryz.call136 rfl (atoi_e w _ we (hwz we (by simp)) hM) ?_; rintro v' L' ⟨hR, rfl⟩; unfold atoiR at hR; rw [hn] at hR; subst hR
        refine KO.mv rfl rfl ?_
        refine KO.extrL rfl (by exact rfl) rfl ?_
        refine KO.extrL rfl (by exact rfl) rfl ?_
        refine KO.as rfl rfl ?_
        refine KO.as rfl rfl ?_
        refine KO.nil ?_
        repeat (first | (with_reducible refine KR.seq ?_) | (with_reducible refine KQ.nextR ?_))
        refine KR.reg (by kernel_rfl) (fun a w h => by exact hno a w h) ?_
        refine KO.mv rfl rfl ?_
        refine KO.neI0 rfl (by kernel_rfl) rfl ?_
        refine KO.nil ?_
        repeat ((with_reducible refine KQ.nextR ?_))
        refine KR.condF rfl rfl ?_
        repeat (first | (with_reducible refine KQ.nextR ?_) | (with_reducible refine KR.skip ?_))
        refine KR.reg (by kernel_rfl) (fun a w h => by exact hno a w h) ?_
        refine KO.mv rfl rfl ?_
        refine KO.mv rfl rfl ?_
        refine KO.idxA (i := 4) rfl rfl Tryz.runUnderlying333 Tryz.sizeOf3 rfl (by decide) rfl ?_
        refine KO.stAt (i := 4) rfl rfl rfl (by exact rfl) (by exact Tryz.sizeOf3) rfl (by with_reducible (repeat (exact Pick.head))) (by rfl) (by simp [arr5]) ?_
        refine KO.nil ?_
        repeat (first | (with_reducible refine KQ.nextR ?_) | (with_reducible refine KQ.blk_normal ?_))
        refine KR.reg (by kernel_rfl) (fun a w h => by exact hno a w h) ?_
        refine KO.add rfl rfl rfl (by omega) rfl ?_
        refine KO.mv rfl rfl ?_
        refine KO.nil ?_
        subst hvx
        refine KQ.round 3 ⟨by omega, fun h => ?_, fun h => ?_, fun h => ?_⟩ (by decide) ⟨rfl, rfl, rfl, rfl, rfl, rfl, rfl, rfl, rfl, trivial⟩ (fun w hw => hw.all (by repeat (exact PAll.refl)))
        all_goals first | rfl | exact hp1 (by omega) | exact hp2 (by omega)
    · repeat ((with_reducible refine KR.seq ?_))
      refine KR.reg (by kernel_rfl) (fun a w h => by exact hno a w h) ?_
      refine KO.lss rfl rfl rfl ?_
      refine KO.nil ?_
      repeat (first | (with_reducible refine KR.seq ?_) | (with_reducible refine KQ.nextR ?_))
      refine KR.condF rfl rfl ?_
      repeat (first | (with_reducible refine KQ.nextR ?_) | (with_reducible refine KQ.then_exit ?_) | (with_reducible refine KQ.blk_exit ?_) | (with_reducible refine KR.exit ?_))
      refine KR.draw [.read, .pure, .read, .pure, .read, .pure, .pure, .read, .pure, .pure, .read, .pure, .read, .pure, .keep, .write, .write] [0, 1, 2, 3, 4, 5, 6, 7, 8, 9, 10, 11, 12, 13, 14, 15, 16] (by kernel_rfl) (by kernel_rfl) (by kernel_rfl) (fun a w h => by exact hno a w h) ?_
      refine KO.ld rfl rfl Tryz.isAgg49 (by with_reducible (repeat (first | exact Pick.head | apply Pick.tail))) (by exact rfl) rfl ?_
      refine KO.idxA (i := 0) rfl rfl Tryz.runUnderlying333 Tryz.sizeOf3 rfl (by decide) rfl ?_
      refine KO.ld rfl rfl Tryz.isAgg3 (by with_reducible (repeat (exact Pick.head))) (by exact rfl) rfl ?_
      refine KO.idxA (i := 1) rfl rfl Tryz.runUnderlying333 Tryz.sizeOf3 rfl (by decide) rfl ?_
      refine KO.ld rfl rfl Tryz.isAgg3 (by with_reducible (repeat (exact Pick.head))) (by exact rfl) rfl ?_
      refine KO.mv rfl rfl ?_
      refine KO.idx0 (i := 2) rfl rfl Tryz.runUnderlying115 Tryz.sizeOf9 rfl (by decide) rfl ?_
      refine KO.ldE0 (i := 2) (sz := 1) (cf := strC) (e := wc) rfl rfl Tryz.isAgg9 (by with_reducible (repeat (first | exact Pick.head | apply Pick.tail))) (fun _ => rfl) rfl (by exact rfl) (by exact rfl) rfl ?_
      refine KO.mv rfl rfl ?_
      refine KO.idx0 (i := 3) rfl rfl Tryz.runUnderlying115 Tryz.sizeOf9 rfl (by decide) rfl ?_
      refine KO.ldE0 (i := 3) (sz := 1) (cf := strC) (e := wd) rfl rfl Tryz.isAgg9 (by with_reducible (repeat (first | exact Pick.head | apply Pick.tail))) (fun _ => rfl) rfl (by exact rfl) (by exact rfl) rfl ?_
      refine KO.idxA (i := 4) rfl rfl Tryz.runUnderlying333 Tryz.sizeOf3 rfl (by decide) rfl ?_
      refine KO.ld rfl rfl Tryz.isAgg3 (by with_reducible (repeat (exact Pick.head))) (by exact rfl) rfl ?_
      refine KO.bldN (pl := [(0, 1), (1, 1), (2, 1), (3, 1), (4, 1)]) rfl Tryz.zeroValue44 Tryz.runUnderlying44 (by intro w; simp [Tryz.sizeOf3, Tryz.sizeOf9]) (by exact rfl) rfl ?_
      refine KO.bs1 (z := (Value.agg #[.int .i64 0, .int .i64 0, .string ⟨#[]⟩, .string ⟨#[]⟩, .int .i64 0])) (sz := 5) (by' := 56) rfl rfl Tryz.underlying49 (by kernel_rfl) (by exact rfl) (by exact rfl) (by decide) (by decide) rfl ?_; intro b58
      refine KO.app (z := Value.agg #[.int .i64 0, .int .i64 0, .string ⟨#[]⟩, .string ⟨#[]⟩, .int .i64 0]) (sz := 5) (by' := 56) rfl rfl rfl (by with_reducible (repeat (first | exact Pick.head | apply Pick.tail))) (by with_reducible (repeat (exact Pick.head))) Tryz.underlying49 msr_info rfl (⟨x, y, wc, wd, z⟩ : Ms) (by exact rfl) (by exact rfl) (by exact rfl) (by omega) (by decide) rfl ?_; intro v'; refine KO.fact (fun w hw => SL_form hw) ?_; rintro ⟨sa, cp, rfl, _⟩
      refine KO.sto0 rfl rfl rfl (by exact rfl) (by exact Tryz.sizeOf49) (by exact rfl) (by with_reducible (repeat (first | exact Pick.head | apply Pick.tail))) (by exact rfl) ?_
      refine KO.nil ?_
      repeat ((with_reducible refine KQ.blk_normal ?_))
      refine KQ.conv (fun w hw => hw.all (M := rdP b4 b3 b2 (.slice sa (xs ++ [(⟨x, y, wc, wd, z⟩ : Ms)]).length cp) .nilIface (xs ++ [(⟨x, y, wc, wd, z⟩ : Ms)]) ++ N) (by repeat (first | exact PAll.refl | refine PAll.cons (by repeat (first | exact Pick.head | apply Pick.tail)) ?_ | apply PAll.drop))) ?_
      have hpm : parse1 q = some ⟨x, y, wc, wd, z⟩ := by
        unfold parse1; rw [hws]; simp only []; rw [hp1 (by omega), hp2 (by omega), hp3 (by omega)]
      refine hgo _ _ ⟨_, _, rfl, ?_⟩
      rw [take_succ_some hq, parseL_snoc hxs, hpm]; rfl
  · rintro b M ⟨v, xs, rfl, hxs⟩
    rw [List.take_length] at hxs
    have hxl : xs.length ≤ 100000 := by have := parseL_len hxs; omega
    have hms : ∀ m ∈ xs, m.body.size ≤ maxLen ∧ m.queue.size ≤ maxLen := fun m hm => by
      have := parseL_size (B := 90000) hxs (fun p hp => by have := pcs_size hp; omega) m hm
      unfold maxLen; omega
    have hmr : mrd s = if badI xs = none ∧ writeS xs = s then some xs else none := by unfold mrd; rw [if_neg h0, hxs]
    rw [hmr]
    simp only [rdP]
    repeat (first | (with_reducible refine K.seq ?_) | (with_reducible refine KQ.next ?_) | (with_reducible refine KQ.blk_normal ?_))
    refine K.fact (fun w hw => SL_form (hw.pick (.tail (.tail (.tail (.tail .head)))))) ?_
    rintro ⟨sa, cp, rfl, _⟩
    cases hb : badI xs with
    | some kb =>
      rw [if_neg (by simp)]
      refine K.reg ?_
      refine KO.ld rfl rfl Tryz.isAgg49 (by with_reducible (repeat (first | exact Pick.head | apply Pick.tail))) (by exact rfl) rfl ?_
      refine KO.ce (cp := []) rfl rfl rfl Tryz.call60 rfl (mwrite_e w _ _ xs (fun w' hw' => RdA.ofSL (fun _ => rfl) (by with_reducible (repeat (first | exact Pick.head | apply Pick.tail))) hw') hT hms hxl) ?_; rintro v' L' hR; unfold MwR at hR; rw [hb] at hR; obtain ⟨be, rfl, rfl⟩ := hR; unfold atV
      refine KO.mv rfl rfl ?_
      refine KO.extrL rfl (by exact rfl) rfl ?_
      refine KO.extrL rfl (by exact rfl) rfl ?_
      refine KO.as rfl rfl ?_
      refine KO.as rfl rfl ?_
      refine KO.nil ?_
      repeat (first | (with_reducible refine K.seq ?_) | (with_reducible refine KQ.next ?_))
      refine K.reg ?_
      refine KO.mv rfl rfl ?_
      refine KO.neIf rfl (by kernel_rfl) rfl ?_
      refine KO.mv rfl rfl ?_
      (refine KO.no rfl rfl ?_ rfl ?_; (focus rfl))
      (refine KO.no rfl rfl ?_ rfl ?_; (focus rfl))
      (refine KO.no rfl rfl ?_ rfl ?_; (focus rfl))
      (refine KO.pickT rfl ?_ rfl rfl ?_; (focus rfl))
      refine KO.nil ?_
      repeat ((with_reducible refine KQ.next ?_))
      refine K.condT rfl rfl ?_
      repeat ((with_reducible refine K.seq ?_))
      refine K.reg ?_
      refine KO.mki rfl (by kernel_rfl) rfl ?_
      refine KO.sto0 rfl rfl rfl (by exact rfl) (by exact Tryz.sizeOf49) (by exact rfl) (by with_reducible (repeat (first | exact Pick.head | apply Pick.tail))) (by exact rfl) ?_
      refine KO.sto0 rfl rfl rfl (by exact rfl) (by exact Tryz.sizeOf31) (by exact rfl) (by with_reducible (repeat (first | exact Pick.head | apply Pick.tail))) (by exact rfl) ?_
      refine KO.nil ?_
      repeat (first | (with_reducible refine KQ.next ?_) | (with_reducible refine KQ.then_ret ?_) | (with_reducible refine K.ret ?_))
      refine KQ.retM2C1 (by with_reducible (repeat (first | exact Pick.head | apply Pick.tail))) rfl rfl rfl Tryz.isAgg49 Tryz.isAgg31 (by with_reducible (repeat (first | exact Pick.head | apply Pick.tail))) (by with_reducible (repeat (exact Pick.head))) (fun w' hs => ⟨_, _, rfl, ⟨(by exact rfl), rfl⟩, hw.below_step hs.below, hs.below⟩)
    | none =>
      by_cases hws : writeS xs = s
      · rw [if_pos ⟨rfl, hws⟩]
        refine K.reg ?_
        refine KO.ld rfl rfl Tryz.isAgg49 (by with_reducible (repeat (first | exact Pick.head | apply Pick.tail))) (by exact rfl) rfl ?_
        refine KO.ce (cp := []) rfl rfl rfl Tryz.call60 rfl (mwrite_e w _ _ xs (fun w' hw' => RdA.ofSL (fun _ => rfl) (by with_reducible (repeat (first | exact Pick.head | apply Pick.tail))) hw') hT hms hxl) ?_; rintro v' L' hR; unfold MwR at hR; rw [hb] at hR; obtain ⟨rfl, rfl⟩ := hR
        refine KO.mv rfl rfl ?_
        refine KO.extrL rfl (by exact rfl) rfl ?_
        refine KO.extrL rfl (by exact rfl) rfl ?_
        refine KO.as rfl rfl ?_
        refine KO.as rfl rfl ?_
        refine KO.nil ?_
        repeat (first | (with_reducible refine K.seq ?_) | (with_reducible refine KQ.next ?_))
        refine K.reg ?_
        refine KO.mv rfl rfl ?_
        refine KO.neI0 rfl (by kernel_rfl) rfl ?_
        refine KO.mv rfl rfl ?_
        (refine KO.on rfl rfl ?_ ?_; (focus rfl); (refine KO.mv rfl rfl ?_))
        (refine KO.on rfl rfl ?_ ?_; (focus rfl); (refine KO.mv rfl rfl ?_))
        (refine KO.on rfl rfl ?_ ?_; (focus rfl); (refine KO.neS rfl rfl rfl ?_))
        (refine KO.pickF rfl ?_ rfl rfl ?_; (focus rfl))
        refine KO.nil ?_
        repeat ((with_reducible refine KQ.next ?_))
        refine K.condF rfl (by simp [hws]) ?_
        repeat (first | (with_reducible refine K.seq ?_) | (with_reducible refine KQ.next ?_) | (with_reducible refine K.skip ?_))
        refine K.reg ?_
        refine KO.ld rfl rfl Tryz.isAgg49 (by with_reducible (repeat (first | exact Pick.head | apply Pick.tail))) (by exact rfl) rfl ?_
        refine KO.sto0 rfl rfl rfl (by exact rfl) (by exact Tryz.sizeOf49) (by exact rfl) (by with_reducible (repeat (first | exact Pick.head | apply Pick.tail))) (by exact rfl) ?_
        refine KO.sto0 rfl rfl rfl (by exact rfl) (by exact Tryz.sizeOf31) (by exact rfl) (by with_reducible (repeat (first | exact Pick.head | apply Pick.tail))) (by exact rfl) ?_
        refine KO.nil ?_
        repeat (first | (with_reducible refine KQ.next ?_) | (with_reducible refine K.ret ?_))
        refine KQ.retM2C1 (by with_reducible (repeat (first | exact Pick.head | apply Pick.tail))) rfl rfl rfl Tryz.isAgg49 Tryz.isAgg31 (by with_reducible (repeat (first | exact Pick.head | apply Pick.tail))) (by with_reducible (repeat (exact Pick.head))) (fun w' hs => ⟨_, _, rfl, ⟨_, rfl, rfl⟩, ?_, hs.below⟩)
        exact hw.stack (M := [SL 44 5 msC (.slice sa xs.length cp) xs]) (hs.all (by with_reducible repeat (first | exact PAll.nil | refine PAll.cons (by with_reducible repeat (first | exact Pick.head | apply Pick.tail)) ?_)))
      · rw [if_neg (fun h => hws h.2)]
        refine K.reg ?_
        refine KO.ld rfl rfl Tryz.isAgg49 (by with_reducible (repeat (first | exact Pick.head | apply Pick.tail))) (by exact rfl) rfl ?_
        refine KO.ce (cp := []) rfl rfl rfl Tryz.call60 rfl (mwrite_e w _ _ xs (fun w' hw' => RdA.ofSL (fun _ => rfl) (by with_reducible (repeat (first | exact Pick.head | apply Pick.tail))) hw') hT hms hxl) ?_; rintro v' L' hR; unfold MwR at hR; rw [hb] at hR; obtain ⟨rfl, rfl⟩ := hR
        refine KO.mv rfl rfl ?_
        refine KO.extrL rfl (by exact rfl) rfl ?_
        refine KO.extrL rfl (by exact rfl) rfl ?_
        refine KO.as rfl rfl ?_
        refine KO.as rfl rfl ?_
        refine KO.nil ?_
        repeat (first | (with_reducible refine K.seq ?_) | (with_reducible refine KQ.next ?_))
        refine K.reg ?_
        refine KO.mv rfl rfl ?_
        refine KO.neI0 rfl (by kernel_rfl) rfl ?_
        refine KO.mv rfl rfl ?_
        (refine KO.on rfl rfl ?_ ?_; (focus rfl); (refine KO.mv rfl rfl ?_))
        (refine KO.on rfl rfl ?_ ?_; (focus rfl); (refine KO.mv rfl rfl ?_))
        (refine KO.on rfl rfl ?_ ?_; (focus rfl); (refine KO.neS rfl rfl rfl ?_))
        (refine KO.pickF rfl ?_ rfl rfl ?_; (focus rfl))
        refine KO.nil ?_
        repeat ((with_reducible refine KQ.next ?_))
        refine K.condT rfl (by simp [hws]) ?_
        repeat ((with_reducible refine K.seq ?_))
        refine K.reg ?_
        refine KO.mki rfl (by kernel_rfl) rfl ?_
        refine KO.sto0 rfl rfl rfl (by exact rfl) (by exact Tryz.sizeOf49) (by exact rfl) (by with_reducible (repeat (first | exact Pick.head | apply Pick.tail))) (by exact rfl) ?_
        refine KO.sto0 rfl rfl rfl (by exact rfl) (by exact Tryz.sizeOf31) (by exact rfl) (by with_reducible (repeat (first | exact Pick.head | apply Pick.tail))) (by exact rfl) ?_
        refine KO.nil ?_
        repeat (first | (with_reducible refine KQ.next ?_) | (with_reducible refine KQ.then_ret ?_) | (with_reducible refine K.ret ?_))
        refine KQ.retM2C1 (by with_reducible (repeat (first | exact Pick.head | apply Pick.tail))) rfl rfl rfl Tryz.isAgg49 Tryz.isAgg31 (by with_reducible (repeat (first | exact Pick.head | apply Pick.tail))) (by with_reducible (repeat (exact Pick.head))) (fun w' hs => ⟨_, _, rfl, ⟨(by exact rfl), rfl⟩, hw.below_step hs.below, hs.below⟩)
  · rintro b M ⟨⟨v, xs, rfl⟩, hx⟩
    have hmr : mrd s = none := by unfold mrd; rw [if_neg h0, hx]
    rw [hmr]
    simp only [rdP]
    repeat (first | (with_reducible refine KQ.then_ret ?_) | (with_reducible refine KQ.blk_ret ?_))
    refine KQ.retM2C1 (by with_reducible (repeat (exact Pick.head))) rfl rfl rfl Tryz.isAgg49 Tryz.isAgg31 (by with_reducible (repeat (first | exact Pick.head | apply Pick.tail))) (by with_reducible (repeat (first | exact Pick.head | apply Pick.tail))) (fun w' hs => ⟨_, _, rfl, ⟨(by exact rfl), rfl⟩, hw.below_step hs.below, hs.below⟩)
end Go.Proofs.YtjhogocabcdjbabGreatDoor
/- maps that the call has made, keyed by texts or by numbers -/
namespace WB
open Go Go.RowKit Go.ChangeMaps Go.MapKept
theorem List.map_modify_same (s v : Value) : ∀ (l : List MapEntry) (j : Nat), (l.modify j fun e => { e with key := s, val := v }).map (·.born) = l.map (·.born)
  | [], _ => by simp
  | _ :: _, 0 => by simp
  | _ :: l, j + 1 => by simp [List.map_modify_same s v l j]
structure KeyLaw {κ : Type} (d : TypeDesc) (kv : κ → Value) : Prop where
  isKey : ∀ k, IsKey d (kv k)
  inj : ∀ a b, kv a = kv b → a = b
theorem strKey : KeyLaw (κ := ByteArray) .string Value.string := ⟨fun _ => ⟨⟩, fun _ _ h => by cases h; rfl⟩
theorem intKey : KeyLaw (κ := Int) (.int .i64) (Value.int .i64) := ⟨fun _ => rfl, fun _ _ h => by cases h; rfl⟩
section
variable {κ : Type} [DecidableEq κ]
def getK {β : Type} (m : List (κ × β)) (k : κ) : Option β := match m with
  | [] => none
  | x :: r => if x.1 = k then some x.2 else getK r k
def putK {β : Type} (m : List (κ × β)) (k : κ) (v : β) : List (κ × β) := match m with
  | [] => [(k, v)]
  | x :: r => if x.1 = k then (x.1, v) :: r else x :: putK r k v
def delK {β : Type} (m : List (κ × β)) (k : κ) : List (κ × β) := match m with
  | [] => []
  | x :: r => if x.1 = k then r else x :: delK r k
variable {d : TypeDesc} {kv : κ → Value}
def esK (kv : κ → Value) (es : List MapEntry) (m : List (κ × Value)) : Prop := es.map (fun e => (e.key, e.val)) = m.map (fun x => (kv x.1, x.2))
/-- .. and its stamps are apart, and old -/
structure esB (kv : κ → Value) (es : List MapEntry) (clk : Nat) (m : List (κ × Value)) : Prop where
  ents : esK kv es m
  old : ∀ e ∈ es, e.born < clk
  nodup : (es.map (·.born)).Nodup
def omapK (kv : κ → Value) (b : Nat) (m : List (κ × Value)) : HP := ex fun es : Array MapEntry => ex fun clk : Nat => sep (pur (esB kv es.toList clk m)) (blk b (.map es clk))
theorem findK (K : KeyLaw d kv) (s : κ) : ∀ (es : List MapEntry) (m : List (κ × Value)) (i : Nat), esK kv es m →
    (getK m s = none ∧ Instr.findNow d (kv s) es i = some none ∧ (∀ v clk, esK kv (es ++ [{ key := kv s, val := v, born := clk }]) (putK m s v)) ∧ delK m s = m) ∨
    ∃ j e, getK m s = some e.val ∧ es[j]? = some e ∧ e.key = kv s ∧ Instr.findNow d (kv s) es i = some (some (i + j, e.val)) ∧
      (∀ v, esK kv (es.modify j fun e => { e with key := kv s, val := v }) (putK m s v)) ∧ esK kv (es.eraseIdx j) (delK m s)
  | [], [], i, _ => Or.inl ⟨rfl, rfl, fun v clk => rfl, rfl⟩
  | [], _ :: _, _, h => by simp [esK] at h
  | _ :: _, [], _, h => by simp [esK] at h
  | e :: es, x :: m, i, h => by
    unfold esK at h
    simp only [List.map_cons, List.cons.injEq, Prod.mk.injEq] at h
    obtain ⟨⟨hk, hv⟩, hr⟩ := h
    obtain ⟨r, hr1, hr2⟩ := sameNow_of_keys (K.isKey s) (show IsKey d e.key by rw [hk]; exact K.isKey x.1)
    by_cases hx : x.1 = s
    · have hrt : r = true := hr2.2 (by rw [hk, hx])
      refine Or.inr ⟨0, e, by simp [getK, hx, hv], rfl, by rw [hk, hx], ?_, fun v => ?_, ?_⟩
      · unfold Instr.findNow
        rw [hr1, hrt]; rfl
      · unfold esK
        simp [putK, hx]
        exact hr
      · unfold esK
        simp [delK, hx]
        exact hr
    · have hrf : r = false := by
        cases r with
        | false => rfl
        | true => exact absurd (K.inj _ _ ((hr2.1 rfl).trans hk)) (fun e => hx e.symm)
      have hf : Instr.findNow d (kv s) (e :: es) i = Instr.findNow d (kv s) es (i + 1) := by
        conv => lhs; unfold Instr.findNow
        rw [hr1, hrf]
      rcases findK K s es m (i + 1) hr with ⟨h1, h2, h3, h4⟩ | ⟨j, e0, h1, h2, h3, h4, h5, h6⟩
      · refine Or.inl ⟨by simp [getK, hx, h1], by rw [hf, h2], fun v clk => ?_, by simp [delK, hx, h4]⟩
        have := h3 v clk
        unfold esK at this ⊢
        simp [putK, hx, hk, hv] at this ⊢
        exact this
      · refine Or.inr ⟨j + 1, e0, by simp [getK, hx, h1], by simpa using h2, h3, by rw [hf, h4]; simp; omega, fun v => ?_, ?_⟩
        · have := h5 v
          unfold esK at this ⊢
          simp [putK, hx, hk, hv] at this ⊢
          exact this
        · unfold esK at h6 ⊢
          simp [delK, hx, hk, hv] at h6 ⊢
          exact h6
variable {w0 w : World} {L : List HP} {P : Program} {b : Nat} {m : List (κ × Value)}
omit [DecidableEq κ] in
theorem omapK_make (h : St w0 L w) : St w0 (omapK kv w.heap.size [] :: L) (w.alloc (.map #[] 0)) :=
  St.exi #[] (St.exi 0 (St.join (St.puri (p := esB kv (#[] : Array MapEntry).toList 0 []) ⟨rfl, (fun e h => by cases h), .nil⟩ (h.alloc (.map #[] 0)))))
theorem omapK_look (K : KeyLaw d kv) (h : St w0 (omapK kv b m :: L) w) {w1 : World} (he : Ext w w1) {t k E : TypeId} (ht : P.underlying t = some (.map k E)) (hk : P.underlying k = some d) {z : Value} (hz : (zeroValue E).run P w1 = .ok z w1) (s : κ) (ok : Bool) :
    (Instr.lookup t (.map (some b)) (kv s) ok).run P w1 = .ok (if ok then .tuple #[(getK m s).getD z, .bool (getK m s).isSome] else (getK m s).getD z) w1 := by
  obtain ⟨es, h⟩ := h.exs
  obtain ⟨clk, h⟩ := h.exs
  obtain ⟨hr, h⟩ := h.split.purs
  have hlt := h.lt
  obtain ⟨_, hb⟩ := h.look
  have hb : w1.heap[b]? = some (.map es clk) := by rw [he.2 b hlt]; exact hb
  rcases findK K s _ m 0 hr.ents with ⟨h2, h3, _, _⟩ | ⟨j, e, h2, h3, h4, h5, _, _⟩
  · cases ok <;> simp [Instr.lookup, run_underlying ht, run_getObj_map hb, run_checkKey hk (K.isKey s), run_findKey hk h3, Result.andThen, h2, hz]
  · cases ok <;> simp [Instr.lookup, run_underlying ht, run_getObj_map hb, run_checkKey hk (K.isKey s), run_findKey hk h5, Result.andThen, h2]
theorem omapK_put (K : KeyLaw d kv) (h : St w0 (omapK kv b m :: L) w) {t k E : TypeId} (ht : P.underlying t = some (.map k E)) (hk : P.underlying k = some d) (s : κ) (v : Value) :
    ∃ w', (Instr.mapUpdate t (.map (some b)) (kv s) v).run P w = .ok () w' ∧ St w0 (omapK kv b (putK m s v) :: L) w' := by
  obtain ⟨es, h⟩ := h.exs
  obtain ⟨clk, h⟩ := h.exs
  obtain ⟨hr, h⟩ := h.split.purs
  obtain ⟨_, hb⟩ := h.look
  have up : ∀ (o : Obj), St w0 (blk b o :: L) { w with heap := w.heap.setIfInBounds b o } := fun o =>
    h.upd rfl rfl rfl (by simp) (by have := h.lt; simp [this]) (fun k hk => by simp [Array.getElem?_setIfInBounds, Ne.symm hk])
  rcases findK K s _ m 0 hr.ents with ⟨_, h3, h4, _⟩ | ⟨j, e, _, h3, h4, h5, h6, _⟩
  · refine ⟨_, ?_, St.exi (es.push { key := kv s, val := v, born := clk }) (St.exi (clk + 1) (St.join (St.puri (p := esB kv (es.push { key := kv s, val := v, born := clk }).toList (clk + 1) (putK m s v)) ?_ (up (.map (es.push { key := kv s, val := v, born := clk }) (clk + 1))))))⟩
    · simp [Instr.mapUpdate, run_underlying ht, run_getObj_map hb, run_checkKey hk (K.isKey s), run_findKey hk h3, run_setObj_map _ hb, Result.andThen]
    · refine ⟨by simpa using h4 v clk, fun e he => ?_, ?_⟩
      · rw [Array.toList_push] at he
        rcases List.mem_append.1 he with he | he
        · have := hr.old e he; omega
        · simp at he; subst he; exact Nat.lt_succ_self _
      · rw [Array.toList_push, List.map_append, List.map_cons, List.map_nil, List.nodup_append]
        refine ⟨hr.nodup, by simp, fun a ha b hb => ?_⟩
        obtain ⟨e, he, rfl⟩ := List.mem_map.1 ha
        simp at hb; subst hb
        have := hr.old e he; omega
  · have hj : es[j]? = some e := by simpa using h3
    refine ⟨_, ?_, St.exi (es.modify j fun e => { e with key := kv s, val := v }) (St.exi clk (St.join (St.puri (p := esB kv (es.modify j fun e => { e with key := kv s, val := v }).toList clk (putK m s v)) ?_ (up (.map (es.modify j fun e => { e with key := kv s, val := v }) clk)))))⟩
    · simp [Instr.mapUpdate, run_underlying ht, run_getObj_map hb, run_checkKey hk (K.isKey s), run_findKey hk h5, hj, h4, run_keyThatStays (K.isKey s), run_setObj_map _ hb, Result.andThen]
    · have hm : ((es.modify j fun e => { e with key := kv s, val := v }).toList.map (·.born)) = es.toList.map (·.born) := by
        rw [Array.toList_modify, List.map_modify_same]
      refine ⟨by simpa using h6 v, fun e he => ?_, by rw [hm]; exact hr.nodup⟩
      have hb : e.born ∈ es.toList.map (·.born) := by rw [← hm]; exact List.mem_map_of_mem he
      obtain ⟨e2, he2, hb2⟩ := List.mem_map.1 hb
      rw [← hb2]; exact hr.old e2 he2
omit [DecidableEq κ] in
theorem omapK_len (h : St w0 (omapK kv b m :: L) w) {w1 : World} (he : Ext w w1) {t k E ty : TypeId} (ht : P.underlying t = some (.map k E)) :
    (Builtin.len_ #[t] ty #[.map (some b)]).run P w1 = .ok (goInt m.length) w1 := by
  obtain ⟨es, h⟩ := h.exs
  obtain ⟨clk, h⟩ := h.exs
  obtain ⟨hr, h⟩ := h.split.purs
  have hlt := h.lt
  obtain ⟨_, hb⟩ := h.look
  have hb : w1.heap[b]? = some (.map es clk) := by rw [he.2 b hlt]; exact hb
  have hl : es.size = m.length := by have := congrArg List.length hr.ents; simpa using this
  simp [Builtin.len_, run_underlying ht, run_getObj_map hb, hl]
end
section
variable {κ : Type} [DecidableEq κ] {kd : TypeDesc} {kv : κ → Value}
variable {P : Program} {ops : Array Oper} {d : Bool} {Q : Exit → Act → World → Prop} {n : Nat} {D : List Deferred} {w0 : World} {G : Env} {L R : List HP} {l : List (Kd × Oper)} {k : Kd}
  {t : Nat} {ty T KT E : TypeId} {pos : String} {af : Array Edge} {x y u : Operand} {v z : Value} {b : Nat} {m : List (κ × Value)}
omit [DecidableEq κ] in
theorem KO.mkm (kv : κ → Value) (hk : (!d || (k == .keep || k == .write)) = true) (ht : Nat.blt t n = true) (h : ∀ bb, KO P ops d Q n D w0 ((t, .map (some bb)) :: G) (omapK kv bb [] :: L) l) :
    KO P ops d Q n D w0 G L ((k, ⟨some t, .makeMap T none, ty, pos, af, none⟩) :: l) :=
  KO.keepRun hk (F := fun bb => .map (some bb)) (N := fun bb => omapK kv bb [] :: L) (fun a w ha hw => ⟨w.heap.size, w.alloc (.map #[] 0), by simp [execOp, run_makeMap], Ext.alloc w _, omapK_make hw⟩) ht h
theorem KO.lkm (K : KeyLaw kd kv) (s : κ) (hk : (!d || k != .pure) = true) (hx : ev G x = some (.map (some b))) (hy : ev G y = some (kv s)) (hT : P.underlying T = some (.map KT E)) (hK : P.underlying KT = some kd) (hz : ∀ w, (zeroValue E).run P w = .ok z w) (hp : Pick L (omapK kv b m) R) (ht : Nat.blt t n = true)
    (h : KO P ops d Q n D w0 ((t, (getK m s).getD z) :: G) L l) : KO P ops d Q n D w0 G L ((k, ⟨some t, .lookup T x y false, ty, pos, af, none⟩) :: l) :=
  KO.rd hk (fun a w w' ha hw e => by
    have := omapK_look (P := P) K (hw.pick hp) e hT hK (hz w') s false
    simp [execOp, ha.eval hx, ha.eval hy, this]) ht h
theorem KO.lkmOk (K : KeyLaw kd kv) (s : κ) (hk : (!d || k != .pure) = true) (hx : ev G x = some (.map (some b))) (hy : ev G y = some (kv s)) (hT : P.underlying T = some (.map KT E)) (hK : P.underlying KT = some kd) (hz : ∀ w, (zeroValue E).run P w = .ok z w) (hp : Pick L (omapK kv b m) R) (ht : Nat.blt t n = true)
    (h : KO P ops d Q n D w0 ((t, .tuple #[(getK m s).getD z, .bool (getK m s).isSome]) :: G) L l) : KO P ops d Q n D w0 G L ((k, ⟨some t, .lookup T x y true, ty, pos, af, none⟩) :: l) :=
  KO.rd hk (fun a w w' ha hw e => by
    have := omapK_look (P := P) K (hw.pick hp) e hT hK (hz w') s true
    simp [execOp, ha.eval hx, ha.eval hy, this]) ht h
theorem KO.upm (K : KeyLaw kd kv) (s : κ) (hk : (!d || k == .write) = true) (hx : ev G x = some (.map (some b))) (hy : ev G y = some (kv s)) (hu : ev G u = some v) (hT : P.underlying T = some (.map KT E)) (hK : P.underlying KT = some kd) (hp : Pick L (omapK kv b m) R)
    (h : KO P ops d Q n D w0 G (omapK kv b (putK m s v) :: R) l) : KO P ops d Q n D w0 G L ((k, ⟨none, .mapUpdate T x y u, ty, pos, af, none⟩) :: l) :=
  KO.wrRun hk (fun a w ha hw => by
    obtain ⟨w', hr, hs⟩ := omapK_put (P := P) K (hw.pick hp) hT hK s v
    exact ⟨w', by simp [execOp, ha.eval hx, ha.eval hy, ha.eval hu, hr], hs⟩) h
omit [DecidableEq κ] in
theorem KO.lenM (hk : (!d || k != .pure) = true) (hx : ev G x = some (.map (some b))) (hT : P.underlying T = some (.map KT E)) (hp : Pick L (omapK kv b m) R) (ht : Nat.blt t n = true) (h : KO P ops d Q n D w0 ((t, .int .i64 (m.length : Nat)) :: G) L l) :
    KO P ops d Q n D w0 G L ((k, ⟨some t, .call ⟨.builtin .len, #[x], #[T]⟩, ty, pos, af, none⟩) :: l) :=
  KO.rd hk (fun a w w' ha hw e => by
    have := omapK_len (P := P) (ty := ty) (hw.pick hp) e hT
    simp [execOp, resolve, invoke, builtin, ha.eval hx, this, goInt]) ht h
end
end WB
/- queues, plain: what is seen of one beside another that has not what one unit did -/
namespace WB
/-- an item without its place in the line -/
def strip (e : It) : It := { e with line := 0 }
theorem strip_avail (e : It) : availB (strip e) = availB e := rfl
theorem map_filter_strip (p : It → Bool) (hp : ∀ e, p (strip e) = p e) (l : List It) : (l.filter p).map strip = (l.map strip).filter p := by
  rw [List.filter_map]; congr 1; exact List.filter_congr fun e _ => (hp e).symm
/-! what each does to the items without their places -/
def ins3 (t : It) (l : List It) : List It := l.filter (fun e => decide (t.m.pri ≤ e.m.pri)) ++ t :: l.filter (fun e => !decide (t.m.pri ≤ e.m.pri))
def get3 (v : Int) : List It → List It
  | [] => []
  | e :: l => if availB e = true then { e with got := v } :: l else e :: get3 v l
def del3 : List It → List It
  | [] => []
  | e :: l => if availB e = true then l else e :: del3 l
def ends3 (u : Int) (back : Bool) (l : List It) : List It := (l.filter fun e => !endB u back e).map (freeIt u)
def ml (e : It) : Ms × Int := (e.m, e.line)
def Ord (x y : It) : Prop := x.m.id ≠ y.m.id ∧ (y.m.pri < x.m.pri ∨ (x.m.pri = y.m.pri ∧ x.m.id < y.m.id))
theorem Ord.pri {x y : It} (h : Ord x y) : y.m.pri ≤ x.m.pri := by unfold Ord at h; omega
/-- a queue as the law has it -/
structure QIn (n : Int) (q : Qu) : Prop where
  ord : q.l.Pairwise Ord
  ids : ∀ e ∈ q.l, 0 ≤ e.m.id ∧ e.m.id < n
  pris : ∀ e ∈ q.l, 0 ≤ e.m.pri ∧ e.m.pri ≤ 9
  lines : ∀ e ∈ q.l, 0 ≤ e.line ∧ e.line < q.next
  len : q.l.length ≤ 20
  next : 0 ≤ q.next ∧ q.next ≤ n
theorem take_while_filter {p : It → Bool} {l : List It} (h : l.Pairwise fun x y => p y = true → p x = true) : l.takeWhile p = l.filter p ∧ l.dropWhile p = l.filter fun e => !p e := by
  induction l with
  | nil => exact ⟨rfl, rfl⟩
  | cons a l ih =>
    obtain ⟨h1, h2⟩ := List.pairwise_cons.1 h
    obtain ⟨i1, i2⟩ := ih h2
    by_cases ha : p a = true
    · simp [ha, i1, i2]
    · have hall : ∀ e ∈ l, p e = false := fun e he => by
        by_cases hp : p e = true
        · exact absurd (h1 e he hp) ha
        · simpa using hp
      have e1 : l.filter p = [] := List.filter_eq_nil_iff.2 fun e he => by simp [hall e he]
      have e2 : (l.filter fun e => !p e) = l := List.filter_eq_self.2 fun e he => by simp [hall e he]
      simp [ha, e1, e2]
theorem take_len_while {α : Type} (p : α → Bool) : ∀ l : List α, l.take (l.takeWhile p).length = l.takeWhile p ∧ l.drop (l.takeWhile p).length = l.dropWhile p
  | [] => ⟨rfl, rfl⟩
  | a :: l => by
    by_cases h : p a = true
    · simp [h, take_len_while p l]
    · simp [h]
section
variable {n : Int} {q : Qu} {m : Ms} {u : Int}
theorem QIn.cmp (h : QIn n q) (m : Ms) (u : Int) {e : It} (he : e ∈ q.l) : cmpIt e (qitem q m u) < 0 ↔ m.pri ≤ e.m.pri := by
  have := h.lines e he
  unfold cmpIt compI qitem
  dsimp only
  split <;> omega
theorem QIn.ok (h : QIn n q) (hn : n < 1000000) : QuOk q := by
  refine ⟨by have := h.len; omega, fun e he => ?_, ⟨h.next.1, by have := h.next; omega⟩, fun m u i j a b hij ha hb hlt => ?_⟩
  · have h1 := h.pris e he; have h2 := h.lines e he; have h3 := h.next
    unfold smallIt small; omega
  · have ma := List.mem_of_getElem? ha
    have mb := List.mem_of_getElem? hb
    rw [h.cmp m u ma]
    rw [h.cmp m u mb] at hlt
    rcases Nat.lt_or_ge i j with hlt2 | hge
    · obtain ⟨hi, rfl⟩ := List.getElem?_eq_some_iff.1 ha
      obtain ⟨hj, rfl⟩ := List.getElem?_eq_some_iff.1 hb
      have := (List.pairwise_iff_getElem.1 h.ord i j hi hj hlt2).pri
      omega
    · obtain rfl : i = j := by omega
      rw [ha] at hb; cases hb; exact hlt
theorem QIn.push (h : QIn n q) (m : Ms) (u : Int) : (qpush q m u).l = q.l.filter (fun e => decide (m.pri ≤ e.m.pri)) ++ qitem q m u :: q.l.filter (fun e => !decide (m.pri ≤ e.m.pri)) := by
  have hc : (q.l.takeWhile fun e => decide (cmpIt e (qitem q m u) < 0)) = q.l.takeWhile fun e => decide (m.pri ≤ e.m.pri) := by
    have : ∀ l : List It, (∀ e ∈ l, e ∈ q.l) → (l.takeWhile fun e => decide (cmpIt e (qitem q m u) < 0)) = l.takeWhile fun e => decide (m.pri ≤ e.m.pri) := by
      intro l
      induction l with
      | nil => intro _; rfl
      | cons a l ih =>
        intro hl
        have e1 : decide (cmpIt a (qitem q m u) < 0) = decide (m.pri ≤ a.m.pri) := decide_eq_decide.2 (h.cmp m u (hl a (by simp)))
        simp only [List.takeWhile_cons, e1, ih fun e he => hl e (by simp [he])]
    exact this q.l fun _ h => h
  obtain ⟨t1, t2⟩ := take_len_while (fun e : It => decide (m.pri ≤ e.m.pri)) q.l
  obtain ⟨f1, f2⟩ := take_while_filter (p := fun e : It => decide (m.pri ≤ e.m.pri)) (l := q.l) (h.ord.imp fun {x y} hxy hy => by
    have := hxy.pri; simp at hy ⊢; omega)
  unfold qpush srchIt
  dsimp only
  rw [hc, t1, t2, f1, f2]
theorem push_strip (h : QIn n q) (m : Ms) (u : Int) : (qpush q m u).l.map strip = ins3 ⟨m, 0, max u (-1), -1⟩ (q.l.map strip) := by
  rw [h.push]
  unfold ins3
  rw [List.map_append, List.map_cons, map_filter_strip _ (fun _ => rfl), map_filter_strip _ (fun _ => rfl)]
  rfl
theorem QIn.pushed (h : QIn n q) (hm : m.id = n) (h0 : 0 ≤ n) (hp : 0 ≤ m.pri ∧ m.pri ≤ 9) (hl : q.l.length < 20) (u : Int) : QIn (n + 1) (qpush q m u) := by
  have hl2 : ∀ e ∈ (qpush q m u).l, e = qitem q m u ∨ e ∈ q.l := fun e he => by
    rw [h.push] at he
    simp only [List.mem_append, List.mem_cons, List.mem_filter] at he
    rcases he with ⟨a, _⟩ | a | ⟨a, _⟩
    · exact .inr a
    · exact .inl a
    · exact .inr a
  have hnx : (qpush q m u).next = q.next + 1 := rfl
  refine ⟨?_, fun e he => ?_, fun e he => ?_, fun e he => ?_, ?_, by have := h.next; rw [hnx]; omega⟩
  · rw [h.push, List.pairwise_append, List.pairwise_cons]
    refine ⟨h.ord.sublist List.filter_sublist, ⟨fun e he => ?_, h.ord.sublist List.filter_sublist⟩, fun a ha b hb => ?_⟩
    · obtain ⟨h1, h2⟩ := List.mem_filter.1 he
      have := h.ids e h1
      simp at h2
      refine ⟨?_, .inl (by unfold qitem; dsimp only; omega)⟩
      unfold qitem; dsimp only; omega
    · obtain ⟨h1, h2⟩ := List.mem_filter.1 ha
      have i1 := h.ids a h1
      simp at h2
      rcases List.mem_cons.1 hb with rfl | hb
      · unfold Ord qitem; dsimp only; omega
      · obtain ⟨h3, h4⟩ := List.mem_filter.1 hb
        simp at h4
        refine ⟨?_, .inl (by omega)⟩
        intro e
        obtain ⟨i, hi, rfl⟩ := List.getElem_of_mem h1
        obtain ⟨j, hj, rfl⟩ := List.getElem_of_mem h3
        rcases Nat.lt_trichotomy i j with hlt | rfl | hlt
        · exact (List.pairwise_iff_getElem.1 h.ord i j hi hj hlt).1 e
        · omega
        · exact (List.pairwise_iff_getElem.1 h.ord j i hj hi hlt).1 e.symm
  · rcases hl2 e he with rfl | h1
    · unfold qitem; dsimp only; omega
    · have := h.ids e h1; omega
  · rcases hl2 e he with rfl | h1
    · exact hp
    · exact h.pris e h1
  · rw [hnx]
    rcases hl2 e he with rfl | h1
    · have := h.next; unfold qitem; dsimp only; omega
    · have := h.lines e h1; omega
  · unfold qpush
    simp; omega
theorem QIn.le (h : QIn n q) {k : Int} (hk : n ≤ k) : QIn k q := ⟨h.ord, fun e he => by have := h.ids e he; omega, h.pris, h.lines, h.len, by have := h.next; omega⟩
/-- one that has some of its items, changed in nothing that counts -/
theorem QIn.part (h : QIn n q) {l : List It} (hs : (l.map ml).Sublist (q.l.map ml)) : QIn n ⟨l, q.next⟩ := by
  have hm : ∀ e ∈ l, ∃ e' ∈ q.l, e'.m = e.m ∧ e'.line = e.line := fun e he => by
    obtain ⟨e', h1, h2⟩ := List.mem_map.1 (hs.subset (List.mem_map_of_mem (f := ml) he))
    exact ⟨e', h1, by simpa [ml] using h2⟩
  refine ⟨?_, fun e he => ?_, fun e he => ?_, fun e he => ?_, ?_, h.next⟩
  · have h1 : (q.l.map ml).Pairwise fun x y => x.1.id ≠ y.1.id ∧ (y.1.pri < x.1.pri ∨ (x.1.pri = y.1.pri ∧ x.1.id < y.1.id)) := List.pairwise_map.2 h.ord
    have h2 := h1.sublist hs
    rw [List.pairwise_map] at h2
    exact h2
  · obtain ⟨e', h1, h2, _⟩ := hm e he; rw [← h2]; exact h.ids e' h1
  · obtain ⟨e', h1, h2, _⟩ := hm e he; rw [← h2]; exact h.pris e' h1
  · obtain ⟨e', h1, _, h2⟩ := hm e he; rw [← h2]; exact h.lines e' h1
  · have := hs.length_le; have := h.len; simp at *; omega
end
/-! the items without their places -/
def getL (v : Int) (l : List It) : Option Nat → List It
  | none => l
  | some k => l.set k { itAt l k with got := v }
theorem getL_strip (v : Int) : ∀ l : List It, (getL v l (l.findIdx? availB)).map strip = get3 v (l.map strip) ∧ (getL v l (l.findIdx? availB)).map ml = l.map ml
  | [] => ⟨rfl, rfl⟩
  | a :: l => by
    obtain ⟨i1, i2⟩ := getL_strip v l
    rw [List.findIdx?_cons, List.map_cons, get3, strip_avail]
    by_cases ha : availB a = true
    · rw [if_pos ha, if_pos ha]; exact ⟨rfl, rfl⟩
    · rw [if_neg ha, if_neg ha, ← i1]
      cases hf : l.findIdx? availB with
      | none => exact ⟨rfl, rfl⟩
      | some k =>
        rw [hf] at i2
        exact ⟨rfl, congrArg (ml a :: ·) i2⟩
theorem get_strip (q : Qu) (v : Int) (hv : 0 ≤ v) : (qget q v).l.map strip = get3 v (q.l.map strip) ∧ (qget q v).next = q.next ∧ ((qget q v).l.map ml) = q.l.map ml := by
  obtain ⟨h1, h2⟩ := getL_strip v q.l
  have e : qget q v = ⟨getL v q.l (q.l.findIdx? availB), q.next⟩ := by
    unfold qget qgetI
    cases q.l.findIdx? availB with
    | none => rfl
    | some k => dsimp only; rw [if_neg (by omega)]; rfl
  rw [e]; exact ⟨h1, rfl, h2⟩
theorem getM_strip (q : Qu) : qgetM q = (match (q.l.map strip).find? availB with | none => zeroMs | some e => e.m) ∧ (qgetE q = match (q.l.map strip).find? availB with | none => 8 | some _ => 0) := by
  obtain ⟨l, nx⟩ := q
  unfold qgetM qgetE qgetI
  dsimp only
  induction l with
  | nil => exact ⟨rfl, rfl⟩
  | cons a l ih =>
    by_cases ha : availB a = true
    · rw [List.findIdx?_cons, List.map_cons, List.find?_cons, strip_avail, if_pos ha, ha]; exact ⟨rfl, rfl⟩
    · obtain ⟨i1, i2⟩ := ih
      cases hf : l.findIdx? availB with
      | none =>
        rw [hf] at i1 i2
        simp only [List.findIdx?_cons, ha, hf, Option.map_none, List.map_cons, List.find?_cons, strip_avail] at i1 i2 ⊢
        exact ⟨i1, i2⟩
      | some k =>
        rw [hf] at i1 i2
        simp only [List.findIdx?_cons, ha, hf, Option.map_some, List.map_cons, List.find?_cons, strip_avail, itAt, List.getD_cons_succ] at i1 i2 ⊢
        exact ⟨i1, i2⟩
theorem ends_strip (q : Qu) (u : Int) (b : Bool) (hu : 0 ≤ u) : (qends q u b).l.map strip = ends3 u b (q.l.map strip) := by
  unfold qends ends3
  rw [if_neg (by omega)]
  dsimp only
  rw [← map_filter_strip _ (fun _ => rfl), List.map_map, List.map_map]
  rfl
theorem QIn.ends {n : Int} {q : Qu} (h : QIn n q) (u : Int) (b : Bool) : QIn n (qends q u b) := by
  unfold qends
  split
  · exact h
  · refine h.part ?_
    rw [List.map_map]
    exact (List.filter_sublist).map _
theorem QIn.got {n : Int} {q : Qu} (h : QIn n q) (v : Int) (hv : 0 ≤ v) : QIn n (qget q v) := by
  obtain ⟨_, h2, h3⟩ := get_strip q v hv
  have := h.part (l := (qget q v).l) (by rw [h3]; exact .refl _)
  rw [← h2] at this
  exact this
/-! beside a queue without what one unit did -/
def oth (u : Int) (l : List It) : List It := l.filter fun e => !decide (e.put = u)
theorem oth_ins (u : Int) (t : It) (l : List It) : oth u (ins3 t l) = if t.put = u then oth u l |> fun r => r.filter (fun e => decide (t.m.pri ≤ e.m.pri)) ++ r.filter (fun e => !decide (t.m.pri ≤ e.m.pri)) else ins3 t (oth u l) := by
  unfold ins3 oth
  rw [List.filter_append]
  have c : ∀ p : It → Bool, (l.filter p).filter (fun e => !decide (e.put = u)) = (l.filter fun e => !decide (e.put = u)).filter p := fun p => by
    rw [List.filter_filter, List.filter_filter]; exact List.filter_congr fun e _ => Bool.and_comm _ _
  by_cases h : t.put = u
  · simp only [h, if_true, List.filter_cons, decide_true, Bool.not_true, Bool.false_eq_true, if_false, c]
  · simp only [h, if_false, List.filter_cons, decide_false, Bool.not_false, if_true, c]
theorem oth_get (u v : Int) (hu : 0 ≤ u) : ∀ l : List It, oth u (get3 v l) = get3 v (oth u l)
  | [] => rfl
  | e :: l => by
    have ih := oth_get u v hu l
    unfold oth at *
    by_cases ha : availB e = true
    · have hp : ¬ e.put = u := by unfold availB at ha; simp at ha; omega
      simp [get3, ha, List.filter_cons, hp]
    · by_cases hp : e.put = u
      · simp only [get3, ha, List.filter_cons, hp, decide_true, Bool.not_true, Bool.false_eq_true, if_false]; exact ih
      · simp only [get3, ha, List.filter_cons, hp, decide_false, Bool.not_false, Bool.false_eq_true, if_true, if_false]; rw [ih]
theorem oth_find (u : Int) (hu : 0 ≤ u) (l : List It) : (oth u l).find? availB = l.find? availB := by
  unfold oth
  rw [List.find?_filter]
  congr 1
  funext e
  by_cases ha : availB e = true
  · have hp : ¬ e.put = u := by unfold availB at ha; simp at ha; omega
    simp [ha, hp]
  · simp [ha]
theorem oth_ends (u v : Int) (b : Bool) (hu : 0 ≤ u) (hv : 0 ≤ v) (hne : v ≠ u) (l : List It) : oth u (ends3 v b l) = ends3 v b (oth u l) := by
  unfold oth ends3
  rw [List.filter_map, List.filter_filter, List.filter_filter]
  congr 1
  refine List.filter_congr fun e _ => ?_
  have : decide ((freeIt v e).put = u) = decide (e.put = u) := by
    refine decide_eq_decide.2 ?_
    unfold freeIt; dsimp only
    split <;> omega
  simp only [Function.comp, this, Bool.and_comm]
theorem there_strip (q : Qu) : qthere q = ((q.l.map strip).filter availB).map (·.m) := by
  unfold qthere
  rw [← map_filter_strip _ (fun _ => rfl), List.map_map]; rfl
theorem kept_strip (q : Qu) : qkept q = ((q.l.map strip).filter fun e => decide (e.put < 0)).map (·.m) := by
  unfold qkept
  rw [← map_filter_strip _ (fun _ => rfl), List.map_map]; rfl
/-- the two beside each other -/
structure QTwo (u n : Int) (a b : Qu) : Prop where
  ha : QIn n a
  hb : QIn n b
  rel : b.l.map strip = oth u (a.l.map strip)
  got : ∀ e ∈ a.l, e.got ≠ u
section
variable {u n : Int} {a b : Qu}
theorem QTwo.le (h : QTwo u n a b) {k : Int} (hk : n ≤ k) : QTwo u k a b := ⟨h.ha.le hk, h.hb.le hk, h.rel, h.got⟩
theorem QIn.putE {q : Qu} (h : QIn n q) {m : Ms} (hm : m.id = n) (hr : msRight m = true) (hl : q.l.length < 20) : qputE q m = 0 := by
  have hh : qhas q m.id = false := by
    unfold qhas
    rw [List.any_eq_false]
    intro e he
    have := h.ids e he
    unfold idB; simp; omega
  unfold qputE
  rw [hr, hh]
  simp; omega
theorem QTwo.putA (h : QTwo u n a b) {m : Ms} (hm : m.id = n) (h0 : 0 ≤ n) (hu : 0 ≤ u) (hp : 0 ≤ m.pri ∧ m.pri ≤ 9) (hl : a.l.length < 20) : QTwo u (n + 1) (qpush a m u) b := by
  refine ⟨h.ha.pushed hm h0 hp hl u, h.hb.le (by omega), ?_, fun e he => ?_⟩
  · rw [push_strip h.ha, oth_ins, if_pos (by dsimp only; omega), h.rel, ← h.rel]
    dsimp only
    have hb := (take_while_filter (p := fun e : It => decide (m.pri ≤ e.m.pri)) (l := b.l.map strip) (List.pairwise_map.2 (h.hb.ord.imp fun {x y} hxy hy => by
      have h1 := hxy.pri; have h2 : m.pri ≤ y.m.pri := of_decide_eq_true hy; exact decide_eq_true (show m.pri ≤ x.m.pri by omega))))
    rw [← hb.1, ← hb.2, List.takeWhile_append_dropWhile]
  · rw [h.ha.push] at he
    simp only [List.mem_append, List.mem_cons, List.mem_filter] at he
    rcases he with ⟨a, _⟩ | rfl | ⟨a, _⟩
    · exact h.got e a
    · unfold qitem; dsimp only; omega
    · exact h.got e a
theorem QTwo.getE (h : QTwo u n a b) (hu : 0 ≤ u) : qgetM a = qgetM b ∧ qgetE a = qgetE b := by
  have ha := getM_strip a
  have hb := getM_strip b
  rw [h.rel, oth_find u hu] at hb
  exact ⟨ha.1.trans hb.1.symm, ha.2.trans hb.2.symm⟩
theorem got_get (q : Qu) (v : Int) (hv : 0 ≤ v) (hne : v ≠ u) (h : ∀ e ∈ q.l, e.got ≠ u) : ∀ e ∈ (qget q v).l, e.got ≠ u := by
  unfold qget
  split
  · exact h
  · next k _ =>
    rw [if_neg (by omega)]
    intro e he
    rcases List.mem_or_eq_of_mem_set he with h1 | rfl
    · exact h e h1
    · exact hne
theorem QTwo.get (h : QTwo u n a b) {v : Int} (hu : 0 ≤ u) (hv : 0 ≤ v) (hne : v ≠ u) : QTwo u n (qget a v) (qget b v) :=
  ⟨h.ha.got v hv, h.hb.got v hv, by rw [(get_strip a v hv).1, (get_strip b v hv).1, h.rel, oth_get u v hu], got_get a v hv hne h.got⟩
theorem QTwo.ends (h : QTwo u n a b) {v : Int} (back : Bool) (hu : 0 ≤ u) (hv : 0 ≤ v) (hne : v ≠ u) : QTwo u n (qends a v back) (qends b v back) :=
  ⟨h.ha.ends v back, h.hb.ends v back, by rw [ends_strip a v back hv, ends_strip b v back hv, h.rel, oth_ends u v back hu hv hne], by
    unfold qends
    rw [if_neg (by omega)]
    intro e he
    obtain ⟨e', h1, rfl⟩ := List.mem_map.1 he
    have := h.got e' (List.mem_filter.1 h1).1
    unfold freeIt; dsimp only
    split <;> omega⟩
/-- at last -/
theorem QTwo.last (h : QTwo u n a b) (hu : 0 ≤ u) : qthere (qends a u true) = qthere b ∧ qkept (qends a u true) = qkept b ∧ (qends a u true).l.length = b.l.length := by
  have e : (qends a u true).l.map strip = b.l.map strip := by
    rw [ends_strip a u true hu, h.rel]
    unfold ends3 oth
    have h1 : (a.l.map strip).filter (fun e => !endB u true e) = (a.l.map strip).filter fun e => !decide (e.put = u) := List.filter_congr fun e _ => by unfold endB; simp
    rw [h1]
    have h2 : ∀ l : List It, (∀ e ∈ l, e.got ≠ u ∧ e.put ≠ u) → l.map (freeIt u) = l := fun l hl => by
      refine (List.map_congr_left fun e he => ?_).trans (List.map_id l)
      have := hl e he
      unfold freeIt; simp [this]
    refine h2 _ fun e he => ?_
    obtain ⟨h3, h4⟩ := List.mem_filter.1 he
    obtain ⟨e', h5, rfl⟩ := List.mem_map.1 h3
    refine ⟨h.got e' h5, by simpa using h4⟩
  refine ⟨by rw [there_strip, there_strip, e], by rw [kept_strip, kept_strip, e], ?_⟩
  have := congrArg List.length e
  simpa using this
end
end WB
namespace WB
/-! the last: each is got once, those of one priority as they came -/
structure QTail (l : List It) (g : List (Int × Go.Value)) (ls : List Int) : Prop where
  ord : l.Pairwise Ord
  ids : ∀ e ∈ l, 0 ≤ e.m.id ∧ e.m.id < 1000
  pris : ∀ e ∈ l, 0 ≤ e.m.pri ∧ e.m.pri ≤ 9
  len : ls.length = 10
  fresh : ∀ e ∈ l, availB e = true → getK g e.m.id = none ∧ ls.getD e.m.pri.toNat 0 ≤ e.m.id
theorem QTail.start {n : Int} {q : Qu} (h : QIn n q) (hn : n ≤ 1000) : QTail q.l [] (List.replicate 10 0) := by
  refine ⟨h.ord, fun e he => by have := h.ids e he; omega, h.pris, rfl, fun e he _ => ⟨rfl, ?_⟩⟩
  have h1 := h.ids e he
  have h2 := h.pris e he
  rw [List.getD_eq_getElem?_getD, List.getElem?_replicate, if_pos (by omega)]
  simp; omega
end WB
/- the document's queue: plain data -/
namespace WB
open Go Go.RowKit
structure Ri where
  m : Ms
  put : Int
  got : Int
instance : Inhabited Ri := ⟨⟨default, 0, 0⟩⟩
def riC (x : Ri) : List Value := [.int .i64 x.m.id, .int .i64 x.m.pri, .string x.m.body, .string x.m.queue, .int .i64 x.m.house, .int .i64 x.put, .int .i64 x.got]
def ridB (id : Int) (e : Ri) : Bool := decide (e.m.id = id)
def rfind (l : List Ri) (id : Int) : Int := fidx (ridB id) l
def rneg (u : Int) : Int := if u < 0 then -1 else u
def rpush (l : List Ri) (m : Ms) (u : Int) : List Ri := l ++ [⟨m, rneg u, -1⟩]
def rputE (l : List Ri) (m : Ms) : Int := if msRight m = false then 1 else if 0 ≤ rfind l m.id then 9 else if 20 ≤ l.length then 12 else 0
def rput (l : List Ri) (m : Ms) (u : Int) : List Ri := if rputE l m = 0 then rpush l m u else l
def ravail (e : Ri) : Bool := decide (e.put < 0) && decide (e.got < 0)
/-- the places in order -/
def rordP (l : List Ri) (p : Nat) : List Nat := (List.range l.length).filter fun i => decide ((l.getD i default).m.pri = (p : Int))
def rordN (l : List Ri) : Nat → List Nat
  | 0 => []
  | n + 1 => rordP l n ++ rordN l n
def rord (l : List Ri) : List Nat := rordN l 10
def rAt (l : List Ri) (i : Nat) : Ri := l.getD i default
def rgetI (l : List Ri) : Option Nat := (rord l).find? fun i => ravail (rAt l i)
def rget (l : List Ri) (u : Int) : List Ri := match rgetI l with | none => l | some i => if 0 ≤ u then l.set i { rAt l i with got := u } else l.eraseIdx i
def rgetM (l : List Ri) : Ms := match rgetI l with | none => zeroMs | some i => (rAt l i).m
def rgetE (l : List Ri) : Int := match rgetI l with | none => 8 | some _ => 0
def rtakeI (l : List Ri) (id : Int) : Option Nat := l.findIdx? (ridB id)
def rtake (l : List Ri) (id : Int) : List Ri := match rtakeI l id with | none => l | some i => l.eraseIdx i
def rtakeM (l : List Ri) (id : Int) : Ms := match rtakeI l id with | none => zeroMs | some i => (rAt l i).m
def rtakeE (l : List Ri) (id : Int) : Int := match rtakeI l id with | none => 7 | some _ => 0
def rendB (u : Int) (back : Bool) (x : Ri) : Bool := (decide (x.put = u) && back) || (decide (x.got = u) && !back)
def rfree (u : Int) (x : Ri) : Ri := { x with put := if x.put = u then -1 else x.put, got := if x.got = u then -1 else x.got }
def rends (l : List Ri) (u : Int) (back : Bool) : List Ri := if u < 0 then l else (l.filter fun e => !rendB u back e).map (rfree u)
def rthere (l : List Ri) : List Ms := ((rord l).filter fun i => ravail (rAt l i)).map fun i => (rAt l i).m
def rkept (l : List Ri) : List Ms := ((rord l).filter fun i => decide ((rAt l i).put < 0)).map fun i => (rAt l i).m
theorem rAt_of {l : List Ri} {k : Nat} {e : Ri} (h : l[k]? = some e) : rAt l k = e := by simp [rAt, List.getD_eq_getElem?_getD, h]
end WB
namespace WB
open Go Go.RowKit
def niC (i : Nat) : List Value := [.int .i64 (i : Nat)]
theorem rordP_mem {l : List Ri} {p i : Nat} (h : i ∈ rordP l p) : i < l.length ∧ (rAt l i).m.pri = p := by
  unfold rordP at h
  obtain ⟨h1, h2⟩ := List.mem_filter.1 h
  exact ⟨List.mem_range.1 h1, by simpa [rAt] using h2⟩
theorem rordN_mem {l : List Ri} : ∀ {n i : Nat}, i ∈ rordN l n → i < l.length ∧ (rAt l i).m.pri < n
  | 0, _, h => by simp [rordN] at h
  | n + 1, i, h => by
    rcases List.mem_append.1 h with h | h
    · have := rordP_mem h; omega
    · have := rordN_mem h; omega
theorem rord_lt {l : List Ri} {k i : Nat} (h : (rord l)[k]? = some i) : i < l.length := (rordN_mem (List.mem_of_getElem? h)).1
end WB
/- the program's queue beside the document's: plain -/
namespace WB
def toRi (e : It) : Ri := ⟨e.m, e.put, e.got⟩
def arrN (l : List Ri) : Nat → List Ri
  | 0 => []
  | n + 1 => l.filter (fun e => decide (e.m.pri = (n : Int))) ++ arrN l n
def arr (l : List Ri) : List Ri := arrN l 10
theorem range_map_rAt : ∀ l : List Ri, (List.range l.length).map (rAt l) = l := fun l => by
  refine List.ext_getElem (by simp) fun i h1 h2 => ?_
  simp [rAt, List.getD_eq_getElem?_getD, h2]
theorem arrN_rord (l : List Ri) : ∀ n, arrN l n = (rordN l n).map (rAt l)
  | 0 => rfl
  | n + 1 => by
    rw [arrN, rordN, List.map_append, arrN_rord l n]
    congr 1
    conv => lhs; rw [← range_map_rAt l]
    rw [List.filter_map]
    rfl
theorem arr_rord (l : List Ri) : arr l = (rord l).map (rAt l) := arrN_rord l 10
theorem rkept_arr (l : List Ri) : rkept l = ((arr l).filter fun e => decide (e.put < 0)).map (·.m) := by
  rw [arr_rord, List.filter_map, List.map_map]; rfl
theorem rget_arr (l : List Ri) : (arr l).find? ravail = (rgetI l).map (rAt l) := by
  rw [arr_rord, List.find?_map]; rfl
theorem arrN_mem {l : List Ri} {e : Ri} : ∀ {n}, e ∈ arrN l n → e ∈ l ∧ e.m.pri < n
  | 0, h => by simp [arrN] at h
  | n + 1, h => by
    rcases List.mem_append.1 h with h | h
    · obtain ⟨h1, h2⟩ := List.mem_filter.1 h
      simp at h2; exact ⟨h1, by omega⟩
    · have := arrN_mem h; exact ⟨this.1, by omega⟩
theorem arrN_map {f : Ri → Ri} (hf : ∀ e, (f e).m.pri = e.m.pri) (l : List Ri) : ∀ n, arrN (l.map f) n = (arrN l n).map f
  | 0 => rfl
  | n + 1 => by
    rw [arrN, arrN, List.map_append, arrN_map hf l n, List.filter_map]
    congr 2
    exact List.filter_congr fun e _ => by simp [hf]
theorem arrN_filter (p : Ri → Bool) (l : List Ri) : ∀ n, arrN (l.filter p) n = (arrN l n).filter p
  | 0 => rfl
  | n + 1 => by
    rw [arrN, arrN, List.filter_append, arrN_filter p l n, List.filter_filter, List.filter_filter]
    congr 1
    exact List.filter_congr fun e _ => Bool.and_comm _ _
theorem arr_map {f : Ri → Ri} (hf : ∀ e, (f e).m.pri = e.m.pri) (l : List Ri) : arr (l.map f) = (arr l).map f := arrN_map hf l 10
theorem arr_filter (p : Ri → Bool) (l : List Ri) : arr (l.filter p) = (arr l).filter p := arrN_filter p l 10
theorem arrN_perm (l : List Ri) (h0 : ∀ e ∈ l, 0 ≤ e.m.pri) : ∀ n : Nat, (arrN l n).Perm (l.filter fun e => decide (e.m.pri < (n : Int)))
  | 0 => by
    rw [arrN, List.filter_eq_nil_iff.2 fun e he => by have := h0 e he; simp; omega]
  | n + 1 => by
    rw [arrN]
    have h1 := List.filter_append_perm (fun e : Ri => decide (e.m.pri = (n : Int))) (l.filter fun e => decide (e.m.pri < ((n + 1 : Nat) : Int)))
    rw [List.filter_filter, List.filter_filter] at h1
    have e1 : (l.filter fun e => decide (e.m.pri = (n : Int)) && decide (e.m.pri < ((n + 1 : Nat) : Int))) = l.filter fun e => decide (e.m.pri = (n : Int)) := List.filter_congr fun e _ => by
      rw [Bool.eq_iff_iff]; simp; omega
    have e2 : (l.filter fun e => (!decide (e.m.pri = (n : Int))) && decide (e.m.pri < ((n + 1 : Nat) : Int))) = l.filter fun e => decide (e.m.pri < (n : Int)) := List.filter_congr fun e _ => by
      rw [Bool.eq_iff_iff]; simp; omega
    rw [e1, e2] at h1
    exact ((arrN_perm l h0 n).append_left _).trans h1
theorem arr_perm {l : List Ri} (h : ∀ e ∈ l, 0 ≤ e.m.pri ∧ e.m.pri ≤ 9) : (arr l).Perm l := by
  have := arrN_perm l (fun e he => (h e he).1) 10
  rw [List.filter_eq_self.2 fun e he => by have := h e he; simp; omega] at this
  exact this
theorem arrN_push (l : List Ri) (x : Ri) (p : Nat) (hp : x.m.pri = p) : ∀ n, arrN (l ++ [x]) n = if n ≤ p then arrN l n else (arrN l n).filter (fun e => decide (x.m.pri ≤ e.m.pri)) ++ x :: (arrN l n).filter (fun e => !decide (x.m.pri ≤ e.m.pri))
  | 0 => by simp [arrN]
  | n + 1 => by
    rw [arrN, arrN, arrN_push l x p hp n, List.filter_append]
    by_cases h1 : n + 1 ≤ p
    · rw [if_pos h1, if_pos (by omega)]
      have : ([x].filter fun e => decide (e.m.pri = (n : Int))) = [] := by simp; omega
      rw [this, List.append_nil]
    · rw [if_neg h1]
      by_cases h2 : n ≤ p
      · have hnp : n = p := by omega
        subst hnp
        have e1 : ([x].filter fun e => decide (e.m.pri = (n : Int))) = [x] := by simp [hp]
        rw [if_pos h2, e1, List.filter_append, List.filter_append]
        have a1 : ((l.filter fun e => decide (e.m.pri = (n : Int))).filter fun e => decide (x.m.pri ≤ e.m.pri)) = l.filter fun e => decide (e.m.pri = (n : Int)) := List.filter_eq_self.2 fun e he => by have := (List.mem_filter.1 he).2; simp at this ⊢; omega
        have a2 : ((l.filter fun e => decide (e.m.pri = (n : Int))).filter fun e => !decide (x.m.pri ≤ e.m.pri)) = [] := List.filter_eq_nil_iff.2 fun e he => by have := (List.mem_filter.1 he).2; simp at this ⊢; omega
        have a3 : ((arrN l n).filter fun e => decide (x.m.pri ≤ e.m.pri)) = [] := List.filter_eq_nil_iff.2 fun e he => by have := (arrN_mem he).2; simp; omega
        have a4 : ((arrN l n).filter fun e => !decide (x.m.pri ≤ e.m.pri)) = arrN l n := List.filter_eq_self.2 fun e he => by have := (arrN_mem he).2; simp; omega
        rw [a1, a2, a3, a4]; simp
      · have e1 : ([x].filter fun e => decide (e.m.pri = (n : Int))) = [] := by simp; omega
        rw [if_neg h2, e1, List.append_nil, List.filter_append, List.filter_append]
        have a1 : ((l.filter fun e => decide (e.m.pri = (n : Int))).filter fun e => decide (x.m.pri ≤ e.m.pri)) = l.filter fun e => decide (e.m.pri = (n : Int)) := List.filter_eq_self.2 fun e he => by have := (List.mem_filter.1 he).2; simp at this ⊢; omega
        have a2 : ((l.filter fun e => decide (e.m.pri = (n : Int))).filter fun e => !decide (x.m.pri ≤ e.m.pri)) = [] := List.filter_eq_nil_iff.2 fun e he => by have := (List.mem_filter.1 he).2; simp at this ⊢; omega
        rw [a1, a2]; simp
theorem arr_push (l : List Ri) (x : Ri) (h : 0 ≤ x.m.pri ∧ x.m.pri ≤ 9) : arr (l ++ [x]) = (arr l).filter (fun e => decide (x.m.pri ≤ e.m.pri)) ++ x :: (arr l).filter (fun e => !decide (x.m.pri ≤ e.m.pri)) := by
  have := arrN_push l x x.m.pri.toNat (by omega) 10
  rw [if_neg (by omega)] at this
  exact this
/-! by their numbers -/
section
variable {α : Type} {key : α → Int} {xs : List α}
theorem key_inj (h : (xs.map key).Nodup) {i j : Nat} {a b : α} (ha : xs[i]? = some a) (hb : xs[j]? = some b) (hk : key a = key b) : i = j := by
  obtain ⟨hi, rfl⟩ := List.getElem?_eq_some_iff.1 ha
  obtain ⟨hj, rfl⟩ := List.getElem?_eq_some_iff.1 hb
  have hn := List.pairwise_iff_getElem.1 h
  rcases Nat.lt_trichotomy i j with hlt | rfl | hlt
  · exact absurd (by rw [List.getElem_map, List.getElem_map]; exact hk) (hn i j (by simpa using hi) (by simpa using hj) hlt)
  · rfl
  · exact absurd (by rw [List.getElem_map, List.getElem_map]; exact hk.symm) (hn j i (by simpa using hj) (by simpa using hi) hlt)
theorem key_eq (h : (xs.map key).Nodup) {a b : α} (ha : a ∈ xs) (hb : b ∈ xs) (hk : key a = key b) : a = b := by
  obtain ⟨i, hi, rfl⟩ := List.getElem_of_mem ha
  obtain ⟨j, hj, rfl⟩ := List.getElem_of_mem hb
  have := key_inj h (List.getElem?_eq_getElem hi) (List.getElem?_eq_getElem hj) hk
  subst this; rfl
theorem set_by_key (h : (xs.map key).Nodup) (f : α → α) {k : Nat} {e : α} (he : xs[k]? = some e) : xs.set k (f e) = xs.map fun x => if key x = key e then f x else x := by
  refine List.ext_getElem? fun j => ?_
  rw [List.getElem?_set, List.getElem?_map]
  have hk := (List.getElem?_eq_some_iff.1 he).1
  by_cases hj : k = j
  · subst hj
    rw [if_pos rfl, if_pos hk, he]; simp
  · rw [if_neg hj]
    cases hx : xs[j]? with
    | none => rfl
    | some a =>
      have : ¬ key a = key e := fun hh => hj (key_inj h he hx hh.symm)
      simp [this]
theorem erase_by_key (h : (xs.map key).Nodup) {k : Nat} {e : α} (he : xs[k]? = some e) : xs.eraseIdx k = xs.filter fun x => !decide (key x = key e) := by
  induction xs generalizing k with
  | nil => simp at he
  | cons a l ih =>
    rw [List.map_cons, List.nodup_cons] at h
    cases k with
    | zero =>
      simp at he; subst he
      rw [List.eraseIdx_zero, List.tail_cons, List.filter_cons, if_neg (by simp)]
      refine (List.filter_eq_self.2 fun x hx => ?_).symm
      have : ¬ key x = key a := fun hh => h.1 (hh ▸ List.mem_map_of_mem (f := key) hx)
      simp [this]
    | succ k =>
      simp at he
      rw [List.eraseIdx_cons_succ, ih h.2 he, List.filter_cons, if_pos]
      have : ¬ key a = key e := fun hh => h.1 (hh ▸ List.mem_map_of_mem (f := key) (List.mem_of_getElem? he))
      simp [this]
end
/-! the two beside each other -/
def QOrd (x y : It) : Prop := y.m.pri < x.m.pri ∨ (x.m.pri = y.m.pri ∧ x.line < y.line)
structure QRel (n : Int) (q : Qu) (l : List Ri) : Prop where
  rel : q.l.map toRi = arr l
  ord : q.l.Pairwise QOrd
  lines : ∀ e ∈ q.l, 0 ≤ e.line ∧ e.line < q.next
  pris : ∀ e ∈ l, 0 ≤ e.m.pri ∧ e.m.pri ≤ 9
  ids : (l.map (·.m.id)).Nodup
  len : (l.length : Nat) ≤ n
  next : 0 ≤ q.next ∧ q.next ≤ n
section
variable {n : Int} {q : Qu} {l : List Ri} {m : Ms} {u : Int}
theorem QRel.len_eq (h : QRel n q l) : q.l.length = l.length := by
  have := congrArg List.length h.rel
  rw [List.length_map, (arr_perm h.pris).length_eq] at this
  exact this
theorem QRel.mem (h : QRel n q l) {e : It} (he : e ∈ q.l) : toRi e ∈ l := by
  have : toRi e ∈ arr l := by rw [← h.rel]; exact List.mem_map_of_mem he
  exact (arr_perm h.pris).mem_iff.1 this
theorem QRel.qids (h : QRel n q l) : (q.l.map (·.m.id)).Nodup := by
  have h1 : (q.l.map (·.m.id)) = (arr l).map (·.m.id) := by rw [← h.rel, List.map_map]; rfl
  rw [h1]
  exact (((arr_perm h.pris).map _).nodup_iff).2 h.ids
theorem QRel.qpri (h : QRel n q l) {e : It} (he : e ∈ q.l) : 0 ≤ e.m.pri ∧ e.m.pri ≤ 9 := h.pris _ (h.mem he)
theorem QRel.cmp (h : QRel n q l) (m : Ms) (u : Int) {e : It} (he : e ∈ q.l) : cmpIt e (qitem q m u) < 0 ↔ m.pri ≤ e.m.pri := by
  have := h.lines e he
  unfold cmpIt compI qitem
  dsimp only
  split <;> omega
theorem QRel.ok (h : QRel n q l) (hn : n < 100000) : QuOk q := by
  have hle := h.len_eq
  have hl2 := h.len
  refine ⟨by omega, fun e he => ?_, ⟨h.next.1, by have := h.next; omega⟩, fun m u i j a b hij ha hb hlt => ?_⟩
  · have h1 := h.qpri he; have h2 := h.lines e he; have h3 := h.next
    unfold smallIt small; omega
  · have ma := List.mem_of_getElem? ha
    have mb := List.mem_of_getElem? hb
    rw [h.cmp m u ma]
    rw [h.cmp m u mb] at hlt
    rcases Nat.lt_or_ge i j with hlt2 | hge
    · obtain ⟨hi, rfl⟩ := List.getElem?_eq_some_iff.1 ha
      obtain ⟨hj, rfl⟩ := List.getElem?_eq_some_iff.1 hb
      have := List.pairwise_iff_getElem.1 h.ord i j hi hj hlt2
      unfold QOrd at this
      omega
    · obtain rfl : i = j := by omega
      rw [ha] at hb; cases hb; exact hlt
theorem QRel.push (h : QRel n q l) (m : Ms) (u : Int) : (qpush q m u).l = q.l.filter (fun e => decide (m.pri ≤ e.m.pri)) ++ qitem q m u :: q.l.filter (fun e => !decide (m.pri ≤ e.m.pri)) := by
  have hc : (q.l.takeWhile fun e => decide (cmpIt e (qitem q m u) < 0)) = q.l.takeWhile fun e => decide (m.pri ≤ e.m.pri) := by
    have : ∀ l : List It, (∀ e ∈ l, e ∈ q.l) → (l.takeWhile fun e => decide (cmpIt e (qitem q m u) < 0)) = l.takeWhile fun e => decide (m.pri ≤ e.m.pri) := by
      intro l
      induction l with
      | nil => intro _; rfl
      | cons a l ih =>
        intro hl
        have e1 : decide (cmpIt a (qitem q m u) < 0) = decide (m.pri ≤ a.m.pri) := decide_eq_decide.2 (h.cmp m u (hl a (by simp)))
        simp only [List.takeWhile_cons, e1, ih fun e he => hl e (by simp [he])]
    exact this q.l fun _ h => h
  obtain ⟨t1, t2⟩ := take_len_while (fun e : It => decide (m.pri ≤ e.m.pri)) q.l
  obtain ⟨f1, f2⟩ := take_while_filter (p := fun e : It => decide (m.pri ≤ e.m.pri)) (l := q.l) (h.ord.imp fun {x y} hxy hy => by
    unfold QOrd at hxy; simp at hy ⊢; omega)
  unfold qpush srchIt
  dsimp only
  rw [hc, t1, t2, f1, f2]
theorem QRel.pushed (h : QRel n q l) (hp : 0 ≤ m.pri ∧ m.pri ≤ 9) (hid : ∀ e ∈ l, e.m.id ≠ m.id) (u : Int) : QRel (n + 1) (qpush q m u) (rpush l m u) := by
  have hl2 : ∀ e ∈ (qpush q m u).l, e = qitem q m u ∨ e ∈ q.l := fun e he => by
    rw [h.push] at he
    simp only [List.mem_append, List.mem_cons, List.mem_filter] at he
    rcases he with ⟨a, _⟩ | a | ⟨a, _⟩
    · exact .inr a
    · exact .inl a
    · exact .inr a
  have hnx : (qpush q m u).next = q.next + 1 := rfl
  refine ⟨?_, ?_, fun e he => ?_, fun e he => ?_, ?_, ?_, by have := h.next; rw [hnx]; omega⟩
  · rw [h.push, List.map_append, List.map_cons]
    unfold rpush
    rw [arr_push l _ hp, ← h.rel, List.filter_map, List.filter_map]
    have : toRi (qitem q m u) = ⟨m, rneg u, -1⟩ := by
      unfold toRi qitem rneg
      dsimp only
      rw [show max u (-1) = if u < 0 then -1 else u by split <;> omega]
    rw [this]
    rfl
  · rw [h.push, List.pairwise_append, List.pairwise_cons]
    refine ⟨h.ord.sublist List.filter_sublist, ⟨fun e he => ?_, h.ord.sublist List.filter_sublist⟩, fun a ha b hb => ?_⟩
    · obtain ⟨h1, h2⟩ := List.mem_filter.1 he
      simp at h2
      left; unfold qitem; dsimp only; omega
    · obtain ⟨h1, h2⟩ := List.mem_filter.1 ha
      have i1 := h.lines a h1
      simp at h2
      rcases List.mem_cons.1 hb with rfl | hb
      · unfold QOrd qitem; dsimp only; omega
      · obtain ⟨h3, h4⟩ := List.mem_filter.1 hb
        simp at h4
        left; omega
  · rw [hnx]
    rcases hl2 e he with rfl | h1
    · have := h.next; unfold qitem; dsimp only; omega
    · have := h.lines e h1; omega
  · rcases List.mem_append.1 he with h1 | h1
    · exact h.pris e h1
    · rw [List.mem_singleton] at h1; subst h1; exact hp
  · unfold rpush
    rw [List.map_append, List.nodup_append]
    refine ⟨h.ids, by simp, fun a ha b hb => ?_⟩
    obtain ⟨e, he, rfl⟩ := List.mem_map.1 ha
    simp at hb; subst hb
    exact hid e he
  · unfold rpush; have := h.len; simp; omega
/-- one whose items are some of its items, each with the same message and place -/
theorem QRel.part (h : QRel n q l) {ql : List It} {l' : List Ri} (hs : (ql.map ml).Sublist (q.l.map ml)) (hr : ql.map toRi = arr l') (hsub : (l'.map (·.m)).Sublist (l.map (·.m))) : QRel n ⟨ql, q.next⟩ l' := by
  have hm : ∀ e ∈ ql, ∃ e' ∈ q.l, e'.m = e.m ∧ e'.line = e.line := fun e he => by
    obtain ⟨e', h1, h2⟩ := List.mem_map.1 (hs.subset (List.mem_map_of_mem (f := ml) he))
    exact ⟨e', h1, by simpa [ml] using h2⟩
  refine ⟨hr, ?_, fun e he => ?_, fun e he => ?_, ?_, ?_, h.next⟩
  · have h1 : (q.l.map ml).Pairwise fun x y => y.1.pri < x.1.pri ∨ (x.1.pri = y.1.pri ∧ x.2 < y.2) := List.pairwise_map.2 h.ord
    have h2 := h1.sublist hs
    rw [List.pairwise_map] at h2
    exact h2
  · obtain ⟨e', h1, _, h2⟩ := hm e he; rw [← h2]; exact h.lines e' h1
  · obtain ⟨e', h1, h2⟩ := List.mem_map.1 (hsub.subset (List.mem_map_of_mem (f := (·.m)) he))
    have := h.pris e' h1
    rw [h2] at this; exact this
  · have h1 := h.ids
    have e1 : ∀ l : List Ri, l.map (·.m.id) = (l.map (·.m)).map (·.id) := fun l => by rw [List.map_map]; rfl
    rw [e1] at h1 ⊢
    exact h1.sublist (hsub.map _)
  · have := hsub.length_le; have := h.len; simp at *; omega
theorem QRel.le (h : QRel n q l) {k : Int} (hk : n ≤ k) : QRel k q l := ⟨h.rel, h.ord, h.lines, h.pris, h.ids, by have := h.len; omega, by have := h.next; omega⟩
theorem QRel.find (h : QRel n q l) : (q.l.find? availB).map toRi = (rgetI l).map (rAt l) := by
  rw [← rget_arr, ← h.rel, List.find?_map]; rfl
theorem find_idx {l : List It} {p : It → Bool} : l.find? p = (l.findIdx? p).map (itAt l) := by
  cases hf : l.findIdx? p with
  | none => rw [List.find?_eq_none.2 fun x hx => by simpa using List.findIdx?_eq_none_iff.1 hf x hx]; rfl
  | some k =>
    obtain ⟨h1, h2, h3⟩ := List.findIdx?_eq_some_iff_getElem.1 hf
    rw [Option.map_some, itAt_of (List.getElem?_eq_getElem h1)]
    exact List.find?_eq_some_iff_getElem.2 ⟨h2, k, h1, rfl, fun j hj => by simpa using h3 j hj⟩
theorem QRel.get (h : QRel n q l) (u : Int) : qgetM q = rgetM l ∧ qgetE q = rgetE l ∧ QRel n (qget q u) (rget l u) := by
  have hf := h.find
  rw [find_idx] at hf
  unfold qgetM qgetE qget rgetM rgetE rget
  change ((qgetI q).map (itAt q.l)).map toRi = _ at hf
  cases hq : qgetI q with
  | none =>
    rw [hq] at hf
    cases hr : rgetI l with
    | none => exact ⟨rfl, rfl, h⟩
    | some i => rw [hr] at hf; simp at hf
  | some k =>
    rw [hq] at hf
    cases hr : rgetI l with
    | none => rw [hr] at hf; simp at hf
    | some i =>
      rw [hr] at hf
      simp only [Option.map_some, Option.some.injEq] at hf
      obtain ⟨hk, _, _⟩ := List.findIdx?_eq_some_iff_getElem.1 hq
      have he : q.l[k]? = some (itAt q.l k) := by rw [itAt_of (List.getElem?_eq_getElem hk)]; exact List.getElem?_eq_getElem hk
      have hil : i < l.length := by
        obtain ⟨j, hj, hji⟩ := List.getElem_of_mem (List.mem_of_find?_eq_some hr)
        exact rord_lt (by rw [List.getElem?_eq_getElem hj, hji])
      have hi : l[i]? = some (rAt l i) := by rw [rAt_of (List.getElem?_eq_getElem hil)]; exact List.getElem?_eq_getElem hil
      have hmm : (itAt q.l k).m = (rAt l i).m := by rw [← hf]; rfl
      refine ⟨hmm, rfl, ?_⟩
      dsimp only
      by_cases hu : u < 0
      · rw [if_pos hu, if_neg (by omega)]
        refine h.part ((List.eraseIdx_sublist _ _).map _) ?_ ((List.eraseIdx_sublist _ _).map _)
        rw [erase_by_key (key := fun x : It => x.m.id) h.qids he, erase_by_key (key := fun x : Ri => x.m.id) h.ids hi, arr_filter, ← h.rel, List.filter_map, ← hmm]
        rfl
      · rw [if_neg hu, if_pos (by omega)]
        have e1 : (q.l.set k { itAt q.l k with got := u }) = q.l.map fun x => if x.m.id = (itAt q.l k).m.id then { x with got := u } else x := set_by_key (key := fun x : It => x.m.id) h.qids (fun x => { x with got := u }) he
        have e2 : (l.set i { rAt l i with got := u }) = l.map fun x => if x.m.id = (rAt l i).m.id then { x with got := u } else x := set_by_key (key := fun x : Ri => x.m.id) h.ids (fun x => { x with got := u }) hi
        refine h.part ?_ ?_ ?_
        · rw [e1, List.map_map]
          have : (ml ∘ fun x : It => if x.m.id = (itAt q.l k).m.id then { x with got := u } else x) = ml := by funext x; simp only [Function.comp]; split <;> rfl
          rw [this]; exact .refl _
        · rw [e1, e2, arr_map (fun e => by split <;> rfl), ← h.rel, List.map_map, List.map_map, ← hmm]
          congr 1
          funext x
          simp only [Function.comp]
          unfold toRi
          split
          · rfl
          · rfl
        · rw [e2, List.map_map]
          have : ((fun x : Ri => x.m) ∘ fun x : Ri => if x.m.id = (rAt l i).m.id then { x with got := u } else x) = fun x => x.m := by funext x; simp only [Function.comp]; split <;> rfl
          rw [this]; exact .refl _
theorem QRel.has (h : QRel n q l) (id : Int) : qhas q id = decide (0 ≤ rfind l id) := by
  have h1 : rfind l id = fidx (ridB id) l := rfl
  rw [h1, fidx_any, Bool.eq_iff_iff, List.any_eq_true]
  unfold qhas
  rw [List.any_eq_true]
  constructor
  · rintro ⟨e, he, hb⟩; exact ⟨toRi e, h.mem he, hb⟩
  · rintro ⟨e, he, hb⟩
    have := (arr_perm h.pris).mem_iff.2 he
    rw [← h.rel] at this
    obtain ⟨x, hx, rfl⟩ := List.mem_map.1 this
    exact ⟨x, hx, hb⟩
theorem QRel.take (h : QRel n q l) (id : Int) : qtakeM q id = rtakeM l id ∧ qtakeE q id = rtakeE l id ∧ QRel n (qtake q id) (rtake l id) := by
  unfold qtakeM qtakeE qtake rtakeM rtakeE rtake
  cases hq : qtakeI q id with
  | none =>
    cases hr : rtakeI l id with
    | none => exact ⟨rfl, rfl, h⟩
    | some i =>
      obtain ⟨hi, hb, _⟩ := List.findIdx?_eq_some_iff_getElem.1 hr
      have := (arr_perm h.pris).mem_iff.2 (List.getElem_mem hi)
      rw [← h.rel] at this
      obtain ⟨x, hx, hxe⟩ := List.mem_map.1 this
      have h2 := List.findIdx?_eq_none_iff.1 hq x hx
      rw [← hxe] at hb
      have : idB id x = true := hb
      rw [this] at h2; simp at h2
  | some k =>
    obtain ⟨hk, hkb, _⟩ := List.findIdx?_eq_some_iff_getElem.1 hq
    have he : q.l[k]? = some (itAt q.l k) := by rw [itAt_of (List.getElem?_eq_getElem hk)]; exact List.getElem?_eq_getElem hk
    have hkb2 : (itAt q.l k).m.id = id := by rw [itAt_of (List.getElem?_eq_getElem hk)]; simpa [idB] using hkb
    have hmem := h.mem (List.mem_of_getElem? he)
    cases hr : rtakeI l id with
    | none =>
      have h2 := List.findIdx?_eq_none_iff.1 hr _ hmem
      have : ridB id (toRi (itAt q.l k)) = true := by unfold ridB toRi; simp [hkb2]
      rw [this] at h2; simp at h2
    | some i =>
      obtain ⟨hil, hib, _⟩ := List.findIdx?_eq_some_iff_getElem.1 hr
      have hi : l[i]? = some (rAt l i) := by rw [rAt_of (List.getElem?_eq_getElem hil)]; exact List.getElem?_eq_getElem hil
      have hib2 : (rAt l i).m.id = id := by rw [rAt_of (List.getElem?_eq_getElem hil)]; simpa [ridB] using hib
      have hee : toRi (itAt q.l k) = rAt l i := key_eq (key := fun x : Ri => x.m.id) h.ids hmem (List.mem_of_getElem? hi) (by show (itAt q.l k).m.id = _; rw [hkb2, hib2])
      have hmm : (itAt q.l k).m = (rAt l i).m := by rw [← hee]; rfl
      refine ⟨hmm, rfl, ?_⟩
      dsimp only
      refine h.part ((List.eraseIdx_sublist _ _).map _) ?_ ((List.eraseIdx_sublist _ _).map _)
      rw [erase_by_key (key := fun x : It => x.m.id) h.qids he, erase_by_key (key := fun x : Ri => x.m.id) h.ids hi, arr_filter, ← h.rel, List.filter_map, ← hmm]
      rfl
theorem QRel.ends (h : QRel n q l) (u : Int) (back : Bool) : QRel n (qends q u back) (rends l u back) := by
  unfold qends rends
  by_cases hu : u < 0
  · rw [if_pos hu, if_pos hu]; exact h
  · rw [if_neg hu, if_neg hu]
    refine h.part ?_ ?_ ?_
    · rw [List.map_map]
      exact (List.filter_sublist).map _
    · rw [arr_map (f := rfree u) (fun _ => rfl), arr_filter, ← h.rel, List.filter_map, List.map_map, List.map_map]
      rfl
    · rw [List.map_map]
      exact (List.filter_sublist).map _
theorem QRel.kept (h : QRel n q l) : qkept q = rkept l := by
  rw [rkept_arr, ← h.rel, List.filter_map, List.map_map]; rfl
theorem QRel.putE (h : QRel n q l) (m : Ms) : qputE q m = rputE l m := by
  unfold qputE rputE
  rw [h.has, h.len_eq]
  by_cases h2 : 0 ≤ rfind l m.id <;> simp [h2]
theorem QRel.fresh (h : QRel n q l) {id : Int} (hf : ¬ 0 ≤ rfind l id) : ∀ e ∈ l, e.m.id ≠ id := fun e he hh => by
  have h1 : rfind l id = fidx (ridB id) l := rfl
  have : l.any (ridB id) = true := List.any_eq_true.2 ⟨e, he, by simp [ridB, hh]⟩
  rw [← fidx_any, ← h1] at this
  exact hf (by simpa using this)
theorem QRel.put (h : QRel n q l) (m : Ms) (u : Int) : QRel (n + 1) (qput q m u) (rput l m u) := by
  unfold qput rput
  rw [h.putE]
  by_cases h0 : rputE l m = 0
  · rw [if_pos h0, if_pos h0]
    have hr : msRight m = true := by
      cases hm : msRight m with
      | true => rfl
      | false => unfold rputE at h0; rw [hm] at h0; simp at h0
    have hf : ¬ 0 ≤ rfind l m.id := fun hh => by unfold rputE at h0; rw [hr] at h0; simp [hh] at h0
    obtain ⟨_, _, h3, h4, _⟩ := msRight_parts hr
    exact h.pushed ⟨h3, h4⟩ (h.fresh hf) u
  · rw [if_neg h0, if_neg h0]; exact h.le (by omega)
end
end WB
/- names: what Drop answers; two lists of the same names -/
namespace WB
open Go Go.RowKit
theorem KO.eqSn {P : Program} {ops : Array Oper} {d : Bool} {Q : Exit → Act → World → Prop} {n : Nat} {D : List Deferred} {w0 : World} {G : Env} {L : List HP} {l : List (Kd × Oper)} {k : Kd}
  {t : Nat} {ty T T' E : TypeId} {pos : String} {af : Array Edge} {x : Operand} {a : Option Addr} {len cap : Nat}
    (hx : ev G x = some (.slice a len cap)) (hT : P.underlying T = some (.slice E)) (ht : Nat.blt t n = true) (h : KO P ops d Q n D w0 ((t, .bool a.isNone) :: G) L l) :
    KO P ops d Q n D w0 G L ((k, ⟨some t, .binOp .eql T x (.const (.slice none 0 0)) T', ty, pos, af, none⟩) :: l) :=
  KO.val (fun a' w ha => by
    simp only [execOp, ha.eval hx, show a'.eval (.const (.slice none 0 0)) = .slice none 0 0 from rfl]
    simp [go_sem, Lib.run_eql_slice_nil w T E a len cap 0 0 hT]) ht h
end WB
namespace WB
open Go
theorem List.set_getElem_of {α : Type} {l : List α} {i : Nat} {x : α} (h : l[i]? = some x) : l.set i x = l := by
  obtain ⟨hi, rfl⟩ := List.getElem?_eq_some_iff.1 h
  exact List.set_getElem_self hi
def dropErr (l : List Nm) (s : ByteArray) : Int := if hitB l s (srchN l s) = true then 0 else 7
def dropNm (l : List Nm) (s : ByteArray) : List Nm := if hitB l s (srchN l s) = true then l.eraseIdx (srchN l s) else l
theorem dropNm_len (l : List Nm) (s : ByteArray) : (dropNm l s).length ≤ l.length := by
  unfold dropNm
  split
  · rw [List.length_eraseIdx]; split <;> omega
  · exact Nat.le_refl _
end WB
namespace WB
open Go
def ofNm (l : List Nm) (s : ByteArray) : Nm := (lk l s).getD ⟨⟨#[]⟩, ⟨#[]⟩, 0⟩
def mayErr (l : List Nm) (x : Nm) : Int := if rightNm x = false then 1 else if lk l x.name = none ∧ 20 ≤ l.length then 12 else 0
def lkLocal (l : List Nm) (s : ByteArray) : Bool := match lk l s with | some x => decide (x.tgt = ⟨#[]⟩) | none => false
def lkI (l : List Nm) (s : ByteArray) : Option Nat := l.findIdx? fun x => decide (x.name = s)
def lkDropE (l : List Nm) (s : ByteArray) : Int := match lkI l s with | some _ => 0 | none => 7
def lkDrop (l : List Nm) (s : ByteArray) : List Nm := match lkI l s with | some k => l.eraseIdx k | none => l
def lkSet (l : List Nm) (x : Nm) : List Nm := if mayErr l x = 0 then lkDrop l x.name ++ [x] else l
theorem emptyB_eq (s : ByteArray) : emptyB s = decide (s = ⟨#[]⟩) := by
  unfold emptyB
  rw [Bool.eq_iff_iff, decide_eq_true_eq, List.isEmpty_iff, ByteArray.toList_eq]
  constructor
  · intro h
    apply ByteArray.ext; apply Array.ext'; simpa using h
  · rintro rfl; rfl
theorem lk_idx {l : List Nm} {s : ByteArray} {k : Nat} {y : Nm} (hy : l[k]? = some y) (h : y.name = s) (hall : ∀ (j : Nat) z, j < k → l[j]? = some z → z.name ≠ s) : lkI l s = some k := by
  unfold lkI
  obtain ⟨hk, rfl⟩ := List.getElem?_eq_some_iff.1 hy
  rw [List.findIdx?_eq_some_iff_getElem]
  refine ⟨hk, by simpa using h, fun j hj => ?_⟩
  have := hall j l[j] hj (List.getElem?_eq_getElem _)
  simp [this]
end WB
namespace WB
open Go
instance decMemB (s : ByteArray) (l : List ByteArray) : Decidable (s ∈ l) := decidable_of_iff ((l.any fun u => decide (u = s)) = true) (by simp)
/-- what a name stands for, as the document goes on: by what was seen -/
def resR (l : List Nm) : Nat → List ByteArray → ByteArray → ByteArray × Int × Int
  | 0, _, _ => (⟨#[]⟩, 0, 11)
  | n + 1, seen, s => if s ∈ seen then (⟨#[]⟩, 0, 11) else match lk l s with
    | none => (⟨#[]⟩, 0, 7)
    | some x => if x.tgt = ⟨#[]⟩ then (s, -1, 0) else if 0 ≤ x.house then (x.tgt, x.house, 0) else resR l n (s :: seen) x.tgt
/-! two lists of the same names -/
structure NRel (l rl : List Nm) : Prop where
  sorted : Sorted l
  perm : rl.Perm l
theorem NRel.nil : NRel [] [] := ⟨sorted_nil, .refl _⟩
theorem find_nodup {l : List Nm} (h : (l.map Nm.name).Nodup) {x : Nm} (hx : x ∈ l) : lk l x.name = some x := by
  induction l with
  | nil => cases hx
  | cons a l ih =>
    rw [List.map_cons, List.nodup_cons] at h
    rw [lk_cons]
    rcases List.mem_cons.1 hx with rfl | hx
    · rw [if_pos rfl]
    · rw [if_neg (fun e : a.name = x.name => h.1 (e ▸ List.mem_map_of_mem (f := Nm.name) hx))]
      exact ih h.2 hx
theorem lk_perm {l m : List Nm} (hp : m.Perm l) (hn : (l.map Nm.name).Nodup) (s : ByteArray) : lk m s = lk l s := by
  have hn2 : (m.map Nm.name).Nodup := (hp.map Nm.name).nodup_iff.2 hn
  cases h : lk l s with
  | some x =>
    obtain ⟨h1, rfl⟩ := lk_some h
    exact find_nodup hn2 (hp.mem_iff.2 h1)
  | none =>
    cases h2 : lk m s with
    | none => rfl
    | some x =>
      obtain ⟨h1, rfl⟩ := lk_some h2
      rw [find_nodup hn (hp.mem_iff.1 h1)] at h; cases h
theorem NRel.nodup {l rl : List Nm} (h : NRel l rl) : (l.map Nm.name).Nodup := sorted_nodup h.sorted
theorem NRel.rnodup {l rl : List Nm} (h : NRel l rl) : (rl.map Nm.name).Nodup := (h.perm.map Nm.name).nodup_iff.2 h.nodup
theorem NRel.lk {l rl : List Nm} (h : NRel l rl) (s : ByteArray) : lk rl s = look l s := by rw [lk_perm h.perm h.nodup, look_sorted h.sorted]
theorem NRel.len {l rl : List Nm} (h : NRel l rl) : rl.length = l.length := h.perm.length_eq
theorem look_hit (l : List Nm) (s : ByteArray) : look l s = none ↔ hitB l s (srchN l s) = false := by
  unfold look
  cases hitB l s (srchN l s) <;> simp
theorem NRel.may {l rl : List Nm} (h : NRel l rl) (x : Nm) : mayErr rl x = setErr l x := by
  unfold mayErr setErr
  rw [h.lk, h.len]
  cases h1 : rightNm x with
  | false => simp
  | true =>
    simp only [Bool.true_eq_false, if_false]
    cases h2 : hitB l x.name (srchN l x.name) with
    | false => simp [(look_hit l x.name).2 h2]
    | true => rw [if_neg (fun e => by rw [(look_hit l x.name).1 e.1] at h2; cases h2)]; simp
theorem lkDrop_filter {l : List Nm} (hn : (l.map Nm.name).Nodup) (s : ByteArray) : lkDrop l s = l.filter fun x => !decide (x.name = s) := by
  induction l with
  | nil => rfl
  | cons a l ih =>
    rw [List.map_cons, List.nodup_cons] at hn
    unfold lkDrop lkI
    rw [List.findIdx?_cons]
    by_cases e : a.name = s
    · subst e
      simp only [decide_true, if_true, List.eraseIdx_cons_zero, List.filter_cons, Bool.not_true, Bool.false_eq_true, if_false]
      symm
      rw [List.filter_eq_self]
      intro x hx
      have : x.name ≠ a.name := fun e => hn.1 (e ▸ List.mem_map_of_mem (f := Nm.name) hx)
      simp [this]
    · have := ih hn.2
      unfold lkDrop lkI at this
      simp only [e, decide_false, Bool.false_eq_true, if_false, List.filter_cons, Bool.not_false, if_true]
      rw [← this]
      cases h : List.findIdx? (fun x : Nm => decide (x.name = s)) l <;> simp
theorem dropNm_filter {l : List Nm} (h : Sorted l) (s : ByteArray) : dropNm l s = l.filter fun x => !decide (x.name = s) := by
  unfold dropNm
  cases hh : hitB l s (srchN l s) with
  | false =>
    simp only [Bool.false_eq_true, if_false]
    symm
    rw [List.filter_eq_self]
    intro x hx
    have h1 := (look_hit l s).2 hh
    rw [look_sorted h] at h1
    unfold WB.lk at h1
    have := List.find?_eq_none.1 h1 x hx
    simpa using this
  | true =>
    simp only [if_true]
    have hlt := hit_lt hh
    have he : cmpN (nmAt l (srchN l s)).name s = 0 := by unfold hitB at hh; rw [Bool.and_eq_true] at hh; simpa using hh.2
    have hn := cmpN_eq he
    rw [← lkDrop_filter (sorted_nodup h) s]
    unfold lkDrop
    have hi : lkI l s = some (srchN l s) := by
      refine lk_idx (y := nmAt l (srchN l s)) (by simp [nmAt, List.getD_eq_getElem?_getD, hlt]) hn fun j z hj hz hzn => ?_
      obtain ⟨hjl, rfl⟩ := List.getElem?_eq_some_iff.1 hz
      have := List.pairwise_iff_getElem.1 h j (srchN l s) hjl hlt hj
      rw [hzn] at this
      have e2 : l[srchN l s] = nmAt l (srchN l s) := by simp [nmAt, List.getD_eq_getElem?_getD, hlt]
      rw [e2, hn, cmpN_self] at this
      omega
    rw [hi]
theorem NRel.drop {l rl : List Nm} (h : NRel l rl) (s : ByteArray) : NRel (dropNm l s) (lkDrop rl s) := by
  rw [dropNm_filter h.sorted, lkDrop_filter h.rnodup]
  exact ⟨List.Pairwise.sublist List.filter_sublist h.sorted, h.perm.filter _⟩
theorem insN_perm (x : Nm) : ∀ {l : List Nm}, Sorted l → (l.filter (fun y => !decide (y.name = x.name)) ++ [x]).Perm (insN x l) := by
  intro l h
  have h1 : (insN x l).filter (fun y => !decide (y.name = x.name)) = l.filter (fun y => !decide (y.name = x.name)) := by
    refine sorted_ext (List.Pairwise.sublist List.filter_sublist (insN_sorted h)) (List.Pairwise.sublist List.filter_sublist h) fun s => ?_
    have key : ∀ m : List Nm, WB.lk (m.filter fun y => !decide (y.name = x.name)) s = if s = x.name then none else WB.lk m s := fun m => by
      induction m with
      | nil => by_cases e : s = x.name <;> simp [WB.lk]
      | cons a m ih =>
        rw [List.filter_cons]
        by_cases e : a.name = x.name
        · simp only [e, decide_true, Bool.not_true, Bool.false_eq_true, if_false]
          rw [ih, lk_cons]
          by_cases e2 : s = x.name
          · simp [e2]
          · rw [if_neg e2, if_neg e2, if_neg (fun e3 => e2 (e3.symm.trans e))]
        · simp only [e, decide_false, Bool.not_false, if_true]
          rw [lk_cons, lk_cons, ih]
          by_cases e2 : s = x.name
          · subst e2; simp [e]
          · simp [e2]
    rw [key, key, lk_insN]
    by_cases e : s = x.name
    · simp [e]
    · rw [if_neg e, if_neg e, if_neg (fun e2 => e e2.symm)]
  have hx : x ∈ insN x l := (lk_some (show WB.lk (insN x l) x.name = some x by rw [lk_insN, if_pos rfl])).1
  have hnd := sorted_nodup (insN_sorted (x := x) h)
  rw [← h1]
  generalize insN x l = m at *
  clear h1
  induction m with
  | nil => cases hx
  | cons a m ih =>
    rw [List.map_cons, List.nodup_cons] at hnd
    rw [List.filter_cons]
    by_cases e : a.name = x.name
    · have hax : a = x := by
        rcases List.mem_cons.1 hx with rfl | hx
        · rfl
        · exact absurd (e ▸ List.mem_map_of_mem (f := Nm.name) hx) hnd.1
      subst hax
      simp only [decide_true, Bool.not_true, Bool.false_eq_true, if_false]
      rw [List.filter_eq_self.2]
      · exact List.perm_append_comm
      · intro y hy
        have : y.name ≠ a.name := fun e => hnd.1 (e ▸ List.mem_map_of_mem (f := Nm.name) hy)
        simp [this]
    · simp only [e, decide_false, Bool.not_false, if_true, List.cons_append]
      rcases List.mem_cons.1 hx with rfl | hx
      · exact absurd rfl e
      · exact (ih hx hnd.2).cons a
theorem NRel.set {l rl : List Nm} (h : NRel l rl) (x : Nm) : NRel (setNm l x) (lkSet rl x) := by
  unfold lkSet
  rw [h.may]
  by_cases h0 : setErr l x = 0
  · rw [if_pos h0]
    have hr : rightNm x = true := by
      cases hr : rightNm x with
      | true => rfl
      | false => unfold setErr at h0; rw [if_pos hr] at h0; cases h0
    have e1 : setNm l x = insN x l := by
      rw [← put_insN]
      unfold setErr at h0
      unfold setNm
      rw [if_neg (by simp [hr])] at h0 ⊢
      by_cases h2 : hitB l x.name (srchN l x.name) = true
      · rw [if_pos h2, if_pos h2]
      · rw [if_neg h2] at h0 ⊢
        rw [if_neg h2]
        by_cases h3 : 20 ≤ l.length
        · rw [if_pos h3] at h0; cases h0
        · rw [if_neg h3]
    rw [e1]
    refine ⟨insN_sorted h.sorted, ?_⟩
    rw [lkDrop_filter h.rnodup]
    exact ((h.perm.filter _).append_right _).trans (insN_perm x h.sorted)
  · rw [if_neg h0]
    have e1 : setNm l x = l := by
      unfold setErr at h0
      unfold setNm
      by_cases hr : rightNm x = false
      · rw [if_pos hr]
      · rw [if_neg hr] at h0 ⊢
        by_cases h2 : hitB l x.name (srchN l x.name) = true
        · rw [if_pos h2] at h0; exact absurd rfl h0
        · rw [if_neg h2] at h0 ⊢
          by_cases h3 : 20 ≤ l.length
          · rw [if_pos h3]
          · rw [if_neg h3] at h0; exact absurd rfl h0
    rw [e1]; exact h
theorem NRel.all {l rl ys : List Nm} (h : NRel l rl) (hp : ys.Perm rl) (hs : ys.Pairwise fun a b => decide (cmpN b.name a.name < 0) = false) : ys = l := by
  have hn : (ys.map Nm.name).Nodup := (hp.map Nm.name).nodup_iff.2 h.rnodup
  have hs2 : Sorted ys := by
    unfold Sorted
    have hn2 : ys.Pairwise fun a b => a.name ≠ b.name := by
      have := List.nodup_iff_pairwise_ne.1 hn
      rwa [List.pairwise_map] at this
    refine (hs.and hn2).imp fun {a b} hab => ?_
    obtain ⟨h1, h2⟩ := hab
    have h3 : ¬ cmpN b.name a.name < 0 := by simpa using h1
    have h4 : cmpN a.name b.name ≠ 0 := fun e => h2 (cmpN_eq e)
    have := cmpN_anti a.name b.name
    omega
  exact sorted_ext hs2 h.sorted fun s => by rw [lk_perm (hp.trans h.perm) h.nodup]
end WB
namespace WB
deriving instance DecidableEq for Nm
end WB
/- queues: bounds that outlive whatever is done -/
namespace WB
open Go
/-- n bounds a queue's length and its line's numbers -/
structure QB (n : Nat) (q : Qu) : Prop where
  ord : q.l.Pairwise QOrd
  lines : ∀ e ∈ q.l, 0 ≤ e.line ∧ e.line < q.next
  pris : ∀ e ∈ q.l, 0 ≤ e.m.pri ∧ e.m.pri ≤ 9
  len : q.l.length ≤ n
  next : 0 ≤ q.next ∧ q.next ≤ n
section
variable {n : Nat} {q : Qu} {m : Ms} {u : Int}
theorem QB.nil : QB n ⟨[], 0⟩ := ⟨.nil, (fun _ h => by cases h), (fun _ h => by cases h), by simp, by dsimp only; omega⟩
theorem QB.le (h : QB n q) {k : Nat} (hk : n ≤ k) : QB k q := ⟨h.ord, h.lines, h.pris, Nat.le_trans h.len hk, by have := h.next; omega⟩
theorem QB.cmp (h : QB n q) (m : Ms) (u : Int) {e : It} (he : e ∈ q.l) : cmpIt e (qitem q m u) < 0 ↔ m.pri ≤ e.m.pri := by
  have := h.lines e he
  unfold cmpIt compI qitem
  dsimp only
  split <;> omega
theorem QB.ok (h : QB n q) (hn : n < 100000) : QuOk q := by
  have hl2 := h.len
  refine ⟨by omega, fun e he => ?_, ⟨h.next.1, by have := h.next; omega⟩, fun m u i j a b hij ha hb hlt => ?_⟩
  · have h1 := h.pris e he; have h2 := h.lines e he; have h3 := h.next
    unfold smallIt small; omega
  · have ma := List.mem_of_getElem? ha
    have mb := List.mem_of_getElem? hb
    rw [h.cmp m u ma]
    rw [h.cmp m u mb] at hlt
    rcases Nat.lt_or_ge i j with hlt2 | hge
    · obtain ⟨hi, rfl⟩ := List.getElem?_eq_some_iff.1 ha
      obtain ⟨hj, rfl⟩ := List.getElem?_eq_some_iff.1 hb
      have := List.pairwise_iff_getElem.1 h.ord i j hi hj hlt2
      unfold QOrd at this
      omega
    · obtain rfl : i = j := by omega
      rw [ha] at hb; cases hb; exact hlt
theorem QB.push (h : QB n q) (m : Ms) (u : Int) : (qpush q m u).l = q.l.filter (fun e => decide (m.pri ≤ e.m.pri)) ++ qitem q m u :: q.l.filter (fun e => !decide (m.pri ≤ e.m.pri)) := by
  have hc : (q.l.takeWhile fun e => decide (cmpIt e (qitem q m u) < 0)) = q.l.takeWhile fun e => decide (m.pri ≤ e.m.pri) := by
    have : ∀ l : List It, (∀ e ∈ l, e ∈ q.l) → (l.takeWhile fun e => decide (cmpIt e (qitem q m u) < 0)) = l.takeWhile fun e => decide (m.pri ≤ e.m.pri) := by
      intro l
      induction l with
      | nil => intro _; rfl
      | cons a l ih =>
        intro hl
        have e1 : decide (cmpIt a (qitem q m u) < 0) = decide (m.pri ≤ a.m.pri) := decide_eq_decide.2 (h.cmp m u (hl a (by simp)))
        simp only [List.takeWhile_cons, e1, ih fun e he => hl e (by simp [he])]
    exact this q.l fun _ h => h
  obtain ⟨t1, t2⟩ := take_len_while (fun e : It => decide (m.pri ≤ e.m.pri)) q.l
  obtain ⟨f1, f2⟩ := take_while_filter (p := fun e : It => decide (m.pri ≤ e.m.pri)) (l := q.l) (h.ord.imp fun {x y} hxy hy => by
    unfold QOrd at hxy; simp at hy ⊢; omega)
  unfold qpush srchIt
  dsimp only
  rw [hc, t1, t2, f1, f2]
theorem QB.pushed (h : QB n q) (hp : 0 ≤ m.pri ∧ m.pri ≤ 9) (u : Int) : QB (n + 1) (qpush q m u) := by
  have hl2 : ∀ e ∈ (qpush q m u).l, e = qitem q m u ∨ e ∈ q.l := fun e he => by
    rw [h.push] at he
    simp only [List.mem_append, List.mem_cons, List.mem_filter] at he
    rcases he with ⟨a, _⟩ | a | ⟨a, _⟩
    · exact .inr a
    · exact .inl a
    · exact .inr a
  have hnx : (qpush q m u).next = q.next + 1 := rfl
  refine ⟨?_, fun e he => ?_, fun e he => ?_, ?_, by have := h.next; rw [hnx]; omega⟩
  · rw [h.push, List.pairwise_append, List.pairwise_cons]
    refine ⟨h.ord.sublist List.filter_sublist, ⟨fun e he => ?_, h.ord.sublist List.filter_sublist⟩, fun a ha b hb => ?_⟩
    · obtain ⟨h1, h2⟩ := List.mem_filter.1 he
      simp at h2
      left; unfold qitem; dsimp only; omega
    · obtain ⟨h1, h2⟩ := List.mem_filter.1 ha
      have i1 := h.lines a h1
      simp at h2
      rcases List.mem_cons.1 hb with rfl | hb
      · unfold QOrd qitem; dsimp only; omega
      · obtain ⟨h3, h4⟩ := List.mem_filter.1 hb
        simp at h4
        left; omega
  · rw [hnx]
    rcases hl2 e he with rfl | h1
    · have := h.next; unfold qitem; dsimp only; omega
    · have := h.lines e h1; omega
  · rcases hl2 e he with rfl | h1
    · exact hp
    · exact h.pris e h1
  · have := h.len
    unfold qpush
    dsimp only
    have h2 := srchIt_le q.l (qitem q m u)
    simp; omega
theorem QB.part (h : QB n q) {ql : List It} (hs : (ql.map ml).Sublist (q.l.map ml)) : QB n ⟨ql, q.next⟩ := by
  have hm : ∀ e ∈ ql, ∃ e' ∈ q.l, e'.m = e.m ∧ e'.line = e.line := fun e he => by
    obtain ⟨e', h1, h2⟩ := List.mem_map.1 (hs.subset (List.mem_map_of_mem (f := ml) he))
    exact ⟨e', h1, by simpa [ml] using h2⟩
  refine ⟨?_, fun e he => ?_, fun e he => ?_, ?_, h.next⟩
  · have h1 : (q.l.map ml).Pairwise fun x y => y.1.pri < x.1.pri ∨ (x.1.pri = y.1.pri ∧ x.2 < y.2) := List.pairwise_map.2 h.ord
    have h2 := h1.sublist hs
    rw [List.pairwise_map] at h2
    exact h2
  · obtain ⟨e', h1, _, h2⟩ := hm e he; rw [← h2]; exact h.lines e' h1
  · obtain ⟨e', h1, h2, _⟩ := hm e he; rw [← h2]; exact h.pris e' h1
  · have := hs.length_le; have := h.len; simp at *; omega
theorem QB.take (h : QB n q) (id : Int) : QB n (qtake q id) := by
  unfold qtake
  split
  · exact h
  · exact h.part ((List.eraseIdx_sublist _ _).map _)
theorem set_ml {l : List It} {k : Nat} {x : It} (h : ∀ e, l[k]? = some e → ml x = ml e) : (l.set k x).map ml = l.map ml := by
  apply List.ext_getElem?
  intro j
  rw [List.getElem?_map, List.getElem?_map, List.getElem?_set]
  by_cases e : k = j
  · subst e
    rw [if_pos rfl]
    by_cases hk : k < l.length
    · rw [if_pos hk, Option.map_some, List.getElem?_eq_getElem hk, Option.map_some, h _ (List.getElem?_eq_getElem hk)]
    · rw [if_neg hk, List.getElem?_eq_none (by omega)]
  · rw [if_neg e]
theorem QB.get (h : QB n q) (u : Int) : QB n (qget q u) := by
  unfold qget
  split
  · exact h
  · split
    · exact h.part ((List.eraseIdx_sublist _ _).map _)
    · refine h.part ?_
      rw [set_ml fun e he => by rw [itAt_of he]; rfl]
      exact .refl _
theorem QB.ends (h : QB n q) (u : Int) (b : Bool) : QB n (qends q u b) := by
  unfold qends
  split
  · exact h
  · refine h.part ?_
    rw [List.map_map, show ml ∘ freeIt u = ml from rfl]
    exact List.filter_sublist.map _
theorem QB.put (h : QB n q) (m : Ms) (u : Int) : QB (n + 1) (qput q m u) := by
  unfold qput
  split
  · rename_i h0
    refine h.pushed ?_ u
    unfold qputE at h0
    cases hr : msRight m with
    | false => rw [if_pos hr] at h0; cases h0
    | true => exact ⟨(msRight_parts hr).2.2.1, (msRight_parts hr).2.2.2.1⟩
  · exact h.le (Nat.le_succ n)
end
end WB
/- the house: numbers of 64 bits, rules; sealed texts; the disk -/
namespace WB
open Go Go.RowKit
def xorI (a c : Int) : Int := IntKind.u64.wrap ((BitVec.ofInt 64 a ^^^ BitVec.ofInt 64 c).toNat : Nat)
def mulI (a c : Int) : Int := IntKind.u64.wrap (a * c)
theorem wrap_u64 (n : Int) : 0 ≤ IntKind.u64.wrap n ∧ IntKind.u64.wrap n ≤ 18446744073709551615 := by
  have e : IntKind.u64.wrap n = n % 18446744073709551616 := by simp [IntKind.wrap, IntKind.bits, IntKind.signed]
  rw [e]; omega
section
variable {P : Program} {ops : Array Oper} {d : Bool} {Q : Exit → Act → World → Prop} {n : Nat} {D : List Deferred} {w0 : World} {G : Env} {L R : List HP} {l : List (Kd × Oper)} {k : Kd}
  {t : Nat} {op : Op} {ty T T' E : TypeId} {pos : String} {af : Array Edge} {x y z : Operand} {a c r : Int} {kk yk : IntKind}
theorem KO.xorU (hx : ev G x = some (.int .u64 a)) (hy : ev G y = some (.int .u64 c)) (ht : Nat.blt t n = true) (h : KO P ops d Q n D w0 ((t, .int .u64 (xorI a c)) :: G) L l) :
    KO P ops d Q n D w0 G L ((k, ⟨some t, .binOp .xor T x y T', ty, pos, af, none⟩) :: l) :=
  KO.val (fun a' w ha => by simp [execOp, ha.eval hx, ha.eval hy, eqGuard_at_int, binOp_xor, Op.intBits, xorI]; rfl) ht h
theorem KO.mulU (hx : ev G x = some (.int .u64 a)) (hy : ev G y = some (.int .u64 c)) (ht : Nat.blt t n = true) (h : KO P ops d Q n D w0 ((t, .int .u64 (mulI a c)) :: G) L l) :
    KO P ops d Q n D w0 G L ((k, ⟨some t, .binOp .mul T x y T', ty, pos, af, none⟩) :: l) :=
  KO.val (fun a' w ha => by simp [execOp, ha.eval hx, ha.eval hy, eqGuard_at_int, binOp_mul, Op.intArith, mulI]) ht h
theorem KO.eqPn {ad : Addr} (hx : ev G x = some (.pointer (some ad))) (hT : P.underlying T = some (.pointer E)) (ht : Nat.blt t n = true) (h : KO P ops d Q n D w0 ((t, .bool false) :: G) L l) :
    KO P ops d Q n D w0 G L ((k, ⟨some t, .binOp .eql T x (.const (.pointer none)) T', ty, pos, af, none⟩) :: l) :=
  KO.val (fun a w ha => by
    simp only [execOp, ha.eval hx, show a.eval (.const (.pointer none)) = .pointer none from rfl]
    simp [go_sem, hT]) ht h
theorem KO.eqP0 (hx : ev G x = some (.pointer none)) (hT : P.underlying T = some (.pointer E)) (ht : Nat.blt t n = true) (h : KO P ops d Q n D w0 ((t, .bool true) :: G) L l) :
    KO P ops d Q n D w0 G L ((k, ⟨some t, .binOp .eql T x (.const (.pointer none)) T', ty, pos, af, none⟩) :: l) :=
  KO.val (fun a w ha => by
    simp only [execOp, ha.eval hx, show a.eval (.const (.pointer none)) = .pointer none from rfl]
    simp [go_sem, hT]) ht h
theorem KO.shr3 (hx : ev G x = some (.int .u64 a)) (hy : ev G y = some (.int yk 3)) (ht : Nat.blt t n = true) (h : KO P ops d Q n D w0 ((t, .int .u64 (a / 8)) :: G) L l) :
    KO P ops d Q n D w0 G L ((k, ⟨some t, .binOp .shr T x y T', ty, pos, af, none⟩) :: l) :=
  KO.val (fun a' w ha => by simp [execOp, ha.eval hx, ha.eval hy, eqGuard_at_int, binOp_shr, shift_shr_u64]) ht h
theorem KO.b2u (hx : ev G x = some (.int .u8 a)) (hs : (P.underlying T).isSome = true) (hd : P.underlying T' = some (.int .u64)) (h0 : 0 ≤ a ∧ a ≤ 18446744073709551615) (ht : Nat.blt t n = true) (h : KO P ops d Q n D w0 ((t, .int .u64 a) :: G) L l) :
    KO P ops d Q n D w0 G L ((k, ⟨some t, .convert T T' x, ty, pos, af, none⟩) :: l) :=
  KO.val (fun a' w ha => by
    have := run_convert_int (P := P) w T T' .u8 a hs (by rw [hd]; simp [Program.intKind, hd])
    simp [Program.intKind, hd, wrapU h0.1 h0.2] at this
    simp [execOp, ha.eval hx, this]) ht h
theorem KO.min2 {ts : Array TypeId} (hx : ev G x = some (.int .i64 a)) (hy : ev G y = some (.int .i64 c)) (hr : min a c = r) (ht : Nat.blt t n = true) (h : KO P ops d Q n D w0 ((t, .int .i64 r) :: G) L l) :
    KO P ops d Q n D w0 G L ((k, ⟨some t, .call ⟨.builtin .min, #[x, y], ts⟩, ty, pos, af, none⟩) :: l) :=
  KO.val (fun a' w ha => by
    subst hr
    simp [execOp, resolve, invoke, builtin, ha.eval hx, ha.eval hy, Builtin.min_, Builtin.min2]
    rw [Int.min_def]; split <;> split <;> first | rfl | omega) ht h
theorem KO.div (hx : ev G x = some (.int .i64 a)) (hy : ev G y = some (.int .i64 c)) (hc : 0 < c) (ha0 : 0 ≤ a) (ha1 : a ≤ 9223372036854775807) (ht : Nat.blt t n = true) (h : KO P ops d Q n D w0 ((t, .int .i64 (a / c)) :: G) L l) :
    KO P ops d Q n D w0 G L ((k, ⟨some t, .binOp .quo T x y T', ty, pos, af, none⟩) :: l) :=
  KO.val (fun a' w ha => by
    have e : a.tdiv c = a / c := Int.tdiv_eq_ediv_of_nonneg ha0
    have h1 : 0 ≤ a / c := Int.ediv_nonneg ha0 (by omega)
    have h2 : a / c ≤ a := Int.ediv_le_self _ ha0
    have h3 : c ≠ 0 := by omega
    simp [execOp, ha.eval hx, ha.eval hy, eqGuard_at_int, binOp_quo, Op.intDiv, h3, e, wrapI (by omega : -9223372036854775808 ≤ a / c) (by omega)]) ht h
theorem KO.rem (hx : ev G x = some (.int .i64 a)) (hy : ev G y = some (.int .i64 c)) (hc : 0 < c) (ha0 : 0 ≤ a) (ht : Nat.blt t n = true) (h : KO P ops d Q n D w0 ((t, .int .i64 (a % c)) :: G) L l) :
    KO P ops d Q n D w0 G L ((k, ⟨some t, .binOp .rem T x y T', ty, pos, af, none⟩) :: l) :=
  KO.val (fun a' w ha => by
    have e : a.tmod c = a % c := Int.tmod_eq_emod_of_nonneg ha0
    have h3 : c ≠ 0 := by omega
    simp [execOp, ha.eval hx, ha.eval hy, eqGuard_at_int, binOp_rem, Op.intDiv, h3, e]) ht h
end
/-! texts -/
def noB (c : UInt8) (s : ByteArray) : Prop := ∀ b ∈ s.data.toList, b ≠ c
theorem noB_app {c : UInt8} {a b : ByteArray} (ha : noB c a) (hb : noB c b) : noB c (a ++ b) := fun x hx => by
  rw [show (a ++ b).data.toList = a.data.toList ++ b.data.toList by simp] at hx
  rcases List.mem_append.1 hx with h | h
  · exact ha x h
  · exact hb x h
def cutB (c : UInt8) (s : ByteArray) : ByteArray × ByteArray × Bool := (toB (Lib.cut s.data.toList [c]).1, toB (Lib.cut s.data.toList [c]).2.1, (Lib.cut s.data.toList [c]).2.2)
def chr1 (c : UInt8) : ByteArray := ⟨#[c]⟩
def sumF (n : Int) (b : UInt8) : Int := mulI (xorI n (b.toNat : Nat)) 1099511628211
def sumL (l : List UInt8) : Int := l.foldl sumF 14695981039346656037
def sumS (s : ByteArray) : Int := sumL s.data.toList / 8
theorem sumL_bound (l : List UInt8) : 0 ≤ sumL l ∧ sumL l ≤ 18446744073709551615 := by
  unfold sumL
  rcases List.eq_nil_or_concat l with rfl | ⟨r, b, rfl⟩
  · decide
  · rw [List.concat_eq_append, List.foldl_append]; exact wrap_u64 _
theorem sumS_bound (s : ByteArray) : 0 ≤ sumS s ∧ sumS s ≤ 2305843009213693951 := by
  have := sumL_bound s.data.toList
  unfold sumS; omega
def sealT (k : Int) (s : ByteArray) : ByteArray := itoaS k ++ chr1 124 ++ s
def sealS (k : Int) (s : ByteArray) : ByteArray := sealT k s ++ chr1 124 ++ itoaS (sumS (sealT k s))
def openS (k : Int) (t : ByteArray) : Option ByteArray := match pcs 124 t with
  | [_, w, _] => if sealS k w = t then some w else none
  | _ => none
/-- the disk -/
structure Dk where
  places : List ByteArray
  cut : Bool
  left : Int
def dkNew : Dk := ⟨List.replicate 300 ⟨#[]⟩, false, 0⟩
def dkCut (D : Dk) (n : Int) : Dk := { D with cut := decide (0 ≤ n), left := max n 0 }
def dkTorn (s : ByteArray) (torn : Int) : ByteArray := s.extract 0 (min torn ((s.size : Int) - 1)).toNat
def dkOff (D : Dk) : Bool := D.cut && decide (D.left = 0)
def dkWrite (D : Dk) (k : Nat) (s : ByteArray) (torn : Int) : Dk :=
  if dkOff D = true then (if 0 ≤ torn then { D with places := D.places.set k (dkTorn s torn) } else D) else { D with left := D.left - 1, places := D.places.set k s }
def dkErr (D : Dk) : Int := if dkOff D = true then 14 else 0
end WB
/- house: sum, sealed, opened; the disk -/
namespace Go.Proofs.YtjhogocabcdjbabGreatDoor
open Go Go.RowKit WB
theorem sum_e (w0 : World) (L : List HP) (s : ByteArray) (hs : s.size ≤ 1000000) : KE Tryz.prog 232 #[.string s] w0 L (fun u M => u = .int .i64 (sumS s) ∧ M = L) := by
  refine KE.mk (n := 21) Tryz.func232 rfl Tryz.ntmps232 (by simp) ?_
  intro w hw
  repeat ((with_reducible refine K.seq ?_))
  refine K.reg ?_
  refine KO.as rfl rfl ?_
  refine KO.nil ?_
  repeat (first | (with_reducible refine K.seq ?_) | (with_reducible refine KQ.next ?_))
  refine K.reg ?_
  refine KO.as rfl rfl ?_
  refine KO.nil ?_
  repeat (first | (with_reducible refine K.seq ?_) | (with_reducible refine KQ.next ?_))
  refine K.reg ?_
  refine KO.mv rfl rfl ?_
  refine KO.lenS rfl Tryz.underlying9 rfl ?_
  refine KO.mv rfl rfl ?_
  refine KO.nil ?_
  repeat (first | (with_reducible refine KQ.next ?_) | (with_reducible refine K.block ?_))
  refine K.loop (fun k : Nat => [(0, .string s), (3, .int .u64 (sumL (s.data.toList.take k))), (6, .int .i64 (s.size : Nat)), (7, .int .i64 (k : Nat))]) (fun _ => []) (fun k => k ≤ s.size) (fun k => s.size - k) 0
    (Nat.zero_le _) ⟨rfl, rfl, rfl, rfl, trivial⟩ (fun _ h => h) ?_
  rintro k hk
  repeat ((with_reducible refine K.seq ?_))
  refine K.reg ?_
  refine KO.lss rfl rfl rfl ?_
  refine KO.nil ?_
  repeat (first | (with_reducible refine K.seq ?_) | (with_reducible refine KQ.next ?_))
  refine K.condD rfl (fun h => ?_) (fun h => ?_)
  · obtain ⟨b, hb, hb2⟩ : ∃ e, s[k]? = some e ∧ s.data.toList[k]? = some e := ⟨s[k]'(by omega), by simp, by simp [ByteArray.getElem_eq_getElem_data]⟩
    repeat (first | (with_reducible refine K.seq ?_) | (with_reducible refine KQ.next ?_) | (with_reducible refine K.skip ?_) | (with_reducible refine K.block ?_))
    refine K.reg ?_
    refine KO.mv rfl rfl ?_
    refine KO.as rfl rfl ?_
    refine KO.nil ?_
    repeat ((with_reducible refine KQ.next ?_))
    refine K.reg ?_
    refine KO.mv rfl rfl ?_
    refine KO.mv rfl rfl ?_
    refine KO.mv rfl rfl ?_
    refine KO.idxStr rfl rfl Tryz.underlying9 (by exact rfl) (by assumption) rfl ?_
    refine KO.b2u rfl (by rw [Tryz.underlying5]; rfl) Tryz.underlying224 (by have := b.toNat_lt; omega) rfl ?_
    refine KO.xorU rfl rfl rfl ?_
    refine KO.mulU rfl rfl rfl ?_
    refine KO.as rfl rfl ?_
    refine KO.nil ?_
    repeat (first | (with_reducible refine KQ.next ?_) | (with_reducible refine KQ.blk_normal ?_))
    refine K.reg ?_
    refine KO.add rfl rfl rfl (by omega) rfl ?_
    refine KO.mv rfl rfl ?_
    refine KO.nil ?_
    refine KQ.round (k + 1) (by omega) (by omega) ⟨rfl, ?_, rfl, rfl, trivial⟩ (fun _ h => h)
    simp only [envAt]
    rw [take_succ_some hb2]
    unfold sumL
    rw [List.foldl_append]; rfl
  · repeat (first | (with_reducible refine K.seq ?_) | (with_reducible refine KQ.next ?_) | (with_reducible refine KQ.then_exit ?_) | (with_reducible refine KQ.blk_exit ?_) | (with_reducible refine K.exit ?_))
    have hkk : k = s.size := by omega
    subst hkk
    have hb := sumL_bound s.data.toList
    have e1 : s.data.toList.take s.size = s.data.toList := List.take_of_length_le (by simp)
    rw [e1]
    refine K.reg ?_
    refine KO.mv rfl rfl ?_
    refine KO.shr3 rfl rfl rfl ?_
    refine KO.u2i rfl (by rw [Tryz.underlying224]; rfl) Tryz.underlying3 (by omega) rfl ?_
    refine KO.as rfl rfl ?_
    refine KO.nil ?_
    repeat (first | (with_reducible refine KQ.next ?_) | (with_reducible refine K.ret ?_))
    refine KQ.ret1 rfl rfl (fun w' hs => ⟨_, _, rfl, ⟨rfl, rfl⟩, hw.below_step hs.below, hs.below⟩)
theorem sealed_e (w0 : World) (L : List HP) (k : Int) (s : ByteArray) (hk : intB k) (hs : s.size ≤ 900000) (hT : Tab w0) : KE Tryz.prog 134 #[.int .i64 k, .string s] w0 L (fun u M => u = .string (sealS k s) ∧ M = L) := by
  refine KE.mk (n := 17) Tryz.func134 rfl Tryz.ntmps134 (by simp) ?_
  intro w hw
  have hT := hT.ext (Ext.of_below hw.below)
  have h1 := itoaS_size hk
  have h2 := sumS_bound (sealT k s)
  have h3 := itoaS_size (n := sumS (sealT k s)) ⟨by omega, by omega⟩
  have hb1 : (⟨#[124]⟩ : ByteArray).size = 1 := rfl
  have hb2 : (chr1 124).size = 1 := rfl
  have hc1 : (itoaS k ++ ⟨#[124]⟩ : ByteArray).size = (itoaS k).size + 1 := by rw [ByteArray.size_append, hb1]
  have hc2 : (sealT k s ++ ⟨#[124]⟩ : ByteArray).size = (sealT k s).size + 1 := by rw [ByteArray.size_append, hb1]
  have h4 : (sealT k s).size ≤ 900022 := by unfold sealT; simp only [ByteArray.size_append]; omega
  repeat ((with_reducible refine K.seq ?_))
  refine K.reg ?_
  refine KO.as rfl rfl ?_
  refine KO.nil ?_
  repeat (first | (with_reducible refine K.seq ?_) | (with_reducible refine KQ.next ?_))
  refine K.reg ?_
  refine KO.mv rfl rfl ?_
  refine KO.ce (cp := []) rfl rfl rfl Tryz.call59 rfl (itoa_e w _ k hT hk) ?_; rintro v' L' ⟨rfl, rfl⟩
  refine KO.cat rfl rfl (by omega) rfl ?_
  refine KO.mv rfl rfl ?_
  refine KO.cat rfl rfl (by omega) rfl ?_
  refine KO.as rfl rfl ?_
  refine KO.nil ?_
  repeat (first | (with_reducible refine K.seq ?_) | (with_reducible refine KQ.next ?_))
  rw [show itoaS k ++ ⟨#[124]⟩ ++ s = sealT k s from rfl]
  refine K.reg ?_
  refine KO.mv rfl rfl ?_
  refine KO.cat rfl rfl (by omega) rfl ?_
  refine KO.mv rfl rfl ?_
  refine KO.ce (cp := []) rfl rfl rfl Tryz.call232 rfl (sum_e w _ _ (by omega)) ?_; rintro v' L' ⟨rfl, rfl⟩
  refine KO.ce (cp := []) rfl rfl rfl Tryz.call59 rfl (itoa_e w _ _ hT ⟨by omega, by omega⟩) ?_; rintro v' L' ⟨rfl, rfl⟩
  refine KO.cat rfl rfl (by omega) rfl ?_
  refine KO.as rfl rfl ?_
  refine KO.nil ?_
  repeat (first | (with_reducible refine KQ.next ?_) | (with_reducible refine K.ret ?_))
  refine KQ.ret1 rfl rfl (fun w' hs => ⟨_, _, rfl, ⟨rfl, rfl⟩, hw.below_step hs.below, hs.below⟩)
theorem opened_e (w0 : World) (L : List HP) (k : Int) (t : ByteArray) (hk : intB k) (ht : t.size ≤ 800000) (hT : Tab w0) (hM : Lim w0) :
    KE Tryz.prog 52 #[.int .i64 k, .string t] w0 L (fun u M => u = .tuple #[.string ((openS k t).getD ⟨#[]⟩), .bool (openS k t).isSome] ∧ M = L) := by
  refine KE.mk (n := 24) Tryz.func52 rfl Tryz.ntmps52 (by simp) ?_
  intro w hw
  have hT := hT.ext (Ext.of_below hw.below)
  have hM := hM.ext (Ext.of_below hw.below)
  have hsz : ∀ p ∈ pcs 124 t, p.size ≤ t.size := fun p hp => pcs_size hp
  repeat ((with_reducible refine K.seq ?_))
  refine K.reg ?_
  refine KO.as rfl rfl ?_
  refine KO.as rfl rfl ?_
  refine KO.nil ?_
  repeat (first | (with_reducible refine K.seq ?_) | (with_reducible refine KQ.next ?_))
  refine K.reg ?_
  refine KO.mv rfl rfl ?_
  refine KO.ce (cp := []) rfl rfl rfl Tryz.call133 rfl (split_e w _ t 124 (by omega) hM) ?_; rintro v' L' ⟨bq, rfl, rfl⟩
  refine KO.as rfl rfl ?_
  refine KO.nil ?_
  repeat (first | (with_reducible refine K.seq ?_) | (with_reducible refine KQ.next ?_))
  have hno : (∀ a b c, pcs 124 t ≠ [a, b, c]) → openS k t = none := fun h => by
    unfold openS
    split
    · rename_i a b c e; exact absurd e (h a b c)
    · rfl
  by_cases h3 : (pcs 124 t).length = 3
  · obtain ⟨wa, wb, wc, he⟩ : ∃ a b c, pcs 124 t = [a, b, c] := by
      match h : pcs 124 t, h3 with
      | [a, b, c], _ => exact ⟨a, b, c, rfl⟩
    rw [he]
    have hwb : wb.size ≤ 800000 := by have := hsz wb (by rw [he]; simp); omega
    by_cases hse : sealS k wb = t
    · have ho : openS k t = some wb := by unfold openS; rw [he]; simp [hse]
      rw [ho]
      refine K.reg ?_
      refine KO.mv rfl rfl ?_
      refine KO.len rfl Tryz.underlying115 rfl ?_
      refine KO.neI rfl rfl rfl ?_
      refine KO.mv rfl rfl ?_
      (refine KO.on rfl rfl ?_ ?_; (focus rfl); (refine KO.mv rfl rfl ?_))
      (refine KO.on rfl rfl ?_ ?_; (focus rfl); (refine KO.mv rfl rfl ?_))
      refine KO.on rfl rfl (by simp) ?_; refine KO.idx0 (i := 1) rfl rfl Tryz.runUnderlying115 Tryz.sizeOf9 rfl (by simp) rfl ?_
      refine KO.on rfl rfl (by simp) ?_; refine KO.ldE0 (i := 1) (sz := 1) (cf := strC) (e := wb) rfl rfl Tryz.isAgg9 (by with_reducible (repeat (exact Pick.head))) (fun _ => rfl) rfl (by exact rfl) (by exact rfl) rfl ?_
      refine KO.on rfl rfl (by simp) ?_; refine KO.ce (cp := []) rfl rfl rfl Tryz.call134 rfl (sealed_e w _ k wb hk (by omega) hT) ?_; rintro v' L' ⟨rfl, rfl⟩
      (refine KO.on rfl rfl ?_ ?_; (focus rfl); (refine KO.mv rfl rfl ?_))
      (refine KO.on rfl rfl ?_ ?_; (focus rfl); (refine KO.neS rfl rfl rfl ?_))
      (refine KO.pickF rfl ?_ rfl rfl ?_; (focus rfl))
      refine KO.nil ?_
      repeat ((with_reducible refine KQ.next ?_))
      refine K.condF rfl (by simp [hse]) ?_
      repeat (first | (with_reducible refine K.seq ?_) | (with_reducible refine KQ.next ?_) | (with_reducible refine K.skip ?_))
      refine K.reg ?_
      refine KO.mv rfl rfl ?_
      refine KO.idx0 (i := 1) rfl rfl Tryz.runUnderlying115 Tryz.sizeOf9 rfl (by simp) rfl ?_
      refine KO.ldE0 (i := 1) (sz := 1) (cf := strC) (e := wb) rfl rfl Tryz.isAgg9 (by with_reducible (repeat (exact Pick.head))) (fun _ => rfl) rfl (by exact rfl) (by exact rfl) rfl ?_
      refine KO.as rfl rfl ?_
      refine KO.as rfl rfl ?_
      refine KO.nil ?_
      repeat (first | (with_reducible refine KQ.next ?_) | (with_reducible refine K.ret ?_))
      refine KQ.ret2 rfl rfl rfl (fun w' hs => ⟨_, _, rfl, ⟨rfl, rfl⟩, hw.below_step hs.below, hs.below⟩)
    · have ho : openS k t = none := by unfold openS; rw [he]; simp [hse]
      rw [ho]
      refine K.reg ?_
      refine KO.mv rfl rfl ?_
      refine KO.len rfl Tryz.underlying115 rfl ?_
      refine KO.neI rfl rfl rfl ?_
      refine KO.mv rfl rfl ?_
      (refine KO.on rfl rfl ?_ ?_; (focus rfl); (refine KO.mv rfl rfl ?_))
      (refine KO.on rfl rfl ?_ ?_; (focus rfl); (refine KO.mv rfl rfl ?_))
      refine KO.on rfl rfl (by simp) ?_; refine KO.idx0 (i := 1) rfl rfl Tryz.runUnderlying115 Tryz.sizeOf9 rfl (by simp) rfl ?_
      refine KO.on rfl rfl (by simp) ?_; refine KO.ldE0 (i := 1) (sz := 1) (cf := strC) (e := wb) rfl rfl Tryz.isAgg9 (by with_reducible (repeat (exact Pick.head))) (fun _ => rfl) rfl (by exact rfl) (by exact rfl) rfl ?_
      refine KO.on rfl rfl (by simp) ?_; refine KO.ce (cp := []) rfl rfl rfl Tryz.call134 rfl (sealed_e w _ k wb hk (by omega) hT) ?_; rintro v' L' ⟨rfl, rfl⟩
      (refine KO.on rfl rfl ?_ ?_; (focus rfl); (refine KO.mv rfl rfl ?_))
      (refine KO.on rfl rfl ?_ ?_; (focus rfl); (refine KO.neS rfl rfl rfl ?_))
      (refine KO.pickF rfl ?_ rfl rfl ?_; (focus rfl))
      refine KO.nil ?_
      repeat ((with_reducible refine KQ.next ?_))
      refine K.condT rfl (by simp [hse]) ?_
      repeat ((with_reducible refine K.seq ?_))
      refine K.reg ?_
      refine KO.as rfl rfl ?_
      refine KO.as rfl rfl ?_
      refine KO.nil ?_
      repeat (first | (with_reducible refine KQ.next ?_) | (with_reducible refine KQ.then_ret ?_) | (with_reducible refine K.ret ?_))
      refine KQ.ret2 rfl rfl rfl (fun w' hs => ⟨_, _, rfl, ⟨rfl, rfl⟩, hw.below_step hs.below, hs.below⟩)
  · have ho : openS k t = none := hno fun a b c e => h3 (by rw [e]; rfl)
    rw [ho]
    have h3i : ¬ (((pcs 124 t).length : Nat) : Int) = 3 := by omega
    refine K.reg ?_
    refine KO.mv rfl rfl ?_
    refine KO.len rfl Tryz.underlying115 rfl ?_
    refine KO.neI rfl rfl rfl ?_
    refine KO.mv rfl rfl ?_
    (refine KO.no rfl rfl ?_ rfl ?_; (focus (simp only [decide_eq_true_eq, decide_eq_false_iff_not, Bool.not_eq_true, Bool.not_true, Bool.not_false, ne_eq]; omega)))
    (refine KO.no rfl rfl ?_ rfl ?_; (focus (simp only [decide_eq_true_eq, decide_eq_false_iff_not, Bool.not_eq_true, Bool.not_true, Bool.not_false, ne_eq]; omega)))
    (refine KO.no rfl rfl ?_ rfl ?_; (focus (simp only [decide_eq_true_eq, decide_eq_false_iff_not, Bool.not_eq_true, Bool.not_true, Bool.not_false, ne_eq]; omega)))
    (refine KO.no rfl rfl ?_ rfl ?_; (focus (simp only [decide_eq_true_eq, decide_eq_false_iff_not, Bool.not_eq_true, Bool.not_true, Bool.not_false, ne_eq]; omega)))
    (refine KO.no rfl rfl ?_ rfl ?_; (focus (simp only [decide_eq_true_eq, decide_eq_false_iff_not, Bool.not_eq_true, Bool.not_true, Bool.not_false, ne_eq]; omega)))
    (refine KO.no rfl rfl ?_ rfl ?_; (focus (simp only [decide_eq_true_eq, decide_eq_false_iff_not, Bool.not_eq_true, Bool.not_true, Bool.not_false, ne_eq]; omega)))
    (refine KO.no rfl rfl ?_ rfl ?_; (focus (simp only [decide_eq_true_eq, decide_eq_false_iff_not, Bool.not_eq_true, Bool.not_true, Bool.not_false, ne_eq]; omega)))
    (refine KO.pickT rfl ?_ rfl rfl ?_; (focus (simp only [decide_eq_true_eq, decide_eq_false_iff_not, Bool.not_eq_true, Bool.not_true, Bool.not_false, ne_eq]; omega)))
    refine KO.nil ?_
    repeat ((with_reducible refine KQ.next ?_))
    refine K.condT rfl (by simp [h3i]) ?_
    repeat ((with_reducible refine K.seq ?_))
    refine K.reg ?_
    refine KO.as rfl rfl ?_
    refine KO.as rfl rfl ?_
    refine KO.nil ?_
    repeat (first | (with_reducible refine KQ.next ?_) | (with_reducible refine KQ.then_ret ?_) | (with_reducible refine K.ret ?_))
    refine KQ.ret2 rfl rfl rfl (fun w' hs => ⟨_, _, rfl, ⟨rfl, rfl⟩, hw.below_step hs.below, hs.below⟩)
/-! the disk -/
def dkC (D : Dk) : List Value := D.places.map Value.string ++ [.bool D.cut, .int .i64 D.left]
def dkP (b : Nat) (D : Dk) : HP := blk b (.cells (dkC D).toArray 28 (0, 0))
theorem dkC_len {D : Dk} (h : D.places.length = 300) : (dkC D).length = 302 := by simp [dkC, h]
theorem dkC_cut {D : Dk} (h : D.places.length = 300) : (dkC D)[300]? = some (.bool D.cut) := by
  unfold dkC; rw [List.getElem?_append_right (by simp [h])]; simp [h]
theorem dkC_left {D : Dk} (h : D.places.length = 300) : (dkC D)[301]? = some (.int .i64 D.left) := by
  unfold dkC; rw [List.getElem?_append_right (by simp [h])]; simp [h]
theorem dkC_place {D : Dk} {k : Nat} {s : ByteArray} (h : D.places[k]? = some s) : (dkC D)[k]? = some (.string s) := by
  have hk := (List.getElem?_eq_some_iff.1 h).1
  unfold dkC; rw [List.getElem?_append_left (by simpa using hk), List.getElem?_map, h]; rfl
theorem dkC_setP {D : Dk} {k : Nat} (s : ByteArray) (hk : k < D.places.length) : (dkC D).set k (.string s) = dkC { D with places := D.places.set k s } := by
  unfold dkC; rw [List.set_append_left _ _ (by simpa using hk), List.map_set]
theorem dkC_setL {D : Dk} (h : D.places.length = 300) (n : Int) : (dkC D).set 301 (.int .i64 n) = dkC { D with left := n } := by
  unfold dkC; rw [List.set_append_right _ _ (by simp [h])]; simp [h]
theorem dkC_setC {D : Dk} (h : D.places.length = 300) (c : Bool) : (dkC D).set 300 (.bool c) = dkC { D with cut := c } := by
  unfold dkC; rw [List.set_append_right _ _ (by simp [h])]; simp [h]
theorem write_c (w0 : World) (L : List HP) (b k : Nat) (D : Dk) (s : ByteArray) (torn : Int) (h3 : D.places.length = 300) (hk : k < 300) (hl : -1000000 ≤ D.left ∧ D.left ≤ 9223372036854775807) (hs : 0 < s.size ∧ s.size ≤ 1000000) :
    KC Tryz.prog 156 #[.pointer (some ⟨b, 0, none⟩), .int .i64 (k : Nat), .string s, .int .i64 torn] w0 (dkP b D :: L) (fun u M => u = errV 70 (dkErr D) ∧ M = dkP b (dkWrite D k s torn) :: L) := by
  refine KC.mk (n := 48) Tryz.func156 rfl Tryz.ntmps156 (by simp) ?_
  repeat ((with_reducible refine K.seq ?_))
  refine K.reg ?_
  refine KO.as rfl rfl ?_
  refine KO.nil ?_
  repeat (first | (with_reducible refine K.seq ?_) | (with_reducible refine KQ.next ?_))
  have hoff : dkOff D = (D.cut && decide (D.left = 0)) := rfl
  cases hcut : D.cut with
  | false =>
    have ho : dkOff D = false := by rw [hoff, hcut]; rfl
    refine K.reg ?_
    refine KO.mv rfl rfl ?_
    refine KO.nc rfl rfl ?_
    refine KO.fo0 (off := 300) rfl Tryz.runUnderlying28 rfl rfl Tryz.sizeOf4 rfl ?_
    refine KO.ldAt (i := 300) rfl rfl Tryz.isAgg4 .head rfl (by rw [dkC_cut h3, hcut]) rfl ?_
    refine KO.mv rfl rfl ?_
    (refine KO.no rfl rfl ?_ rfl ?_; (focus rfl))
    (refine KO.no rfl rfl ?_ rfl ?_; (focus rfl))
    (refine KO.no rfl rfl ?_ rfl ?_; (focus rfl))
    (refine KO.no rfl rfl ?_ rfl ?_; (focus rfl))
    (refine KO.no rfl rfl ?_ rfl ?_; (focus rfl))
    (refine KO.pickF rfl ?_ rfl rfl ?_; (focus rfl))
    refine KO.nil ?_
    repeat ((with_reducible refine KQ.next ?_))
    refine K.condF rfl rfl ?_
    repeat (first | (with_reducible refine K.seq ?_) | (with_reducible refine KQ.next ?_) | (with_reducible refine K.skip ?_))
    refine K.reg ?_
    refine KO.mv rfl rfl ?_
    refine KO.nc rfl rfl ?_
    refine KO.fo0 (off := 301) rfl Tryz.runUnderlying28 rfl rfl Tryz.sizeOf3 rfl ?_
    refine KO.ldAt (i := 301) rfl rfl Tryz.isAgg3 .head rfl (dkC_left h3) rfl ?_
    refine KO.sub rfl rfl rfl (by omega) rfl ?_
    refine KO.nc rfl rfl ?_
    refine KO.fo0 (off := 301) rfl Tryz.runUnderlying28 rfl rfl Tryz.sizeOf3 rfl ?_
    refine KO.stAt (i := 301) rfl rfl rfl (by exact rfl) (by exact Tryz.sizeOf3) rfl .head rfl (by rw [dkC_len h3]; omega) ?_; rw [dkC_setL h3]
    refine KO.nil ?_
    repeat (first | (with_reducible refine K.seq ?_) | (with_reducible refine KQ.next ?_))
    refine K.reg ?_
    refine KO.mv rfl rfl ?_
    refine KO.mv rfl rfl ?_
    refine KO.mv rfl rfl ?_
    refine KO.nc rfl rfl ?_
    refine KO.fo0 (off := 0) rfl Tryz.runUnderlying28 rfl rfl Tryz.sizeOf26 rfl ?_
    refine KO.idxA rfl rfl Tryz.runUnderlying26 Tryz.sizeOf9 rfl (by omega) rfl ?_
    refine KO.stAt (i := k) rfl rfl rfl (by exact rfl) (by exact Tryz.sizeOf9) rfl .head (by rw [Addr.add_lit]; simp) (by rw [dkC_len (by exact h3)]; omega) ?_; rw [dkC_setP _ (by exact (by omega : k < D.places.length))]
    refine KO.nil ?_
    repeat (first | (with_reducible refine K.seq ?_) | (with_reducible refine KQ.next ?_))
    refine K.reg ?_
    refine KO.as rfl rfl ?_
    refine KO.nil ?_
    repeat (first | (with_reducible refine KQ.next ?_) | (with_reducible refine K.ret ?_))
    refine KQ.ret1 rfl rfl (fun w' hs => ⟨_, _, rfl, ⟨?_, rfl⟩, ?_⟩)
    · unfold dkErr; rw [if_neg (by simp [ho])]; rfl
    · unfold dkWrite; rw [if_neg (by simp [ho])]; exact hs
  | true =>
    by_cases hl0 : D.left = 0
    · have ho : dkOff D = true := by rw [hoff, hcut, hl0]; rfl
      refine K.reg ?_
      refine KO.mv rfl rfl ?_
      refine KO.nc rfl rfl ?_
      refine KO.fo0 (off := 300) rfl Tryz.runUnderlying28 rfl rfl Tryz.sizeOf4 rfl ?_
      refine KO.ldAt (i := 300) rfl rfl Tryz.isAgg4 .head rfl (by rw [dkC_cut h3, hcut]) rfl ?_
      refine KO.mv rfl rfl ?_
      (refine KO.on rfl rfl ?_ ?_; (focus rfl); (refine KO.mv rfl rfl ?_))
      (refine KO.on rfl rfl ?_ ?_; (focus rfl); (refine KO.nc rfl rfl ?_))
      refine KO.on rfl rfl rfl ?_; refine KO.fo0 (off := 301) rfl Tryz.runUnderlying28 rfl rfl Tryz.sizeOf3 rfl ?_
      refine KO.on rfl rfl rfl ?_; refine KO.ldAt (i := 301) rfl rfl Tryz.isAgg3 .head rfl (by rw [dkC_left h3, hl0]) rfl ?_
      (refine KO.on rfl rfl ?_ ?_; (focus rfl); (refine KO.eqI rfl rfl rfl ?_))
      (refine KO.pickT rfl ?_ rfl rfl ?_; (focus rfl))
      refine KO.nil ?_
      repeat ((with_reducible refine KQ.next ?_))
      refine K.condT rfl rfl ?_
      repeat ((with_reducible refine K.seq ?_))
      refine K.reg ?_
      refine KO.mv rfl rfl ?_
      refine KO.geq rfl rfl rfl ?_
      refine KO.nil ?_
      repeat ((with_reducible refine KQ.next ?_))
      refine K.condD rfl (fun h5 => ?_) (fun h5 => ?_)
      · (skip)
        refine K.draw [.pure, .pure, .pure, .pure, .pure, .pure, .pure, .pure, .pure, .pure, .pure, .pure, .write] [0, 1, 2, 3, 4, 5, 6, 7, 8, 9, 10, 11, 12] (by kernel_rfl) (by kernel_rfl) ?_
        refine KO.mv rfl rfl ?_
        refine KO.mv rfl rfl ?_
        refine KO.mv rfl rfl ?_
        refine KO.mv rfl rfl ?_
        refine KO.mv rfl rfl ?_
        refine KO.lenS rfl Tryz.underlying9 rfl ?_
        refine KO.sub rfl rfl rfl (by omega) rfl ?_
        refine KO.min2 rfl rfl rfl rfl ?_
        refine KO.strTo (i := (min torn ((s.size : Int) - 1)).toNat) rfl rfl Tryz.underlying9 (by omega) (by omega) rfl ?_
        refine KO.nc rfl rfl ?_
        refine KO.fo0 (off := 0) rfl Tryz.runUnderlying28 rfl rfl Tryz.sizeOf26 rfl ?_
        refine KO.idxA rfl rfl Tryz.runUnderlying26 Tryz.sizeOf9 rfl (by omega) rfl ?_
        refine KO.stAt (i := k) rfl rfl rfl (by exact rfl) (by exact Tryz.sizeOf9) rfl .head (by rw [Addr.add_lit]; simp) (by rw [dkC_len h3]; omega) ?_; rw [dkC_setP _ (by omega)]
        refine KO.nil ?_
        repeat (first | (with_reducible refine K.seq ?_) | (with_reducible refine KQ.next ?_))
        refine K.reg ?_
        refine KO.mki rfl (by kernel_rfl) rfl ?_
        refine KO.as rfl rfl ?_
        refine KO.nil ?_
        repeat (first | (with_reducible refine KQ.next ?_) | (with_reducible refine KQ.then_ret ?_) | (with_reducible refine K.ret ?_))
        refine KQ.ret1 rfl rfl (fun w' hs => ⟨_, _, rfl, ⟨?_, rfl⟩, ?_⟩)
        · unfold dkErr; rw [if_pos ho]; rfl
        · unfold dkWrite dkP
          rw [if_pos ho, if_pos (by omega)]
          exact hs
      · repeat (first | (with_reducible refine K.seq ?_) | (with_reducible refine KQ.next ?_) | (with_reducible refine K.skip ?_))
        refine K.reg ?_
        refine KO.mki rfl (by kernel_rfl) rfl ?_
        refine KO.as rfl rfl ?_
        refine KO.nil ?_
        repeat (first | (with_reducible refine KQ.next ?_) | (with_reducible refine KQ.then_ret ?_) | (with_reducible refine K.ret ?_))
        refine KQ.ret1 rfl rfl (fun w' hs => ⟨_, _, rfl, ⟨?_, rfl⟩, ?_⟩)
        · unfold dkErr; rw [if_pos ho]; rfl
        · unfold dkWrite
          rw [if_pos ho, if_neg (by omega)]
          exact hs
    · have ho : dkOff D = false := by rw [hoff, hcut]; simpa using hl0
      refine K.reg ?_
      refine KO.mv rfl rfl ?_
      refine KO.nc rfl rfl ?_
      refine KO.fo0 (off := 300) rfl Tryz.runUnderlying28 rfl rfl Tryz.sizeOf4 rfl ?_
      refine KO.ldAt (i := 300) rfl rfl Tryz.isAgg4 .head rfl (by rw [dkC_cut h3, hcut]) rfl ?_
      refine KO.mv rfl rfl ?_
      (refine KO.on rfl rfl ?_ ?_; (focus rfl); (refine KO.mv rfl rfl ?_))
      (refine KO.on rfl rfl ?_ ?_; (focus rfl); (refine KO.nc rfl rfl ?_))
      refine KO.on rfl rfl rfl ?_; refine KO.fo0 (off := 301) rfl Tryz.runUnderlying28 rfl rfl Tryz.sizeOf3 rfl ?_
      refine KO.on rfl rfl rfl ?_; refine KO.ldAt (i := 301) rfl rfl Tryz.isAgg3 .head rfl (dkC_left h3) rfl ?_
      (refine KO.on rfl rfl ?_ ?_; (focus rfl); (refine KO.eqI rfl rfl rfl ?_))
      (refine KO.pickT rfl ?_ rfl rfl ?_; (focus rfl))
      refine KO.nil ?_
      repeat ((with_reducible refine KQ.next ?_))
      refine K.condF rfl (by simpa using hl0) ?_
      repeat (first | (with_reducible refine K.seq ?_) | (with_reducible refine KQ.next ?_) | (with_reducible refine K.skip ?_))
      refine K.reg ?_
      refine KO.mv rfl rfl ?_
      refine KO.nc rfl rfl ?_
      refine KO.fo0 (off := 301) rfl Tryz.runUnderlying28 rfl rfl Tryz.sizeOf3 rfl ?_
      refine KO.ldAt (i := 301) rfl rfl Tryz.isAgg3 .head rfl (dkC_left h3) rfl ?_
      refine KO.sub rfl rfl rfl (by omega) rfl ?_
      refine KO.nc rfl rfl ?_
      refine KO.fo0 (off := 301) rfl Tryz.runUnderlying28 rfl rfl Tryz.sizeOf3 rfl ?_
      refine KO.stAt (i := 301) rfl rfl rfl (by exact rfl) (by exact Tryz.sizeOf3) rfl .head rfl (by rw [dkC_len h3]; omega) ?_; rw [dkC_setL h3]
      refine KO.nil ?_
      repeat (first | (with_reducible refine K.seq ?_) | (with_reducible refine KQ.next ?_))
      refine K.reg ?_
      refine KO.mv rfl rfl ?_
      refine KO.mv rfl rfl ?_
      refine KO.mv rfl rfl ?_
      refine KO.nc rfl rfl ?_
      refine KO.fo0 (off := 0) rfl Tryz.runUnderlying28 rfl rfl Tryz.sizeOf26 rfl ?_
      refine KO.idxA rfl rfl Tryz.runUnderlying26 Tryz.sizeOf9 rfl (by omega) rfl ?_
      refine KO.stAt (i := k) rfl rfl rfl (by exact rfl) (by exact Tryz.sizeOf9) rfl .head (by rw [Addr.add_lit]; simp) (by rw [dkC_len (by exact h3)]; omega) ?_; rw [dkC_setP _ (by exact (by omega : k < D.places.length))]
      refine KO.nil ?_
      repeat (first | (with_reducible refine K.seq ?_) | (with_reducible refine KQ.next ?_))
      refine K.reg ?_
      refine KO.as rfl rfl ?_
      refine KO.nil ?_
      repeat (first | (with_reducible refine KQ.next ?_) | (with_reducible refine K.ret ?_))
      refine KQ.ret1 rfl rfl (fun w' hs => ⟨_, _, rfl, ⟨?_, rfl⟩, ?_⟩)
      · unfold dkErr; rw [if_neg (by simp [ho])]; rfl
      · unfold dkWrite; rw [if_neg (by simp [ho])]; exact hs
theorem cut_c (w0 : World) (L : List HP) (b : Nat) (D : Dk) (n : Int) (h3 : D.places.length = 300) :
    KC Tryz.prog 18 #[.pointer (some ⟨b, 0, none⟩), .int .i64 n] w0 (dkP b D :: L) (fun u M => u = .tuple #[] ∧ M = dkP b (dkCut D n) :: L) := by
  refine KC.mk (n := 14) Tryz.func18 rfl Tryz.ntmps18 (by simp) ?_
  refine K.reg ?_
  refine KO.mv rfl rfl ?_
  refine KO.mv rfl rfl ?_
  refine KO.mv rfl rfl ?_
  refine KO.geq rfl rfl rfl ?_
  refine KO.mv rfl rfl ?_
  refine KO.max2 rfl rfl rfl rfl ?_
  refine KO.nc rfl rfl ?_
  refine KO.fo0 (off := 300) rfl Tryz.runUnderlying28 rfl rfl Tryz.sizeOf4 rfl ?_
  refine KO.stAt (i := 300) rfl rfl rfl (by exact rfl) (by exact Tryz.sizeOf4) rfl .head rfl (by rw [dkC_len h3]; omega) ?_; rw [dkC_setC h3]
  refine KO.nc rfl rfl ?_
  refine KO.fo0 (off := 301) rfl Tryz.runUnderlying28 rfl rfl Tryz.sizeOf3 rfl ?_
  refine KO.stAt (i := 301) rfl rfl rfl (by exact rfl) (by exact Tryz.sizeOf3) rfl .head rfl (by rw [dkC_len (by exact h3)]; omega) ?_; rw [dkC_setL (by exact h3)]
  refine KO.nil ?_
  refine KQ.end0 rfl (fun w' hs => ⟨_, _, rfl, ⟨rfl, rfl⟩, hs⟩)
end Go.Proofs.YtjhogocabcdjbabGreatDoor
