/- waybilllaw.FrameReads: for every text the law returns true. No condition. -/
import Derived.Lib.AtoiAllCases
import Derived.Lib.ParseIntBTie
import Derived.Conc.Holds
import Derived.Leaving
import Derived.SevenTiedAt
import Derived.Test.YtjhogocabcdjbaaGreatDoorCards
import Derived.Test.YtjhogocabcdjbaaGreatDoorTie
import Derived.Stop.LaidErr
import Derived.ChangeMaps5
import Derived.Test.YtjhogocabcdjbaaGreatDoorB2
set_option linter.unusedSimpArgs false
set_option linter.unusedVariables false
/- msg.Read: the walk -/
namespace Go.Proofs.YtjhogocabcdjbaaGreatDoor
open Go Go.RowKit WB
def MrR (L : List HP) (s : ByteArray) (u : Value) (M : List HP) : Prop :=
  match mrd s with
  | some xs => ∃ v, u = .tuple #[v, .nilIface] ∧ M = SL 31 5 msC v xs :: L
  | none => u = .tuple #[.slice none 0 0, errV 39 3] ∧ M = L
def arr5 (x y z : Int) : Nat → List Value
  | 0 => [.int .i64 0, .int .i64 0, .int .i64 0, .int .i64 0, .int .i64 0]
  | 1 => [.int .i64 x, .int .i64 0, .int .i64 0, .int .i64 0, .int .i64 0]
  | 2 => [.int .i64 x, .int .i64 y, .int .i64 0, .int .i64 0, .int .i64 0]
  | _ => [.int .i64 x, .int .i64 y, .int .i64 0, .int .i64 0, .int .i64 z]
def rdP (b4 b3 b2 : Nat) (v e : Value) (xs : List Ms) : List HP := [blk b4 (.cells [v].toArray 50 (0, 0)), blk b3 (.cells [e].toArray 37 (0, 0)), blk b2 (.cells [.slice none 0 0].toArray 50 (0, 0)), SL 31 5 msC v xs]
def rdC (s : ByteArray) (b4 b3 b2 : Nat) (k : Nat) (M : List HP) : Prop := ∃ v xs, M = rdP b4 b3 b2 v .nilIface xs ∧ parseL ((pcs 43 s).take k) = some xs
def rdX (s : ByteArray) (b4 b3 b2 : Nat) (M : List HP) : Prop := (∃ v xs, M = rdP b4 b3 b2 v (errV 39 3) xs) ∧ parseL (pcs 43 s) = none
theorem msr_info : (Tryz.prog.info? 31).map (fun i => (i.zero, i.size, i.bytes)) = some (some (Value.agg #[.int .i64 0, .int .i64 0, .string ⟨#[]⟩, .string ⟨#[]⟩, .int .i64 0]), 5, 56) := by kernel_rfl
set_option maxRecDepth 100000 in
set_option maxHeartbeats 4000000 in
theorem mread_e (w0 : World) (L : List HP) (s : ByteArray) (hs : s.size ≤ 90000) (hT0 : Tab w0) (hM0 : Lim w0) : KE Tryz.prog 47 #[.string s] w0 L (MrR L s) := by
  refine KE.mkM (n := 74) Tryz.func47 rfl Tryz.ntmps47 (by simp) ?_
  intro w hw
  have hT := hT0.ext (Ext.of_below hw.below)
  have hM := hM0.ext (Ext.of_below hw.below)
  unfold MrR
  repeat ((with_reducible refine K.seq ?_))
  refine K.reg ?_
  refine KO.alloc rfl Tryz.zeroValue50 (by exact rfl) rfl ?_; intro b2
  refine KO.alloc rfl Tryz.zeroValue37 (by exact rfl) rfl ?_; intro b3
  refine KO.nil ?_
  repeat (first | (with_reducible refine K.seq ?_) | (with_reducible refine KQ.next ?_))
  by_cases h0 : s = ⟨#[]⟩
  · have e0 : mrd s = some [] := by unfold mrd; rw [if_pos h0]
    rw [e0]
    refine K.reg ?_
    refine KO.mv rfl rfl ?_
    refine KO.eqS rfl rfl rfl ?_
    refine KO.nil ?_
    repeat ((with_reducible refine KQ.next ?_))
    refine K.condT rfl (by simpa using h0) ?_
    repeat ((with_reducible refine K.seq ?_))
    refine K.reg ?_
    refine KO.sto0 rfl rfl rfl (by exact rfl) (by exact Tryz.sizeOf50) (by exact rfl) (by with_reducible (repeat (first | exact Pick.head | apply Pick.tail))) (by exact rfl) ?_
    refine KO.sto0 rfl rfl rfl (by exact rfl) (by exact Tryz.sizeOf37) (by exact rfl) (by with_reducible (repeat (first | exact Pick.head | apply Pick.tail))) (by exact rfl) ?_
    refine KO.nil ?_
    repeat (first | (with_reducible refine KQ.next ?_) | (with_reducible refine KQ.then_ret ?_) | (with_reducible refine K.ret ?_))
    refine KQ.retM2C rfl rfl rfl Tryz.isAgg50 Tryz.isAgg37 (by with_reducible (repeat (first | exact Pick.head | apply Pick.tail))) (by with_reducible (repeat (exact Pick.head))) (fun w' hs => ⟨_, _, rfl, ⟨_, rfl, rfl⟩, ?_, hs.below⟩)
    exact SL_nil (hw.below_step hs.below)
  refine K.reg ?_
  refine KO.mv rfl rfl ?_
  refine KO.eqS rfl rfl rfl ?_
  refine KO.nil ?_
  repeat ((with_reducible refine KQ.next ?_))
  refine K.condF rfl (by simpa using h0) ?_
  repeat (first | (with_reducible refine K.seq ?_) | (with_reducible refine KQ.next ?_) | (with_reducible refine K.skip ?_))
  refine K.reg ?_
  refine KO.alloc rfl Tryz.zeroValue50 (by exact rfl) rfl ?_; intro b4
  refine KO.nil ?_
  repeat (first | (with_reducible refine K.seq ?_) | (with_reducible refine KQ.next ?_))
  refine K.reg ?_
  refine KO.mv rfl rfl ?_
  refine KO.ce (cp := []) rfl rfl rfl Tryz.call72 rfl (seq_e w _ s ⟨#[43]⟩) ?_; rintro v' L' ⟨i4, i3, i5, rfl, rfl⟩
  refine KO.nil ?_
  refine KQ.next ?_
  refine K.block ?_
  refine K.conv (L' := itP i4 i3 i5 s ⟨#[43]⟩ ++ rdP b4 b3 b2 (.slice none 0 0) .nilIface []) (fun w hw => ?_) ?_
  · simp only [rdP, itP, List.cons_append, List.nil_append] at hw ⊢
    exact (SL_nil hw).all (by with_reducible repeat (first | exact PAll.refl | refine PAll.cons (by with_reducible repeat (first | exact Pick.head | apply Pick.tail)) ?_))
  have hlen : (pcs 43 s).length ≤ s.size + 1 := by unfold pcs; rw [List.length_map, pieces_len]; have := List.count_le_length (a := 43) (l := s.data.toList); rw [ba_size]; omega
  refine K.rangeSeq (rdC s b4 b3 b2) (rdX s b4 b3 b2) (G2 := fun q => [(5, .string q), (0, .string s), (2, .pointer (some ⟨b2, 0, none⟩)), (3, .pointer (some ⟨b3, 0, none⟩)), (4, .pointer (some ⟨b4, 0, none⟩))]) rfl rfl (by omega) ⟨_, _, rfl, rfl⟩ ?_ ?_ ?_ ?_
  · intro l N q
    refine KR.reg (by kernel_rfl) (fun a w h => by exact h) ?_
    refine KO.as rfl rfl ?_
    refine KO.nil ?_
    exact KQ.mid () trivial ⟨rfl, rfl, rfl, rfl, rfl, trivial⟩ (fun _ h => h)
  · rintro k q M l N RQ hq ⟨v, xs, rfl, hxs⟩ hno hgo hret
    have hxl : xs.length < 100000 := by have := parseL_len hxs; rw [List.length_take] at this; omega
    have hqs : q.size ≤ 90000 := by have := pcs_size (List.mem_of_getElem? hq); omega
    simp only [rdP, List.cons_append, List.nil_append]
    repeat (first | (with_reducible refine KR.seq ?_) | (with_reducible refine KR.block ?_))
    refine KR.reg (by kernel_rfl) (fun a w h => by exact hno a w h) ?_
    refine KO.mv rfl rfl ?_
    refine KO.ce (cp := []) rfl rfl rfl Tryz.call77 rfl (split_e w _ q 32 (by omega) hM) ?_; rintro v' L' ⟨bq, rfl, rfl⟩
    refine KO.as rfl rfl ?_
    refine KO.nil ?_
    repeat (first | (with_reducible refine KR.seq ?_) | (with_reducible refine KQ.nextR ?_))
    by_cases h5 : (pcs 32 q).length = 5
    case neg =>
      refine KR.reg (by kernel_rfl) (fun a w h => by exact hno a w h) ?_
      refine KO.mv rfl rfl ?_
      refine KO.len rfl Tryz.underlying57 rfl ?_
      refine KO.neI rfl rfl rfl ?_
      refine KO.nil ?_
      repeat ((with_reducible refine KQ.nextR ?_))
      refine KR.condT rfl (by simp; omega) ?_
      repeat ((with_reducible refine KR.seq ?_))
      refine KR.reg (by kernel_rfl) (fun a w h => by exact hno a w h) ?_
      refine KO.mki rfl (by kernel_rfl) rfl ?_
      refine KO.sto0 rfl rfl rfl (by exact rfl) (by exact Tryz.sizeOf50) (by exact rfl) (by with_reducible (repeat (first | exact Pick.head | apply Pick.tail))) (by exact rfl) ?_
      refine KO.sto0 rfl rfl rfl (by exact rfl) (by exact Tryz.sizeOf37) (by exact rfl) (by with_reducible (repeat (first | exact Pick.head | apply Pick.tail))) (by exact rfl) ?_
      refine KO.nil ?_
      repeat (first | (with_reducible refine KQ.nextR ?_) | (with_reducible refine KQ.then_ret ?_) | (with_reducible refine KQ.blk_ret ?_) | (with_reducible refine KR.ret ?_))
      refine KQ.conv (fun w hw => hw.all (M := rdP b4 b3 b2 v (errV 39 3) xs ++ N) (by repeat (first | exact PAll.refl | refine PAll.cons (by repeat (first | exact Pick.head | apply Pick.tail)) ?_ | apply PAll.drop))) ?_
      refine hret _ _ ⟨⟨_, _, rfl⟩, parseL_none (p := q) ?_ (List.mem_of_getElem? hq)⟩
      unfold parse1
      split
      · rename_i h; rw [h] at h5; exact absurd rfl h5
      · rfl
    refine KR.reg (by kernel_rfl) (fun a w h => by exact hno a w h) ?_
    refine KO.mv rfl rfl ?_
    refine KO.len rfl Tryz.underlying57 rfl ?_
    refine KO.neI rfl rfl rfl ?_
    refine KO.nil ?_
    repeat ((with_reducible refine KQ.nextR ?_))
    refine KR.condF rfl (by simp; omega) ?_
    repeat (first | (with_reducible refine KR.seq ?_) | (with_reducible refine KQ.nextR ?_) | (with_reducible refine KR.skip ?_))
    obtain ⟨wa, wb, wc, wd, we, hws⟩ : ∃ wa wb wc wd we, pcs 32 q = [wa, wb, wc, wd, we] := by
      generalize pcs 32 q = l at h5
      match l, h5 with
      | [a, b, c, d, e], _ => exact ⟨a, b, c, d, e, rfl⟩
    have hwz : ∀ x ∈ [wa, wb, wc, wd, we], x.size ≤ 100000000 := fun x hx => by have := pcs_size (c := 32) (s := q) (p := x) (by rw [hws]; exact hx); omega
    rw [hws]
    refine KR.reg (by kernel_rfl) (fun a w h => by exact hno a w h) ?_
    refine KO.alloc rfl Tryz.zeroValue167 (by exact rfl) rfl ?_; intro b7
    refine KO.nil ?_
    repeat (first | (with_reducible refine KR.seq ?_) | (with_reducible refine KQ.nextR ?_))
    refine KR.reg (by kernel_rfl) (fun a w h => by exact hno a w h) ?_
    refine KO.bld rfl (by intro w; go_simp; rfl) rfl ?_
    refine KO.mv rfl rfl ?_
    refine KO.nil ?_
    repeat (first | (with_reducible refine KQ.nextR ?_) | (with_reducible refine KR.block ?_))
    obtain ⟨x, hx⟩ : ∃ x, x = (numO wa).getD 0 := ⟨_, rfl⟩
    obtain ⟨y, hy⟩ : ∃ x, x = (numO wb).getD 0 := ⟨_, rfl⟩
    obtain ⟨z, hz⟩ : ∃ x, x = (numO we).getD 0 := ⟨_, rfl⟩
    refine KR.loop (fun i : Nat => [(26, .int .i64 (i : Nat)), (25, .agg [.int .i64 0, .int .i64 1, .int .i64 4].toArray), (7, .pointer (some ⟨b7, 0, none⟩)), (6, .slice (some ⟨bq, 0, none⟩) 5 5), (5, .string q), (0, .string s), (2, .pointer (some ⟨b2, 0, none⟩)), (3, .pointer (some ⟨b3, 0, none⟩)), (4, .pointer (some ⟨b4, 0, none⟩))])
      (fun i => blk b7 (.cells (arr5 x y z i).toArray 167 (0, 0)) :: strS (.slice (some ⟨bq, 0, none⟩) 5 5) [wa, wb, wc, wd, we] :: (rdP b4 b3 b2 v .nilIface xs ++ N))
      (fun i => i ≤ 3 ∧ (0 < i → numO wa = some x) ∧ (1 < i → numO wb = some y) ∧ (2 < i → numO we = some z)) (fun i => 3 - i) 0
      ⟨by omega, fun h => by omega, fun h => by omega, fun h => by omega⟩ ⟨rfl, rfl, rfl, rfl, rfl, rfl, rfl, rfl, rfl, trivial⟩ (fun w hw => hw.all (by repeat (exact PAll.refl))) ?_
    rintro i ⟨hi, hp1, hp2, hp3⟩
    have hcase : i = 0 ∨ i = 1 ∨ i = 2 ∨ i = 3 := by omega
    simp only [rdP, List.cons_append, List.nil_append]
    rcases hcase with rfl | rfl | rfl | rfl
    · -- round 0
      repeat ((with_reducible refine KR.seq ?_))
      refine KR.reg (by kernel_rfl) (fun a w h => by exact hno a w h) ?_
      refine KO.lss rfl rfl rfl ?_
      refine KO.nil ?_
      repeat (first | (with_reducible refine KR.seq ?_) | (with_reducible refine KQ.nextR ?_))
      refine KR.condT rfl rfl ?_
      repeat (first | (with_reducible refine KR.seq ?_) | (with_reducible refine KQ.nextR ?_) | (with_reducible refine KR.skip ?_) | (with_reducible refine KR.block ?_))
      refine KR.reg (by kernel_rfl) (fun a w h => by exact hno a w h) ?_
      refine KO.idxAg (cs := [.int .i64 0, .int .i64 1, .int .i64 4]) (i := 0) rfl rfl Tryz.underlying168 Tryz.isAgg3 Tryz.sizeOf3 rfl (by decide) rfl rfl ?_
      refine KO.as rfl rfl ?_
      refine KO.nil ?_
      repeat (first | (with_reducible refine KR.seq ?_) | (with_reducible refine KQ.nextR ?_))
      cases hn : numO wa with
      | none =>
        refine KR.reg (by kernel_rfl) (fun a w h => by exact hno a w h) ?_
        refine KO.mv rfl rfl ?_
        refine KO.mv rfl rfl ?_
        refine KO.idx0 (i := 0) rfl rfl Tryz.runUnderlying57 Tryz.sizeOf9 rfl (by decide) rfl ?_
        refine KO.ldE0 (i := 0) (sz := 1) (cf := strC) (e := wa) rfl rfl Tryz.isAgg9 (by with_reducible (repeat (first | exact Pick.head | apply Pick.tail))) (fun _ => rfl) rfl (by exact rfl) (by exact rfl) rfl ?_
        refine KO.ce (cp := []) rfl rfl rfl Tryz.call97 rfl (atoi_e w _ wa (hwz wa (by simp)) hM) ?_; rintro v' L' ⟨hR, rfl⟩; unfold atoiR at hR; rw [hn] at hR; obtain ⟨xx, TT, yy, rfl⟩ := hR
        refine KO.mv rfl rfl ?_
        refine KO.extrL rfl (by exact rfl) rfl ?_
        refine KO.extrL rfl (by exact rfl) rfl ?_
        refine KO.as rfl rfl ?_
        refine KO.as rfl rfl ?_
        refine KO.nil ?_
        repeat (first | (with_reducible refine KR.seq ?_) | (with_reducible refine KQ.nextR ?_))
        refine KR.reg (by kernel_rfl) (fun a w h => by exact hno a w h) ?_
        refine KO.mv rfl rfl ?_
        refine KO.neIf rfl (by kernel_rfl) rfl ?_
        refine KO.nil ?_
        repeat ((with_reducible refine KQ.nextR ?_))
        refine KR.condT rfl rfl ?_
        repeat ((with_reducible refine KR.seq ?_))
        refine KR.reg (by kernel_rfl) (fun a w h => by exact hno a w h) ?_
        refine KO.mki rfl (by kernel_rfl) rfl ?_
        refine KO.sto0 rfl rfl rfl (by exact rfl) (by exact Tryz.sizeOf50) (by exact rfl) (by with_reducible (repeat (first | exact Pick.head | apply Pick.tail))) (by exact rfl) ?_
        refine KO.sto0 rfl rfl rfl (by exact rfl) (by exact Tryz.sizeOf37) (by exact rfl) (by with_reducible (repeat (first | exact Pick.head | apply Pick.tail))) (by exact rfl) ?_
        refine KO.nil ?_
        repeat (first | (with_reducible refine KQ.nextR ?_) | (with_reducible refine KQ.then_ret ?_) | (with_reducible refine KQ.blk_ret ?_) | (with_reducible refine KR.ret ?_))
        refine KQ.conv (fun w hw => hw.all (M := rdP b4 b3 b2 v (errV 39 3) xs ++ N) (by repeat (first | exact PAll.refl | refine PAll.cons (by repeat (first | exact Pick.head | apply Pick.tail)) ?_ | apply PAll.drop))) ?_
        refine hret _ _ ⟨⟨_, _, rfl⟩, parseL_none (p := q) ?_ (List.mem_of_getElem? hq)⟩
        unfold parse1; rw [hws]; simp only []; rw [hn]
        all_goals (cases numO wa <;> cases numO wb <;> cases numO we <;> rfl)
      | some vv =>
        have hvx : vv = x := by rw [hx, hn]; rfl
        refine KR.reg (by kernel_rfl) (fun a w h => by exact hno a w h) ?_
        refine KO.mv rfl rfl ?_
        refine KO.mv rfl rfl ?_
        refine KO.idx0 (i := 0) rfl rfl Tryz.runUnderlying57 Tryz.sizeOf9 rfl (by decide) rfl ?_
        refine KO.ldE0 (i := 0) (sz := 1) (cf := strC) (e := wa) rfl rfl Tryz.isAgg9 (by with_reducible (repeat (first | exact Pick.head | apply Pick.tail))) (fun _ => rfl) rfl (by exact rfl) (by exact rfl) rfl ?_
        refine KO.ce (cp := []) rfl rfl rfl Tryz.call97 rfl (atoi_e w _ wa (hwz wa (by simp)) hM) ?_; rintro v' L' ⟨hR, rfl⟩; unfold atoiR at hR; rw [hn] at hR; subst hR
        refine KO.mv rfl rfl ?_
        refine KO.extrL rfl (by exact rfl) rfl ?_
        refine KO.extrL rfl (by exact rfl) rfl ?_
        refine KO.as rfl rfl ?_
        refine KO.as rfl rfl ?_
        refine KO.nil ?_
        repeat (first | (with_reducible refine KR.seq ?_) | (with_reducible refine KQ.nextR ?_))
        refine KR.reg (by kernel_rfl) (fun a w h => by exact hno a w h) ?_
        refine KO.mv rfl rfl ?_
        refine KO.neI0 rfl (by kernel_rfl) rfl ?_
        refine KO.nil ?_
        repeat ((with_reducible refine KQ.nextR ?_))
        refine KR.condF rfl rfl ?_
        repeat (first | (with_reducible refine KQ.nextR ?_) | (with_reducible refine KR.skip ?_))
        refine KR.reg (by kernel_rfl) (fun a w h => by exact hno a w h) ?_
        refine KO.mv rfl rfl ?_
        refine KO.mv rfl rfl ?_
        refine KO.idxA (i := 0) rfl rfl Tryz.runUnderlying167 Tryz.sizeOf3 rfl (by decide) rfl ?_
        refine KO.stAt (i := 0) rfl rfl rfl (by exact rfl) (by exact Tryz.sizeOf3) rfl (by with_reducible (repeat (exact Pick.head))) (by rfl) (by simp [arr5]) ?_
        refine KO.nil ?_
        repeat (first | (with_reducible refine KQ.nextR ?_) | (with_reducible refine KQ.blk_normal ?_))
        refine KR.reg (by kernel_rfl) (fun a w h => by exact hno a w h) ?_
        refine KO.add rfl rfl rfl (by omega) rfl ?_
        refine KO.mv rfl rfl ?_
        refine KO.nil ?_
        subst hvx
        refine KQ.round 1 ⟨by omega, fun h => ?_, fun h => ?_, fun h => ?_⟩ (by decide) ⟨rfl, rfl, rfl, rfl, rfl, rfl, rfl, rfl, rfl, trivial⟩ (fun w hw => hw.all (by repeat (exact PAll.refl)))
        all_goals first | omega | rfl
    · -- round 1
      repeat ((with_reducible refine KR.seq ?_))
      refine KR.reg (by kernel_rfl) (fun a w h => by exact hno a w h) ?_
      refine KO.lss rfl rfl rfl ?_
      refine KO.nil ?_
      repeat (first | (with_reducible refine KR.seq ?_) | (with_reducible refine KQ.nextR ?_))
      refine KR.condT rfl rfl ?_
      repeat (first | (with_reducible refine KR.seq ?_) | (with_reducible refine KQ.nextR ?_) | (with_reducible refine KR.skip ?_) | (with_reducible refine KR.block ?_))
      refine KR.reg (by kernel_rfl) (fun a w h => by exact hno a w h) ?_
      refine KO.idxAg (cs := [.int .i64 0, .int .i64 1, .int .i64 4]) (i := 1) rfl rfl Tryz.underlying168 Tryz.isAgg3 Tryz.sizeOf3 rfl (by decide) rfl rfl ?_
      refine KO.as rfl rfl ?_
      refine KO.nil ?_
      repeat (first | (with_reducible refine KR.seq ?_) | (with_reducible refine KQ.nextR ?_))
      cases hn : numO wb with
      | none =>
        refine KR.reg (by kernel_rfl) (fun a w h => by exact hno a w h) ?_
        refine KO.mv rfl rfl ?_
        refine KO.mv rfl rfl ?_
        refine KO.idx0 (i := 1) rfl rfl Tryz.runUnderlying57 Tryz.sizeOf9 rfl (by decide) rfl ?_
        refine KO.ldE0 (i := 1) (sz := 1) (cf := strC) (e := wb) rfl rfl Tryz.isAgg9 (by with_reducible (repeat (first | exact Pick.head | apply Pick.tail))) (fun _ => rfl) rfl (by exact rfl) (by exact rfl) rfl ?_
        refine KO.ce (cp := []) rfl rfl rfl Tryz.call97 rfl (atoi_e w _ wb (hwz wb (by simp)) hM) ?_; rintro v' L' ⟨hR, rfl⟩; unfold atoiR at hR; rw [hn] at hR; obtain ⟨xx, TT, yy, rfl⟩ := hR
        refine KO.mv rfl rfl ?_
        refine KO.extrL rfl (by exact rfl) rfl ?_
        refine KO.extrL rfl (by exact rfl) rfl ?_
        refine KO.as rfl rfl ?_
        refine KO.as rfl rfl ?_
        refine KO.nil ?_
        repeat (first | (with_reducible refine KR.seq ?_) | (with_reducible refine KQ.nextR ?_))
        refine KR.reg (by kernel_rfl) (fun a w h => by exact hno a w h) ?_
        refine KO.mv rfl rfl ?_
        refine KO.neIf rfl (by kernel_rfl) rfl ?_
        refine KO.nil ?_
        repeat ((with_reducible refine KQ.nextR ?_))
        refine KR.condT rfl rfl ?_
        repeat ((with_reducible refine KR.seq ?_))
        refine KR.reg (by kernel_rfl) (fun a w h => by exact hno a w h) ?_
        refine KO.mki rfl (by kernel_rfl) rfl ?_
        refine KO.sto0 rfl rfl rfl (by exact rfl) (by exact Tryz.sizeOf50) (by exact rfl) (by with_reducible (repeat (first | exact Pick.head | apply Pick.tail))) (by exact rfl) ?_
        refine KO.sto0 rfl rfl rfl (by exact rfl) (by exact Tryz.sizeOf37) (by exact rfl) (by with_reducible (repeat (first | exact Pick.head | apply Pick.tail))) (by exact rfl) ?_
        refine KO.nil ?_
        repeat (first | (with_reducible refine KQ.nextR ?_) | (with_reducible refine KQ.then_ret ?_) | (with_reducible refine KQ.blk_ret ?_) | (with_reducible refine KR.ret ?_))
        refine KQ.conv (fun w hw => hw.all (M := rdP b4 b3 b2 v (errV 39 3) xs ++ N) (by repeat (first | exact PAll.refl | refine PAll.cons (by repeat (first | exact Pick.head | apply Pick.tail)) ?_ | apply PAll.drop))) ?_
        refine hret _ _ ⟨⟨_, _, rfl⟩, parseL_none (p := q) ?_ (List.mem_of_getElem? hq)⟩
        unfold parse1; rw [hws]; simp only []; rw [hn]
        all_goals (cases numO wa <;> cases numO wb <;> cases numO we <;> rfl)
      | some vv =>
        have hvx : vv = y := by rw [hy, hn]; rfl
        refine KR.reg (by kernel_rfl) (fun a w h => by exact hno a w h) ?_
        refine KO.mv rfl rfl ?_
        refine KO.mv rfl rfl ?_
        refine KO.idx0 (i := 1) rfl rfl Tryz.runUnderlying57 Tryz.sizeOf9 rfl (by decide) rfl ?_
        refine KO.ldE0 (i := 1) (sz := 1) (cf := strC) (e := wb) rfl rfl Tryz.isAgg9 (by with_reducible (repeat (first | exact Pick.head | apply Pick.tail))) (fun _ => rfl) rfl (by exact rfl) (by exact rfl) rfl ?_
        refine KO.ce (cp := []) rfl rfl rfl Tryz.call97 rfl (atoi_e w _ wb (hwz wb (by simp)) hM) ?_; rintro v' L' ⟨hR, rfl⟩; unfold atoiR at hR; rw [hn] at hR; subst hR
        refine KO.mv rfl rfl ?_
        refine KO.extrL rfl (by exact rfl) rfl ?_
        refine KO.extrL rfl (by exact rfl) rfl ?_
        refine KO.as rfl rfl ?_
        refine KO.as rfl rfl ?_
        refine KO.nil ?_
        repeat (first | (with_reducible refine KR.seq ?_) | (with_reducible refine KQ.nextR ?_))
        refine KR.reg (by kernel_rfl) (fun a w h => by exact hno a w h) ?_
        refine KO.mv rfl rfl ?_
        refine KO.neI0 rfl (by kernel_rfl) rfl ?_
        refine KO.nil ?_
        repeat ((with_reducible refine KQ.nextR ?_))
        refine KR.condF rfl rfl ?_
        repeat (first | (with_reducible refine KQ.nextR ?_) | (with_reducible refine KR.skip ?_))
        refine KR.reg (by kernel_rfl) (fun a w h => by exact hno a w h) ?_
        refine KO.mv rfl rfl ?_
        refine KO.mv rfl rfl ?_
        refine KO.idxA (i := 1) rfl rfl Tryz.runUnderlying167 Tryz.sizeOf3 rfl (by decide) rfl ?_
        refine KO.stAt (i := 1) rfl rfl rfl (by exact rfl) (by exact Tryz.sizeOf3) rfl (by with_reducible (repeat (exact Pick.head))) (by rfl) (by simp [arr5]) ?_
        refine KO.nil ?_
        repeat (first | (with_reducible refine KQ.nextR ?_) | (with_reducible refine KQ.blk_normal ?_))
        refine KR.reg (by kernel_rfl) (fun a w h => by exact hno a w h) ?_
        refine KO.add rfl rfl rfl (by omega) rfl ?_
        refine KO.mv rfl rfl ?_
        refine KO.nil ?_
        subst hvx
        refine KQ.round 2 ⟨by omega, fun h => ?_, fun h => ?_, fun h => ?_⟩ (by decide) ⟨rfl, rfl, rfl, rfl, rfl, rfl, rfl, rfl, rfl, trivial⟩ (fun w hw => hw.all (by repeat (exact PAll.refl)))
        all_goals first | omega | rfl | exact hp1 (by omega)
    · -- round 2
      repeat ((with_reducible refine KR.seq ?_))
      refine KR.reg (by kernel_rfl) (fun a w h => by exact hno a w h) ?_
      refine KO.lss rfl rfl rfl ?_
      refine KO.nil ?_
      repeat (first | (with_reducible refine KR.seq ?_) | (with_reducible refine KQ.nextR ?_))
      refine KR.condT rfl rfl ?_
      repeat (first | (with_reducible refine KR.seq ?_) | (with_reducible refine KQ.nextR ?_) | (with_reducible refine KR.skip ?_) | (with_reducible refine KR.block ?_))
      refine KR.reg (by kernel_rfl) (fun a w h => by exact hno a w h) ?_
      refine KO.idxAg (cs := [.int .i64 0, .int .i64 1, .int .i64 4]) (i := 2) rfl rfl Tryz.underlying168 Tryz.isAgg3 Tryz.sizeOf3 rfl (by decide) rfl rfl ?_
      refine KO.as rfl rfl ?_
      refine KO.nil ?_
      repeat (first | (with_reducible refine KR.seq ?_) | (with_reducible refine KQ.nextR ?_))
      cases hn : numO we with
      | none =>
        refine KR.reg (by kernel_rfl) (fun a w h => by exact hno a w h) ?_
        refine KO.mv rfl rfl ?_
        refine KO.mv rfl rfl ?_
        refine KO.idx0 (i := 4) rfl rfl Tryz.runUnderlying57 Tryz.sizeOf9 rfl (by decide) rfl ?_
        refine KO.ldE0 (i := 4) (sz := 1) (cf := strC) (e := we) rfl rfl Tryz.isAgg9 (by with_reducible (repeat (first | exact Pick.head | apply Pick.tail))) (fun _ => rfl) rfl (by exact rfl) (by exact rfl) rfl ?_
        refine KO.ce (cp := []) rfl rfl rfl Tryz.call97 rfl (atoi_e w _ we (hwz we (by simp)) hM) ?_; rintro v' L' ⟨hR, rfl⟩; unfold atoiR at hR; rw [hn] at hR; obtain ⟨xx, TT, yy, rfl⟩ := hR
        refine KO.mv rfl rfl ?_
        refine KO.extrL rfl (by exact rfl) rfl ?_
        refine KO.extrL rfl (by exact rfl) rfl ?_
        refine KO.as rfl rfl ?_
        refine KO.as rfl rfl ?_
        refine KO.nil ?_
        repeat (first | (with_reducible refine KR.seq ?_) | (with_reducible refine KQ.nextR ?_))
        refine KR.reg (by kernel_rfl) (fun a w h => by exact hno a w h) ?_
        refine KO.mv rfl rfl ?_
        refine KO.neIf rfl (by kernel_rfl) rfl ?_
        refine KO.nil ?_
        repeat ((with_reducible refine KQ.nextR ?_))
        refine KR.condT rfl rfl ?_
        repeat ((with_reducible refine KR.seq ?_))
        refine KR.reg (by kernel_rfl) (fun a w h => by exact hno a w h) ?_
        refine KO.mki rfl (by kernel_rfl) rfl ?_
        refine KO.sto0 rfl rfl rfl (by exact rfl) (by exact Tryz.sizeOf50) (by exact rfl) (by with_reducible (repeat (first | exact Pick.head | apply Pick.tail))) (by exact rfl) ?_
        refine KO.sto0 rfl rfl rfl (by exact rfl) (by exact Tryz.sizeOf37) (by exact rfl) (by with_reducible (repeat (first | exact Pick.head | apply Pick.tail))) (by exact rfl) ?_
        refine KO.nil ?_
        repeat (first | (with_reducible refine KQ.nextR ?_) | (with_reducible refine KQ.then_ret ?_) | (with_reducible refine KQ.blk_ret ?_) | (with_reducible refine KR.ret ?_))
        refine KQ.conv (fun w hw => hw.all (M := rdP b4 b3 b2 v (errV 39 3) xs ++ N) (by repeat (first | exact PAll.refl | refine PAll.cons (by repeat (first | exact Pick.head | apply Pick.tail)) ?_ | apply PAll.drop))) ?_
        refine hret _ _ ⟨⟨_, _, rfl⟩, parseL_none (p := q) ?_ (List.mem_of_getElem? hq)⟩
        unfold parse1; rw [hws]; simp only []; rw [hn]
        all_goals (cases numO wa <;> cases numO wb <;> cases numO we <;> rfl)
      | some vv =>
        have hvx : vv = z := by rw [hz, hn]; rfl
        refine KR.reg (by kernel_rfl) (fun a w h => by exact hno a w h) ?_
        refine KO.mv rfl rfl ?_
        refine KO.mv rfl rfl ?_
        refine KO.idx0 (i := 4) rfl rfl Tryz.runUnderlying57 Tryz.sizeOf9 rfl (by decide) rfl ?_
        refine KO.ldE0 (i := 4) (sz := 1) (cf := strC) (e := we) rfl rfl Tryz.isAgg9 (by with_reducible (repeat (first | exact Pick.head | apply Pick.tail))) (fun _ => rfl) rfl (by exact rfl) (by exact rfl) rfl ?_
        refine KO.ce (cp := []) rfl rfl rfl Tryz.call97 rfl (atoi_e w _ we (hwz we (by simp)) hM) ?_; rintro v' L' ⟨hR, rfl⟩; unfold atoiR at hR; rw [hn] at hR; subst hR
        refine KO.mv rfl rfl ?_
        refine KO.extrL rfl (by exact rfl) rfl ?_
        refine KO.extrL rfl (by exact rfl) rfl ?_
        refine KO.as rfl rfl ?_
        refine KO.as rfl rfl ?_
        refine KO.nil ?_
        repeat (first | (with_reducible refine KR.seq ?_) | (with_reducible refine KQ.nextR ?_))
        refine KR.reg (by kernel_rfl) (fun a w h => by exact hno a w h) ?_
        refine KO.mv rfl rfl ?_
        refine KO.neI0 rfl (by kernel_rfl) rfl ?_
        refine KO.nil ?_
        repeat ((with_reducible refine KQ.nextR ?_))
        refine KR.condF rfl rfl ?_
        repeat (first | (with_reducible refine KQ.nextR ?_) | (with_reducible refine KR.skip ?_))
        refine KR.reg (by kernel_rfl) (fun a w h => by exact hno a w h) ?_
        refine KO.mv rfl rfl ?_
        refine KO.mv rfl rfl ?_
        refine KO.idxA (i := 4) rfl rfl Tryz.runUnderlying167 Tryz.sizeOf3 rfl (by decide) rfl ?_
        refine KO.stAt (i := 4) rfl rfl rfl (by exact rfl) (by exact Tryz.sizeOf3) rfl (by with_reducible (repeat (exact Pick.head))) (by rfl) (by simp [arr5]) ?_
        refine KO.nil ?_
        repeat (first | (with_reducible refine KQ.nextR ?_) | (with_reducible refine KQ.blk_normal ?_))
        refine KR.reg (by kernel_rfl) (fun a w h => by exact hno a w h) ?_
        refine KO.add rfl rfl rfl (by omega) rfl ?_
        refine KO.mv rfl rfl ?_
        refine KO.nil ?_
        subst hvx
        refine KQ.round 3 ⟨by omega, fun h => ?_, fun h => ?_, fun h => ?_⟩ (by decide) ⟨rfl, rfl, rfl, rfl, rfl, rfl, rfl, rfl, rfl, trivial⟩ (fun w hw => hw.all (by repeat (exact PAll.refl)))
        all_goals first | rfl | exact hp1 (by omega) | exact hp2 (by omega)
    · repeat ((with_reducible refine KR.seq ?_))
      refine KR.reg (by kernel_rfl) (fun a w h => by exact hno a w h) ?_
      refine KO.lss rfl rfl rfl ?_
      refine KO.nil ?_
      repeat (first | (with_reducible refine KR.seq ?_) | (with_reducible refine KQ.nextR ?_))
      refine KR.condF rfl rfl ?_
      repeat (first | (with_reducible refine KQ.nextR ?_) | (with_reducible refine KQ.then_exit ?_) | (with_reducible refine KQ.blk_exit ?_) | (with_reducible refine KR.exit ?_))
      refine KR.draw [.read, .pure, .read, .pure, .read, .pure, .pure, .read, .pure, .pure, .read, .pure, .read, .pure, .keep, .write, .write] [0, 1, 2, 3, 4, 5, 6, 7, 8, 9, 10, 11, 12, 13, 14, 15, 16] (by kernel_rfl) (by kernel_rfl) (by kernel_rfl) (fun a w h => by exact hno a w h) ?_
      refine KO.ld rfl rfl Tryz.isAgg50 (by with_reducible (repeat (first | exact Pick.head | apply Pick.tail))) (by exact rfl) rfl ?_
      refine KO.idxA (i := 0) rfl rfl Tryz.runUnderlying167 Tryz.sizeOf3 rfl (by decide) rfl ?_
      refine KO.ld rfl rfl Tryz.isAgg3 (by with_reducible (repeat (exact Pick.head))) (by exact rfl) rfl ?_
      refine KO.idxA (i := 1) rfl rfl Tryz.runUnderlying167 Tryz.sizeOf3 rfl (by decide) rfl ?_
      refine KO.ld rfl rfl Tryz.isAgg3 (by with_reducible (repeat (exact Pick.head))) (by exact rfl) rfl ?_
      refine KO.mv rfl rfl ?_
      refine KO.idx0 (i := 2) rfl rfl Tryz.runUnderlying57 Tryz.sizeOf9 rfl (by decide) rfl ?_
      refine KO.ldE0 (i := 2) (sz := 1) (cf := strC) (e := wc) rfl rfl Tryz.isAgg9 (by with_reducible (repeat (first | exact Pick.head | apply Pick.tail))) (fun _ => rfl) rfl (by exact rfl) (by exact rfl) rfl ?_
      refine KO.mv rfl rfl ?_
      refine KO.idx0 (i := 3) rfl rfl Tryz.runUnderlying57 Tryz.sizeOf9 rfl (by decide) rfl ?_
      refine KO.ldE0 (i := 3) (sz := 1) (cf := strC) (e := wd) rfl rfl Tryz.isAgg9 (by with_reducible (repeat (first | exact Pick.head | apply Pick.tail))) (fun _ => rfl) rfl (by exact rfl) (by exact rfl) rfl ?_
      refine KO.idxA (i := 4) rfl rfl Tryz.runUnderlying167 Tryz.sizeOf3 rfl (by decide) rfl ?_
      refine KO.ld rfl rfl Tryz.isAgg3 (by with_reducible (repeat (exact Pick.head))) (by exact rfl) rfl ?_
      refine KO.bldN (pl := [(0, 1), (1, 1), (2, 1), (3, 1), (4, 1)]) rfl Tryz.zeroValue31 Tryz.runUnderlying31 (by intro w; simp [Tryz.sizeOf3, Tryz.sizeOf9]) (by exact rfl) rfl ?_
      refine KO.bs1 (z := (Value.agg #[.int .i64 0, .int .i64 0, .string ⟨#[]⟩, .string ⟨#[]⟩, .int .i64 0])) (sz := 5) (by' := 56) rfl rfl Tryz.underlying50 (by kernel_rfl) (by exact rfl) (by exact rfl) (by decide) (by decide) rfl ?_; intro b58
      refine KO.app (z := Value.agg #[.int .i64 0, .int .i64 0, .string ⟨#[]⟩, .string ⟨#[]⟩, .int .i64 0]) (sz := 5) (by' := 56) rfl rfl rfl (by with_reducible (repeat (first | exact Pick.head | apply Pick.tail))) (by with_reducible (repeat (exact Pick.head))) Tryz.underlying50 msr_info rfl (⟨x, y, wc, wd, z⟩ : Ms) (by exact rfl) (by exact rfl) (by exact rfl) (by omega) (by decide) rfl ?_; intro v'; refine KO.fact (fun w hw => SL_form hw) ?_; rintro ⟨sa, cp, rfl, _⟩
      refine KO.sto0 rfl rfl rfl (by exact rfl) (by exact Tryz.sizeOf50) (by exact rfl) (by with_reducible (repeat (first | exact Pick.head | apply Pick.tail))) (by exact rfl) ?_
      refine KO.nil ?_
      repeat ((with_reducible refine KQ.blk_normal ?_))
      refine KQ.conv (fun w hw => hw.all (M := rdP b4 b3 b2 (.slice sa (xs ++ [(⟨x, y, wc, wd, z⟩ : Ms)]).length cp) .nilIface (xs ++ [(⟨x, y, wc, wd, z⟩ : Ms)]) ++ N) (by repeat (first | exact PAll.refl | refine PAll.cons (by repeat (first | exact Pick.head | apply Pick.tail)) ?_ | apply PAll.drop))) ?_
      have hpm : parse1 q = some ⟨x, y, wc, wd, z⟩ := by
        unfold parse1; rw [hws]; simp only []; rw [hp1 (by omega), hp2 (by omega), hp3 (by omega)]
      refine hgo _ _ ⟨_, _, rfl, ?_⟩
      rw [take_succ_some hq, parseL_snoc hxs, hpm]; rfl
  · rintro b M ⟨v, xs, rfl, hxs⟩
    rw [List.take_length] at hxs
    have hxl : xs.length ≤ 100000 := by have := parseL_len hxs; omega
    have hms : ∀ m ∈ xs, m.body.size ≤ maxLen ∧ m.queue.size ≤ maxLen := fun m hm => by
      have := parseL_size (B := 90000) hxs (fun p hp => by have := pcs_size hp; omega) m hm
      unfold maxLen; omega
    have hmr : mrd s = if badI xs = none ∧ writeS xs = s then some xs else none := by unfold mrd; rw [if_neg h0, hxs]
    rw [hmr]
    simp only [rdP]
    repeat (first | (with_reducible refine K.seq ?_) | (with_reducible refine KQ.next ?_) | (with_reducible refine KQ.blk_normal ?_))
    refine K.fact (fun w hw => SL_form (hw.pick (.tail (.tail (.tail (.tail .head)))))) ?_
    rintro ⟨sa, cp, rfl, _⟩
    cases hb : badI xs with
    | some kb =>
      rw [if_neg (by simp)]
      refine K.reg ?_
      refine KO.ld rfl rfl Tryz.isAgg50 (by with_reducible (repeat (first | exact Pick.head | apply Pick.tail))) (by exact rfl) rfl ?_
      refine KO.ce (cp := []) rfl rfl rfl Tryz.call98 rfl (mwrite_e w _ _ xs (fun w' hw' => RdA.ofSL (fun _ => rfl) (by with_reducible (repeat (first | exact Pick.head | apply Pick.tail))) hw') hT hms hxl) ?_; rintro v' L' hR; unfold MwR at hR; rw [hb] at hR; obtain ⟨be, rfl, rfl⟩ := hR; unfold atV
      refine KO.mv rfl rfl ?_
      refine KO.extrL rfl (by exact rfl) rfl ?_
      refine KO.extrL rfl (by exact rfl) rfl ?_
      refine KO.as rfl rfl ?_
      refine KO.as rfl rfl ?_
      refine KO.nil ?_
      repeat (first | (with_reducible refine K.seq ?_) | (with_reducible refine KQ.next ?_))
      refine K.reg ?_
      refine KO.mv rfl rfl ?_
      refine KO.neIf rfl (by kernel_rfl) rfl ?_
      refine KO.mv rfl rfl ?_
      (refine KO.no rfl rfl ?_ rfl ?_; (focus rfl))
      (refine KO.no rfl rfl ?_ rfl ?_; (focus rfl))
      (refine KO.no rfl rfl ?_ rfl ?_; (focus rfl))
      (refine KO.pickT rfl ?_ rfl rfl ?_; (focus rfl))
      refine KO.nil ?_
      repeat ((with_reducible refine KQ.next ?_))
      refine K.condT rfl rfl ?_
      repeat ((with_reducible refine K.seq ?_))
      refine K.reg ?_
      refine KO.mki rfl (by kernel_rfl) rfl ?_
      refine KO.sto0 rfl rfl rfl (by exact rfl) (by exact Tryz.sizeOf50) (by exact rfl) (by with_reducible (repeat (first | exact Pick.head | apply Pick.tail))) (by exact rfl) ?_
      refine KO.sto0 rfl rfl rfl (by exact rfl) (by exact Tryz.sizeOf37) (by exact rfl) (by with_reducible (repeat (first | exact Pick.head | apply Pick.tail))) (by exact rfl) ?_
      refine KO.nil ?_
      repeat (first | (with_reducible refine KQ.next ?_) | (with_reducible refine KQ.then_ret ?_) | (with_reducible refine K.ret ?_))
      refine KQ.retM2C1 (by with_reducible (repeat (first | exact Pick.head | apply Pick.tail))) rfl rfl rfl Tryz.isAgg50 Tryz.isAgg37 (by with_reducible (repeat (first | exact Pick.head | apply Pick.tail))) (by with_reducible (repeat (exact Pick.head))) (fun w' hs => ⟨_, _, rfl, ⟨(by exact rfl), rfl⟩, hw.below_step hs.below, hs.below⟩)
    | none =>
      by_cases hws : writeS xs = s
      · rw [if_pos ⟨rfl, hws⟩]
        refine K.reg ?_
        refine KO.ld rfl rfl Tryz.isAgg50 (by with_reducible (repeat (first | exact Pick.head | apply Pick.tail))) (by exact rfl) rfl ?_
        refine KO.ce (cp := []) rfl rfl rfl Tryz.call98 rfl (mwrite_e w _ _ xs (fun w' hw' => RdA.ofSL (fun _ => rfl) (by with_reducible (repeat (first | exact Pick.head | apply Pick.tail))) hw') hT hms hxl) ?_; rintro v' L' hR; unfold MwR at hR; rw [hb] at hR; obtain ⟨rfl, rfl⟩ := hR
        refine KO.mv rfl rfl ?_
        refine KO.extrL rfl (by exact rfl) rfl ?_
        refine KO.extrL rfl (by exact rfl) rfl ?_
        refine KO.as rfl rfl ?_
        refine KO.as rfl rfl ?_
        refine KO.nil ?_
        repeat (first | (with_reducible refine K.seq ?_) | (with_reducible refine KQ.next ?_))
        refine K.reg ?_
        refine KO.mv rfl rfl ?_
        refine KO.neI0 rfl (by kernel_rfl) rfl ?_
        refine KO.mv rfl rfl ?_
        (refine KO.on rfl rfl ?_ ?_; (focus rfl); (refine KO.mv rfl rfl ?_))
        (refine KO.on rfl rfl ?_ ?_; (focus rfl); (refine KO.mv rfl rfl ?_))
        (refine KO.on rfl rfl ?_ ?_; (focus rfl); (refine KO.neS rfl rfl rfl ?_))
        (refine KO.pickF rfl ?_ rfl rfl ?_; (focus rfl))
        refine KO.nil ?_
        repeat ((with_reducible refine KQ.next ?_))
        refine K.condF rfl (by simp [hws]) ?_
        repeat (first | (with_reducible refine K.seq ?_) | (with_reducible refine KQ.next ?_) | (with_reducible refine K.skip ?_))
        refine K.reg ?_
        refine KO.ld rfl rfl Tryz.isAgg50 (by with_reducible (repeat (first | exact Pick.head | apply Pick.tail))) (by exact rfl) rfl ?_
        refine KO.sto0 rfl rfl rfl (by exact rfl) (by exact Tryz.sizeOf50) (by exact rfl) (by with_reducible (repeat (first | exact Pick.head | apply Pick.tail))) (by exact rfl) ?_
        refine KO.sto0 rfl rfl rfl (by exact rfl) (by exact Tryz.sizeOf37) (by exact rfl) (by with_reducible (repeat (first | exact Pick.head | apply Pick.tail))) (by exact rfl) ?_
        refine KO.nil ?_
        repeat (first | (with_reducible refine KQ.next ?_) | (with_reducible refine K.ret ?_))
        refine KQ.retM2C1 (by with_reducible (repeat (first | exact Pick.head | apply Pick.tail))) rfl rfl rfl Tryz.isAgg50 Tryz.isAgg37 (by with_reducible (repeat (first | exact Pick.head | apply Pick.tail))) (by with_reducible (repeat (exact Pick.head))) (fun w' hs => ⟨_, _, rfl, ⟨_, rfl, rfl⟩, ?_, hs.below⟩)
        exact hw.stack (M := [SL 31 5 msC (.slice sa xs.length cp) xs]) (hs.all (by with_reducible repeat (first | exact PAll.nil | refine PAll.cons (by with_reducible repeat (first | exact Pick.head | apply Pick.tail)) ?_)))
      · rw [if_neg (fun h => hws h.2)]
        refine K.reg ?_
        refine KO.ld rfl rfl Tryz.isAgg50 (by with_reducible (repeat (first | exact Pick.head | apply Pick.tail))) (by exact rfl) rfl ?_
        refine KO.ce (cp := []) rfl rfl rfl Tryz.call98 rfl (mwrite_e w _ _ xs (fun w' hw' => RdA.ofSL (fun _ => rfl) (by with_reducible (repeat (first | exact Pick.head | apply Pick.tail))) hw') hT hms hxl) ?_; rintro v' L' hR; unfold MwR at hR; rw [hb] at hR; obtain ⟨rfl, rfl⟩ := hR
        refine KO.mv rfl rfl ?_
        refine KO.extrL rfl (by exact rfl) rfl ?_
        refine KO.extrL rfl (by exact rfl) rfl ?_
        refine KO.as rfl rfl ?_
        refine KO.as rfl rfl ?_
        refine KO.nil ?_
        repeat (first | (with_reducible refine K.seq ?_) | (with_reducible refine KQ.next ?_))
        refine K.reg ?_
        refine KO.mv rfl rfl ?_
        refine KO.neI0 rfl (by kernel_rfl) rfl ?_
        refine KO.mv rfl rfl ?_
        (refine KO.on rfl rfl ?_ ?_; (focus rfl); (refine KO.mv rfl rfl ?_))
        (refine KO.on rfl rfl ?_ ?_; (focus rfl); (refine KO.mv rfl rfl ?_))
        (refine KO.on rfl rfl ?_ ?_; (focus rfl); (refine KO.neS rfl rfl rfl ?_))
        (refine KO.pickF rfl ?_ rfl rfl ?_; (focus rfl))
        refine KO.nil ?_
        repeat ((with_reducible refine KQ.next ?_))
        refine K.condT rfl (by simp [hws]) ?_
        repeat ((with_reducible refine K.seq ?_))
        refine K.reg ?_
        refine KO.mki rfl (by kernel_rfl) rfl ?_
        refine KO.sto0 rfl rfl rfl (by exact rfl) (by exact Tryz.sizeOf50) (by exact rfl) (by with_reducible (repeat (first | exact Pick.head | apply Pick.tail))) (by exact rfl) ?_
        refine KO.sto0 rfl rfl rfl (by exact rfl) (by exact Tryz.sizeOf37) (by exact rfl) (by with_reducible (repeat (first | exact Pick.head | apply Pick.tail))) (by exact rfl) ?_
        refine KO.nil ?_
        repeat (first | (with_reducible refine KQ.next ?_) | (with_reducible refine KQ.then_ret ?_) | (with_reducible refine K.ret ?_))
        refine KQ.retM2C1 (by with_reducible (repeat (first | exact Pick.head | apply Pick.tail))) rfl rfl rfl Tryz.isAgg50 Tryz.isAgg37 (by with_reducible (repeat (first | exact Pick.head | apply Pick.tail))) (by with_reducible (repeat (exact Pick.head))) (fun w' hs => ⟨_, _, rfl, ⟨(by exact rfl), rfl⟩, hw.below_step hs.below, hs.below⟩)
  · rintro b M ⟨⟨v, xs, rfl⟩, hx⟩
    have hmr : mrd s = none := by unfold mrd; rw [if_neg h0, hx]
    rw [hmr]
    simp only [rdP]
    repeat (first | (with_reducible refine KQ.then_ret ?_) | (with_reducible refine KQ.blk_ret ?_))
    refine KQ.retM2C1 (by with_reducible (repeat (exact Pick.head))) rfl rfl rfl Tryz.isAgg50 Tryz.isAgg37 (by with_reducible (repeat (first | exact Pick.head | apply Pick.tail))) (by with_reducible (repeat (first | exact Pick.head | apply Pick.tail))) (fun w' hs => ⟨_, _, rfl, ⟨(by exact rfl), rfl⟩, hw.below_step hs.below, hs.below⟩)
end Go.Proofs.YtjhogocabcdjbaaGreatDoor
/- frames' text: plain -/
namespace WB
open Go
structure Fr where
  frm : Int
  num : Int
  ack : Bool
def frC (f : Fr) (v : Value) : List Value := [.int .i64 f.frm, .int .i64 f.num, .bool f.ack, v]
def colon : ByteArray := ⟨#[58]⟩
def kindS (a : Bool) : ByteArray := if a then ⟨#[97]⟩ else ⟨#[98]⟩
def frS (f : Fr) (xs : List Ms) : ByteArray := joinS [kindS f.ack, itoaS f.frm, itoaS f.num, writeS xs] colon
def okF (f : Fr) (xs : List Ms) : Prop := 0 ≤ f.frm ∧ f.frm ≤ 3 ∧ 0 ≤ f.num ∧ f.num ≤ 1099511627776 ∧ f.ack = decide (xs.length = 0) ∧ xs.length ≤ 3 ∧ badI xs = none
instance (f : Fr) (xs : List Ms) : Decidable (okF f xs) := by unfold okF; infer_instance
def fwE (f : Fr) (xs : List Ms) : Int := if okF f xs then 0 else 1
def fwT (f : Fr) (xs : List Ms) : ByteArray := if okF f xs then frS f xs else ⟨#[]⟩
theorem joinS_four (a b c d s : ByteArray) : joinS [a, b, c, d] s = a ++ s ++ b ++ s ++ c ++ s ++ d := by
  rw [joinS_cons2, joinS_cons2, joinS_two]
  simp only [cat_assoc]
theorem fw_bad {f : Fr} {xs : List Ms} (h : ¬ okF f xs) : fwE f xs = 1 ∧ fwT f xs = ⟨#[]⟩ := ⟨if_neg h, if_neg h⟩
theorem fw_ok {f : Fr} {xs : List Ms} (h : okF f xs) : fwE f xs = 0 ∧ fwT f xs = frS f xs := ⟨if_pos h, if_pos h⟩
theorem writeT_ok {xs : List Ms} (h : badI xs = none) : writeT xs = writeS xs ∧ writeE xs = 0 := by unfold writeT writeE; rw [h]; exact ⟨rfl, rfl⟩
theorem writeE_bad {xs : List Ms} (h : badI xs ≠ none) : writeE xs = 1 := by
  unfold writeE
  cases hb : badI xs with
  | none => exact absurd hb h
  | some k => rfl
end WB
/- frames' text: the program's and the document's -/
namespace Go.Proofs.YtjhogocabcdjbaaGreatDoor
open Go Go.RowKit WB
theorem strS_blk {w0 w : World} {L : List HP} {b k : Nat} {xs : List ByteArray} {vs : List Value} (h : St w0 (blk b (.cells vs.toArray 9 (0, 0)) :: L) w) (hvs : vs = xs.map Value.string) (hk : xs.length = k) (hle : k ≤ 1000) : St w0 (strS (.slice (some ⟨b, 0, none⟩) k k) xs :: L) w := by
  subst hk
  have hf : xs.flatMap strC = vs := by rw [hvs]; clear hvs h hle; induction xs with
    | nil => rfl
    | cons a l ih => rw [List.flatMap_cons, ih]; rfl
  refine h.osl_mk (Nat.le_refl _) (by unfold maxLen; omega) ?_ ?_
  · rw [hvs]; simp
  · rw [hf, hvs, Nat.mul_one]; exact List.take_of_length_le (by simp)
set_option maxRecDepth 100000 in
set_option maxHeartbeats 4000000 in
theorem fw_e (w0 : World) (L : List HP) (f : Fr) (v : Value) (xs : List Ms) (hr0 : ∀ w, St w0 L w → RdA w 5 msC v xs) (hT0 : Tab w0) (hsz : ∀ m ∈ xs, m.body.size ≤ maxLen ∧ m.queue.size ≤ maxLen) :
    KE Tryz.prog 100 #[.agg (frC f v).toArray] w0 L (fun u M => u = .tuple #[.string (fwT f xs), errV 39 (fwE f xs)] ∧ M = L) := by
  refine KE.mk (n := 62) Tryz.func100 rfl Tryz.ntmps100 (by simp) ?_
  intro w hw
  have hT := hT0.ext (Ext.of_below hw.below)
  have hr := hr0 w hw
  have hr1 := hr
  obtain ⟨sa, cap, rfl, hc⟩ := hr1
  have fin : ∀ (e : Int) (t : ByteArray) (w' : World) (M : List HP), e = fwE f xs → t = fwT f xs → St w M w' → ∃ v L', Ending.returned (.tuple #[.string t, errV 39 e]) = Ending.returned v ∧ (v = .tuple #[.string (fwT f xs), errV 39 (fwE f xs)] ∧ L' = L) ∧ St w0 L' w' ∧ Below w.heap.size w w' := fun e t w' M h1 h2 hs => ⟨_, _, rfl, ⟨by rw [h1, h2], rfl⟩, hw.below_step hs.below, hs.below⟩
  repeat ((with_reducible refine K.seq ?_))
  refine K.reg ?_
  refine KO.box rfl rfl (by exact rfl) rfl ?_; intro b1
  refine KO.as rfl rfl ?_
  refine KO.as rfl rfl ?_
  refine KO.nil ?_
  repeat (first | (with_reducible refine K.seq ?_) | (with_reducible refine KQ.next ?_))
  by_cases a1 : f.frm < 0
  · have hbad := fw_bad (f := f) (xs := xs) (fun h => by unfold okF at h; omega)
    refine K.reg ?_
    refine KO.fo0 (off := 0) rfl Tryz.runUnderlying92 rfl rfl Tryz.sizeOf3 rfl ?_
    refine KO.ld rfl rfl Tryz.isAgg3 (by with_reducible (repeat (exact Pick.head))) (by exact rfl) rfl ?_
    refine KO.lss rfl rfl rfl ?_
    refine KO.mv rfl rfl ?_
    (refine KO.no rfl rfl ?_ rfl ?_; (focus (simp only [decide_eq_true_eq, decide_eq_false_iff_not, Bool.not_eq_true, Bool.not_true, Bool.not_false, ne_eq]; omega)))
    (refine KO.no rfl rfl ?_ rfl ?_; (focus (simp only [decide_eq_true_eq, decide_eq_false_iff_not, Bool.not_eq_true, Bool.not_true, Bool.not_false, ne_eq]; omega)))
    (refine KO.no rfl rfl ?_ rfl ?_; (focus (simp only [decide_eq_true_eq, decide_eq_false_iff_not, Bool.not_eq_true, Bool.not_true, Bool.not_false, ne_eq]; omega)))
    (refine KO.pickT rfl ?_ rfl rfl ?_; (focus (simp only [decide_eq_true_eq, decide_eq_false_iff_not, Bool.not_eq_true, Bool.not_true, Bool.not_false, ne_eq]; omega)))
    refine KO.mv rfl rfl ?_
    (refine KO.no rfl rfl ?_ rfl ?_; (focus rfl))
    (refine KO.no rfl rfl ?_ rfl ?_; (focus rfl))
    (refine KO.no rfl rfl ?_ rfl ?_; (focus rfl))
    (refine KO.pickT rfl ?_ rfl rfl ?_; (focus rfl))
    refine KO.mv rfl rfl ?_
    (refine KO.no rfl rfl ?_ rfl ?_; (focus rfl))
    (refine KO.no rfl rfl ?_ rfl ?_; (focus rfl))
    (refine KO.no rfl rfl ?_ rfl ?_; (focus rfl))
    (refine KO.pickT rfl ?_ rfl rfl ?_; (focus rfl))
    refine KO.mv rfl rfl ?_
    (refine KO.no rfl rfl ?_ rfl ?_; (focus rfl))
    (refine KO.no rfl rfl ?_ rfl ?_; (focus rfl))
    (refine KO.no rfl rfl ?_ rfl ?_; (focus rfl))
    (refine KO.no rfl rfl ?_ rfl ?_; (focus rfl))
    (refine KO.no rfl rfl ?_ rfl ?_; (focus rfl))
    (refine KO.no rfl rfl ?_ rfl ?_; (focus rfl))
    (refine KO.no rfl rfl ?_ rfl ?_; (focus rfl))
    (refine KO.pickT rfl ?_ rfl rfl ?_; (focus rfl))
    refine KO.mv rfl rfl ?_
    (refine KO.no rfl rfl ?_ rfl ?_; (focus rfl))
    (refine KO.no rfl rfl ?_ rfl ?_; (focus rfl))
    (refine KO.no rfl rfl ?_ rfl ?_; (focus rfl))
    (refine KO.no rfl rfl ?_ rfl ?_; (focus rfl))
    (refine KO.pickT rfl ?_ rfl rfl ?_; (focus rfl))
    refine KO.nil ?_
    repeat ((with_reducible refine KQ.next ?_))
    refine K.condT rfl rfl ?_
    repeat ((with_reducible refine K.seq ?_))
    refine K.reg ?_
    refine KO.mki rfl (by kernel_rfl) rfl ?_
    refine KO.as rfl rfl ?_
    refine KO.as rfl rfl ?_
    refine KO.nil ?_
    repeat (first | (with_reducible refine KQ.next ?_) | (with_reducible refine KQ.then_ret ?_) | (with_reducible refine K.ret ?_))
    refine KQ.ret2 rfl rfl rfl (fun w' hs => fin 1 ⟨#[]⟩ w' _ hbad.1.symm hbad.2.symm hs)
  by_cases a2 : 4 ≤ f.frm
  · have hbad := fw_bad (f := f) (xs := xs) (fun h => by unfold okF at h; omega)
    refine K.reg ?_
    refine KO.fo0 (off := 0) rfl Tryz.runUnderlying92 rfl rfl Tryz.sizeOf3 rfl ?_
    refine KO.ld rfl rfl Tryz.isAgg3 (by with_reducible (repeat (exact Pick.head))) (by exact rfl) rfl ?_
    refine KO.lss rfl rfl rfl ?_
    refine KO.mv rfl rfl ?_
    (refine KO.on rfl rfl ?_ ?_; (focus (simp only [decide_eq_true_eq, decide_eq_false_iff_not, Bool.not_eq_true, Bool.not_true, Bool.not_false, ne_eq]; omega)); (refine KO.fo0 (off := 0) rfl Tryz.runUnderlying92 rfl rfl Tryz.sizeOf3 rfl ?_))
    (refine KO.on rfl rfl ?_ ?_; (focus (simp only [decide_eq_true_eq, decide_eq_false_iff_not, Bool.not_eq_true, Bool.not_true, Bool.not_false, ne_eq]; omega)); (refine KO.ld rfl rfl Tryz.isAgg3 (by with_reducible (repeat (exact Pick.head))) (by exact rfl) rfl ?_))
    (refine KO.on rfl rfl ?_ ?_; (focus (simp only [decide_eq_true_eq, decide_eq_false_iff_not, Bool.not_eq_true, Bool.not_true, Bool.not_false, ne_eq]; omega)); (refine KO.geq rfl rfl rfl ?_))
    (refine KO.pickF rfl ?_ rfl rfl ?_; (focus (simp only [decide_eq_true_eq, decide_eq_false_iff_not, Bool.not_eq_true, Bool.not_true, Bool.not_false, ne_eq]; omega)))
    refine KO.mv rfl rfl ?_
    (refine KO.no rfl rfl ?_ rfl ?_; (focus (simp only [decide_eq_true_eq, decide_eq_false_iff_not, Bool.not_eq_true, Bool.not_true, Bool.not_false, ne_eq]; omega)))
    (refine KO.no rfl rfl ?_ rfl ?_; (focus (simp only [decide_eq_true_eq, decide_eq_false_iff_not, Bool.not_eq_true, Bool.not_true, Bool.not_false, ne_eq]; omega)))
    (refine KO.no rfl rfl ?_ rfl ?_; (focus (simp only [decide_eq_true_eq, decide_eq_false_iff_not, Bool.not_eq_true, Bool.not_true, Bool.not_false, ne_eq]; omega)))
    (refine KO.pickT rfl ?_ rfl rfl ?_; (focus (simp only [decide_eq_true_eq, decide_eq_false_iff_not, Bool.not_eq_true, Bool.not_true, Bool.not_false, ne_eq]; omega)))
    refine KO.mv rfl rfl ?_
    (refine KO.no rfl rfl ?_ rfl ?_; (focus rfl))
    (refine KO.no rfl rfl ?_ rfl ?_; (focus rfl))
    (refine KO.no rfl rfl ?_ rfl ?_; (focus rfl))
    (refine KO.pickT rfl ?_ rfl rfl ?_; (focus rfl))
    refine KO.mv rfl rfl ?_
    (refine KO.no rfl rfl ?_ rfl ?_; (focus rfl))
    (refine KO.no rfl rfl ?_ rfl ?_; (focus rfl))
    (refine KO.no rfl rfl ?_ rfl ?_; (focus rfl))
    (refine KO.no rfl rfl ?_ rfl ?_; (focus rfl))
    (refine KO.no rfl rfl ?_ rfl ?_; (focus rfl))
    (refine KO.no rfl rfl ?_ rfl ?_; (focus rfl))
    (refine KO.no rfl rfl ?_ rfl ?_; (focus rfl))
    (refine KO.pickT rfl ?_ rfl rfl ?_; (focus rfl))
    refine KO.mv rfl rfl ?_
    (refine KO.no rfl rfl ?_ rfl ?_; (focus rfl))
    (refine KO.no rfl rfl ?_ rfl ?_; (focus rfl))
    (refine KO.no rfl rfl ?_ rfl ?_; (focus rfl))
    (refine KO.no rfl rfl ?_ rfl ?_; (focus rfl))
    (refine KO.pickT rfl ?_ rfl rfl ?_; (focus rfl))
    refine KO.nil ?_
    repeat ((with_reducible refine KQ.next ?_))
    refine K.condT rfl (by simp [a2]) ?_
    repeat ((with_reducible refine K.seq ?_))
    refine K.reg ?_
    refine KO.mki rfl (by kernel_rfl) rfl ?_
    refine KO.as rfl rfl ?_
    refine KO.as rfl rfl ?_
    refine KO.nil ?_
    repeat (first | (with_reducible refine KQ.next ?_) | (with_reducible refine KQ.then_ret ?_) | (with_reducible refine K.ret ?_))
    refine KQ.ret2 rfl rfl rfl (fun w' hs => fin 1 ⟨#[]⟩ w' _ hbad.1.symm hbad.2.symm hs)
  by_cases a3 : f.num < 0
  · have hbad := fw_bad (f := f) (xs := xs) (fun h => by unfold okF at h; omega)
    refine K.reg ?_
    refine KO.fo0 (off := 0) rfl Tryz.runUnderlying92 rfl rfl Tryz.sizeOf3 rfl ?_
    refine KO.ld rfl rfl Tryz.isAgg3 (by with_reducible (repeat (exact Pick.head))) (by exact rfl) rfl ?_
    refine KO.lss rfl rfl rfl ?_
    refine KO.mv rfl rfl ?_
    (refine KO.on rfl rfl ?_ ?_; (focus (simp only [decide_eq_true_eq, decide_eq_false_iff_not, Bool.not_eq_true, Bool.not_true, Bool.not_false, ne_eq]; omega)); (refine KO.fo0 (off := 0) rfl Tryz.runUnderlying92 rfl rfl Tryz.sizeOf3 rfl ?_))
    (refine KO.on rfl rfl ?_ ?_; (focus (simp only [decide_eq_true_eq, decide_eq_false_iff_not, Bool.not_eq_true, Bool.not_true, Bool.not_false, ne_eq]; omega)); (refine KO.ld rfl rfl Tryz.isAgg3 (by with_reducible (repeat (exact Pick.head))) (by exact rfl) rfl ?_))
    (refine KO.on rfl rfl ?_ ?_; (focus (simp only [decide_eq_true_eq, decide_eq_false_iff_not, Bool.not_eq_true, Bool.not_true, Bool.not_false, ne_eq]; omega)); (refine KO.geq rfl rfl rfl ?_))
    (refine KO.pickF rfl ?_ rfl rfl ?_; (focus (simp only [decide_eq_true_eq, decide_eq_false_iff_not, Bool.not_eq_true, Bool.not_true, Bool.not_false, ne_eq]; omega)))
    refine KO.mv rfl rfl ?_
    (refine KO.on rfl rfl ?_ ?_; (focus (simp only [decide_eq_true_eq, decide_eq_false_iff_not, Bool.not_eq_true, Bool.not_true, Bool.not_false, ne_eq]; omega)); (refine KO.fo0 (off := 1) rfl Tryz.runUnderlying92 rfl rfl Tryz.sizeOf3 rfl ?_))
    (refine KO.on rfl rfl ?_ ?_; (focus (simp only [decide_eq_true_eq, decide_eq_false_iff_not, Bool.not_eq_true, Bool.not_true, Bool.not_false, ne_eq]; omega)); (refine KO.ld rfl rfl Tryz.isAgg3 (by with_reducible (repeat (exact Pick.head))) (by exact rfl) rfl ?_))
    (refine KO.on rfl rfl ?_ ?_; (focus (simp only [decide_eq_true_eq, decide_eq_false_iff_not, Bool.not_eq_true, Bool.not_true, Bool.not_false, ne_eq]; omega)); (refine KO.lss rfl rfl rfl ?_))
    (refine KO.pickF rfl ?_ rfl rfl ?_; (focus (simp only [decide_eq_true_eq, decide_eq_false_iff_not, Bool.not_eq_true, Bool.not_true, Bool.not_false, ne_eq]; omega)))
    refine KO.mv rfl rfl ?_
    (refine KO.no rfl rfl ?_ rfl ?_; (focus (simp only [decide_eq_true_eq, decide_eq_false_iff_not, Bool.not_eq_true, Bool.not_true, Bool.not_false, ne_eq]; omega)))
    (refine KO.no rfl rfl ?_ rfl ?_; (focus (simp only [decide_eq_true_eq, decide_eq_false_iff_not, Bool.not_eq_true, Bool.not_true, Bool.not_false, ne_eq]; omega)))
    (refine KO.no rfl rfl ?_ rfl ?_; (focus (simp only [decide_eq_true_eq, decide_eq_false_iff_not, Bool.not_eq_true, Bool.not_true, Bool.not_false, ne_eq]; omega)))
    (refine KO.pickT rfl ?_ rfl rfl ?_; (focus (simp only [decide_eq_true_eq, decide_eq_false_iff_not, Bool.not_eq_true, Bool.not_true, Bool.not_false, ne_eq]; omega)))
    refine KO.mv rfl rfl ?_
    (refine KO.no rfl rfl ?_ rfl ?_; (focus rfl))
    (refine KO.no rfl rfl ?_ rfl ?_; (focus rfl))
    (refine KO.no rfl rfl ?_ rfl ?_; (focus rfl))
    (refine KO.no rfl rfl ?_ rfl ?_; (focus rfl))
    (refine KO.no rfl rfl ?_ rfl ?_; (focus rfl))
    (refine KO.no rfl rfl ?_ rfl ?_; (focus rfl))
    (refine KO.no rfl rfl ?_ rfl ?_; (focus rfl))
    (refine KO.pickT rfl ?_ rfl rfl ?_; (focus rfl))
    refine KO.mv rfl rfl ?_
    (refine KO.no rfl rfl ?_ rfl ?_; (focus rfl))
    (refine KO.no rfl rfl ?_ rfl ?_; (focus rfl))
    (refine KO.no rfl rfl ?_ rfl ?_; (focus rfl))
    (refine KO.no rfl rfl ?_ rfl ?_; (focus rfl))
    (refine KO.pickT rfl ?_ rfl rfl ?_; (focus rfl))
    refine KO.nil ?_
    repeat ((with_reducible refine KQ.next ?_))
    refine K.condT rfl (by simp [a3]) ?_
    repeat ((with_reducible refine K.seq ?_))
    refine K.reg ?_
    refine KO.mki rfl (by kernel_rfl) rfl ?_
    refine KO.as rfl rfl ?_
    refine KO.as rfl rfl ?_
    refine KO.nil ?_
    repeat (first | (with_reducible refine KQ.next ?_) | (with_reducible refine KQ.then_ret ?_) | (with_reducible refine K.ret ?_))
    refine KQ.ret2 rfl rfl rfl (fun w' hs => fin 1 ⟨#[]⟩ w' _ hbad.1.symm hbad.2.symm hs)
  by_cases a4 : 1099511627776 < f.num
  · have hbad := fw_bad (f := f) (xs := xs) (fun h => by unfold okF at h; omega)
    refine K.reg ?_
    refine KO.fo0 (off := 0) rfl Tryz.runUnderlying92 rfl rfl Tryz.sizeOf3 rfl ?_
    refine KO.ld rfl rfl Tryz.isAgg3 (by with_reducible (repeat (exact Pick.head))) (by exact rfl) rfl ?_
    refine KO.lss rfl rfl rfl ?_
    refine KO.mv rfl rfl ?_
    (refine KO.on rfl rfl ?_ ?_; (focus (simp only [decide_eq_true_eq, decide_eq_false_iff_not, Bool.not_eq_true, Bool.not_true, Bool.not_false, ne_eq]; omega)); (refine KO.fo0 (off := 0) rfl Tryz.runUnderlying92 rfl rfl Tryz.sizeOf3 rfl ?_))
    (refine KO.on rfl rfl ?_ ?_; (focus (simp only [decide_eq_true_eq, decide_eq_false_iff_not, Bool.not_eq_true, Bool.not_true, Bool.not_false, ne_eq]; omega)); (refine KO.ld rfl rfl Tryz.isAgg3 (by with_reducible (repeat (exact Pick.head))) (by exact rfl) rfl ?_))
    (refine KO.on rfl rfl ?_ ?_; (focus (simp only [decide_eq_true_eq, decide_eq_false_iff_not, Bool.not_eq_true, Bool.not_true, Bool.not_false, ne_eq]; omega)); (refine KO.geq rfl rfl rfl ?_))
    (refine KO.pickF rfl ?_ rfl rfl ?_; (focus (simp only [decide_eq_true_eq, decide_eq_false_iff_not, Bool.not_eq_true, Bool.not_true, Bool.not_false, ne_eq]; omega)))
    refine KO.mv rfl rfl ?_
    (refine KO.on rfl rfl ?_ ?_; (focus (simp only [decide_eq_true_eq, decide_eq_false_iff_not, Bool.not_eq_true, Bool.not_true, Bool.not_false, ne_eq]; omega)); (refine KO.fo0 (off := 1) rfl Tryz.runUnderlying92 rfl rfl Tryz.sizeOf3 rfl ?_))
    (refine KO.on rfl rfl ?_ ?_; (focus (simp only [decide_eq_true_eq, decide_eq_false_iff_not, Bool.not_eq_true, Bool.not_true, Bool.not_false, ne_eq]; omega)); (refine KO.ld rfl rfl Tryz.isAgg3 (by with_reducible (repeat (exact Pick.head))) (by exact rfl) rfl ?_))
    (refine KO.on rfl rfl ?_ ?_; (focus (simp only [decide_eq_true_eq, decide_eq_false_iff_not, Bool.not_eq_true, Bool.not_true, Bool.not_false, ne_eq]; omega)); (refine KO.lss rfl rfl rfl ?_))
    (refine KO.pickF rfl ?_ rfl rfl ?_; (focus (simp only [decide_eq_true_eq, decide_eq_false_iff_not, Bool.not_eq_true, Bool.not_true, Bool.not_false, ne_eq]; omega)))
    refine KO.mv rfl rfl ?_
    (refine KO.on rfl rfl ?_ ?_; (focus (simp only [decide_eq_true_eq, decide_eq_false_iff_not, Bool.not_eq_true, Bool.not_true, Bool.not_false, ne_eq]; omega)); (refine KO.fo0 (off := 1) rfl Tryz.runUnderlying92 rfl rfl Tryz.sizeOf3 rfl ?_))
    (refine KO.on rfl rfl ?_ ?_; (focus (simp only [decide_eq_true_eq, decide_eq_false_iff_not, Bool.not_eq_true, Bool.not_true, Bool.not_false, ne_eq]; omega)); (refine KO.ld rfl rfl Tryz.isAgg3 (by with_reducible (repeat (exact Pick.head))) (by exact rfl) rfl ?_))
    (refine KO.on rfl rfl ?_ ?_; (focus (simp only [decide_eq_true_eq, decide_eq_false_iff_not, Bool.not_eq_true, Bool.not_true, Bool.not_false, ne_eq]; omega)); (refine KO.gtr rfl rfl rfl ?_))
    (refine KO.pickF rfl ?_ rfl rfl ?_; (focus (simp only [decide_eq_true_eq, decide_eq_false_iff_not, Bool.not_eq_true, Bool.not_true, Bool.not_false, ne_eq]; omega)))
    refine KO.mv rfl rfl ?_
    (refine KO.no rfl rfl ?_ rfl ?_; (focus (simp only [decide_eq_true_eq, decide_eq_false_iff_not, Bool.not_eq_true, Bool.not_true, Bool.not_false, ne_eq]; omega)))
    (refine KO.no rfl rfl ?_ rfl ?_; (focus (simp only [decide_eq_true_eq, decide_eq_false_iff_not, Bool.not_eq_true, Bool.not_true, Bool.not_false, ne_eq]; omega)))
    (refine KO.no rfl rfl ?_ rfl ?_; (focus (simp only [decide_eq_true_eq, decide_eq_false_iff_not, Bool.not_eq_true, Bool.not_true, Bool.not_false, ne_eq]; omega)))
    (refine KO.no rfl rfl ?_ rfl ?_; (focus (simp only [decide_eq_true_eq, decide_eq_false_iff_not, Bool.not_eq_true, Bool.not_true, Bool.not_false, ne_eq]; omega)))
    (refine KO.no rfl rfl ?_ rfl ?_; (focus (simp only [decide_eq_true_eq, decide_eq_false_iff_not, Bool.not_eq_true, Bool.not_true, Bool.not_false, ne_eq]; omega)))
    (refine KO.no rfl rfl ?_ rfl ?_; (focus (simp only [decide_eq_true_eq, decide_eq_false_iff_not, Bool.not_eq_true, Bool.not_true, Bool.not_false, ne_eq]; omega)))
    (refine KO.no rfl rfl ?_ rfl ?_; (focus (simp only [decide_eq_true_eq, decide_eq_false_iff_not, Bool.not_eq_true, Bool.not_true, Bool.not_false, ne_eq]; omega)))
    (refine KO.pickT rfl ?_ rfl rfl ?_; (focus (simp only [decide_eq_true_eq, decide_eq_false_iff_not, Bool.not_eq_true, Bool.not_true, Bool.not_false, ne_eq]; omega)))
    refine KO.mv rfl rfl ?_
    (refine KO.no rfl rfl ?_ rfl ?_; (focus rfl))
    (refine KO.no rfl rfl ?_ rfl ?_; (focus rfl))
    (refine KO.no rfl rfl ?_ rfl ?_; (focus rfl))
    (refine KO.no rfl rfl ?_ rfl ?_; (focus rfl))
    (refine KO.pickT rfl ?_ rfl rfl ?_; (focus rfl))
    refine KO.nil ?_
    repeat ((with_reducible refine KQ.next ?_))
    refine K.condT rfl (by simp [a4]) ?_
    repeat ((with_reducible refine K.seq ?_))
    refine K.reg ?_
    refine KO.mki rfl (by kernel_rfl) rfl ?_
    refine KO.as rfl rfl ?_
    refine KO.as rfl rfl ?_
    refine KO.nil ?_
    repeat (first | (with_reducible refine KQ.next ?_) | (with_reducible refine KQ.then_ret ?_) | (with_reducible refine K.ret ?_))
    refine KQ.ret2 rfl rfl rfl (fun w' hs => fin 1 ⟨#[]⟩ w' _ hbad.1.symm hbad.2.symm hs)
  have hz : decide ((xs.length : Int) = 0) = decide (xs.length = 0) := decide_eq_decide.2 (by omega)
  by_cases a5 : f.ack = decide ((xs.length : Int) = 0)
  case neg =>
    have hbad := fw_bad (f := f) (xs := xs) (fun h => by unfold okF at h; rw [hz] at a5; exact a5 h.2.2.2.2.1)
    have a6 : (f.ack != decide ((xs.length : Int) = 0)) = true := by simpa using a5
    refine K.reg ?_
    refine KO.fo0 (off := 0) rfl Tryz.runUnderlying92 rfl rfl Tryz.sizeOf3 rfl ?_
    refine KO.ld rfl rfl Tryz.isAgg3 (by with_reducible (repeat (exact Pick.head))) (by exact rfl) rfl ?_
    refine KO.lss rfl rfl rfl ?_
    refine KO.mv rfl rfl ?_
    (refine KO.on rfl rfl ?_ ?_; (focus (simp only [decide_eq_true_eq, decide_eq_false_iff_not, Bool.not_eq_true, Bool.not_true, Bool.not_false, ne_eq]; omega)); (refine KO.fo0 (off := 0) rfl Tryz.runUnderlying92 rfl rfl Tryz.sizeOf3 rfl ?_))
    (refine KO.on rfl rfl ?_ ?_; (focus (simp only [decide_eq_true_eq, decide_eq_false_iff_not, Bool.not_eq_true, Bool.not_true, Bool.not_false, ne_eq]; omega)); (refine KO.ld rfl rfl Tryz.isAgg3 (by with_reducible (repeat (exact Pick.head))) (by exact rfl) rfl ?_))
    (refine KO.on rfl rfl ?_ ?_; (focus (simp only [decide_eq_true_eq, decide_eq_false_iff_not, Bool.not_eq_true, Bool.not_true, Bool.not_false, ne_eq]; omega)); (refine KO.geq rfl rfl rfl ?_))
    (refine KO.pickF rfl ?_ rfl rfl ?_; (focus (simp only [decide_eq_true_eq, decide_eq_false_iff_not, Bool.not_eq_true, Bool.not_true, Bool.not_false, ne_eq]; omega)))
    refine KO.mv rfl rfl ?_
    (refine KO.on rfl rfl ?_ ?_; (focus (simp only [decide_eq_true_eq, decide_eq_false_iff_not, Bool.not_eq_true, Bool.not_true, Bool.not_false, ne_eq]; omega)); (refine KO.fo0 (off := 1) rfl Tryz.runUnderlying92 rfl rfl Tryz.sizeOf3 rfl ?_))
    (refine KO.on rfl rfl ?_ ?_; (focus (simp only [decide_eq_true_eq, decide_eq_false_iff_not, Bool.not_eq_true, Bool.not_true, Bool.not_false, ne_eq]; omega)); (refine KO.ld rfl rfl Tryz.isAgg3 (by with_reducible (repeat (exact Pick.head))) (by exact rfl) rfl ?_))
    (refine KO.on rfl rfl ?_ ?_; (focus (simp only [decide_eq_true_eq, decide_eq_false_iff_not, Bool.not_eq_true, Bool.not_true, Bool.not_false, ne_eq]; omega)); (refine KO.lss rfl rfl rfl ?_))
    (refine KO.pickF rfl ?_ rfl rfl ?_; (focus (simp only [decide_eq_true_eq, decide_eq_false_iff_not, Bool.not_eq_true, Bool.not_true, Bool.not_false, ne_eq]; omega)))
    refine KO.mv rfl rfl ?_
    (refine KO.on rfl rfl ?_ ?_; (focus (simp only [decide_eq_true_eq, decide_eq_false_iff_not, Bool.not_eq_true, Bool.not_true, Bool.not_false, ne_eq]; omega)); (refine KO.fo0 (off := 1) rfl Tryz.runUnderlying92 rfl rfl Tryz.sizeOf3 rfl ?_))
    (refine KO.on rfl rfl ?_ ?_; (focus (simp only [decide_eq_true_eq, decide_eq_false_iff_not, Bool.not_eq_true, Bool.not_true, Bool.not_false, ne_eq]; omega)); (refine KO.ld rfl rfl Tryz.isAgg3 (by with_reducible (repeat (exact Pick.head))) (by exact rfl) rfl ?_))
    (refine KO.on rfl rfl ?_ ?_; (focus (simp only [decide_eq_true_eq, decide_eq_false_iff_not, Bool.not_eq_true, Bool.not_true, Bool.not_false, ne_eq]; omega)); (refine KO.gtr rfl rfl rfl ?_))
    (refine KO.pickF rfl ?_ rfl rfl ?_; (focus (simp only [decide_eq_true_eq, decide_eq_false_iff_not, Bool.not_eq_true, Bool.not_true, Bool.not_false, ne_eq]; omega)))
    refine KO.mv rfl rfl ?_
    (refine KO.on rfl rfl ?_ ?_; (focus (simp only [decide_eq_true_eq, decide_eq_false_iff_not, Bool.not_eq_true, Bool.not_true, Bool.not_false, ne_eq]; omega)); (refine KO.fo0 (off := 2) rfl Tryz.runUnderlying92 rfl rfl Tryz.sizeOf4 rfl ?_))
    (refine KO.on rfl rfl ?_ ?_; (focus (simp only [decide_eq_true_eq, decide_eq_false_iff_not, Bool.not_eq_true, Bool.not_true, Bool.not_false, ne_eq]; omega)); (refine KO.ld rfl rfl Tryz.isAgg4 (by with_reducible (repeat (exact Pick.head))) (by exact rfl) rfl ?_))
    (refine KO.on rfl rfl ?_ ?_; (focus (simp only [decide_eq_true_eq, decide_eq_false_iff_not, Bool.not_eq_true, Bool.not_true, Bool.not_false, ne_eq]; omega)); (refine KO.fo0 (off := 3) rfl Tryz.runUnderlying92 rfl rfl Tryz.sizeOf50 rfl ?_))
    (refine KO.on rfl rfl ?_ ?_; (focus (simp only [decide_eq_true_eq, decide_eq_false_iff_not, Bool.not_eq_true, Bool.not_true, Bool.not_false, ne_eq]; omega)); (refine KO.ld rfl rfl Tryz.isAgg50 (by with_reducible (repeat (exact Pick.head))) (by exact rfl) rfl ?_))
    (refine KO.on rfl rfl ?_ ?_; (focus (simp only [decide_eq_true_eq, decide_eq_false_iff_not, Bool.not_eq_true, Bool.not_true, Bool.not_false, ne_eq]; omega)); (refine KO.len rfl Tryz.underlying50 rfl ?_))
    (refine KO.on rfl rfl ?_ ?_; (focus (simp only [decide_eq_true_eq, decide_eq_false_iff_not, Bool.not_eq_true, Bool.not_true, Bool.not_false, ne_eq]; omega)); (refine KO.eqI rfl rfl rfl ?_))
    (refine KO.on rfl rfl ?_ ?_; (focus (simp only [decide_eq_true_eq, decide_eq_false_iff_not, Bool.not_eq_true, Bool.not_true, Bool.not_false, ne_eq]; omega)); (refine KO.neB rfl rfl Tryz.underlying4 rfl ?_))
    (refine KO.pickF rfl ?_ rfl rfl ?_; (focus (simp only [decide_eq_true_eq, decide_eq_false_iff_not, Bool.not_eq_true, Bool.not_true, Bool.not_false, ne_eq]; omega)))
    refine KO.mv rfl rfl ?_
    (refine KO.no rfl rfl ?_ rfl ?_; (focus assumption))
    (refine KO.no rfl rfl ?_ rfl ?_; (focus assumption))
    (refine KO.no rfl rfl ?_ rfl ?_; (focus assumption))
    (refine KO.no rfl rfl ?_ rfl ?_; (focus assumption))
    (refine KO.pickT rfl ?_ rfl rfl ?_; (focus assumption))
    refine KO.nil ?_
    repeat ((with_reducible refine KQ.next ?_))
    refine K.condT rfl (by simp [a6]) ?_
    repeat ((with_reducible refine K.seq ?_))
    refine K.reg ?_
    refine KO.mki rfl (by kernel_rfl) rfl ?_
    refine KO.as rfl rfl ?_
    refine KO.as rfl rfl ?_
    refine KO.nil ?_
    repeat (first | (with_reducible refine KQ.next ?_) | (with_reducible refine KQ.then_ret ?_) | (with_reducible refine K.ret ?_))
    refine KQ.ret2 rfl rfl rfl (fun w' hs => fin 1 ⟨#[]⟩ w' _ hbad.1.symm hbad.2.symm hs)
  have a6 : (f.ack != decide ((xs.length : Int) = 0)) = false := by simpa using a5
  by_cases a7 : 3 < (xs.length : Int)
  · have hbad := fw_bad (f := f) (xs := xs) (fun h => by unfold okF at h; omega)
    refine K.reg ?_
    refine KO.fo0 (off := 0) rfl Tryz.runUnderlying92 rfl rfl Tryz.sizeOf3 rfl ?_
    refine KO.ld rfl rfl Tryz.isAgg3 (by with_reducible (repeat (exact Pick.head))) (by exact rfl) rfl ?_
    refine KO.lss rfl rfl rfl ?_
    refine KO.mv rfl rfl ?_
    (refine KO.on rfl rfl ?_ ?_; (focus (simp only [decide_eq_true_eq, decide_eq_false_iff_not, Bool.not_eq_true, Bool.not_true, Bool.not_false, ne_eq]; omega)); (refine KO.fo0 (off := 0) rfl Tryz.runUnderlying92 rfl rfl Tryz.sizeOf3 rfl ?_))
    (refine KO.on rfl rfl ?_ ?_; (focus (simp only [decide_eq_true_eq, decide_eq_false_iff_not, Bool.not_eq_true, Bool.not_true, Bool.not_false, ne_eq]; omega)); (refine KO.ld rfl rfl Tryz.isAgg3 (by with_reducible (repeat (exact Pick.head))) (by exact rfl) rfl ?_))
    (refine KO.on rfl rfl ?_ ?_; (focus (simp only [decide_eq_true_eq, decide_eq_false_iff_not, Bool.not_eq_true, Bool.not_true, Bool.not_false, ne_eq]; omega)); (refine KO.geq rfl rfl rfl ?_))
    (refine KO.pickF rfl ?_ rfl rfl ?_; (focus (simp only [decide_eq_true_eq, decide_eq_false_iff_not, Bool.not_eq_true, Bool.not_true, Bool.not_false, ne_eq]; omega)))
    refine KO.mv rfl rfl ?_
    (refine KO.on rfl rfl ?_ ?_; (focus (simp only [decide_eq_true_eq, decide_eq_false_iff_not, Bool.not_eq_true, Bool.not_true, Bool.not_false, ne_eq]; omega)); (refine KO.fo0 (off := 1) rfl Tryz.runUnderlying92 rfl rfl Tryz.sizeOf3 rfl ?_))
    (refine KO.on rfl rfl ?_ ?_; (focus (simp only [decide_eq_true_eq, decide_eq_false_iff_not, Bool.not_eq_true, Bool.not_true, Bool.not_false, ne_eq]; omega)); (refine KO.ld rfl rfl Tryz.isAgg3 (by with_reducible (repeat (exact Pick.head))) (by exact rfl) rfl ?_))
    (refine KO.on rfl rfl ?_ ?_; (focus (simp only [decide_eq_true_eq, decide_eq_false_iff_not, Bool.not_eq_true, Bool.not_true, Bool.not_false, ne_eq]; omega)); (refine KO.lss rfl rfl rfl ?_))
    (refine KO.pickF rfl ?_ rfl rfl ?_; (focus (simp only [decide_eq_true_eq, decide_eq_false_iff_not, Bool.not_eq_true, Bool.not_true, Bool.not_false, ne_eq]; omega)))
    refine KO.mv rfl rfl ?_
    (refine KO.on rfl rfl ?_ ?_; (focus (simp only [decide_eq_true_eq, decide_eq_false_iff_not, Bool.not_eq_true, Bool.not_true, Bool.not_false, ne_eq]; omega)); (refine KO.fo0 (off := 1) rfl Tryz.runUnderlying92 rfl rfl Tryz.sizeOf3 rfl ?_))
    (refine KO.on rfl rfl ?_ ?_; (focus (simp only [decide_eq_true_eq, decide_eq_false_iff_not, Bool.not_eq_true, Bool.not_true, Bool.not_false, ne_eq]; omega)); (refine KO.ld rfl rfl Tryz.isAgg3 (by with_reducible (repeat (exact Pick.head))) (by exact rfl) rfl ?_))
    (refine KO.on rfl rfl ?_ ?_; (focus (simp only [decide_eq_true_eq, decide_eq_false_iff_not, Bool.not_eq_true, Bool.not_true, Bool.not_false, ne_eq]; omega)); (refine KO.gtr rfl rfl rfl ?_))
    (refine KO.pickF rfl ?_ rfl rfl ?_; (focus (simp only [decide_eq_true_eq, decide_eq_false_iff_not, Bool.not_eq_true, Bool.not_true, Bool.not_false, ne_eq]; omega)))
    refine KO.mv rfl rfl ?_
    (refine KO.on rfl rfl ?_ ?_; (focus (simp only [decide_eq_true_eq, decide_eq_false_iff_not, Bool.not_eq_true, Bool.not_true, Bool.not_false, ne_eq]; omega)); (refine KO.fo0 (off := 2) rfl Tryz.runUnderlying92 rfl rfl Tryz.sizeOf4 rfl ?_))
    (refine KO.on rfl rfl ?_ ?_; (focus (simp only [decide_eq_true_eq, decide_eq_false_iff_not, Bool.not_eq_true, Bool.not_true, Bool.not_false, ne_eq]; omega)); (refine KO.ld rfl rfl Tryz.isAgg4 (by with_reducible (repeat (exact Pick.head))) (by exact rfl) rfl ?_))
    (refine KO.on rfl rfl ?_ ?_; (focus (simp only [decide_eq_true_eq, decide_eq_false_iff_not, Bool.not_eq_true, Bool.not_true, Bool.not_false, ne_eq]; omega)); (refine KO.fo0 (off := 3) rfl Tryz.runUnderlying92 rfl rfl Tryz.sizeOf50 rfl ?_))
    (refine KO.on rfl rfl ?_ ?_; (focus (simp only [decide_eq_true_eq, decide_eq_false_iff_not, Bool.not_eq_true, Bool.not_true, Bool.not_false, ne_eq]; omega)); (refine KO.ld rfl rfl Tryz.isAgg50 (by with_reducible (repeat (exact Pick.head))) (by exact rfl) rfl ?_))
    (refine KO.on rfl rfl ?_ ?_; (focus (simp only [decide_eq_true_eq, decide_eq_false_iff_not, Bool.not_eq_true, Bool.not_true, Bool.not_false, ne_eq]; omega)); (refine KO.len rfl Tryz.underlying50 rfl ?_))
    (refine KO.on rfl rfl ?_ ?_; (focus (simp only [decide_eq_true_eq, decide_eq_false_iff_not, Bool.not_eq_true, Bool.not_true, Bool.not_false, ne_eq]; omega)); (refine KO.eqI rfl rfl rfl ?_))
    (refine KO.on rfl rfl ?_ ?_; (focus (simp only [decide_eq_true_eq, decide_eq_false_iff_not, Bool.not_eq_true, Bool.not_true, Bool.not_false, ne_eq]; omega)); (refine KO.neB rfl rfl Tryz.underlying4 rfl ?_))
    (refine KO.pickF rfl ?_ rfl rfl ?_; (focus (simp only [decide_eq_true_eq, decide_eq_false_iff_not, Bool.not_eq_true, Bool.not_true, Bool.not_false, ne_eq]; omega)))
    refine KO.mv rfl rfl ?_
    (refine KO.on rfl rfl ?_ ?_; (focus assumption); (refine KO.fo0 (off := 3) rfl Tryz.runUnderlying92 rfl rfl Tryz.sizeOf50 rfl ?_))
    (refine KO.on rfl rfl ?_ ?_; (focus assumption); (refine KO.ld rfl rfl Tryz.isAgg50 (by with_reducible (repeat (exact Pick.head))) (by exact rfl) rfl ?_))
    (refine KO.on rfl rfl ?_ ?_; (focus assumption); (refine KO.len rfl Tryz.underlying50 rfl ?_))
    (refine KO.on rfl rfl ?_ ?_; (focus assumption); (refine KO.gtr rfl rfl rfl ?_))
    (refine KO.pickF rfl ?_ rfl rfl ?_; (focus assumption))
    refine KO.nil ?_
    repeat ((with_reducible refine KQ.next ?_))
    refine K.condT rfl (by simp [a7]) ?_
    repeat ((with_reducible refine K.seq ?_))
    refine K.reg ?_
    refine KO.mki rfl (by kernel_rfl) rfl ?_
    refine KO.as rfl rfl ?_
    refine KO.as rfl rfl ?_
    refine KO.nil ?_
    repeat (first | (with_reducible refine KQ.next ?_) | (with_reducible refine KQ.then_ret ?_) | (with_reducible refine K.ret ?_))
    refine KQ.ret2 rfl rfl rfl (fun w' hs => fin 1 ⟨#[]⟩ w' _ hbad.1.symm hbad.2.symm hs)
  refine K.reg ?_
  refine KO.fo0 (off := 0) rfl Tryz.runUnderlying92 rfl rfl Tryz.sizeOf3 rfl ?_
  refine KO.ld rfl rfl Tryz.isAgg3 (by with_reducible (repeat (exact Pick.head))) (by exact rfl) rfl ?_
  refine KO.lss rfl rfl rfl ?_
  refine KO.mv rfl rfl ?_
  (refine KO.on rfl rfl ?_ ?_; (focus (simp only [decide_eq_true_eq, decide_eq_false_iff_not, Bool.not_eq_true, Bool.not_true, Bool.not_false, ne_eq]; omega)); (refine KO.fo0 (off := 0) rfl Tryz.runUnderlying92 rfl rfl Tryz.sizeOf3 rfl ?_))
  (refine KO.on rfl rfl ?_ ?_; (focus (simp only [decide_eq_true_eq, decide_eq_false_iff_not, Bool.not_eq_true, Bool.not_true, Bool.not_false, ne_eq]; omega)); (refine KO.ld rfl rfl Tryz.isAgg3 (by with_reducible (repeat (exact Pick.head))) (by exact rfl) rfl ?_))
  (refine KO.on rfl rfl ?_ ?_; (focus (simp only [decide_eq_true_eq, decide_eq_false_iff_not, Bool.not_eq_true, Bool.not_true, Bool.not_false, ne_eq]; omega)); (refine KO.geq rfl rfl rfl ?_))
  (refine KO.pickF rfl ?_ rfl rfl ?_; (focus (simp only [decide_eq_true_eq, decide_eq_false_iff_not, Bool.not_eq_true, Bool.not_true, Bool.not_false, ne_eq]; omega)))
  refine KO.mv rfl rfl ?_
  (refine KO.on rfl rfl ?_ ?_; (focus (simp only [decide_eq_true_eq, decide_eq_false_iff_not, Bool.not_eq_true, Bool.not_true, Bool.not_false, ne_eq]; omega)); (refine KO.fo0 (off := 1) rfl Tryz.runUnderlying92 rfl rfl Tryz.sizeOf3 rfl ?_))
  (refine KO.on rfl rfl ?_ ?_; (focus (simp only [decide_eq_true_eq, decide_eq_false_iff_not, Bool.not_eq_true, Bool.not_true, Bool.not_false, ne_eq]; omega)); (refine KO.ld rfl rfl Tryz.isAgg3 (by with_reducible (repeat (exact Pick.head))) (by exact rfl) rfl ?_))
  (refine KO.on rfl rfl ?_ ?_; (focus (simp only [decide_eq_true_eq, decide_eq_false_iff_not, Bool.not_eq_true, Bool.not_true, Bool.not_false, ne_eq]; omega)); (refine KO.lss rfl rfl rfl ?_))
  (refine KO.pickF rfl ?_ rfl rfl ?_; (focus (simp only [decide_eq_true_eq, decide_eq_false_iff_not, Bool.not_eq_true, Bool.not_true, Bool.not_false, ne_eq]; omega)))
  refine KO.mv rfl rfl ?_
  (refine KO.on rfl rfl ?_ ?_; (focus (simp only [decide_eq_true_eq, decide_eq_false_iff_not, Bool.not_eq_true, Bool.not_true, Bool.not_false, ne_eq]; omega)); (refine KO.fo0 (off := 1) rfl Tryz.runUnderlying92 rfl rfl Tryz.sizeOf3 rfl ?_))
  (refine KO.on rfl rfl ?_ ?_; (focus (simp only [decide_eq_true_eq, decide_eq_false_iff_not, Bool.not_eq_true, Bool.not_true, Bool.not_false, ne_eq]; omega)); (refine KO.ld rfl rfl Tryz.isAgg3 (by with_reducible (repeat (exact Pick.head))) (by exact rfl) rfl ?_))
  (refine KO.on rfl rfl ?_ ?_; (focus (simp only [decide_eq_true_eq, decide_eq_false_iff_not, Bool.not_eq_true, Bool.not_true, Bool.not_false, ne_eq]; omega)); (refine KO.gtr rfl rfl rfl ?_))
  (refine KO.pickF rfl ?_ rfl rfl ?_; (focus (simp only [decide_eq_true_eq, decide_eq_false_iff_not, Bool.not_eq_true, Bool.not_true, Bool.not_false, ne_eq]; omega)))
  refine KO.mv rfl rfl ?_
  (refine KO.on rfl rfl ?_ ?_; (focus (simp only [decide_eq_true_eq, decide_eq_false_iff_not, Bool.not_eq_true, Bool.not_true, Bool.not_false, ne_eq]; omega)); (refine KO.fo0 (off := 2) rfl Tryz.runUnderlying92 rfl rfl Tryz.sizeOf4 rfl ?_))
  (refine KO.on rfl rfl ?_ ?_; (focus (simp only [decide_eq_true_eq, decide_eq_false_iff_not, Bool.not_eq_true, Bool.not_true, Bool.not_false, ne_eq]; omega)); (refine KO.ld rfl rfl Tryz.isAgg4 (by with_reducible (repeat (exact Pick.head))) (by exact rfl) rfl ?_))
  (refine KO.on rfl rfl ?_ ?_; (focus (simp only [decide_eq_true_eq, decide_eq_false_iff_not, Bool.not_eq_true, Bool.not_true, Bool.not_false, ne_eq]; omega)); (refine KO.fo0 (off := 3) rfl Tryz.runUnderlying92 rfl rfl Tryz.sizeOf50 rfl ?_))
  (refine KO.on rfl rfl ?_ ?_; (focus (simp only [decide_eq_true_eq, decide_eq_false_iff_not, Bool.not_eq_true, Bool.not_true, Bool.not_false, ne_eq]; omega)); (refine KO.ld rfl rfl Tryz.isAgg50 (by with_reducible (repeat (exact Pick.head))) (by exact rfl) rfl ?_))
  (refine KO.on rfl rfl ?_ ?_; (focus (simp only [decide_eq_true_eq, decide_eq_false_iff_not, Bool.not_eq_true, Bool.not_true, Bool.not_false, ne_eq]; omega)); (refine KO.len rfl Tryz.underlying50 rfl ?_))
  (refine KO.on rfl rfl ?_ ?_; (focus (simp only [decide_eq_true_eq, decide_eq_false_iff_not, Bool.not_eq_true, Bool.not_true, Bool.not_false, ne_eq]; omega)); (refine KO.eqI rfl rfl rfl ?_))
  (refine KO.on rfl rfl ?_ ?_; (focus (simp only [decide_eq_true_eq, decide_eq_false_iff_not, Bool.not_eq_true, Bool.not_true, Bool.not_false, ne_eq]; omega)); (refine KO.neB rfl rfl Tryz.underlying4 rfl ?_))
  (refine KO.pickF rfl ?_ rfl rfl ?_; (focus (simp only [decide_eq_true_eq, decide_eq_false_iff_not, Bool.not_eq_true, Bool.not_true, Bool.not_false, ne_eq]; omega)))
  refine KO.mv rfl rfl ?_
  (refine KO.on rfl rfl ?_ ?_; (focus assumption); (refine KO.fo0 (off := 3) rfl Tryz.runUnderlying92 rfl rfl Tryz.sizeOf50 rfl ?_))
  (refine KO.on rfl rfl ?_ ?_; (focus assumption); (refine KO.ld rfl rfl Tryz.isAgg50 (by with_reducible (repeat (exact Pick.head))) (by exact rfl) rfl ?_))
  (refine KO.on rfl rfl ?_ ?_; (focus assumption); (refine KO.len rfl Tryz.underlying50 rfl ?_))
  (refine KO.on rfl rfl ?_ ?_; (focus assumption); (refine KO.gtr rfl rfl rfl ?_))
  (refine KO.pickF rfl ?_ rfl rfl ?_; (focus assumption))
  refine KO.nil ?_
  repeat ((with_reducible refine KQ.next ?_))
  refine K.condF rfl (by simp [a7]) ?_
  repeat (first | (with_reducible refine K.seq ?_) | (with_reducible refine KQ.next ?_) | (with_reducible refine K.skip ?_))
  cases hb : badI xs with
  | some k =>
    have hbad := fw_bad (f := f) (xs := xs) (fun h => by unfold okF at h; rw [hb] at h; exact absurd h.2.2.2.2.2.2 (by simp))
    refine K.reg ?_
    refine KO.fo0 (off := 3) rfl Tryz.runUnderlying92 rfl rfl Tryz.sizeOf50 rfl ?_
    refine KO.ld rfl rfl Tryz.isAgg50 (by with_reducible (repeat (exact Pick.head))) (by exact rfl) rfl ?_
    refine KO.ce (cp := []) rfl rfl rfl Tryz.call98 rfl (mwrite_e w _ _ xs (fun w' hw' => rdA_extM hr (Ext.of_below hw'.below)) hT hsz (by omega)) ?_; rintro v' L' hR; unfold MwR at hR; rw [hb] at hR; obtain ⟨be, rfl, rfl⟩ := hR; unfold atV
    refine KO.mv rfl rfl ?_
    refine KO.extrL rfl (by exact rfl) rfl ?_
    refine KO.extrL rfl (by exact rfl) rfl ?_
    refine KO.as rfl rfl ?_
    refine KO.as rfl rfl ?_
    refine KO.nil ?_
    repeat (first | (with_reducible refine K.seq ?_) | (with_reducible refine KQ.next ?_))
    refine K.reg ?_
    refine KO.mv rfl rfl ?_
    refine KO.neIf rfl (by kernel_rfl) rfl ?_
    refine KO.nil ?_
    repeat ((with_reducible refine KQ.next ?_))
    refine K.condT rfl rfl ?_
    repeat ((with_reducible refine K.seq ?_))
    refine K.reg ?_
    refine KO.mki rfl (by kernel_rfl) rfl ?_
    refine KO.as rfl rfl ?_
    refine KO.as rfl rfl ?_
    refine KO.nil ?_
    repeat (first | (with_reducible refine KQ.next ?_) | (with_reducible refine KQ.then_ret ?_) | (with_reducible refine K.ret ?_))
    refine KQ.ret2 rfl rfl rfl (fun w' hs => fin 1 ⟨#[]⟩ w' _ hbad.1.symm hbad.2.symm hs)
  | none =>
    have hok : okF f xs := by unfold okF; exact ⟨by omega, by omega, by omega, by omega, by rw [a5, hz], by omega, hb⟩
    obtain ⟨e1, e2⟩ := fw_ok hok
    have i1 : intB f.frm := ⟨by omega, by omega⟩
    have i2 : intB f.num := ⟨by omega, by omega⟩
    have s1 := itoaS_size i1
    have s2 := itoaS_size i2
    have s3 := writeS_size (badI_all hb)
    refine K.reg ?_
    refine KO.fo0 (off := 3) rfl Tryz.runUnderlying92 rfl rfl Tryz.sizeOf50 rfl ?_
    refine KO.ld rfl rfl Tryz.isAgg50 (by with_reducible (repeat (exact Pick.head))) (by exact rfl) rfl ?_
    refine KO.ce (cp := []) rfl rfl rfl Tryz.call98 rfl (mwrite_e w _ _ xs (fun w' hw' => rdA_extM hr (Ext.of_below hw'.below)) hT hsz (by omega)) ?_; rintro v' L' hR; unfold MwR at hR; rw [hb] at hR; obtain ⟨rfl, rfl⟩ := hR
    refine KO.mv rfl rfl ?_
    refine KO.extrL rfl (by exact rfl) rfl ?_
    refine KO.extrL rfl (by exact rfl) rfl ?_
    refine KO.as rfl rfl ?_
    refine KO.as rfl rfl ?_
    refine KO.nil ?_
    repeat (first | (with_reducible refine K.seq ?_) | (with_reducible refine KQ.next ?_))
    refine K.reg ?_
    refine KO.mv rfl rfl ?_
    refine KO.neI0 rfl (by kernel_rfl) rfl ?_
    refine KO.nil ?_
    repeat ((with_reducible refine KQ.next ?_))
    refine K.condF rfl rfl ?_
    repeat (first | (with_reducible refine K.seq ?_) | (with_reducible refine KQ.next ?_) | (with_reducible refine K.skip ?_))
    refine K.reg ?_
    refine KO.as rfl rfl ?_
    refine KO.nil ?_
    repeat (first | (with_reducible refine K.seq ?_) | (with_reducible refine KQ.next ?_))
    refine K.reg ?_
    refine KO.fo0 (off := 2) rfl Tryz.runUnderlying92 rfl rfl Tryz.sizeOf4 rfl ?_
    refine KO.ld rfl rfl Tryz.isAgg4 (by with_reducible (repeat (exact Pick.head))) (by exact rfl) rfl ?_
    refine KO.nil ?_
    repeat ((with_reducible refine KQ.next ?_))
    have hks : (kindS f.ack).size ≤ 1 := by unfold kindS; split <;> decide
    have hjz : (joinS [kindS f.ack, itoaS f.frm, itoaS f.num, writeS xs] colon).size ≤ 1000000 := by
      have := joinS_size colon 1000 [kindS f.ack, itoaS f.frm, itoaS f.num, writeS xs] (by intro x hx; simp at hx; rcases hx with rfl | rfl | rfl | rfl <;> omega)
      have h2 : colon.size = 1 := rfl
      simp at this; omega
    refine K.cut (fun _ : Unit => [(1, .pointer (some ⟨b1, 0, none⟩)), (4, .string (writeS xs)), (6, .string (kindS f.ack))]) (fun _ => [blk b1 (.cells (frC f (.slice sa xs.length cap)).toArray 92 (0, 0))]) (fun _ => True) ?_ ?_
    · refine K.cond rfl (fun h => ?_) (fun h => ?_)
      · refine K.reg ?_
        refine KO.as rfl rfl ?_
        refine KO.nil ?_
        exact KQ.mid () trivial ⟨rfl, rfl, by rw [h]; rfl, trivial⟩ (fun _ h => h.all (by with_reducible repeat (exact PAll.refl)))
      · refine K.skip ?_
        exact KQ.mid () trivial ⟨rfl, rfl, by rw [h]; rfl, trivial⟩ (fun _ h => h.all (by with_reducible repeat (exact PAll.refl)))
    rintro _ _
    repeat ((with_reducible refine K.seq ?_))
    refine K.draw [.pure, .pure, .read, .keep, .pure, .read, .keep, .pure, .keep, .keep, .pure, .pure] [0, 1, 2, 4, 5, 7, 3, 6, 8, 9, 10, 11] (by kernel_rfl) (by kernel_rfl) ?_
    refine KO.mv rfl rfl ?_
    refine KO.fo0 (off := 0) rfl Tryz.runUnderlying92 rfl rfl Tryz.sizeOf3 rfl ?_
    refine KO.ld rfl rfl Tryz.isAgg3 (by with_reducible (repeat (exact Pick.head))) (by exact rfl) rfl ?_
    refine KO.fo0 (off := 1) rfl Tryz.runUnderlying92 rfl rfl Tryz.sizeOf3 rfl ?_
    refine KO.ld rfl rfl Tryz.isAgg3 (by with_reducible (repeat (exact Pick.head))) (by exact rfl) rfl ?_
    refine KO.mv rfl rfl ?_
    refine KO.ce (cp := []) rfl rfl rfl Tryz.call114 rfl (itoa_e w _ f.frm hT i1) ?_; rintro v' L' ⟨rfl, rfl⟩
    refine KO.ce (cp := []) rfl rfl rfl Tryz.call114 rfl (itoa_e w _ f.num hT i2) ?_; rintro v' L' ⟨rfl, rfl⟩
    refine KO.bsF (z := (Value.string ⟨#[]⟩)) (by' := 16) rfl [.tmp 52, .tmp 55, .tmp 58, .tmp 59] rfl rfl Tryz.underlying57 (by kernel_rfl) (by exact rfl) (by exact rfl) (by decide) (by decide) (by exact rfl) rfl ?_; intro b60
    refine KO.conv (fun w' hw' => strS_blk (b := b60) (vs := [.string (kindS f.ack), .string (itoaS f.frm), .string (itoaS f.num), .string (writeS xs)]) (xs := [kindS f.ack, itoaS f.frm, itoaS f.num, writeS xs]) (k := 4) (hw'.pick (by with_reducible (repeat (exact Pick.head)))) rfl rfl (by omega)) ?_; refine KO.ce (cp := []) rfl rfl rfl Tryz.call141 rfl (join_e w _ _ (.slice (some ⟨b60, 0, none⟩) 4 4) [kindS f.ack, itoaS f.frm, itoaS f.num, writeS xs] colon .head (by simp) (by omega)) ?_; rintro v' L' ⟨rfl, rfl⟩
    refine KO.as rfl rfl ?_
    refine KO.as rfl rfl ?_
    refine KO.nil ?_
    repeat (first | (with_reducible refine KQ.next ?_) | (with_reducible refine K.ret ?_))
    refine KQ.ret2 rfl rfl rfl (fun w' hs => fin 0 (frS f xs) w' _ e1.symm e2.symm hs)
set_option maxRecDepth 100000 in
set_option maxHeartbeats 40000000 in
theorem rfw_e (w0 : World) (L : List HP) (f : Fr) (v : Value) (xs : List Ms) (hr0 : ∀ w, St w0 L w → RdA w 5 msC v xs) (hT0 : Tab w0) (hsz : ∀ m ∈ xs, m.body.size ≤ maxLen ∧ m.queue.size ≤ maxLen) (hl : xs.length ≤ 100000) :
    KE Tryz.prog 99 #[.agg (frC f v).toArray] w0 L (fun u M => u = .tuple #[.string (fwT f xs), .int .i64 (fwE f xs)] ∧ M = L) := by
  refine KE.mk (n := 72) Tryz.func99 rfl Tryz.ntmps99 (by simp) ?_
  intro w hw
  have hT := hT0.ext (Ext.of_below hw.below)
  have hr := hr0 w hw
  have hr1 := hr
  obtain ⟨sa, cap, rfl, hc⟩ := hr1
  have fin : ∀ (e : Int) (t : ByteArray) (w' : World) (M : List HP), e = fwE f xs → t = fwT f xs → St w M w' → ∃ v L', Ending.returned (.tuple #[.string t, .int .i64 e]) = Ending.returned v ∧ (v = .tuple #[.string (fwT f xs), .int .i64 (fwE f xs)] ∧ L' = L) ∧ St w0 L' w' ∧ Below w.heap.size w w' := fun e t w' M h1 h2 hs => ⟨_, _, rfl, ⟨by rw [h1, h2], rfl⟩, hw.below_step hs.below, hs.below⟩
  generalize hc1 : (decide (0 ≤ f.frm) && decide (f.frm ≤ 3)) = c1
  generalize hc2 : (decide (0 ≤ f.num) && decide (f.num ≤ 1099511627776)) = c2
  have d1 : c1 = true → 0 ≤ f.frm ∧ f.frm ≤ 3 := fun h => by rw [← hc1] at h; simpa using h
  have d1' : c1 = false → ¬ okF f xs := fun h hk => by rw [← hc1] at h; unfold okF at hk; simp at h; omega
  have d2 : c2 = true → 0 ≤ f.num ∧ f.num ≤ 1099511627776 := fun h => by rw [← hc2] at h; simpa using h
  have d2' : c2 = false → ¬ okF f xs := fun h hk => by rw [← hc2] at h; unfold okF at hk; simp at h; omega
  repeat ((with_reducible refine K.seq ?_))
  refine K.reg ?_
  refine KO.box rfl rfl (by exact rfl) rfl ?_; intro b1
  refine KO.as rfl rfl ?_
  refine KO.as rfl rfl ?_
  refine KO.nil ?_
  repeat (first | (with_reducible refine K.seq ?_) | (with_reducible refine KQ.next ?_))
  refine K.reg ?_
  refine KO.fo0 (off := 3) rfl Tryz.runUnderlying89 rfl rfl Tryz.sizeOf50 rfl ?_
  refine KO.ld rfl rfl Tryz.isAgg50 (by with_reducible (repeat (exact Pick.head))) (by exact rfl) rfl ?_
  refine KO.ce (cp := []) rfl rfl rfl Tryz.call96 rfl (rwrite_e w _ _ xs (fun w' hw' => rdA_extM hr (Ext.of_below hw'.below)) hT hsz (by omega)) ?_; rintro v' L' ⟨rfl, rfl⟩
  refine KO.mv rfl rfl ?_
  refine KO.extrL rfl (by exact rfl) rfl ?_
  refine KO.extrL rfl (by exact rfl) rfl ?_
  refine KO.alloc rfl Tryz.zeroValue97 (by exact rfl) rfl ?_; intro b5
  refine KO.as rfl rfl ?_
  refine KO.sto0 rfl rfl rfl (by exact rfl) (by exact Tryz.sizeOf97) (by exact rfl) (by with_reducible (repeat (exact Pick.head))) (by exact rfl) ?_
  refine KO.nil ?_
  repeat (first | (with_reducible refine K.seq ?_) | (with_reducible refine KQ.next ?_))
  cases c1
  · have hbad := fw_bad (d1' rfl)
    refine K.reg ?_
    refine KO.fo0 (off := 0) rfl Tryz.runUnderlying89 rfl rfl Tryz.sizeOf3 rfl ?_
    refine KO.ld rfl rfl Tryz.isAgg3 (by with_reducible (repeat (first | exact Pick.head | apply Pick.tail))) (by exact rfl) rfl ?_
    refine KO.ce (cp := []) rfl rfl rfl Tryz.call62 rfl (in_e w _ f.frm 0 3) ?_; rintro v' L' ⟨rfl, rfl⟩; rw [hc1]
    refine KO.not rfl rfl ?_
    refine KO.mv rfl rfl ?_
    (refine KO.no rfl rfl ?_ rfl ?_; (focus rfl))
    (refine KO.no rfl rfl ?_ rfl ?_; (focus rfl))
    (refine KO.no rfl rfl ?_ rfl ?_; (focus rfl))
    (refine KO.no rfl rfl ?_ rfl ?_; (focus rfl))
    (refine KO.pickT rfl ?_ rfl rfl ?_; (focus rfl))
    refine KO.mv rfl rfl ?_
    (refine KO.no rfl rfl ?_ rfl ?_; (focus rfl))
    (refine KO.no rfl rfl ?_ rfl ?_; (focus rfl))
    (refine KO.no rfl rfl ?_ rfl ?_; (focus rfl))
    (refine KO.no rfl rfl ?_ rfl ?_; (focus rfl))
    (refine KO.pickT rfl ?_ rfl rfl ?_; (focus rfl))
    refine KO.mv rfl rfl ?_
    (refine KO.no rfl rfl ?_ rfl ?_; (focus rfl))
    (refine KO.no rfl rfl ?_ rfl ?_; (focus rfl))
    (refine KO.no rfl rfl ?_ rfl ?_; (focus rfl))
    (refine KO.pickT rfl ?_ rfl rfl ?_; (focus rfl))
    refine KO.mv rfl rfl ?_
    (refine KO.no rfl rfl ?_ rfl ?_; (focus rfl))
    (refine KO.no rfl rfl ?_ rfl ?_; (focus rfl))
    (refine KO.no rfl rfl ?_ rfl ?_; (focus rfl))
    refine KO.no2 rfl rfl rfl ?_
    refine KO.no2 rfl rfl rfl ?_
    refine KO.no2 rfl rfl rfl ?_
    refine KO.no2 rfl rfl rfl ?_
    (refine KO.no rfl rfl ?_ rfl ?_; (focus rfl))
    (refine KO.pickT rfl ?_ rfl rfl ?_; (focus rfl))
    refine KO.mv rfl rfl ?_
    (refine KO.no rfl rfl ?_ rfl ?_; (focus rfl))
    (refine KO.no rfl rfl ?_ rfl ?_; (focus rfl))
    (refine KO.no rfl rfl ?_ rfl ?_; (focus rfl))
    (refine KO.no rfl rfl ?_ rfl ?_; (focus rfl))
    refine KO.no2 rfl rfl rfl ?_
    refine KO.no2 rfl rfl rfl ?_
    refine KO.no2 rfl rfl rfl ?_
    refine KO.no2 rfl rfl rfl ?_
    (refine KO.no rfl rfl ?_ rfl ?_; (focus rfl))
    (refine KO.pickT rfl ?_ rfl rfl ?_; (focus rfl))
    refine KO.nil ?_
    repeat ((with_reducible refine KQ.next ?_))
    refine K.condT rfl rfl ?_
    repeat ((with_reducible refine K.seq ?_))
    refine K.reg ?_
    refine KO.as rfl rfl ?_
    refine KO.as rfl rfl ?_
    refine KO.nil ?_
    repeat (first | (with_reducible refine KQ.next ?_) | (with_reducible refine KQ.then_ret ?_) | (with_reducible refine K.ret ?_))
    refine KQ.ret2 rfl rfl rfl (fun w' hs => fin 1 ⟨#[]⟩ w' _ hbad.1.symm hbad.2.symm hs)
  cases c2
  · have hbad := fw_bad (d2' rfl)
    refine K.reg ?_
    refine KO.fo0 (off := 0) rfl Tryz.runUnderlying89 rfl rfl Tryz.sizeOf3 rfl ?_
    refine KO.ld rfl rfl Tryz.isAgg3 (by with_reducible (repeat (first | exact Pick.head | apply Pick.tail))) (by exact rfl) rfl ?_
    refine KO.ce (cp := []) rfl rfl rfl Tryz.call62 rfl (in_e w _ f.frm 0 3) ?_; rintro v' L' ⟨rfl, rfl⟩; rw [hc1]
    refine KO.not rfl rfl ?_
    refine KO.mv rfl rfl ?_
    (refine KO.on rfl rfl ?_ ?_; (focus rfl); (refine KO.fo0 (off := 1) rfl Tryz.runUnderlying89 rfl rfl Tryz.sizeOf3 rfl ?_))
    (refine KO.on rfl rfl ?_ ?_; (focus rfl); (refine KO.ld rfl rfl Tryz.isAgg3 (by with_reducible (repeat (first | exact Pick.head | apply Pick.tail))) (by exact rfl) rfl ?_))
    refine KO.on rfl rfl rfl ?_; refine KO.ce (cp := []) rfl rfl rfl Tryz.call62 rfl (in_e w _ f.num 0 1099511627776) ?_; rintro v' L' ⟨rfl, rfl⟩; rw [hc2]
    (refine KO.on rfl rfl ?_ ?_; (focus rfl); (refine KO.not rfl rfl ?_))
    (refine KO.pickF rfl ?_ rfl rfl ?_; (focus rfl))
    refine KO.mv rfl rfl ?_
    (refine KO.no rfl rfl ?_ rfl ?_; (focus rfl))
    (refine KO.no rfl rfl ?_ rfl ?_; (focus rfl))
    (refine KO.no rfl rfl ?_ rfl ?_; (focus rfl))
    (refine KO.no rfl rfl ?_ rfl ?_; (focus rfl))
    (refine KO.pickT rfl ?_ rfl rfl ?_; (focus rfl))
    refine KO.mv rfl rfl ?_
    (refine KO.no rfl rfl ?_ rfl ?_; (focus rfl))
    (refine KO.no rfl rfl ?_ rfl ?_; (focus rfl))
    (refine KO.no rfl rfl ?_ rfl ?_; (focus rfl))
    (refine KO.pickT rfl ?_ rfl rfl ?_; (focus rfl))
    refine KO.mv rfl rfl ?_
    (refine KO.no rfl rfl ?_ rfl ?_; (focus rfl))
    (refine KO.no rfl rfl ?_ rfl ?_; (focus rfl))
    (refine KO.no rfl rfl ?_ rfl ?_; (focus rfl))
    refine KO.no2 rfl rfl rfl ?_
    refine KO.no2 rfl rfl rfl ?_
    refine KO.no2 rfl rfl rfl ?_
    refine KO.no2 rfl rfl rfl ?_
    (refine KO.no rfl rfl ?_ rfl ?_; (focus rfl))
    (refine KO.pickT rfl ?_ rfl rfl ?_; (focus rfl))
    refine KO.mv rfl rfl ?_
    (refine KO.no rfl rfl ?_ rfl ?_; (focus rfl))
    (refine KO.no rfl rfl ?_ rfl ?_; (focus rfl))
    (refine KO.no rfl rfl ?_ rfl ?_; (focus rfl))
    (refine KO.no rfl rfl ?_ rfl ?_; (focus rfl))
    refine KO.no2 rfl rfl rfl ?_
    refine KO.no2 rfl rfl rfl ?_
    refine KO.no2 rfl rfl rfl ?_
    refine KO.no2 rfl rfl rfl ?_
    (refine KO.no rfl rfl ?_ rfl ?_; (focus rfl))
    (refine KO.pickT rfl ?_ rfl rfl ?_; (focus rfl))
    refine KO.nil ?_
    repeat ((with_reducible refine KQ.next ?_))
    refine K.condT rfl rfl ?_
    repeat ((with_reducible refine K.seq ?_))
    refine K.reg ?_
    refine KO.as rfl rfl ?_
    refine KO.as rfl rfl ?_
    refine KO.nil ?_
    repeat (first | (with_reducible refine KQ.next ?_) | (with_reducible refine KQ.then_ret ?_) | (with_reducible refine K.ret ?_))
    refine KQ.ret2 rfl rfl rfl (fun w' hs => fin 1 ⟨#[]⟩ w' _ hbad.1.symm hbad.2.symm hs)
  by_cases a3 : 3 < (xs.length : Int)
  · have hbad := fw_bad (f := f) (xs := xs) (fun h => by unfold okF at h; omega)
    refine K.reg ?_
    refine KO.fo0 (off := 0) rfl Tryz.runUnderlying89 rfl rfl Tryz.sizeOf3 rfl ?_
    refine KO.ld rfl rfl Tryz.isAgg3 (by with_reducible (repeat (first | exact Pick.head | apply Pick.tail))) (by exact rfl) rfl ?_
    refine KO.ce (cp := []) rfl rfl rfl Tryz.call62 rfl (in_e w _ f.frm 0 3) ?_; rintro v' L' ⟨rfl, rfl⟩; rw [hc1]
    refine KO.not rfl rfl ?_
    refine KO.mv rfl rfl ?_
    (refine KO.on rfl rfl ?_ ?_; (focus rfl); (refine KO.fo0 (off := 1) rfl Tryz.runUnderlying89 rfl rfl Tryz.sizeOf3 rfl ?_))
    (refine KO.on rfl rfl ?_ ?_; (focus rfl); (refine KO.ld rfl rfl Tryz.isAgg3 (by with_reducible (repeat (first | exact Pick.head | apply Pick.tail))) (by exact rfl) rfl ?_))
    refine KO.on rfl rfl rfl ?_; refine KO.ce (cp := []) rfl rfl rfl Tryz.call62 rfl (in_e w _ f.num 0 1099511627776) ?_; rintro v' L' ⟨rfl, rfl⟩; rw [hc2]
    (refine KO.on rfl rfl ?_ ?_; (focus rfl); (refine KO.not rfl rfl ?_))
    (refine KO.pickF rfl ?_ rfl rfl ?_; (focus rfl))
    refine KO.mv rfl rfl ?_
    (refine KO.on rfl rfl ?_ ?_; (focus rfl); (refine KO.fo0 (off := 3) rfl Tryz.runUnderlying89 rfl rfl Tryz.sizeOf50 rfl ?_))
    (refine KO.on rfl rfl ?_ ?_; (focus rfl); (refine KO.ld rfl rfl Tryz.isAgg50 (by with_reducible (repeat (first | exact Pick.head | apply Pick.tail))) (by exact rfl) rfl ?_))
    (refine KO.on rfl rfl ?_ ?_; (focus rfl); (refine KO.len rfl Tryz.underlying50 rfl ?_))
    (refine KO.on rfl rfl ?_ ?_; (focus rfl); (refine KO.gtr rfl rfl rfl ?_))
    (refine KO.pickF rfl ?_ rfl rfl ?_; (focus rfl))
    refine KO.mv rfl rfl ?_
    (refine KO.no rfl rfl ?_ rfl ?_; (focus (simp only [decide_eq_true_eq, decide_eq_false_iff_not, Bool.not_eq_true, Bool.not_true, Bool.not_false, ne_eq]; omega)))
    (refine KO.no rfl rfl ?_ rfl ?_; (focus (simp only [decide_eq_true_eq, decide_eq_false_iff_not, Bool.not_eq_true, Bool.not_true, Bool.not_false, ne_eq]; omega)))
    (refine KO.no rfl rfl ?_ rfl ?_; (focus (simp only [decide_eq_true_eq, decide_eq_false_iff_not, Bool.not_eq_true, Bool.not_true, Bool.not_false, ne_eq]; omega)))
    (refine KO.pickT rfl ?_ rfl rfl ?_; (focus (simp only [decide_eq_true_eq, decide_eq_false_iff_not, Bool.not_eq_true, Bool.not_true, Bool.not_false, ne_eq]; omega)))
    refine KO.mv rfl rfl ?_
    (refine KO.no rfl rfl ?_ rfl ?_; (focus rfl))
    (refine KO.no rfl rfl ?_ rfl ?_; (focus rfl))
    (refine KO.no rfl rfl ?_ rfl ?_; (focus rfl))
    refine KO.no2 rfl rfl rfl ?_
    refine KO.no2 rfl rfl rfl ?_
    refine KO.no2 rfl rfl rfl ?_
    refine KO.no2 rfl rfl rfl ?_
    (refine KO.no rfl rfl ?_ rfl ?_; (focus rfl))
    (refine KO.pickT rfl ?_ rfl rfl ?_; (focus rfl))
    refine KO.mv rfl rfl ?_
    (refine KO.no rfl rfl ?_ rfl ?_; (focus rfl))
    (refine KO.no rfl rfl ?_ rfl ?_; (focus rfl))
    (refine KO.no rfl rfl ?_ rfl ?_; (focus rfl))
    (refine KO.no rfl rfl ?_ rfl ?_; (focus rfl))
    refine KO.no2 rfl rfl rfl ?_
    refine KO.no2 rfl rfl rfl ?_
    refine KO.no2 rfl rfl rfl ?_
    refine KO.no2 rfl rfl rfl ?_
    (refine KO.no rfl rfl ?_ rfl ?_; (focus rfl))
    (refine KO.pickT rfl ?_ rfl rfl ?_; (focus rfl))
    refine KO.nil ?_
    repeat ((with_reducible refine KQ.next ?_))
    refine K.condT rfl (by simp [a3]) ?_
    repeat ((with_reducible refine K.seq ?_))
    refine K.reg ?_
    refine KO.as rfl rfl ?_
    refine KO.as rfl rfl ?_
    refine KO.nil ?_
    repeat (first | (with_reducible refine KQ.next ?_) | (with_reducible refine KQ.then_ret ?_) | (with_reducible refine K.ret ?_))
    refine KQ.ret2 rfl rfl rfl (fun w' hs => fin 1 ⟨#[]⟩ w' _ hbad.1.symm hbad.2.symm hs)
  by_cases a4 : badI xs = none
  case neg =>
    have hbad := fw_bad (f := f) (xs := xs) (fun h => by unfold okF at h; exact a4 h.2.2.2.2.2.2)
    rw [writeE_bad a4]
    refine K.reg ?_
    refine KO.fo0 (off := 0) rfl Tryz.runUnderlying89 rfl rfl Tryz.sizeOf3 rfl ?_
    refine KO.ld rfl rfl Tryz.isAgg3 (by with_reducible (repeat (first | exact Pick.head | apply Pick.tail))) (by exact rfl) rfl ?_
    refine KO.ce (cp := []) rfl rfl rfl Tryz.call62 rfl (in_e w _ f.frm 0 3) ?_; rintro v' L' ⟨rfl, rfl⟩; rw [hc1]
    refine KO.not rfl rfl ?_
    refine KO.mv rfl rfl ?_
    (refine KO.on rfl rfl ?_ ?_; (focus rfl); (refine KO.fo0 (off := 1) rfl Tryz.runUnderlying89 rfl rfl Tryz.sizeOf3 rfl ?_))
    (refine KO.on rfl rfl ?_ ?_; (focus rfl); (refine KO.ld rfl rfl Tryz.isAgg3 (by with_reducible (repeat (first | exact Pick.head | apply Pick.tail))) (by exact rfl) rfl ?_))
    refine KO.on rfl rfl rfl ?_; refine KO.ce (cp := []) rfl rfl rfl Tryz.call62 rfl (in_e w _ f.num 0 1099511627776) ?_; rintro v' L' ⟨rfl, rfl⟩; rw [hc2]
    (refine KO.on rfl rfl ?_ ?_; (focus rfl); (refine KO.not rfl rfl ?_))
    (refine KO.pickF rfl ?_ rfl rfl ?_; (focus rfl))
    refine KO.mv rfl rfl ?_
    (refine KO.on rfl rfl ?_ ?_; (focus rfl); (refine KO.fo0 (off := 3) rfl Tryz.runUnderlying89 rfl rfl Tryz.sizeOf50 rfl ?_))
    (refine KO.on rfl rfl ?_ ?_; (focus rfl); (refine KO.ld rfl rfl Tryz.isAgg50 (by with_reducible (repeat (first | exact Pick.head | apply Pick.tail))) (by exact rfl) rfl ?_))
    (refine KO.on rfl rfl ?_ ?_; (focus rfl); (refine KO.len rfl Tryz.underlying50 rfl ?_))
    (refine KO.on rfl rfl ?_ ?_; (focus rfl); (refine KO.gtr rfl rfl rfl ?_))
    (refine KO.pickF rfl ?_ rfl rfl ?_; (focus rfl))
    refine KO.mv rfl rfl ?_
    (refine KO.on rfl rfl ?_ ?_; (focus (simp only [decide_eq_true_eq, decide_eq_false_iff_not, Bool.not_eq_true, Bool.not_true, Bool.not_false, ne_eq]; omega)); (refine KO.fo0 (off := 0) rfl Tryz.runUnderlying97 rfl rfl Tryz.sizeOf39 rfl ?_))
    (refine KO.on rfl rfl ?_ ?_; (focus (simp only [decide_eq_true_eq, decide_eq_false_iff_not, Bool.not_eq_true, Bool.not_true, Bool.not_false, ne_eq]; omega)); (refine KO.ld rfl rfl Tryz.isAgg39 (by with_reducible (repeat (exact Pick.head))) (by exact rfl) rfl ?_))
    (refine KO.on rfl rfl ?_ ?_; (focus (simp only [decide_eq_true_eq, decide_eq_false_iff_not, Bool.not_eq_true, Bool.not_true, Bool.not_false, ne_eq]; omega)); (refine KO.neI rfl rfl rfl ?_))
    (refine KO.pickF rfl ?_ rfl rfl ?_; (focus (simp only [decide_eq_true_eq, decide_eq_false_iff_not, Bool.not_eq_true, Bool.not_true, Bool.not_false, ne_eq]; omega)))
    refine KO.mv rfl rfl ?_
    (refine KO.no rfl rfl ?_ rfl ?_; (focus rfl))
    (refine KO.no rfl rfl ?_ rfl ?_; (focus rfl))
    (refine KO.no rfl rfl ?_ rfl ?_; (focus rfl))
    refine KO.no2 rfl rfl rfl ?_
    refine KO.no2 rfl rfl rfl ?_
    refine KO.no2 rfl rfl rfl ?_
    refine KO.no2 rfl rfl rfl ?_
    (refine KO.no rfl rfl ?_ rfl ?_; (focus rfl))
    (refine KO.pickT rfl ?_ rfl rfl ?_; (focus rfl))
    refine KO.mv rfl rfl ?_
    (refine KO.no rfl rfl ?_ rfl ?_; (focus rfl))
    (refine KO.no rfl rfl ?_ rfl ?_; (focus rfl))
    (refine KO.no rfl rfl ?_ rfl ?_; (focus rfl))
    (refine KO.no rfl rfl ?_ rfl ?_; (focus rfl))
    refine KO.no2 rfl rfl rfl ?_
    refine KO.no2 rfl rfl rfl ?_
    refine KO.no2 rfl rfl rfl ?_
    refine KO.no2 rfl rfl rfl ?_
    (refine KO.no rfl rfl ?_ rfl ?_; (focus rfl))
    (refine KO.pickT rfl ?_ rfl rfl ?_; (focus rfl))
    refine KO.nil ?_
    repeat ((with_reducible refine KQ.next ?_))
    refine K.condT rfl (by simp) ?_
    repeat ((with_reducible refine K.seq ?_))
    refine K.reg ?_
    refine KO.as rfl rfl ?_
    refine KO.as rfl rfl ?_
    refine KO.nil ?_
    repeat (first | (with_reducible refine KQ.next ?_) | (with_reducible refine KQ.then_ret ?_) | (with_reducible refine K.ret ?_))
    refine KQ.ret2 rfl rfl rfl (fun w' hs => fin 1 ⟨#[]⟩ w' _ hbad.1.symm hbad.2.symm hs)
  obtain ⟨wt, we⟩ := writeT_ok a4
  rw [wt, we]
  by_cases a5 : f.ack = decide (xs.length = 0)
  case neg =>
    have hbad := fw_bad (f := f) (xs := xs) (fun h => by unfold okF at h; exact a5 h.2.2.2.2.1)
    cases hk : f.ack
    · have a6 : (xs.length : Int) = 0 := by rw [hk] at a5; rcases Decidable.em (xs.length = 0) with h0 | h0 <;> first | omega | exact absurd (decide_eq_false h0).symm a5
      refine K.reg ?_
      refine KO.fo0 (off := 0) rfl Tryz.runUnderlying89 rfl rfl Tryz.sizeOf3 rfl ?_
      refine KO.ld rfl rfl Tryz.isAgg3 (by with_reducible (repeat (first | exact Pick.head | apply Pick.tail))) (by exact rfl) rfl ?_
      refine KO.ce (cp := []) rfl rfl rfl Tryz.call62 rfl (in_e w _ f.frm 0 3) ?_; rintro v' L' ⟨rfl, rfl⟩; rw [hc1]
      refine KO.not rfl rfl ?_
      refine KO.mv rfl rfl ?_
      (refine KO.on rfl rfl ?_ ?_; (focus rfl); (refine KO.fo0 (off := 1) rfl Tryz.runUnderlying89 rfl rfl Tryz.sizeOf3 rfl ?_))
      (refine KO.on rfl rfl ?_ ?_; (focus rfl); (refine KO.ld rfl rfl Tryz.isAgg3 (by with_reducible (repeat (first | exact Pick.head | apply Pick.tail))) (by exact rfl) rfl ?_))
      refine KO.on rfl rfl rfl ?_; refine KO.ce (cp := []) rfl rfl rfl Tryz.call62 rfl (in_e w _ f.num 0 1099511627776) ?_; rintro v' L' ⟨rfl, rfl⟩; rw [hc2]
      (refine KO.on rfl rfl ?_ ?_; (focus rfl); (refine KO.not rfl rfl ?_))
      (refine KO.pickF rfl ?_ rfl rfl ?_; (focus rfl))
      refine KO.mv rfl rfl ?_
      (refine KO.on rfl rfl ?_ ?_; (focus rfl); (refine KO.fo0 (off := 3) rfl Tryz.runUnderlying89 rfl rfl Tryz.sizeOf50 rfl ?_))
      (refine KO.on rfl rfl ?_ ?_; (focus rfl); (refine KO.ld rfl rfl Tryz.isAgg50 (by with_reducible (repeat (first | exact Pick.head | apply Pick.tail))) (by exact rfl) rfl ?_))
      (refine KO.on rfl rfl ?_ ?_; (focus rfl); (refine KO.len rfl Tryz.underlying50 rfl ?_))
      (refine KO.on rfl rfl ?_ ?_; (focus rfl); (refine KO.gtr rfl rfl rfl ?_))
      (refine KO.pickF rfl ?_ rfl rfl ?_; (focus rfl))
      refine KO.mv rfl rfl ?_
      (refine KO.on rfl rfl ?_ ?_; (focus (simp only [decide_eq_true_eq, decide_eq_false_iff_not, Bool.not_eq_true, Bool.not_true, Bool.not_false, ne_eq]; omega)); (refine KO.fo0 (off := 0) rfl Tryz.runUnderlying97 rfl rfl Tryz.sizeOf39 rfl ?_))
      (refine KO.on rfl rfl ?_ ?_; (focus (simp only [decide_eq_true_eq, decide_eq_false_iff_not, Bool.not_eq_true, Bool.not_true, Bool.not_false, ne_eq]; omega)); (refine KO.ld rfl rfl Tryz.isAgg39 (by with_reducible (repeat (exact Pick.head))) (by exact rfl) rfl ?_))
      (refine KO.on rfl rfl ?_ ?_; (focus (simp only [decide_eq_true_eq, decide_eq_false_iff_not, Bool.not_eq_true, Bool.not_true, Bool.not_false, ne_eq]; omega)); (refine KO.neI rfl rfl rfl ?_))
      (refine KO.pickF rfl ?_ rfl rfl ?_; (focus (simp only [decide_eq_true_eq, decide_eq_false_iff_not, Bool.not_eq_true, Bool.not_true, Bool.not_false, ne_eq]; omega)))
      refine KO.mv rfl rfl ?_
      (refine KO.on rfl rfl ?_ ?_; (focus rfl); (refine KO.fo0 (off := 2) rfl Tryz.runUnderlying89 rfl rfl Tryz.sizeOf4 rfl ?_))
      (refine KO.on rfl rfl ?_ ?_; (focus rfl); (refine KO.ld rfl rfl Tryz.isAgg4 (by with_reducible (repeat (first | exact Pick.head | apply Pick.tail))) (by exact rfl) rfl ?_))
      (refine KO.on rfl rfl ?_ ?_; (focus rfl); (refine KO.mv rfl rfl ?_))
      (refine KO.no rfl rfl ?_ rfl ?_; (focus assumption))
      (refine KO.no rfl rfl ?_ rfl ?_; (focus assumption))
      (refine KO.no rfl rfl ?_ rfl ?_; (focus assumption))
      (refine KO.no rfl rfl ?_ rfl ?_; (focus assumption))
      (refine KO.on rfl rfl ?_ ?_; (focus rfl); ((refine KO.pickF rfl ?_ rfl rfl ?_; (focus assumption))))
      (refine KO.pickF rfl ?_ rfl rfl ?_; (focus rfl))
      refine KO.mv rfl rfl ?_
      (refine KO.on rfl rfl ?_ ?_; (focus rfl); (refine KO.fo0 (off := 2) rfl Tryz.runUnderlying89 rfl rfl Tryz.sizeOf4 rfl ?_))
      (refine KO.on rfl rfl ?_ ?_; (focus rfl); (refine KO.ld rfl rfl Tryz.isAgg4 (by with_reducible (repeat (first | exact Pick.head | apply Pick.tail))) (by exact rfl) rfl ?_))
      (refine KO.on rfl rfl ?_ ?_; (focus rfl); (refine KO.not rfl rfl ?_))
      (refine KO.on rfl rfl ?_ ?_; (focus rfl); (refine KO.mv rfl rfl ?_))
      (refine KO.on rfl rfl ?_ ?_; (focus (simp_all; done)); (refine KO.fo0 (off := 3) rfl Tryz.runUnderlying89 rfl rfl Tryz.sizeOf50 rfl ?_))
      (refine KO.on rfl rfl ?_ ?_; (focus (simp_all; done)); (refine KO.ld rfl rfl Tryz.isAgg50 (by with_reducible (repeat (first | exact Pick.head | apply Pick.tail))) (by exact rfl) rfl ?_))
      (refine KO.on rfl rfl ?_ ?_; (focus (simp_all; done)); (refine KO.len rfl Tryz.underlying50 rfl ?_))
      (refine KO.on rfl rfl ?_ ?_; (focus (simp_all; done)); (refine KO.eqI rfl rfl rfl ?_))
      (refine KO.on rfl rfl ?_ ?_; (focus rfl); ((refine KO.pickT rfl ?_ rfl rfl ?_; (focus (simp_all; done)))))
      (refine KO.pickF rfl ?_ rfl rfl ?_; (focus rfl))
      refine KO.nil ?_
      repeat ((with_reducible refine KQ.next ?_))
      refine K.condT rfl (by simp [a6]) ?_
      repeat ((with_reducible refine K.seq ?_))
      refine K.reg ?_
      refine KO.as rfl rfl ?_
      refine KO.as rfl rfl ?_
      refine KO.nil ?_
      repeat (first | (with_reducible refine KQ.next ?_) | (with_reducible refine KQ.then_ret ?_) | (with_reducible refine K.ret ?_))
      refine KQ.ret2 rfl rfl rfl (fun w' hs => fin 1 ⟨#[]⟩ w' _ hbad.1.symm hbad.2.symm hs)
    · have a6 : 0 < (xs.length : Int) := by rw [hk] at a5; rcases Decidable.em (xs.length = 0) with h0 | h0 <;> first | omega | exact absurd (decide_eq_true h0).symm a5
      refine K.reg ?_
      refine KO.fo0 (off := 0) rfl Tryz.runUnderlying89 rfl rfl Tryz.sizeOf3 rfl ?_
      refine KO.ld rfl rfl Tryz.isAgg3 (by with_reducible (repeat (first | exact Pick.head | apply Pick.tail))) (by exact rfl) rfl ?_
      refine KO.ce (cp := []) rfl rfl rfl Tryz.call62 rfl (in_e w _ f.frm 0 3) ?_; rintro v' L' ⟨rfl, rfl⟩; rw [hc1]
      refine KO.not rfl rfl ?_
      refine KO.mv rfl rfl ?_
      (refine KO.on rfl rfl ?_ ?_; (focus rfl); (refine KO.fo0 (off := 1) rfl Tryz.runUnderlying89 rfl rfl Tryz.sizeOf3 rfl ?_))
      (refine KO.on rfl rfl ?_ ?_; (focus rfl); (refine KO.ld rfl rfl Tryz.isAgg3 (by with_reducible (repeat (first | exact Pick.head | apply Pick.tail))) (by exact rfl) rfl ?_))
      refine KO.on rfl rfl rfl ?_; refine KO.ce (cp := []) rfl rfl rfl Tryz.call62 rfl (in_e w _ f.num 0 1099511627776) ?_; rintro v' L' ⟨rfl, rfl⟩; rw [hc2]
      (refine KO.on rfl rfl ?_ ?_; (focus rfl); (refine KO.not rfl rfl ?_))
      (refine KO.pickF rfl ?_ rfl rfl ?_; (focus rfl))
      refine KO.mv rfl rfl ?_
      (refine KO.on rfl rfl ?_ ?_; (focus rfl); (refine KO.fo0 (off := 3) rfl Tryz.runUnderlying89 rfl rfl Tryz.sizeOf50 rfl ?_))
      (refine KO.on rfl rfl ?_ ?_; (focus rfl); (refine KO.ld rfl rfl Tryz.isAgg50 (by with_reducible (repeat (first | exact Pick.head | apply Pick.tail))) (by exact rfl) rfl ?_))
      (refine KO.on rfl rfl ?_ ?_; (focus rfl); (refine KO.len rfl Tryz.underlying50 rfl ?_))
      (refine KO.on rfl rfl ?_ ?_; (focus rfl); (refine KO.gtr rfl rfl rfl ?_))
      (refine KO.pickF rfl ?_ rfl rfl ?_; (focus rfl))
      refine KO.mv rfl rfl ?_
      (refine KO.on rfl rfl ?_ ?_; (focus (simp only [decide_eq_true_eq, decide_eq_false_iff_not, Bool.not_eq_true, Bool.not_true, Bool.not_false, ne_eq]; omega)); (refine KO.fo0 (off := 0) rfl Tryz.runUnderlying97 rfl rfl Tryz.sizeOf39 rfl ?_))
      (refine KO.on rfl rfl ?_ ?_; (focus (simp only [decide_eq_true_eq, decide_eq_false_iff_not, Bool.not_eq_true, Bool.not_true, Bool.not_false, ne_eq]; omega)); (refine KO.ld rfl rfl Tryz.isAgg39 (by with_reducible (repeat (exact Pick.head))) (by exact rfl) rfl ?_))
      (refine KO.on rfl rfl ?_ ?_; (focus (simp only [decide_eq_true_eq, decide_eq_false_iff_not, Bool.not_eq_true, Bool.not_true, Bool.not_false, ne_eq]; omega)); (refine KO.neI rfl rfl rfl ?_))
      (refine KO.pickF rfl ?_ rfl rfl ?_; (focus (simp only [decide_eq_true_eq, decide_eq_false_iff_not, Bool.not_eq_true, Bool.not_true, Bool.not_false, ne_eq]; omega)))
      refine KO.mv rfl rfl ?_
      (refine KO.on rfl rfl ?_ ?_; (focus rfl); (refine KO.fo0 (off := 2) rfl Tryz.runUnderlying89 rfl rfl Tryz.sizeOf4 rfl ?_))
      (refine KO.on rfl rfl ?_ ?_; (focus rfl); (refine KO.ld rfl rfl Tryz.isAgg4 (by with_reducible (repeat (first | exact Pick.head | apply Pick.tail))) (by exact rfl) rfl ?_))
      (refine KO.on rfl rfl ?_ ?_; (focus rfl); (refine KO.mv rfl rfl ?_))
      (refine KO.on rfl rfl ?_ ?_; (focus assumption); (refine KO.fo0 (off := 3) rfl Tryz.runUnderlying89 rfl rfl Tryz.sizeOf50 rfl ?_))
      (refine KO.on rfl rfl ?_ ?_; (focus assumption); (refine KO.ld rfl rfl Tryz.isAgg50 (by with_reducible (repeat (first | exact Pick.head | apply Pick.tail))) (by exact rfl) rfl ?_))
      (refine KO.on rfl rfl ?_ ?_; (focus assumption); (refine KO.len rfl Tryz.underlying50 rfl ?_))
      (refine KO.on rfl rfl ?_ ?_; (focus assumption); (refine KO.gtr rfl rfl rfl ?_))
      (refine KO.on rfl rfl ?_ ?_; (focus rfl); ((refine KO.pickT rfl ?_ rfl rfl ?_; (focus assumption))))
      (refine KO.pickF rfl ?_ rfl rfl ?_; (focus rfl))
      refine KO.mv rfl rfl ?_
      (refine KO.no rfl rfl ?_ rfl ?_; (focus (simp only [decide_eq_true_eq, decide_eq_false_iff_not, Bool.not_eq_true, Bool.not_true, Bool.not_false, ne_eq]; omega)))
      (refine KO.no rfl rfl ?_ rfl ?_; (focus (simp only [decide_eq_true_eq, decide_eq_false_iff_not, Bool.not_eq_true, Bool.not_true, Bool.not_false, ne_eq]; omega)))
      (refine KO.no rfl rfl ?_ rfl ?_; (focus (simp only [decide_eq_true_eq, decide_eq_false_iff_not, Bool.not_eq_true, Bool.not_true, Bool.not_false, ne_eq]; omega)))
      (refine KO.no rfl rfl ?_ rfl ?_; (focus (simp only [decide_eq_true_eq, decide_eq_false_iff_not, Bool.not_eq_true, Bool.not_true, Bool.not_false, ne_eq]; omega)))
      refine KO.no2 rfl rfl rfl ?_
      refine KO.no2 rfl rfl rfl ?_
      refine KO.no2 rfl rfl rfl ?_
      refine KO.no2 rfl rfl rfl ?_
      (refine KO.no rfl rfl ?_ rfl ?_; (focus (simp only [decide_eq_true_eq, decide_eq_false_iff_not, Bool.not_eq_true, Bool.not_true, Bool.not_false, ne_eq]; omega)))
      (refine KO.pickT rfl ?_ rfl rfl ?_; (focus (simp only [decide_eq_true_eq, decide_eq_false_iff_not, Bool.not_eq_true, Bool.not_true, Bool.not_false, ne_eq]; omega)))
      refine KO.nil ?_
      repeat ((with_reducible refine KQ.next ?_))
      refine K.condT rfl (by simp [a6]) ?_
      repeat ((with_reducible refine K.seq ?_))
      refine K.reg ?_
      refine KO.as rfl rfl ?_
      refine KO.as rfl rfl ?_
      refine KO.nil ?_
      repeat (first | (with_reducible refine KQ.next ?_) | (with_reducible refine KQ.then_ret ?_) | (with_reducible refine K.ret ?_))
      refine KQ.ret2 rfl rfl rfl (fun w' hs => fin 1 ⟨#[]⟩ w' _ hbad.1.symm hbad.2.symm hs)
  obtain ⟨b1', b2'⟩ := d1 rfl
  obtain ⟨b3', b4'⟩ := d2 rfl
  have hok : okF f xs := by unfold okF; exact ⟨b1', b2', b3', b4', a5, by omega, a4⟩
  obtain ⟨e1, e2⟩ := fw_ok hok
  have i1 : intB f.frm := ⟨by omega, by omega⟩
  have i2 : intB f.num := ⟨by omega, by omega⟩
  have z1 := itoaS_size i1
  have z2 := itoaS_size i2
  have z6 : (⟨#[58]⟩ : ByteArray).size = 1 := rfl
  have z7 : colon.size = 1 := rfl
  have s3 := writeS_size (badI_all a4)
  have hW1 : joinS ([f.frm].map itoaS) sp = itoaS f.frm := joinS_one _ _
  have hW2 : joinS ([f.num].map itoaS) sp = itoaS f.num := joinS_one _ _
  refine K.cut (fun _ : Unit => [(54, .bool false), (1, .pointer (some ⟨b1, 0, none⟩)), (4, .string (writeS xs))]) (fun _ => [blk b1 (.cells (frC f (.slice sa xs.length cap)).toArray 89 (0, 0))]) (fun _ => True) ?_ ?_
  · cases hk : f.ack
    · have a6 : ¬ (xs.length : Int) = 0 := by rw [hk] at a5; simp at a5; have := List.length_pos_iff.2 a5; omega
      refine K.reg ?_
      refine KO.fo0 (off := 0) rfl Tryz.runUnderlying89 rfl rfl Tryz.sizeOf3 rfl ?_
      refine KO.ld rfl rfl Tryz.isAgg3 (by with_reducible (repeat (first | exact Pick.head | apply Pick.tail))) (by exact rfl) rfl ?_
      refine KO.ce (cp := []) rfl rfl rfl Tryz.call62 rfl (in_e w _ f.frm 0 3) ?_; rintro v' L' ⟨rfl, rfl⟩; rw [hc1]
      refine KO.not rfl rfl ?_
      refine KO.mv rfl rfl ?_
      (refine KO.on rfl rfl ?_ ?_; (focus rfl); (refine KO.fo0 (off := 1) rfl Tryz.runUnderlying89 rfl rfl Tryz.sizeOf3 rfl ?_))
      (refine KO.on rfl rfl ?_ ?_; (focus rfl); (refine KO.ld rfl rfl Tryz.isAgg3 (by with_reducible (repeat (first | exact Pick.head | apply Pick.tail))) (by exact rfl) rfl ?_))
      refine KO.on rfl rfl rfl ?_; refine KO.ce (cp := []) rfl rfl rfl Tryz.call62 rfl (in_e w _ f.num 0 1099511627776) ?_; rintro v' L' ⟨rfl, rfl⟩; rw [hc2]
      (refine KO.on rfl rfl ?_ ?_; (focus rfl); (refine KO.not rfl rfl ?_))
      (refine KO.pickF rfl ?_ rfl rfl ?_; (focus rfl))
      refine KO.mv rfl rfl ?_
      (refine KO.on rfl rfl ?_ ?_; (focus rfl); (refine KO.fo0 (off := 3) rfl Tryz.runUnderlying89 rfl rfl Tryz.sizeOf50 rfl ?_))
      (refine KO.on rfl rfl ?_ ?_; (focus rfl); (refine KO.ld rfl rfl Tryz.isAgg50 (by with_reducible (repeat (first | exact Pick.head | apply Pick.tail))) (by exact rfl) rfl ?_))
      (refine KO.on rfl rfl ?_ ?_; (focus rfl); (refine KO.len rfl Tryz.underlying50 rfl ?_))
      (refine KO.on rfl rfl ?_ ?_; (focus rfl); (refine KO.gtr rfl rfl rfl ?_))
      (refine KO.pickF rfl ?_ rfl rfl ?_; (focus rfl))
      refine KO.mv rfl rfl ?_
      (refine KO.on rfl rfl ?_ ?_; (focus (simp only [decide_eq_true_eq, decide_eq_false_iff_not, Bool.not_eq_true, Bool.not_true, Bool.not_false, ne_eq]; omega)); (refine KO.fo0 (off := 0) rfl Tryz.runUnderlying97 rfl rfl Tryz.sizeOf39 rfl ?_))
      (refine KO.on rfl rfl ?_ ?_; (focus (simp only [decide_eq_true_eq, decide_eq_false_iff_not, Bool.not_eq_true, Bool.not_true, Bool.not_false, ne_eq]; omega)); (refine KO.ld rfl rfl Tryz.isAgg39 (by with_reducible (repeat (exact Pick.head))) (by exact rfl) rfl ?_))
      (refine KO.on rfl rfl ?_ ?_; (focus (simp only [decide_eq_true_eq, decide_eq_false_iff_not, Bool.not_eq_true, Bool.not_true, Bool.not_false, ne_eq]; omega)); (refine KO.neI rfl rfl rfl ?_))
      (refine KO.pickF rfl ?_ rfl rfl ?_; (focus (simp only [decide_eq_true_eq, decide_eq_false_iff_not, Bool.not_eq_true, Bool.not_true, Bool.not_false, ne_eq]; omega)))
      refine KO.mv rfl rfl ?_
      (refine KO.on rfl rfl ?_ ?_; (focus rfl); (refine KO.fo0 (off := 2) rfl Tryz.runUnderlying89 rfl rfl Tryz.sizeOf4 rfl ?_))
      (refine KO.on rfl rfl ?_ ?_; (focus rfl); (refine KO.ld rfl rfl Tryz.isAgg4 (by with_reducible (repeat (first | exact Pick.head | apply Pick.tail))) (by exact rfl) rfl ?_))
      (refine KO.on rfl rfl ?_ ?_; (focus rfl); (refine KO.mv rfl rfl ?_))
      (refine KO.no rfl rfl ?_ rfl ?_; (focus assumption))
      (refine KO.no rfl rfl ?_ rfl ?_; (focus assumption))
      (refine KO.no rfl rfl ?_ rfl ?_; (focus assumption))
      (refine KO.no rfl rfl ?_ rfl ?_; (focus assumption))
      (refine KO.on rfl rfl ?_ ?_; (focus rfl); ((refine KO.pickF rfl ?_ rfl rfl ?_; (focus assumption))))
      (refine KO.pickF rfl ?_ rfl rfl ?_; (focus rfl))
      refine KO.mv rfl rfl ?_
      (refine KO.on rfl rfl ?_ ?_; (focus rfl); (refine KO.fo0 (off := 2) rfl Tryz.runUnderlying89 rfl rfl Tryz.sizeOf4 rfl ?_))
      (refine KO.on rfl rfl ?_ ?_; (focus rfl); (refine KO.ld rfl rfl Tryz.isAgg4 (by with_reducible (repeat (first | exact Pick.head | apply Pick.tail))) (by exact rfl) rfl ?_))
      (refine KO.on rfl rfl ?_ ?_; (focus rfl); (refine KO.not rfl rfl ?_))
      (refine KO.on rfl rfl ?_ ?_; (focus rfl); (refine KO.mv rfl rfl ?_))
      (refine KO.on rfl rfl ?_ ?_; (focus (simp_all; done)); (refine KO.fo0 (off := 3) rfl Tryz.runUnderlying89 rfl rfl Tryz.sizeOf50 rfl ?_))
      (refine KO.on rfl rfl ?_ ?_; (focus (simp_all; done)); (refine KO.ld rfl rfl Tryz.isAgg50 (by with_reducible (repeat (first | exact Pick.head | apply Pick.tail))) (by exact rfl) rfl ?_))
      (refine KO.on rfl rfl ?_ ?_; (focus (simp_all; done)); (refine KO.len rfl Tryz.underlying50 rfl ?_))
      (refine KO.on rfl rfl ?_ ?_; (focus (simp_all; done)); (refine KO.eqI rfl rfl rfl ?_))
      (refine KO.on rfl rfl ?_ ?_; (focus rfl); ((refine KO.pickT rfl ?_ rfl rfl ?_; (focus (simp_all; done)))))
      (refine KO.pickF rfl ?_ rfl rfl ?_; (focus rfl))
      refine KO.nil ?_
      exact KQ.mid () trivial ⟨by simp [envAt, a3, hk]; exact fun h => a6 (by rw [h]; rfl), rfl, rfl, trivial⟩ (fun _ h => h.all (by with_reducible repeat (first | exact PAll.nil | refine PAll.cons (by with_reducible repeat (first | exact Pick.head | apply Pick.tail)) ?_)))
    · have a6 : ¬ 0 < (xs.length : Int) := by rw [hk] at a5; simp at a5; rw [a5]; simp
      refine K.reg ?_
      refine KO.fo0 (off := 0) rfl Tryz.runUnderlying89 rfl rfl Tryz.sizeOf3 rfl ?_
      refine KO.ld rfl rfl Tryz.isAgg3 (by with_reducible (repeat (first | exact Pick.head | apply Pick.tail))) (by exact rfl) rfl ?_
      refine KO.ce (cp := []) rfl rfl rfl Tryz.call62 rfl (in_e w _ f.frm 0 3) ?_; rintro v' L' ⟨rfl, rfl⟩; rw [hc1]
      refine KO.not rfl rfl ?_
      refine KO.mv rfl rfl ?_
      (refine KO.on rfl rfl ?_ ?_; (focus rfl); (refine KO.fo0 (off := 1) rfl Tryz.runUnderlying89 rfl rfl Tryz.sizeOf3 rfl ?_))
      (refine KO.on rfl rfl ?_ ?_; (focus rfl); (refine KO.ld rfl rfl Tryz.isAgg3 (by with_reducible (repeat (first | exact Pick.head | apply Pick.tail))) (by exact rfl) rfl ?_))
      refine KO.on rfl rfl rfl ?_; refine KO.ce (cp := []) rfl rfl rfl Tryz.call62 rfl (in_e w _ f.num 0 1099511627776) ?_; rintro v' L' ⟨rfl, rfl⟩; rw [hc2]
      (refine KO.on rfl rfl ?_ ?_; (focus rfl); (refine KO.not rfl rfl ?_))
      (refine KO.pickF rfl ?_ rfl rfl ?_; (focus rfl))
      refine KO.mv rfl rfl ?_
      (refine KO.on rfl rfl ?_ ?_; (focus rfl); (refine KO.fo0 (off := 3) rfl Tryz.runUnderlying89 rfl rfl Tryz.sizeOf50 rfl ?_))
      (refine KO.on rfl rfl ?_ ?_; (focus rfl); (refine KO.ld rfl rfl Tryz.isAgg50 (by with_reducible (repeat (first | exact Pick.head | apply Pick.tail))) (by exact rfl) rfl ?_))
      (refine KO.on rfl rfl ?_ ?_; (focus rfl); (refine KO.len rfl Tryz.underlying50 rfl ?_))
      (refine KO.on rfl rfl ?_ ?_; (focus rfl); (refine KO.gtr rfl rfl rfl ?_))
      (refine KO.pickF rfl ?_ rfl rfl ?_; (focus rfl))
      refine KO.mv rfl rfl ?_
      (refine KO.on rfl rfl ?_ ?_; (focus (simp only [decide_eq_true_eq, decide_eq_false_iff_not, Bool.not_eq_true, Bool.not_true, Bool.not_false, ne_eq]; omega)); (refine KO.fo0 (off := 0) rfl Tryz.runUnderlying97 rfl rfl Tryz.sizeOf39 rfl ?_))
      (refine KO.on rfl rfl ?_ ?_; (focus (simp only [decide_eq_true_eq, decide_eq_false_iff_not, Bool.not_eq_true, Bool.not_true, Bool.not_false, ne_eq]; omega)); (refine KO.ld rfl rfl Tryz.isAgg39 (by with_reducible (repeat (exact Pick.head))) (by exact rfl) rfl ?_))
      (refine KO.on rfl rfl ?_ ?_; (focus (simp only [decide_eq_true_eq, decide_eq_false_iff_not, Bool.not_eq_true, Bool.not_true, Bool.not_false, ne_eq]; omega)); (refine KO.neI rfl rfl rfl ?_))
      (refine KO.pickF rfl ?_ rfl rfl ?_; (focus (simp only [decide_eq_true_eq, decide_eq_false_iff_not, Bool.not_eq_true, Bool.not_true, Bool.not_false, ne_eq]; omega)))
      refine KO.mv rfl rfl ?_
      (refine KO.on rfl rfl ?_ ?_; (focus rfl); (refine KO.fo0 (off := 2) rfl Tryz.runUnderlying89 rfl rfl Tryz.sizeOf4 rfl ?_))
      (refine KO.on rfl rfl ?_ ?_; (focus rfl); (refine KO.ld rfl rfl Tryz.isAgg4 (by with_reducible (repeat (first | exact Pick.head | apply Pick.tail))) (by exact rfl) rfl ?_))
      (refine KO.on rfl rfl ?_ ?_; (focus rfl); (refine KO.mv rfl rfl ?_))
      (refine KO.on rfl rfl ?_ ?_; (focus assumption); (refine KO.fo0 (off := 3) rfl Tryz.runUnderlying89 rfl rfl Tryz.sizeOf50 rfl ?_))
      (refine KO.on rfl rfl ?_ ?_; (focus assumption); (refine KO.ld rfl rfl Tryz.isAgg50 (by with_reducible (repeat (first | exact Pick.head | apply Pick.tail))) (by exact rfl) rfl ?_))
      (refine KO.on rfl rfl ?_ ?_; (focus assumption); (refine KO.len rfl Tryz.underlying50 rfl ?_))
      (refine KO.on rfl rfl ?_ ?_; (focus assumption); (refine KO.gtr rfl rfl rfl ?_))
      (refine KO.on rfl rfl ?_ ?_; (focus rfl); ((refine KO.pickT rfl ?_ rfl rfl ?_; (focus assumption))))
      (refine KO.pickF rfl ?_ rfl rfl ?_; (focus rfl))
      refine KO.mv rfl rfl ?_
      (refine KO.on rfl rfl ?_ ?_; (focus (simp only [decide_eq_true_eq, decide_eq_false_iff_not, Bool.not_eq_true, Bool.not_true, Bool.not_false, ne_eq]; omega)); (refine KO.fo0 (off := 2) rfl Tryz.runUnderlying89 rfl rfl Tryz.sizeOf4 rfl ?_))
      (refine KO.on rfl rfl ?_ ?_; (focus (simp only [decide_eq_true_eq, decide_eq_false_iff_not, Bool.not_eq_true, Bool.not_true, Bool.not_false, ne_eq]; omega)); (refine KO.ld rfl rfl Tryz.isAgg4 (by with_reducible (repeat (first | exact Pick.head | apply Pick.tail))) (by exact rfl) rfl ?_))
      (refine KO.on rfl rfl ?_ ?_; (focus (simp only [decide_eq_true_eq, decide_eq_false_iff_not, Bool.not_eq_true, Bool.not_true, Bool.not_false, ne_eq]; omega)); (refine KO.not rfl rfl ?_))
      (refine KO.on rfl rfl ?_ ?_; (focus (simp only [decide_eq_true_eq, decide_eq_false_iff_not, Bool.not_eq_true, Bool.not_true, Bool.not_false, ne_eq]; omega)); (refine KO.mv rfl rfl ?_))
      (refine KO.no rfl rfl ?_ rfl ?_; (focus (simp_all; done)))
      (refine KO.no rfl rfl ?_ rfl ?_; (focus (simp_all; done)))
      (refine KO.no rfl rfl ?_ rfl ?_; (focus (simp_all; done)))
      (refine KO.no rfl rfl ?_ rfl ?_; (focus (simp_all; done)))
      (refine KO.on rfl rfl ?_ ?_; (focus (simp only [decide_eq_true_eq, decide_eq_false_iff_not, Bool.not_eq_true, Bool.not_true, Bool.not_false, ne_eq]; omega)); ((refine KO.pickF rfl ?_ rfl rfl ?_; (focus (simp_all; done)))))
      (refine KO.pickF rfl ?_ rfl rfl ?_; (focus (simp only [decide_eq_true_eq, decide_eq_false_iff_not, Bool.not_eq_true, Bool.not_true, Bool.not_false, ne_eq]; omega)))
      refine KO.nil ?_
      exact KQ.mid () trivial ⟨by simp [envAt, a3, a6, hk], rfl, rfl, trivial⟩ (fun _ h => h.all (by with_reducible repeat (first | exact PAll.nil | refine PAll.cons (by with_reducible repeat (first | exact Pick.head | apply Pick.tail)) ?_)))
  rintro _ _
  refine K.condF rfl rfl ?_
  repeat (first | (with_reducible refine K.seq ?_) | (with_reducible refine KQ.next ?_) | (with_reducible refine K.skip ?_))
  refine K.reg ?_
  refine KO.as rfl rfl ?_
  refine KO.nil ?_
  repeat (first | (with_reducible refine K.seq ?_) | (with_reducible refine KQ.next ?_))
  refine K.reg ?_
  refine KO.fo0 (off := 2) rfl Tryz.runUnderlying89 rfl rfl Tryz.sizeOf4 rfl ?_
  refine KO.ld rfl rfl Tryz.isAgg4 (by with_reducible (repeat (exact Pick.head))) (by exact rfl) rfl ?_
  refine KO.nil ?_
  repeat ((with_reducible refine KQ.next ?_))
  refine K.cut (fun _ : Unit => [(1, .pointer (some ⟨b1, 0, none⟩)), (4, .string (writeS xs)), (6, .string (kindS f.ack ++ colon))]) (fun _ => [blk b1 (.cells (frC f (.slice sa xs.length cap)).toArray 89 (0, 0))]) (fun _ => True) ?_ ?_
  · refine K.cond rfl (fun h => ?_) (fun h => ?_)
    · refine K.reg ?_
      refine KO.as rfl rfl ?_
      refine KO.nil ?_
      exact KQ.mid () trivial ⟨rfl, rfl, by rw [h]; rfl, trivial⟩ (fun _ h => h.all (by with_reducible repeat (exact PAll.refl)))
    · refine K.skip ?_
      exact KQ.mid () trivial ⟨rfl, rfl, by rw [h]; rfl, trivial⟩ (fun _ h => h.all (by with_reducible repeat (exact PAll.refl)))
  rintro _ _
  repeat ((with_reducible refine K.seq ?_))
  have hks : (kindS f.ack).size ≤ 1 := by unfold kindS; split <;> decide
  refine K.drawX [.pure, .pure, .read, .keep, .keep, .pure, .pure, .pure, .read, .keep, .keep, .pure, .pure, .pure, .pure, .pure, .pure] [(3, 9), (4, 9)] [[0, 1, 2, 7, 8, 13, 3, 4, 5, 6, 9, 10, 11, 12, 14, 15, 16], [0, 1, 2, 7, 8, 13, 3, 9, 4, 5, 6, 10, 11, 12, 14, 15, 16], [0, 1, 2, 7, 8, 13, 9, 3, 4, 5, 6, 10, 11, 12, 14, 15, 16]] (by kernel_rfl) (by kernel_rfl) (by kernel_rfl) ⟨?_, ?_, ?_, trivial⟩
  focus
    show KO _ _ _ _ _ _ _ _ _ _
    refine KO.mv rfl rfl ?_
    refine KO.fo0 (off := 0) rfl Tryz.runUnderlying89 rfl rfl Tryz.sizeOf3 rfl ?_
    refine KO.ld rfl rfl Tryz.isAgg3 (by with_reducible (repeat (exact Pick.head))) (by exact rfl) rfl ?_
    refine KO.fo0 (off := 1) rfl Tryz.runUnderlying89 rfl rfl Tryz.sizeOf3 rfl ?_
    refine KO.ld rfl rfl Tryz.isAgg3 (by with_reducible (repeat (exact Pick.head))) (by exact rfl) rfl ?_
    refine KO.mv rfl rfl ?_
    refine KO.bs1 (z := (Value.int .i64 0)) (sz := 1) (by' := 8) rfl rfl Tryz.underlying101 (by kernel_rfl) (by exact rfl) (by exact rfl) (by decide) (by decide) rfl ?_; intro b60
    refine KO.ce (cp := []) rfl rfl rfl Tryz.call80 rfl (words_e w _ _ [f.frm] (fun w' hw' => rdA_blk (vs := [.int .i64 f.frm]) (xs := [f.frm]) (by with_reducible (repeat (exact Pick.head))) rfl hw') hT (by intro n hn; simp at hn; subst hn; assumption) (by simp)) ?_; rintro v' L' ⟨rfl, rfl⟩; rw [hW1]
    refine KO.cat rfl rfl (by simp only [ByteArray.size_append, z1, z2, z6, z7]; omega) rfl ?_
    refine KO.cat rfl rfl (by simp only [ByteArray.size_append, z1, z2, z6, z7]; omega) rfl ?_
    refine KO.bs1 (z := (Value.int .i64 0)) (sz := 1) (by' := 8) rfl rfl Tryz.underlying101 (by kernel_rfl) (by exact rfl) (by exact rfl) (by decide) (by decide) rfl ?_; intro b66
    refine KO.ce (cp := []) rfl rfl rfl Tryz.call80 rfl (words_e w _ _ [f.num] (fun w' hw' => rdA_blk (vs := [.int .i64 f.num]) (xs := [f.num]) (by with_reducible (repeat (exact Pick.head))) rfl hw') hT (by intro n hn; simp at hn; subst hn; assumption) (by simp)) ?_; rintro v' L' ⟨rfl, rfl⟩; rw [hW2]
    refine KO.cat rfl rfl (by simp only [ByteArray.size_append, z1, z2, z6, z7]; omega) rfl ?_
    refine KO.cat rfl rfl (by simp only [ByteArray.size_append, z1, z2, z6, z7]; omega) rfl ?_
    refine KO.cat rfl rfl (by simp only [ByteArray.size_append, z1, z2, z6, z7]; omega) rfl ?_
    refine KO.as rfl rfl ?_
    refine KO.as rfl rfl ?_
    refine KO.nil ?_
    repeat (first | (with_reducible refine KQ.next ?_) | (with_reducible refine K.ret ?_))
  rotate_left
  focus
    show KO _ _ _ _ _ _ _ _ _ _
    refine KO.mv rfl rfl ?_
    refine KO.fo0 (off := 0) rfl Tryz.runUnderlying89 rfl rfl Tryz.sizeOf3 rfl ?_
    refine KO.ld rfl rfl Tryz.isAgg3 (by with_reducible (repeat (exact Pick.head))) (by exact rfl) rfl ?_
    refine KO.fo0 (off := 1) rfl Tryz.runUnderlying89 rfl rfl Tryz.sizeOf3 rfl ?_
    refine KO.ld rfl rfl Tryz.isAgg3 (by with_reducible (repeat (exact Pick.head))) (by exact rfl) rfl ?_
    refine KO.mv rfl rfl ?_
    refine KO.bs1 (z := (Value.int .i64 0)) (sz := 1) (by' := 8) rfl rfl Tryz.underlying101 (by kernel_rfl) (by exact rfl) (by exact rfl) (by decide) (by decide) rfl ?_; intro b60
    refine KO.bs1 (z := (Value.int .i64 0)) (sz := 1) (by' := 8) rfl rfl Tryz.underlying101 (by kernel_rfl) (by exact rfl) (by exact rfl) (by decide) (by decide) rfl ?_; intro b66
    refine KO.ce (cp := []) rfl rfl rfl Tryz.call80 rfl (words_e w _ _ [f.frm] (fun w' hw' => rdA_blk (vs := [.int .i64 f.frm]) (xs := [f.frm]) (by with_reducible (repeat (first | exact Pick.head | apply Pick.tail))) rfl hw') hT (by intro n hn; simp at hn; subst hn; assumption) (by simp)) ?_; rintro v' L' ⟨rfl, rfl⟩; rw [hW1]
    refine KO.cat rfl rfl (by simp only [ByteArray.size_append, z1, z2, z6, z7]; omega) rfl ?_
    refine KO.cat rfl rfl (by simp only [ByteArray.size_append, z1, z2, z6, z7]; omega) rfl ?_
    refine KO.ce (cp := []) rfl rfl rfl Tryz.call80 rfl (words_e w _ _ [f.num] (fun w' hw' => rdA_blk (vs := [.int .i64 f.num]) (xs := [f.num]) (by with_reducible (repeat (exact Pick.head))) rfl hw') hT (by intro n hn; simp at hn; subst hn; assumption) (by simp)) ?_; rintro v' L' ⟨rfl, rfl⟩; rw [hW2]
    refine KO.cat rfl rfl (by simp only [ByteArray.size_append, z1, z2, z6, z7]; omega) rfl ?_
    refine KO.cat rfl rfl (by simp only [ByteArray.size_append, z1, z2, z6, z7]; omega) rfl ?_
    refine KO.cat rfl rfl (by simp only [ByteArray.size_append, z1, z2, z6, z7]; omega) rfl ?_
    refine KO.as rfl rfl ?_
    refine KO.as rfl rfl ?_
    refine KO.nil ?_
    repeat (first | (with_reducible refine KQ.next ?_) | (with_reducible refine K.ret ?_))
  rotate_left
  focus
    show KO _ _ _ _ _ _ _ _ _ _
    refine KO.mv rfl rfl ?_
    refine KO.fo0 (off := 0) rfl Tryz.runUnderlying89 rfl rfl Tryz.sizeOf3 rfl ?_
    refine KO.ld rfl rfl Tryz.isAgg3 (by with_reducible (repeat (exact Pick.head))) (by exact rfl) rfl ?_
    refine KO.fo0 (off := 1) rfl Tryz.runUnderlying89 rfl rfl Tryz.sizeOf3 rfl ?_
    refine KO.ld rfl rfl Tryz.isAgg3 (by with_reducible (repeat (exact Pick.head))) (by exact rfl) rfl ?_
    refine KO.mv rfl rfl ?_
    refine KO.bs1 (z := (Value.int .i64 0)) (sz := 1) (by' := 8) rfl rfl Tryz.underlying101 (by kernel_rfl) (by exact rfl) (by exact rfl) (by decide) (by decide) rfl ?_; intro b66
    refine KO.bs1 (z := (Value.int .i64 0)) (sz := 1) (by' := 8) rfl rfl Tryz.underlying101 (by kernel_rfl) (by exact rfl) (by exact rfl) (by decide) (by decide) rfl ?_; intro b60
    refine KO.ce (cp := []) rfl rfl rfl Tryz.call80 rfl (words_e w _ _ [f.frm] (fun w' hw' => rdA_blk (vs := [.int .i64 f.frm]) (xs := [f.frm]) (by with_reducible (repeat (exact Pick.head))) rfl hw') hT (by intro n hn; simp at hn; subst hn; assumption) (by simp)) ?_; rintro v' L' ⟨rfl, rfl⟩; rw [hW1]
    refine KO.cat rfl rfl (by simp only [ByteArray.size_append, z1, z2, z6, z7]; omega) rfl ?_
    refine KO.cat rfl rfl (by simp only [ByteArray.size_append, z1, z2, z6, z7]; omega) rfl ?_
    refine KO.ce (cp := []) rfl rfl rfl Tryz.call80 rfl (words_e w _ _ [f.num] (fun w' hw' => rdA_blk (vs := [.int .i64 f.num]) (xs := [f.num]) (by with_reducible (repeat (first | exact Pick.head | apply Pick.tail))) rfl hw') hT (by intro n hn; simp at hn; subst hn; assumption) (by simp)) ?_; rintro v' L' ⟨rfl, rfl⟩; rw [hW2]
    refine KO.cat rfl rfl (by simp only [ByteArray.size_append, z1, z2, z6, z7]; omega) rfl ?_
    refine KO.cat rfl rfl (by simp only [ByteArray.size_append, z1, z2, z6, z7]; omega) rfl ?_
    refine KO.cat rfl rfl (by simp only [ByteArray.size_append, z1, z2, z6, z7]; omega) rfl ?_
    refine KO.as rfl rfl ?_
    refine KO.as rfl rfl ?_
    refine KO.nil ?_
    repeat (first | (with_reducible refine KQ.next ?_) | (with_reducible refine K.ret ?_))
  rotate_left
  all_goals exact KQ.ret2 rfl rfl rfl (fun w' hs => fin 0 (kindS f.ack ++ colon ++ itoaS f.frm ++ ⟨#[58]⟩ ++ itoaS f.num ++ ⟨#[58]⟩ ++ writeS xs) w' _ e1.symm (by rw [e2]; exact (joinS_four _ _ _ _ _).symm) hs)
end Go.Proofs.YtjhogocabcdjbaaGreatDoor
/- a frame's text read: plain -/
namespace WB
open Go
/-- what a frame's text stands for -/
def frd (s : ByteArray) : Option (Fr × List Ms) :=
  match pcs 58 s with
  | [a, b, c, d] => match numO b, numO c, mrd d with
    | some x, some y, some xs => if okF ⟨x, y, decide (a = ⟨#[97]⟩)⟩ xs ∧ frS ⟨x, y, decide (a = ⟨#[97]⟩)⟩ xs = s then some (⟨x, y, decide (a = ⟨#[97]⟩)⟩, xs) else none
    | _, _, _ => none
  | _ => none
theorem itoa_colon {n : Int} : ∀ b ∈ (itoaS n).data.toList, b ≠ 58 := fun b hb => by
  have := itoa_mem b hb
  rintro rfl; revert this; decide
theorem let_colon {s : ByteArray} (h : allLet s = true) : ∀ b ∈ s.data.toList, b ≠ 58 := fun b hb => by
  unfold allLet at h
  have := List.all_eq_true.1 h b hb
  rintro rfl; revert this; decide
theorem msg_colon {m : Ms} (h : msRight m = true) : ∀ b ∈ (msgS m).data.toList, b ≠ 58 := fun b hb => by
  obtain ⟨h1, h2, h3, h4, h5, h6, h7, h8⟩ := msRight_parts h
  rw [msgS_join] at hb
  rcases mem_joinS hb with hb | ⟨x, hx, hb⟩
  · have : b = 32 := by simpa [sp] using hb
    subst this; decide
  · simp only [List.mem_cons, List.not_mem_nil, or_false] at hx
    rcases hx with rfl | rfl | rfl | rfl | rfl
    · exact itoa_colon b hb
    · exact itoa_colon b hb
    · exact let_colon (body_let h5) b hb
    · exact let_colon (word_let h6) b hb
    · exact itoa_colon b hb
theorem write_colon {xs : List Ms} (h : badI xs = none) : ∀ b ∈ (writeS xs).data.toList, b ≠ 58 := fun b hb => by
  unfold writeS at hb
  rcases mem_joinS hb with hb | ⟨x, hx, hb⟩
  · have : b = 43 := by simpa [plus] using hb
    subst this; decide
  · obtain ⟨m, hm, rfl⟩ := List.mem_map.1 hx
    exact msg_colon (badI_all h m hm) b hb
theorem frS_pcs {f : Fr} {xs : List Ms} (h : okF f xs) : pcs 58 (frS f xs) = [kindS f.ack, itoaS f.frm, itoaS f.num, writeS xs] := by
  unfold okF at h
  unfold frS
  refine pcs_join (c := 58) (by simp) fun x hx b hb => ?_
  simp only [List.mem_cons, List.not_mem_nil, or_false] at hx
  rcases hx with rfl | rfl | rfl | rfl
  · unfold kindS at hb
    split at hb
    · have : b = 97 := by simpa using hb
      subst this; decide
    · have : b = 98 := by simpa using hb
      subst this; decide
  · exact itoa_colon b hb
  · exact itoa_colon b hb
  · exact write_colon h.2.2.2.2.2.2 b hb
theorem kind_ack (a : Bool) : decide (kindS a = ⟨#[97]⟩) = a := by cases a <;> decide
theorem frd_write {f : Fr} {xs : List Ms} (h : okF f xs) : frd (frS f xs) = some (f, xs) := by
  have hp := frS_pcs h
  have h2 := h
  unfold okF at h2
  obtain ⟨h3, h4, h5, h6, h7, h8, h9⟩ := h2
  unfold frd
  rw [hp]
  have e1 := numO_itoa (n := f.frm) ⟨by omega, by omega⟩
  have e2 := numO_itoa (n := f.num) ⟨by omega, by omega⟩
  have e3 := mrd_write h9
  simp only [e1, e2, e3, kind_ack]
  rw [if_pos ⟨h, trivial⟩]
theorem frd_some {s : ByteArray} {f : Fr} {xs : List Ms} (h : frd s = some (f, xs)) : okF f xs ∧ frS f xs = s := by
  unfold frd at h
  split at h
  · split at h
    · split at h
      · rename_i hh
        simp only [Option.some.injEq, Prod.mk.injEq] at h
        obtain ⟨rfl, rfl⟩ := h; exact hh
      · cases h
    · cases h
  · cases h
theorem frd_len {s : ByteArray} {f : Fr} {xs : List Ms} (h : frd s = some (f, xs)) : xs.length ≤ 3 := by
  have := (frd_some h).1
  unfold okF at this
  omega
theorem frS_size {f : Fr} {xs : List Ms} (h : okF f xs) : (frS f xs).size ≤ 2000 := by
  have h2 := h
  unfold okF at h2
  obtain ⟨h3, h4, h5, h6, h7, h8, h9⟩ := h2
  have a1 := itoaS_size (n := f.frm) ⟨by omega, by omega⟩
  have a2 := itoaS_size (n := f.num) ⟨by omega, by omega⟩
  have a3 := writeS_size (badI_all h9)
  have a4 : (kindS f.ack).size ≤ 1 := by unfold kindS; split <;> decide
  have := joinS_size colon 400 [kindS f.ack, itoaS f.frm, itoaS f.num, writeS xs] (by intro x hx; simp at hx; rcases hx with rfl | rfl | rfl | rfl <;> omega)
  have h2 : colon.size = 1 := rfl
  unfold frS
  simp at this; omega
end WB
/- frame.Read: the walk -/
namespace Go.Proofs.YtjhogocabcdjbaaGreatDoor
open Go Go.RowKit WB
theorem atoiR_form {s : ByteArray} {u : Value} (h : atoiR s u) : ∃ x e, u = .tuple #[.int .i64 x, e] ∧ ((numO s = some x ∧ e = .nilIface) ∨ (numO s = none ∧ ∃ T y, e = .iface T y)) := by
  unfold atoiR at h
  cases hn : numO s with
  | some v => rw [hn] at h; exact ⟨v, _, h, .inl ⟨rfl, rfl⟩⟩
  | none => rw [hn] at h; obtain ⟨x, T, y, rfl⟩ := h; exact ⟨x, _, rfl, .inr ⟨rfl, _, _, rfl⟩⟩
theorem mread2_e (w0 : World) (L : List HP) (s : ByteArray) (hs : s.size ≤ 10000) (hT0 : Tab w0) (hM0 : Lim w0) :
    KE Tryz.prog 47 #[.string s] w0 L (fun u M => ∃ sa cp, ∃ xs : List Ms, ∃ e, u = .tuple #[.slice sa xs.length cp, e] ∧ M = SL 31 5 msC (.slice sa xs.length cp) xs :: L ∧ ((mrd s = some xs ∧ e = .nilIface) ∨ (mrd s = none ∧ xs = [] ∧ ∃ T y, e = .iface T y))) := by
  intro w hw
  refine (mread_e w0 L s (by omega) hT0 hM0 w hw).mono ?_
  rintro e w' ⟨u, M, rfl, hR, hst, hb⟩
  unfold MrR at hR
  cases hm : mrd s with
  | some xs =>
    rw [hm] at hR
    obtain ⟨v, rfl, rfl⟩ := hR
    obtain ⟨sa, cp, rfl, _⟩ := SL_form hst
    exact ⟨_, _, rfl, ⟨sa, cp, xs, _, rfl, rfl, .inl ⟨rfl, rfl⟩⟩, hst, hb⟩
  | none =>
    rw [hm] at hR
    obtain ⟨rfl, rfl⟩ := hR
    exact ⟨_, _, rfl, ⟨none, 0, [], _, rfl, rfl, .inr ⟨rfl, rfl, _, _, rfl⟩⟩, SL_nil hst, hb⟩
def FrR (L : List HP) (s : ByteArray) (u : Value) (M : List HP) : Prop :=
  match frd s with
  | some (f, xs) => ∃ v, u = .tuple #[.agg (frC f v).toArray, .nilIface] ∧ M = SL 31 5 msC v xs :: L
  | none => u = .tuple #[.agg (frC ⟨0, 0, false⟩ (.slice none 0 0)).toArray, errV 39 3] ∧ M = L
set_option maxRecDepth 100000 in
set_option maxHeartbeats 4000000 in
theorem fread_e (w0 : World) (L : List HP) (s : ByteArray) (hs : s.size ≤ 10000) (hT0 : Tab w0) (hM0 : Lim w0) : KE Tryz.prog 49 #[.string s] w0 L (FrR L s) := by
  refine KE.mk (n := 77) Tryz.func49 rfl Tryz.ntmps49 (by simp) ?_
  intro w hw
  have hT := hT0.ext (Ext.of_below hw.below)
  have hM := hM0.ext (Ext.of_below hw.below)
  unfold FrR
  repeat ((with_reducible refine K.seq ?_))
  refine K.reg ?_
  refine KO.alloc rfl Tryz.zeroValue92 (by exact rfl) rfl ?_; intro b2
  refine KO.as rfl rfl ?_
  refine KO.nil ?_
  repeat (first | (with_reducible refine K.seq ?_) | (with_reducible refine KQ.next ?_))
  by_cases h4 : (pcs 58 s).length = 4
  case neg =>
    have e0 : frd s = none := by
      unfold frd
      split
      · rename_i h; rw [h] at h4; exact absurd rfl h4
      · rfl
    rw [e0]
    refine K.reg ?_
    refine KO.mv rfl rfl ?_
    refine KO.ce (cp := []) rfl rfl rfl Tryz.call77 rfl (split_e w _ s 58 (by omega) hM) ?_; rintro v' L' ⟨bq, rfl, rfl⟩
    refine KO.as rfl rfl ?_
    refine KO.nil ?_
    repeat (first | (with_reducible refine K.seq ?_) | (with_reducible refine KQ.next ?_))
    refine K.reg ?_
    refine KO.mv rfl rfl ?_
    refine KO.len rfl Tryz.underlying57 rfl ?_
    refine KO.neI rfl rfl rfl ?_
    refine KO.nil ?_
    repeat ((with_reducible refine KQ.next ?_))
    refine K.condT rfl (by simp; omega) ?_
    repeat ((with_reducible refine K.seq ?_))
    refine K.reg ?_
    refine KO.bldN (pl := [(0, 1), (1, 1), (2, 1), (3, 1)]) rfl Tryz.zeroValue92 Tryz.runUnderlying92 (by intro w; simp [Tryz.sizeOf3, Tryz.sizeOf4, Tryz.sizeOf50]) (by exact rfl) rfl ?_
    refine KO.mki rfl (by kernel_rfl) rfl ?_
    refine KO.sto0 rfl rfl rfl (by exact rfl) (by exact Tryz.sizeOf92) (by exact rfl) (by with_reducible (repeat (first | exact Pick.head | apply Pick.tail))) (by exact rfl) ?_
    refine KO.as rfl rfl ?_
    refine KO.nil ?_
    repeat (first | (with_reducible refine KQ.next ?_) | (with_reducible refine KQ.then_ret ?_) | (with_reducible refine K.ret ?_))
    refine KQ.retCT rfl rfl Tryz.isAgg92 (by with_reducible (repeat (exact Pick.head))) (by exact Tryz.sizeOf92) rfl (fun w' hs => ⟨_, _, rfl, ⟨(by exact rfl), rfl⟩, hw.below_step hs.below, hs.below⟩)
  obtain ⟨wa, wb, wc, wd, hws⟩ : ∃ wa wb wc wd, pcs 58 s = [wa, wb, wc, wd] := by
    generalize pcs 58 s = l at h4
    match l, h4 with
    | [a, b, c, d], _ => exact ⟨a, b, c, d, rfl⟩
  have hwz : ∀ x ∈ [wa, wb, wc, wd], x.size ≤ 10000 := fun x hx => by have := pcs_size (c := 58) (s := s) (p := x) (by rw [hws]; exact hx); omega
  refine K.reg ?_
  refine KO.mv rfl rfl ?_
  refine KO.ce (cp := []) rfl rfl rfl Tryz.call77 rfl (split_e w _ s 58 (by omega) hM) ?_; rintro v' L' ⟨bq, rfl, rfl⟩; rw [hws]
  refine KO.as rfl rfl ?_
  refine KO.nil ?_
  repeat (first | (with_reducible refine K.seq ?_) | (with_reducible refine KQ.next ?_))
  refine K.reg ?_
  refine KO.mv rfl rfl ?_
  refine KO.len rfl Tryz.underlying57 rfl ?_
  refine KO.neI rfl rfl rfl ?_
  refine KO.nil ?_
  repeat ((with_reducible refine KQ.next ?_))
  refine K.condF rfl (by simp) ?_
  repeat (first | (with_reducible refine K.seq ?_) | (with_reducible refine KQ.next ?_) | (with_reducible refine K.skip ?_))
  refine K.reg ?_
  refine KO.mv rfl rfl ?_
  refine KO.idx0 (i := 1) rfl rfl Tryz.runUnderlying57 Tryz.sizeOf9 rfl (by simp) rfl ?_
  refine KO.ldE0 (i := 1) (sz := 1) (cf := strC) (e := wb) rfl rfl Tryz.isAgg9 (by with_reducible (repeat (exact Pick.head))) (fun _ => rfl) rfl (by exact rfl) (by exact rfl) rfl ?_
  refine KO.ce (cp := []) rfl rfl rfl Tryz.call97 rfl (atoi_e w _ wb (by have := hwz wb (by simp); omega) hM) ?_; rintro v' L' ⟨hR, rfl⟩; obtain ⟨x, e1, rfl, hx⟩ := atoiR_form hR
  refine KO.mv rfl rfl ?_
  refine KO.extrL rfl (by exact rfl) rfl ?_
  refine KO.extrL rfl (by exact rfl) rfl ?_
  refine KO.as rfl rfl ?_
  refine KO.as rfl rfl ?_
  refine KO.nil ?_
  repeat (first | (with_reducible refine K.seq ?_) | (with_reducible refine KQ.next ?_))
  refine K.reg ?_
  refine KO.mv rfl rfl ?_
  refine KO.idx0 (i := 2) rfl rfl Tryz.runUnderlying57 Tryz.sizeOf9 rfl (by simp) rfl ?_
  refine KO.ldE0 (i := 2) (sz := 1) (cf := strC) (e := wc) rfl rfl Tryz.isAgg9 (by with_reducible (repeat (exact Pick.head))) (fun _ => rfl) rfl (by exact rfl) (by exact rfl) rfl ?_
  refine KO.ce (cp := []) rfl rfl rfl Tryz.call97 rfl (atoi_e w _ wc (by have := hwz wc (by simp); omega) hM) ?_; rintro v' L' ⟨hR, rfl⟩; obtain ⟨y, e2, rfl, hy⟩ := atoiR_form hR
  refine KO.mv rfl rfl ?_
  refine KO.extrL rfl (by exact rfl) rfl ?_
  refine KO.extrL rfl (by exact rfl) rfl ?_
  refine KO.as rfl rfl ?_
  refine KO.as rfl rfl ?_
  refine KO.nil ?_
  repeat (first | (with_reducible refine K.seq ?_) | (with_reducible refine KQ.next ?_))
  refine K.reg ?_
  refine KO.mv rfl rfl ?_
  refine KO.idx0 (i := 3) rfl rfl Tryz.runUnderlying57 Tryz.sizeOf9 rfl (by simp) rfl ?_
  refine KO.ldE0 (i := 3) (sz := 1) (cf := strC) (e := wd) rfl rfl Tryz.isAgg9 (by with_reducible (repeat (exact Pick.head))) (fun _ => rfl) rfl (by exact rfl) (by exact rfl) rfl ?_
  refine KO.ce (cp := []) rfl rfl rfl Tryz.call47 rfl (mread2_e w _ wd (by have := hwz wd (by simp); omega) hT hM) ?_; rintro v' L' ⟨sa, cp, xs, e3, rfl, rfl, hz⟩
  refine KO.mv rfl rfl ?_
  refine KO.extrL rfl (by exact rfl) rfl ?_
  refine KO.extrL rfl (by exact rfl) rfl ?_
  refine KO.as rfl rfl ?_
  refine KO.as rfl rfl ?_
  refine KO.nil ?_
  repeat (first | (with_reducible refine K.seq ?_) | (with_reducible refine KQ.next ?_))
  refine K.reg ?_
  refine KO.mv rfl rfl ?_
  refine KO.mv rfl rfl ?_
  refine KO.mv rfl rfl ?_
  refine KO.idx0 (i := 0) rfl rfl Tryz.runUnderlying57 Tryz.sizeOf9 rfl (by simp) rfl ?_
  refine KO.ldE0 (i := 0) (sz := 1) (cf := strC) (e := wa) rfl rfl Tryz.isAgg9 (by with_reducible (repeat (first | exact Pick.head | apply Pick.tail))) (fun _ => rfl) rfl (by exact rfl) (by exact rfl) rfl ?_
  refine KO.eqS rfl rfl rfl ?_
  refine KO.mv rfl rfl ?_
  refine KO.bldN (pl := [(0, 1), (1, 1), (2, 1), (3, 1)]) rfl Tryz.zeroValue92 Tryz.runUnderlying92 (by intro w; simp [Tryz.sizeOf3, Tryz.sizeOf4, Tryz.sizeOf50]) (by exact rfl) rfl ?_
  refine KO.alloc rfl Tryz.zeroValue92 (by exact rfl) rfl ?_; intro b11
  refine KO.sto0 rfl rfl rfl (by exact rfl) (by exact Tryz.sizeOf92) (by exact rfl) (by with_reducible (repeat (exact Pick.head))) (by exact rfl) ?_
  refine KO.nil ?_
  repeat (first | (with_reducible refine K.seq ?_) | (with_reducible refine KQ.next ?_))
  have hsz : ∀ m ∈ xs, m.body.size ≤ maxLen ∧ m.queue.size ≤ maxLen := by
    rcases hz with ⟨h, _⟩ | ⟨_, rfl, _⟩
    · exact fun m hm => right_size (badI_all (mrd_some h).1 m hm)
    · intro m hm; cases hm
  refine K.reg ?_
  refine KO.ldB0 rfl rfl Tryz.isAgg92 Tryz.sizeOf92 (by with_reducible (repeat (exact Pick.head))) (by exact rfl) rfl ?_
  refine KO.ce (cp := []) rfl rfl rfl Tryz.call100 rfl (fw_e w _ ⟨x, y, decide (wa = ⟨#[97]⟩)⟩ _ xs (fun w' hw' => RdA.ofSL (fun _ => rfl) (by with_reducible (repeat (first | exact Pick.head | apply Pick.tail))) hw') hT hsz) ?_; rintro v' L' ⟨rfl, rfl⟩
  refine KO.mv rfl rfl ?_
  refine KO.extrL rfl (by exact rfl) rfl ?_
  refine KO.extrL rfl (by exact rfl) rfl ?_
  refine KO.as rfl rfl ?_
  refine KO.as rfl rfl ?_
  refine KO.nil ?_
  repeat (first | (with_reducible refine K.seq ?_) | (with_reducible refine KQ.next ?_))
  have bad : ¬ (numO wb = some x ∧ numO wc = some y ∧ mrd wd = some xs ∧ okF ⟨x, y, decide (wa = ⟨#[97]⟩)⟩ xs ∧ frS ⟨x, y, decide (wa = ⟨#[97]⟩)⟩ xs = s) → frd s = none := by
    intro hb
    unfold frd
    rw [hws]
    simp only []
    split
    · rename_i x' y' xs' h1 h2 h3
      split
      · rename_i hh
        exfalso
        have ex : x = x' := by
          rcases hx with ⟨h, _⟩ | ⟨h, _⟩
          · rw [h] at h1; exact Option.some.inj h1
          · rw [h] at h1; cases h1
        have ey : y = y' := by
          rcases hy with ⟨h, _⟩ | ⟨h, _⟩
          · rw [h] at h2; exact Option.some.inj h2
          · rw [h] at h2; cases h2
        have ez : xs = xs' := by
          rcases hz with ⟨h, _⟩ | ⟨h, _⟩
          · rw [h] at h3; exact Option.some.inj h3
          · rw [h] at h3; cases h3
        subst ex; subst ey; subst ez
        exact hb ⟨h1, h2, h3, hh.1, hh.2⟩
      · rfl
    · rfl
  rcases hx with ⟨hx, rfl⟩ | ⟨hx, T1, y1, rfl⟩
  case inr =>
    rw [bad (fun h => by rw [hx] at h; cases h.1)]
    refine K.reg ?_
    refine KO.mv rfl rfl ?_
    refine KO.neIf rfl (by kernel_rfl) rfl ?_
    refine KO.mv rfl rfl ?_
    (refine KO.no rfl rfl ?_ rfl ?_; (focus rfl))
    (refine KO.no rfl rfl ?_ rfl ?_; (focus rfl))
    (refine KO.pickT rfl ?_ rfl rfl ?_; (focus rfl))
    refine KO.mv rfl rfl ?_
    (refine KO.no rfl rfl ?_ rfl ?_; (focus rfl))
    (refine KO.no rfl rfl ?_ rfl ?_; (focus rfl))
    (refine KO.pickT rfl ?_ rfl rfl ?_; (focus rfl))
    refine KO.mv rfl rfl ?_
    (refine KO.no rfl rfl ?_ rfl ?_; (focus rfl))
    (refine KO.no rfl rfl ?_ rfl ?_; (focus rfl))
    (refine KO.pickT rfl ?_ rfl rfl ?_; (focus rfl))
    refine KO.mv rfl rfl ?_
    (refine KO.no rfl rfl ?_ rfl ?_; (focus rfl))
    (refine KO.no rfl rfl ?_ rfl ?_; (focus rfl))
    (refine KO.no rfl rfl ?_ rfl ?_; (focus rfl))
    (refine KO.pickT rfl ?_ rfl rfl ?_; (focus rfl))
    refine KO.nil ?_
    repeat ((with_reducible refine KQ.next ?_))
    refine K.condT rfl rfl ?_
    repeat ((with_reducible refine K.seq ?_))
    refine K.reg ?_
    refine KO.bldN (pl := [(0, 1), (1, 1), (2, 1), (3, 1)]) rfl Tryz.zeroValue92 Tryz.runUnderlying92 (by intro w; simp [Tryz.sizeOf3, Tryz.sizeOf4, Tryz.sizeOf50]) (by exact rfl) rfl ?_
    refine KO.mki rfl (by kernel_rfl) rfl ?_
    refine KO.sto0 rfl rfl rfl (by exact rfl) (by exact Tryz.sizeOf92) (by exact rfl) (by with_reducible (repeat (first | exact Pick.head | apply Pick.tail))) (by exact rfl) ?_
    refine KO.as rfl rfl ?_
    refine KO.nil ?_
    repeat (first | (with_reducible refine KQ.next ?_) | (with_reducible refine KQ.then_ret ?_) | (with_reducible refine K.ret ?_))
    refine KQ.retCT rfl rfl Tryz.isAgg92 (by with_reducible (repeat (exact Pick.head))) (by exact Tryz.sizeOf92) rfl (fun w' hs => ⟨_, _, rfl, ⟨(by exact rfl), rfl⟩, hw.below_step hs.below, hs.below⟩)
  rcases hy with ⟨hy, rfl⟩ | ⟨hy, T1, y1, rfl⟩
  case inr =>
    rw [bad (fun h => by rw [hy] at h; cases h.2.1)]
    refine K.reg ?_
    refine KO.mv rfl rfl ?_
    refine KO.neI0 rfl (by kernel_rfl) rfl ?_
    refine KO.mv rfl rfl ?_
    (refine KO.on rfl rfl ?_ ?_; (focus rfl); (refine KO.mv rfl rfl ?_))
    (refine KO.on rfl rfl ?_ ?_; (focus rfl); (refine KO.neIf rfl (by kernel_rfl) rfl ?_))
    (refine KO.pickF rfl ?_ rfl rfl ?_; (focus rfl))
    refine KO.mv rfl rfl ?_
    (refine KO.no rfl rfl ?_ rfl ?_; (focus rfl))
    (refine KO.no rfl rfl ?_ rfl ?_; (focus rfl))
    (refine KO.pickT rfl ?_ rfl rfl ?_; (focus rfl))
    refine KO.mv rfl rfl ?_
    (refine KO.no rfl rfl ?_ rfl ?_; (focus rfl))
    (refine KO.no rfl rfl ?_ rfl ?_; (focus rfl))
    (refine KO.pickT rfl ?_ rfl rfl ?_; (focus rfl))
    refine KO.mv rfl rfl ?_
    (refine KO.no rfl rfl ?_ rfl ?_; (focus rfl))
    (refine KO.no rfl rfl ?_ rfl ?_; (focus rfl))
    (refine KO.no rfl rfl ?_ rfl ?_; (focus rfl))
    (refine KO.pickT rfl ?_ rfl rfl ?_; (focus rfl))
    refine KO.nil ?_
    repeat ((with_reducible refine KQ.next ?_))
    refine K.condT rfl rfl ?_
    repeat ((with_reducible refine K.seq ?_))
    refine K.reg ?_
    refine KO.bldN (pl := [(0, 1), (1, 1), (2, 1), (3, 1)]) rfl Tryz.zeroValue92 Tryz.runUnderlying92 (by intro w; simp [Tryz.sizeOf3, Tryz.sizeOf4, Tryz.sizeOf50]) (by exact rfl) rfl ?_
    refine KO.mki rfl (by kernel_rfl) rfl ?_
    refine KO.sto0 rfl rfl rfl (by exact rfl) (by exact Tryz.sizeOf92) (by exact rfl) (by with_reducible (repeat (first | exact Pick.head | apply Pick.tail))) (by exact rfl) ?_
    refine KO.as rfl rfl ?_
    refine KO.nil ?_
    repeat (first | (with_reducible refine KQ.next ?_) | (with_reducible refine KQ.then_ret ?_) | (with_reducible refine K.ret ?_))
    refine KQ.retCT rfl rfl Tryz.isAgg92 (by with_reducible (repeat (exact Pick.head))) (by exact Tryz.sizeOf92) rfl (fun w' hs => ⟨_, _, rfl, ⟨(by exact rfl), rfl⟩, hw.below_step hs.below, hs.below⟩)
  rcases hz with ⟨hz, rfl⟩ | ⟨hz, _, T1, y1, rfl⟩
  case inr =>
    rw [bad (fun h => by rw [hz] at h; cases h.2.2.1)]
    refine K.reg ?_
    refine KO.mv rfl rfl ?_
    refine KO.neI0 rfl (by kernel_rfl) rfl ?_
    refine KO.mv rfl rfl ?_
    (refine KO.on rfl rfl ?_ ?_; (focus rfl); (refine KO.mv rfl rfl ?_))
    (refine KO.on rfl rfl ?_ ?_; (focus rfl); (refine KO.neI0 rfl (by kernel_rfl) rfl ?_))
    (refine KO.pickF rfl ?_ rfl rfl ?_; (focus rfl))
    refine KO.mv rfl rfl ?_
    (refine KO.on rfl rfl ?_ ?_; (focus rfl); (refine KO.mv rfl rfl ?_))
    (refine KO.on rfl rfl ?_ ?_; (focus rfl); (refine KO.neIf rfl (by kernel_rfl) rfl ?_))
    (refine KO.pickF rfl ?_ rfl rfl ?_; (focus rfl))
    refine KO.mv rfl rfl ?_
    (refine KO.no rfl rfl ?_ rfl ?_; (focus rfl))
    (refine KO.no rfl rfl ?_ rfl ?_; (focus rfl))
    (refine KO.pickT rfl ?_ rfl rfl ?_; (focus rfl))
    refine KO.mv rfl rfl ?_
    (refine KO.no rfl rfl ?_ rfl ?_; (focus rfl))
    (refine KO.no rfl rfl ?_ rfl ?_; (focus rfl))
    (refine KO.no rfl rfl ?_ rfl ?_; (focus rfl))
    (refine KO.pickT rfl ?_ rfl rfl ?_; (focus rfl))
    refine KO.nil ?_
    repeat ((with_reducible refine KQ.next ?_))
    refine K.condT rfl rfl ?_
    repeat ((with_reducible refine K.seq ?_))
    refine K.reg ?_
    refine KO.bldN (pl := [(0, 1), (1, 1), (2, 1), (3, 1)]) rfl Tryz.zeroValue92 Tryz.runUnderlying92 (by intro w; simp [Tryz.sizeOf3, Tryz.sizeOf4, Tryz.sizeOf50]) (by exact rfl) rfl ?_
    refine KO.mki rfl (by kernel_rfl) rfl ?_
    refine KO.sto0 rfl rfl rfl (by exact rfl) (by exact Tryz.sizeOf92) (by exact rfl) (by with_reducible (repeat (first | exact Pick.head | apply Pick.tail))) (by exact rfl) ?_
    refine KO.as rfl rfl ?_
    refine KO.nil ?_
    repeat (first | (with_reducible refine KQ.next ?_) | (with_reducible refine KQ.then_ret ?_) | (with_reducible refine K.ret ?_))
    refine KQ.retCT rfl rfl Tryz.isAgg92 (by with_reducible (repeat (exact Pick.head))) (by exact Tryz.sizeOf92) rfl (fun w' hs => ⟨_, _, rfl, ⟨(by exact rfl), rfl⟩, hw.below_step hs.below, hs.below⟩)
  by_cases hok : okF ⟨x, y, decide (wa = ⟨#[97]⟩)⟩ xs
  case neg =>
    rw [bad (fun h => hok h.2.2.2.1), (fw_bad hok).1]
    refine K.reg ?_
    refine KO.mv rfl rfl ?_
    refine KO.neI0 rfl (by kernel_rfl) rfl ?_
    refine KO.mv rfl rfl ?_
    (refine KO.on rfl rfl ?_ ?_; (focus rfl); (refine KO.mv rfl rfl ?_))
    (refine KO.on rfl rfl ?_ ?_; (focus rfl); (refine KO.neI0 rfl (by kernel_rfl) rfl ?_))
    (refine KO.pickF rfl ?_ rfl rfl ?_; (focus rfl))
    refine KO.mv rfl rfl ?_
    (refine KO.on rfl rfl ?_ ?_; (focus rfl); (refine KO.mv rfl rfl ?_))
    (refine KO.on rfl rfl ?_ ?_; (focus rfl); (refine KO.neI0 rfl (by kernel_rfl) rfl ?_))
    (refine KO.pickF rfl ?_ rfl rfl ?_; (focus rfl))
    refine KO.mv rfl rfl ?_
    (refine KO.on rfl rfl ?_ ?_; (focus rfl); (refine KO.mv rfl rfl ?_))
    (refine KO.on rfl rfl ?_ ?_; (focus rfl); (refine KO.neN rfl (by kernel_rfl) rfl ?_))
    (refine KO.pickF rfl ?_ rfl rfl ?_; (focus rfl))
    refine KO.mv rfl rfl ?_
    (refine KO.no rfl rfl ?_ rfl ?_; (focus rfl))
    (refine KO.no rfl rfl ?_ rfl ?_; (focus rfl))
    (refine KO.no rfl rfl ?_ rfl ?_; (focus rfl))
    (refine KO.pickT rfl ?_ rfl rfl ?_; (focus rfl))
    refine KO.nil ?_
    repeat ((with_reducible refine KQ.next ?_))
    refine K.condT rfl rfl ?_
    repeat ((with_reducible refine K.seq ?_))
    refine K.reg ?_
    refine KO.bldN (pl := [(0, 1), (1, 1), (2, 1), (3, 1)]) rfl Tryz.zeroValue92 Tryz.runUnderlying92 (by intro w; simp [Tryz.sizeOf3, Tryz.sizeOf4, Tryz.sizeOf50]) (by exact rfl) rfl ?_
    refine KO.mki rfl (by kernel_rfl) rfl ?_
    refine KO.sto0 rfl rfl rfl (by exact rfl) (by exact Tryz.sizeOf92) (by exact rfl) (by with_reducible (repeat (first | exact Pick.head | apply Pick.tail))) (by exact rfl) ?_
    refine KO.as rfl rfl ?_
    refine KO.nil ?_
    repeat (first | (with_reducible refine KQ.next ?_) | (with_reducible refine KQ.then_ret ?_) | (with_reducible refine K.ret ?_))
    refine KQ.retCT rfl rfl Tryz.isAgg92 (by with_reducible (repeat (exact Pick.head))) (by exact Tryz.sizeOf92) rfl (fun w' hs => ⟨_, _, rfl, ⟨(by exact rfl), rfl⟩, hw.below_step hs.below, hs.below⟩)
  rw [(fw_ok hok).1, (fw_ok hok).2]
  by_cases hfs : frS ⟨x, y, decide (wa = ⟨#[97]⟩)⟩ xs = s
  case neg =>
    rw [bad (fun h => hfs h.2.2.2.2)]
    refine K.reg ?_
    refine KO.mv rfl rfl ?_
    refine KO.neI0 rfl (by kernel_rfl) rfl ?_
    refine KO.mv rfl rfl ?_
    (refine KO.on rfl rfl ?_ ?_; (focus rfl); (refine KO.mv rfl rfl ?_))
    (refine KO.on rfl rfl ?_ ?_; (focus rfl); (refine KO.neI0 rfl (by kernel_rfl) rfl ?_))
    (refine KO.pickF rfl ?_ rfl rfl ?_; (focus rfl))
    refine KO.mv rfl rfl ?_
    (refine KO.on rfl rfl ?_ ?_; (focus rfl); (refine KO.mv rfl rfl ?_))
    (refine KO.on rfl rfl ?_ ?_; (focus rfl); (refine KO.neI0 rfl (by kernel_rfl) rfl ?_))
    (refine KO.pickF rfl ?_ rfl rfl ?_; (focus rfl))
    refine KO.mv rfl rfl ?_
    (refine KO.on rfl rfl ?_ ?_; (focus rfl); (refine KO.mv rfl rfl ?_))
    (refine KO.on rfl rfl ?_ ?_; (focus rfl); (refine KO.neN rfl (by kernel_rfl) rfl ?_))
    (refine KO.pickF rfl ?_ rfl rfl ?_; (focus rfl))
    refine KO.mv rfl rfl ?_
    (refine KO.on rfl rfl ?_ ?_; (focus rfl); (refine KO.mv rfl rfl ?_))
    (refine KO.on rfl rfl ?_ ?_; (focus rfl); (refine KO.mv rfl rfl ?_))
    (refine KO.on rfl rfl ?_ ?_; (focus rfl); (refine KO.neS rfl rfl rfl ?_))
    (refine KO.pickF rfl ?_ rfl rfl ?_; (focus rfl))
    refine KO.nil ?_
    repeat ((with_reducible refine KQ.next ?_))
    refine K.condT rfl (by simp [hfs]) ?_
    repeat ((with_reducible refine K.seq ?_))
    refine K.reg ?_
    refine KO.bldN (pl := [(0, 1), (1, 1), (2, 1), (3, 1)]) rfl Tryz.zeroValue92 Tryz.runUnderlying92 (by intro w; simp [Tryz.sizeOf3, Tryz.sizeOf4, Tryz.sizeOf50]) (by exact rfl) rfl ?_
    refine KO.mki rfl (by kernel_rfl) rfl ?_
    refine KO.sto0 rfl rfl rfl (by exact rfl) (by exact Tryz.sizeOf92) (by exact rfl) (by with_reducible (repeat (first | exact Pick.head | apply Pick.tail))) (by exact rfl) ?_
    refine KO.as rfl rfl ?_
    refine KO.nil ?_
    repeat (first | (with_reducible refine KQ.next ?_) | (with_reducible refine KQ.then_ret ?_) | (with_reducible refine K.ret ?_))
    refine KQ.retCT rfl rfl Tryz.isAgg92 (by with_reducible (repeat (exact Pick.head))) (by exact Tryz.sizeOf92) rfl (fun w' hs => ⟨_, _, rfl, ⟨(by exact rfl), rfl⟩, hw.below_step hs.below, hs.below⟩)
  have e0 : frd s = some (⟨x, y, decide (wa = ⟨#[97]⟩)⟩, xs) := by
    rw [← hfs]; exact frd_write hok
  rw [e0]
  refine K.reg ?_
  refine KO.mv rfl rfl ?_
  refine KO.neI0 rfl (by kernel_rfl) rfl ?_
  refine KO.mv rfl rfl ?_
  (refine KO.on rfl rfl ?_ ?_; (focus rfl); (refine KO.mv rfl rfl ?_))
  (refine KO.on rfl rfl ?_ ?_; (focus rfl); (refine KO.neI0 rfl (by kernel_rfl) rfl ?_))
  (refine KO.pickF rfl ?_ rfl rfl ?_; (focus rfl))
  refine KO.mv rfl rfl ?_
  (refine KO.on rfl rfl ?_ ?_; (focus rfl); (refine KO.mv rfl rfl ?_))
  (refine KO.on rfl rfl ?_ ?_; (focus rfl); (refine KO.neI0 rfl (by kernel_rfl) rfl ?_))
  (refine KO.pickF rfl ?_ rfl rfl ?_; (focus rfl))
  refine KO.mv rfl rfl ?_
  (refine KO.on rfl rfl ?_ ?_; (focus rfl); (refine KO.mv rfl rfl ?_))
  (refine KO.on rfl rfl ?_ ?_; (focus rfl); (refine KO.neN rfl (by kernel_rfl) rfl ?_))
  (refine KO.pickF rfl ?_ rfl rfl ?_; (focus rfl))
  refine KO.mv rfl rfl ?_
  (refine KO.on rfl rfl ?_ ?_; (focus rfl); (refine KO.mv rfl rfl ?_))
  (refine KO.on rfl rfl ?_ ?_; (focus rfl); (refine KO.mv rfl rfl ?_))
  (refine KO.on rfl rfl ?_ ?_; (focus rfl); (refine KO.neS rfl rfl rfl ?_))
  (refine KO.pickF rfl ?_ rfl rfl ?_; (focus rfl))
  refine KO.nil ?_
  repeat ((with_reducible refine KQ.next ?_))
  refine K.condF rfl (by simp [hfs]) ?_
  repeat (first | (with_reducible refine K.seq ?_) | (with_reducible refine KQ.next ?_) | (with_reducible refine K.skip ?_))
  refine K.reg ?_
  refine KO.ldB0 rfl rfl Tryz.isAgg92 Tryz.sizeOf92 (by with_reducible (repeat (exact Pick.head))) (by exact rfl) rfl ?_
  refine KO.sto0 rfl rfl rfl (by exact rfl) (by exact Tryz.sizeOf92) (by exact rfl) (by with_reducible (repeat (first | exact Pick.head | apply Pick.tail))) (by exact rfl) ?_
  refine KO.as rfl rfl ?_
  refine KO.nil ?_
  repeat (first | (with_reducible refine KQ.next ?_) | (with_reducible refine K.ret ?_))
  refine KQ.retCT rfl rfl Tryz.isAgg92 (by with_reducible (repeat (exact Pick.head))) (by exact Tryz.sizeOf92) rfl (fun w' hs => ⟨_, _, rfl, ⟨_, (by exact rfl), rfl⟩, hw.stack (M := [SL 31 5 msC (.slice sa xs.length cp) xs]) (hs.all (by with_reducible repeat (first | exact PAll.nil | refine PAll.cons (by with_reducible repeat (first | exact Pick.head | apply Pick.tail)) ?_))), hs.below⟩)
end Go.Proofs.YtjhogocabcdjbaaGreatDoor
/- messages' text read as the document tells: plain -/
namespace WB
open Go
def canon (s : ByteArray) : Option Int := match numO s with | some v => if itoaS v = s then some v else none | none => none
def nums (s : ByteArray) : Int := (canon s).getD 0
def pads : List ByteArray := [⟨#[]⟩, ⟨#[]⟩, ⟨#[]⟩, ⟨#[]⟩, ⟨#[]⟩]
def wordsP (p : ByteArray) : List ByteArray := pcs 32 p ++ pads
def parseR (p : ByteArray) : Ms := ⟨nums ((wordsP p).getD 0 default), nums ((wordsP p).getD 1 default), (wordsP p).getD 2 default, (wordsP p).getD 3 default, nums ((wordsP p).getD 4 default)⟩
theorem canon_itoa {n : Int} (h : intB n) : canon (itoaS n) = some n := by unfold canon; rw [numO_itoa h]; simp
theorem numO_int {s : ByteArray} {v : Int} (h : numO s = some v) : intB v := by
  unfold numO at h
  split at h
  · rename_i x hx
    simp only [Option.some.injEq] at h; subst h
    have h2 := Lib.parseIntB_64 s.data.toList
    rw [hx] at h2
    have := Lib.parseIntB_bounds h2
    unfold intB
    simp at this; omega
  · cases h
theorem parseR_msg {m : Ms} (h : msRight m = true) : parseR (msgS m) = m := by
  obtain ⟨h1, h2, h3, h4, h5, h6, h7, h8⟩ := msRight_parts h
  have hb := let_free (body_let h5)
  have hq := let_free (word_let h6)
  have : pcs 32 (msgS m) = [itoaS m.id, itoaS m.pri, m.body, m.queue, itoaS m.house] := by
    rw [msgS_join]
    refine pcs_join (by simp) fun x hx b hb' => ?_
    simp only [List.mem_cons, List.not_mem_nil, or_false] at hx
    rcases hx with rfl | rfl | rfl | rfl | rfl
    · exact (itoa_free b hb').1
    · exact (itoa_free b hb').1
    · exact (hb b hb').1
    · exact (hq b hb').1
    · exact (itoa_free b hb').1
  unfold parseR wordsP
  rw [this]
  simp only [List.cons_append, List.getD_cons_zero, List.getD_cons_succ, nums, canon_itoa (n := m.id) ⟨by omega, by omega⟩, canon_itoa (n := m.pri) ⟨by omega, by omega⟩, canon_itoa (n := m.house) ⟨by omega, by omega⟩, Option.getD_some]
theorem wordsP_len (p : ByteArray) : 6 ≤ (wordsP p).length := by
  unfold wordsP pads
  have := List.length_pos_iff.2 (pcs_ne 32 p)
  simp; omega
theorem wordsP_get (p : ByteArray) {i : Nat} (h : i < 6) : (wordsP p)[i]? = some ((wordsP p).getD i default) := by
  have := wordsP_len p
  rw [List.getD_eq_getElem?_getD, List.getElem?_eq_getElem (by omega)]; rfl
theorem wordsP_size {p x : ByteArray} (h : x ∈ wordsP p) : x.size ≤ p.size := by
  unfold wordsP at h
  rcases List.mem_append.1 h with h | h
  · exact pcs_size h
  · unfold pads at h
    have : x = ⟨#[]⟩ := by simpa using h
    subst this; exact Nat.zero_le _
theorem parseR_size {p : ByteArray} : (parseR p).body.size ≤ p.size ∧ (parseR p).queue.size ≤ p.size :=
  ⟨wordsP_size (List.mem_of_getElem? (wordsP_get p (i := 2) (by decide))), wordsP_size (List.mem_of_getElem? (wordsP_get p (i := 3) (by decide)))⟩
theorem read_doc {s : ByteArray} (h0 : s ≠ ⟨#[]⟩) : mrd s = if badI ((pcs 43 s).map parseR) = none ∧ writeS ((pcs 43 s).map parseR) = s then some ((pcs 43 s).map parseR) else none := by
  split
  · rename_i h
    have := mrd_write h.1
    rw [h.2] at this; exact this
  · rename_i h
    cases hm : mrd s with
    | none => rfl
    | some xs =>
      exfalso
      obtain ⟨h1, h2⟩ := mrd_some hm
      have hx : xs ≠ [] := fun e => by subst e; exact h0 (h2.symm.trans rfl)
      have hr := badI_all h1
      have hp : pcs 43 (writeS xs) = xs.map msgS := by
        unfold writeS
        refine pcs_join (by simpa using hx) fun x hx => ?_
        obtain ⟨m, hm, rfl⟩ := List.mem_map.1 hx
        exact msg_plus (hr m hm)
      have hl : (pcs 43 s).map parseR = xs := by
        rw [← h2, hp, List.map_map]
        conv => rhs; rw [← List.map_id xs]
        exact List.map_congr_left fun m hm => parseR_msg (hr m hm)
      rw [hl] at h
      exact h ⟨h1, h2⟩
end WB
/- waybillref.Read: the walk -/
namespace Go.Proofs.YtjhogocabcdjbaaGreatDoor
open Go Go.RowKit WB
theorem parse_e (w0 : World) (L : List HP) (s : ByteArray) (hs : s.size ≤ 100000000) (hM : Lim w0) : KE Tryz.prog 171 #[.string s, .int .i64 10, .int .i64 64] w0 L (fun u M => atoiR s u ∧ M = L) := fun w hw => by
  obtain ⟨_, ⟨t, p, h2⟩, ⟨t', p', h3⟩⟩ := hM.ext (Ext.of_below hw.below)
  unfold atoiR
  have hpa := Lib.parseIntB_64 s.data.toList
  rcases h : Lib.atoiAll s.data.toList with v | _ | _
  · have hn : numO s = some v := by unfold numO; rw [h]
    refine (Tryz.strconv_ParseInt_10_at64_ok s (by omega) v (hpa.trans h) w).mono ?_
    rintro e w' ⟨rfl, hw'⟩
    have hb : Below w.heap.size w w' := by
      rcases hw' with rfl | ⟨t, rfl⟩
      · exact Below.refl _ _
      · exact Lib.bytesWorld_below _ _ _
    exact ⟨_, _, rfl, ⟨by rw [hn], rfl⟩, hw.below_step hb, hb⟩
  · have hn : numO s = none := by unfold numO; rw [h]
    refine (Tryz.strconv_ParseInt_10_at64_syntax s (by omega) (hpa.trans h) _ w h2 (.inr ⟨t, p, rfl⟩)).mono ?_
    rintro e w' ⟨N, rfl, _, _, hb⟩
    exact ⟨_, _, rfl, ⟨by rw [hn]; exact ⟨_, _, _, rfl⟩, rfl⟩, hw.below_step hb, hb⟩
  · have hn : numO s = none := by unfold numO; rw [h]
    refine (Tryz.strconv_ParseInt_10_at64_range s (by omega) (hpa.trans h) _ w h3 (.inr ⟨t', p', rfl⟩)).mono ?_
    rintro e w' ⟨N, rfl, _, _, hb⟩
    exact ⟨_, _, rfl, ⟨by rw [hn]; exact ⟨_, _, _, rfl⟩, rfl⟩, hw.below_step hb, hb⟩
theorem format_e (w0 : World) (L : List HP) (n : Int) (hT : Tab w0) (hn : intB n) : KE Tryz.prog 172 #[.int .i64 n, .int .i64 10] w0 L (fun u M => u = .string (itoaS n) ∧ M = L) := KE.of_below fun w hw => by
  refine (Tryz.strconv_FormatInt_10 n hn.1 hn.2 w (hT.ext (Ext.of_below hw.below))).mono ?_
  rintro e w' ⟨rfl, k, os, rfl⟩
  exact ⟨rfl, Lib.below_grow _ _ (Nat.le_refl _) _ _⟩
theorem number_e (w0 : World) (L : List HP) (s : ByteArray) (hs : s.size ≤ 100000000) (hT0 : Tab w0) (hM0 : Lim w0) : KE Tryz.prog 95 #[.string s] w0 L (fun u M => u = .tuple #[.int .i64 (nums s), .bool (canon s).isSome] ∧ M = L) := by
  refine KE.mk (n := 20) Tryz.func95 rfl Tryz.ntmps95 (by simp) ?_
  intro w hw
  have hT := hT0.ext (Ext.of_below hw.below)
  have hM := hM0.ext (Ext.of_below hw.below)
  repeat ((with_reducible refine K.seq ?_))
  refine K.reg ?_
  refine KO.as rfl rfl ?_
  refine KO.as rfl rfl ?_
  refine KO.nil ?_
  repeat (first | (with_reducible refine K.seq ?_) | (with_reducible refine KQ.next ?_))
  cases hn : numO s with
  | none =>
    have hc : canon s = none := by unfold canon; rw [hn]
    refine K.reg ?_
    refine KO.mv rfl rfl ?_
    refine KO.ce (cp := []) rfl rfl rfl Tryz.call171 rfl (parse_e w _ s hs hM) ?_; rintro v' L' ⟨hR, rfl⟩; unfold atoiR at hR; rw [hn] at hR; obtain ⟨x, T, y, rfl⟩ := hR
    refine KO.mv rfl rfl ?_
    refine KO.extrL rfl (by exact rfl) rfl ?_
    refine KO.extrL rfl (by exact rfl) rfl ?_
    refine KO.as rfl rfl ?_
    refine KO.as rfl rfl ?_
    refine KO.nil ?_
    repeat (first | (with_reducible refine K.seq ?_) | (with_reducible refine KQ.next ?_))
    refine K.reg ?_
    refine KO.mv rfl rfl ?_
    refine KO.neIf rfl (by kernel_rfl) rfl ?_
    refine KO.mv rfl rfl ?_
    (refine KO.no rfl rfl ?_ rfl ?_; (focus rfl))
    (refine KO.no rfl rfl ?_ rfl ?_; (focus rfl))
    (refine KO.no rfl rfl ?_ rfl ?_; (focus rfl))
    (refine KO.no rfl rfl ?_ rfl ?_; (focus rfl))
    (refine KO.pickT rfl ?_ rfl rfl ?_; (focus rfl))
    refine KO.nil ?_
    repeat ((with_reducible refine KQ.next ?_))
    refine K.condT rfl rfl ?_
    repeat ((with_reducible refine K.seq ?_))
    refine K.reg ?_
    refine KO.as rfl rfl ?_
    refine KO.as rfl rfl ?_
    refine KO.nil ?_
    repeat (first | (with_reducible refine KQ.next ?_) | (with_reducible refine KQ.then_ret ?_) | (with_reducible refine K.ret ?_))
    refine KQ.ret2 rfl rfl rfl (fun w' hs => ⟨_, _, rfl, ⟨by unfold nums; rw [hc]; rfl, rfl⟩, hw.below_step hs.below, hs.below⟩)
  | some v =>
    have hv := numO_int hn
    by_cases hi : itoaS v = s
    · have hc : canon s = some v := by unfold canon; rw [hn]; simp [hi]
      refine K.reg ?_
      refine KO.mv rfl rfl ?_
      refine KO.ce (cp := []) rfl rfl rfl Tryz.call171 rfl (parse_e w _ s hs hM) ?_; rintro v' L' ⟨hR, rfl⟩; unfold atoiR at hR; rw [hn] at hR; subst hR
      refine KO.mv rfl rfl ?_
      refine KO.extrL rfl (by exact rfl) rfl ?_
      refine KO.extrL rfl (by exact rfl) rfl ?_
      refine KO.as rfl rfl ?_
      refine KO.as rfl rfl ?_
      refine KO.nil ?_
      repeat (first | (with_reducible refine K.seq ?_) | (with_reducible refine KQ.next ?_))
      refine K.reg ?_
      refine KO.mv rfl rfl ?_
      refine KO.neI0 rfl (by kernel_rfl) rfl ?_
      refine KO.mv rfl rfl ?_
      (refine KO.on rfl rfl ?_ ?_; (focus rfl); (refine KO.mv rfl rfl ?_))
      refine KO.on rfl rfl rfl ?_; refine KO.ce (cp := []) rfl rfl rfl Tryz.call172 rfl (format_e w _ v hT hv) ?_; rintro v' L' ⟨rfl, rfl⟩
      (refine KO.on rfl rfl ?_ ?_; (focus rfl); (refine KO.mv rfl rfl ?_))
      (refine KO.on rfl rfl ?_ ?_; (focus rfl); (refine KO.neS rfl rfl rfl ?_))
      (refine KO.pickF rfl ?_ rfl rfl ?_; (focus rfl))
      refine KO.nil ?_
      repeat ((with_reducible refine KQ.next ?_))
      refine K.condF rfl (by simp [hi]) ?_
      repeat (first | (with_reducible refine K.seq ?_) | (with_reducible refine KQ.next ?_) | (with_reducible refine K.skip ?_))
      refine K.reg ?_
      refine KO.mv rfl rfl ?_
      refine KO.as rfl rfl ?_
      refine KO.as rfl rfl ?_
      refine KO.nil ?_
      repeat (first | (with_reducible refine KQ.next ?_) | (with_reducible refine K.ret ?_))
      refine KQ.ret2 rfl rfl rfl (fun w' hs => ⟨_, _, rfl, ⟨by unfold nums; rw [hc]; rfl, rfl⟩, hw.below_step hs.below, hs.below⟩)
    · have hc : canon s = none := by unfold canon; rw [hn]; simp [hi]
      refine K.reg ?_
      refine KO.mv rfl rfl ?_
      refine KO.ce (cp := []) rfl rfl rfl Tryz.call171 rfl (parse_e w _ s hs hM) ?_; rintro v' L' ⟨hR, rfl⟩; unfold atoiR at hR; rw [hn] at hR; subst hR
      refine KO.mv rfl rfl ?_
      refine KO.extrL rfl (by exact rfl) rfl ?_
      refine KO.extrL rfl (by exact rfl) rfl ?_
      refine KO.as rfl rfl ?_
      refine KO.as rfl rfl ?_
      refine KO.nil ?_
      repeat (first | (with_reducible refine K.seq ?_) | (with_reducible refine KQ.next ?_))
      refine K.reg ?_
      refine KO.mv rfl rfl ?_
      refine KO.neI0 rfl (by kernel_rfl) rfl ?_
      refine KO.mv rfl rfl ?_
      (refine KO.on rfl rfl ?_ ?_; (focus rfl); (refine KO.mv rfl rfl ?_))
      refine KO.on rfl rfl rfl ?_; refine KO.ce (cp := []) rfl rfl rfl Tryz.call172 rfl (format_e w _ v hT hv) ?_; rintro v' L' ⟨rfl, rfl⟩
      (refine KO.on rfl rfl ?_ ?_; (focus rfl); (refine KO.mv rfl rfl ?_))
      (refine KO.on rfl rfl ?_ ?_; (focus rfl); (refine KO.neS rfl rfl rfl ?_))
      (refine KO.pickF rfl ?_ rfl rfl ?_; (focus rfl))
      refine KO.nil ?_
      repeat ((with_reducible refine KQ.next ?_))
      refine K.condT rfl (by simp [hi]) ?_
      repeat ((with_reducible refine K.seq ?_))
      refine K.reg ?_
      refine KO.as rfl rfl ?_
      refine KO.as rfl rfl ?_
      refine KO.nil ?_
      repeat (first | (with_reducible refine KQ.next ?_) | (with_reducible refine KQ.then_ret ?_) | (with_reducible refine K.ret ?_))
      refine KQ.ret2 rfl rfl rfl (fun w' hs => ⟨_, _, rfl, ⟨by unfold nums; rw [hc]; rfl, rfl⟩, hw.below_step hs.below, hs.below⟩)
theorem num_e (w0 : World) (L R R' : List HP) (b1 g len cap : Nat) (ws : List ByteArray) (i : Nat) (s : ByteArray) (hi : ws[i]? = some s) (hln : ws.length = len) (hp : Pick L (blk b1 (.cells [.slice (some ⟨g, 0, none⟩) len cap].toArray 57 (0, 0))) R) (hq : Pick L (strS (.slice (some ⟨g, 0, none⟩) len cap) ws) R')
    (hs : s.size ≤ 100000000) (hT0 : Tab w0) (hM0 : Lim w0) : KE Tryz.prog 94 #[.int .i64 (i : Nat), .pointer (some ⟨b1, 0, none⟩)] w0 L (fun u M => u = .int .i64 (nums s) ∧ M = L) := by
  refine KE.mk (n := 15) Tryz.func94 rfl Tryz.ntmps94 (by simp) ?_
  intro w hw
  have hT := hT0.ext (Ext.of_below hw.below)
  have hM := hM0.ext (Ext.of_below hw.below)
  have hlt := (List.getElem?_eq_some_iff.1 hi).1
  repeat ((with_reducible refine K.seq ?_))
  refine K.reg ?_
  refine KO.as rfl rfl ?_
  refine KO.nil ?_
  repeat (first | (with_reducible refine K.seq ?_) | (with_reducible refine KQ.next ?_))
  refine K.reg ?_
  refine KO.ldb hw rfl rfl Tryz.isAgg57 (by with_reducible assumption) (by exact rfl) rfl ?_
  refine KO.mv rfl rfl ?_
  refine KO.idx0 (i := i) rfl rfl Tryz.runUnderlying57 Tryz.sizeOf9 rfl (by omega) rfl ?_
  refine KO.ldE0b hw (i := i) (sz := 1) (cf := strC) (e := s) rfl rfl Tryz.isAgg9 hq (fun _ => rfl) hi (by exact rfl) (by exact rfl) rfl ?_
  refine KO.ce (cp := []) rfl rfl rfl Tryz.call95 rfl (number_e w _ s hs hT hM) ?_; rintro v' L' ⟨rfl, rfl⟩
  refine KO.mv rfl rfl ?_
  refine KO.extrL rfl (by exact rfl) rfl ?_
  refine KO.extrL rfl (by exact rfl) rfl ?_
  refine KO.as rfl rfl ?_
  refine KO.as rfl rfl ?_
  refine KO.nil ?_
  repeat (first | (with_reducible refine K.seq ?_) | (with_reducible refine KQ.next ?_))
  refine K.reg ?_
  refine KO.mv rfl rfl ?_
  refine KO.as rfl rfl ?_
  refine KO.nil ?_
  repeat (first | (with_reducible refine KQ.next ?_) | (with_reducible refine K.ret ?_))
  refine KQ.ret1 rfl rfl (fun w' hs => ⟨_, _, rfl, ⟨rfl, rfl⟩, hw.below_step hs.below, hs.below⟩)
end Go.Proofs.YtjhogocabcdjbaaGreatDoor
/- waybillref.Read: the walk -/
namespace Go.Proofs.YtjhogocabcdjbaaGreatDoor
open Go Go.RowKit WB
def RdR (L : List HP) (s : ByteArray) (u : Value) (M : List HP) : Prop :=
  match mrd s with
  | some xs => ∃ v, u = .tuple #[v, .int .i64 0] ∧ M = SL 31 5 msC v xs :: L
  | none => u = .tuple #[.slice none 0 0, .int .i64 3] ∧ M = L
theorem msq_info : (Tryz.prog.info? 31).map (fun i => (i.zero, i.size, i.bytes)) = some (some (Value.agg #[.int .i64 0, .int .i64 0, .string ⟨#[]⟩, .string ⟨#[]⟩, .int .i64 0]), 5, 56) := by kernel_rfl
set_option maxRecDepth 100000 in
set_option maxHeartbeats 4000000 in
theorem rread_e (w0 : World) (L : List HP) (s : ByteArray) (hs : s.size ≤ 10000) (hT0 : Tab w0) (hM0 : Lim w0) : KE Tryz.prog 46 #[.string s] w0 L (RdR L s) := by
  refine KE.mk (n := 56) Tryz.func46 rfl Tryz.ntmps46 (by simp) ?_
  intro w hw
  have hT := hT0.ext (Ext.of_below hw.below)
  have hM := hM0.ext (Ext.of_below hw.below)
  unfold RdR
  repeat ((with_reducible refine K.seq ?_))
  refine K.reg ?_
  refine KO.as rfl rfl ?_
  refine KO.as rfl rfl ?_
  refine KO.nil ?_
  repeat (first | (with_reducible refine K.seq ?_) | (with_reducible refine KQ.next ?_))
  by_cases h0 : s = ⟨#[]⟩
  · have e0 : mrd s = some [] := by unfold mrd; rw [if_pos h0]
    rw [e0]
    refine K.reg ?_
    refine KO.mv rfl rfl ?_
    refine KO.eqS rfl rfl rfl ?_
    refine KO.nil ?_
    repeat ((with_reducible refine KQ.next ?_))
    refine K.condT rfl (by simpa using h0) ?_
    repeat ((with_reducible refine K.seq ?_))
    refine K.reg ?_
    refine KO.as rfl rfl ?_
    refine KO.as rfl rfl ?_
    refine KO.nil ?_
    repeat (first | (with_reducible refine KQ.next ?_) | (with_reducible refine KQ.then_ret ?_) | (with_reducible refine K.ret ?_))
    refine KQ.ret2 rfl rfl rfl (fun w' hs => ⟨_, _, rfl, ⟨_, rfl, rfl⟩, SL_nil (hw.below_step hs.below), hs.below⟩)
  refine K.reg ?_
  refine KO.mv rfl rfl ?_
  refine KO.eqS rfl rfl rfl ?_
  refine KO.nil ?_
  repeat ((with_reducible refine KQ.next ?_))
  refine K.condF rfl (by simpa using h0) ?_
  repeat (first | (with_reducible refine K.seq ?_) | (with_reducible refine KQ.next ?_) | (with_reducible refine K.skip ?_))
  refine K.reg ?_
  refine KO.as rfl rfl ?_
  refine KO.nil ?_
  repeat (first | (with_reducible refine K.seq ?_) | (with_reducible refine KQ.next ?_))
  have hlen := pcs_len_le 43 s
  refine K.reg ?_
  refine KO.mv rfl rfl ?_
  refine KO.ce (cp := []) rfl rfl rfl Tryz.call77 rfl (split_e w _ s 43 (by omega) hM) ?_; rintro v' L' ⟨bs, rfl, rfl⟩
  refine KO.len rfl Tryz.underlying57 rfl ?_
  refine KO.mv rfl rfl ?_
  refine KO.nil ?_
  repeat (first | (with_reducible refine KQ.next ?_) | (with_reducible refine K.block ?_))
  refine K.loop (fun y : Nat × Option Addr × Nat => [(16, .int .i64 (y.1 : Nat)), (15, .int .i64 ((pcs 43 s).length : Nat)), (14, .slice (some ⟨bs, 0, none⟩) (pcs 43 s).length (pcs 43 s).length), (4, .slice y.2.1 y.1 y.2.2), (0, .string s)])
    (fun y => [strS (.slice (some ⟨bs, 0, none⟩) (pcs 43 s).length (pcs 43 s).length) (pcs 43 s), SL 31 5 msC (.slice y.2.1 y.1 y.2.2) (((pcs 43 s).take y.1).map parseR)])
    (fun y => y.1 ≤ (pcs 43 s).length) (fun y => (pcs 43 s).length - y.1) (0, none, 0) (Nat.zero_le _) ⟨rfl, rfl, rfl, rfl, rfl, trivial⟩ (fun w hw => (SL_nil hw).all (by repeat (first | exact PAll.refl | refine PAll.cons (by repeat (first | exact Pick.head | apply Pick.tail)) ?_))) ?_
  rintro ⟨k, sa, cp⟩ hk
  dsimp only at hk ⊢
  repeat ((with_reducible refine K.seq ?_))
  refine K.reg ?_
  refine KO.lss rfl rfl rfl ?_
  refine KO.nil ?_
  repeat (first | (with_reducible refine K.seq ?_) | (with_reducible refine KQ.next ?_))
  refine K.condD rfl (fun h2 => ?_) (fun h2 => ?_)
  · obtain ⟨q, hq⟩ : ∃ e, (pcs 43 s)[k]? = some e := ⟨(pcs 43 s)[k], List.getElem?_eq_getElem (by omega)⟩
    have hqs : q.size ≤ 10000 := by have := pcs_size (List.mem_of_getElem? hq); omega
    have hws : ∀ i, i < 6 → ((wordsP q).getD i default).size ≤ 100000000 := fun i hi => by have := wordsP_size (List.mem_of_getElem? (wordsP_get q hi)); omega
    have hwl := wordsP_len q
    have hpl := pcs_len_le 32 q
    have hxk : ((pcs 43 s).take (k + 1)).map parseR = ((pcs 43 s).take k).map parseR ++ [parseR q] := by rw [take_succ_some hq, List.map_append]; rfl
    have hll : (((pcs 43 s).take k).map parseR ++ [parseR q]).length = k + 1 := by rw [← hxk, List.length_map, List.length_take]; omega
    have hxl : (((pcs 43 s).take k).map parseR).length < 100000 := by rw [List.length_map, List.length_take]; omega
    repeat (first | (with_reducible refine K.seq ?_) | (with_reducible refine KQ.next ?_) | (with_reducible refine K.skip ?_) | (with_reducible refine K.block ?_))
    refine K.reg ?_
    refine KO.idx0 rfl rfl Tryz.runUnderlying57 Tryz.sizeOf9 (by exact rfl) (by omega) rfl ?_
    refine KO.ldE0 rfl rfl Tryz.isAgg9 (by with_reducible (repeat (exact Pick.head))) (fun _ => rfl) (by assumption) (by exact rfl) (by exact rfl) rfl ?_
    refine KO.as rfl rfl ?_
    refine KO.nil ?_
    repeat (first | (with_reducible refine K.seq ?_) | (with_reducible refine KQ.next ?_))
    refine K.reg ?_
    refine KO.mv rfl rfl ?_
    refine KO.ce (cp := []) rfl rfl rfl Tryz.call77 rfl (split_e w _ q 32 (by omega) hM) ?_; rintro v' L' ⟨bq, rfl, rfl⟩
    refine KO.bsF (z := (Value.string ⟨#[]⟩)) (by' := 16) rfl [.const (.string ⟨#[]⟩), .const (.string ⟨#[]⟩), .const (.string ⟨#[]⟩), .const (.string ⟨#[]⟩), .const (.string ⟨#[]⟩)] rfl rfl Tryz.underlying57 (by kernel_rfl) (by exact rfl) (by exact rfl) (by decide) (by decide) (by exact rfl) rfl ?_; intro b22; refine KO.conv (fun w hw => strS_blkM (xs := pads) hw rfl rfl (by decide)) ?_
    refine KO.appS (z := (Value.string ⟨#[]⟩)) (sz := 1) (by' := 16) rfl rfl rfl (.tail .head) (fun w hw => Src.of .head w hw) Tryz.underlying57 str_info rfl (fun _ => rfl) (fun _ => rfl) (by simp [pads]; omega) (by decide) rfl ?_; intro v'; refine KO.fact (fun w hw => SL_some (i := 0) hw (by simp [pads])) ?_; rintro ⟨gg, cc, rfl⟩; rw [show pcs 32 q ++ pads = wordsP q from rfl]
    refine KO.alloc rfl Tryz.zeroValue57 (by exact rfl) rfl ?_; intro b7
    refine KO.sto0 rfl rfl rfl (by exact rfl) (by exact Tryz.sizeOf57) (by exact rfl) (by with_reducible (repeat (exact Pick.head))) (by exact rfl) ?_
    refine KO.nil ?_
    repeat (first | (with_reducible refine K.seq ?_) | (with_reducible refine KQ.next ?_))
    refine K.reg ?_
    refine KO.mkc rfl rfl rfl ?_
    refine KO.as rfl rfl ?_
    refine KO.nil ?_
    repeat ((with_reducible refine KQ.next ?_))
    refine K.draw [.pure, .pure, .keep, .pure, .keep, .read, .pure, .read, .read, .pure, .read, .pure, .keep, .pure, .keep, .write, .pure] [0, 1, 3, 5, 6, 7, 8, 9, 10, 11, 2, 4, 12, 13, 14, 15, 16] (by kernel_rfl) (by kernel_rfl) ?_
    refine KO.mv rfl rfl ?_
    refine KO.mv rfl rfl ?_
    refine KO.mv rfl rfl ?_
    refine KO.ld rfl rfl Tryz.isAgg57 (by with_reducible (repeat (exact Pick.head))) (by exact rfl) rfl ?_
    refine KO.idx0 (i := 2) rfl rfl Tryz.runUnderlying57 Tryz.sizeOf9 rfl (by omega) rfl ?_
    refine KO.ldE0 (i := 2) (sz := 1) (cf := strC) rfl rfl Tryz.isAgg9 (by with_reducible (repeat (first | exact Pick.head | apply Pick.tail))) (fun _ => rfl) (wordsP_get q (by decide)) (by exact rfl) (by exact rfl) rfl ?_
    refine KO.ld rfl rfl Tryz.isAgg57 (by with_reducible (repeat (exact Pick.head))) (by exact rfl) rfl ?_
    refine KO.idx0 (i := 3) rfl rfl Tryz.runUnderlying57 Tryz.sizeOf9 rfl (by omega) rfl ?_
    refine KO.ldE0 (i := 3) (sz := 1) (cf := strC) rfl rfl Tryz.isAgg9 (by with_reducible (repeat (first | exact Pick.head | apply Pick.tail))) (fun _ => rfl) (wordsP_get q (by decide)) (by exact rfl) (by exact rfl) rfl ?_
    refine KO.mv rfl rfl ?_
    refine KO.ce (cp := [.pointer (some ⟨b7, 0, none⟩)]) rfl rfl rfl Tryz.call94 rfl (num_e w _ _ _ b7 gg _ cc (wordsP q) 0 _ (wordsP_get q (by decide)) rfl (by with_reducible (repeat (exact Pick.head))) (by with_reducible (repeat (first | exact Pick.head | apply Pick.tail))) (hws 0 (by decide)) hT hM) ?_; rintro v' L' ⟨rfl, rfl⟩
    refine KO.ce (cp := [.pointer (some ⟨b7, 0, none⟩)]) rfl rfl rfl Tryz.call94 rfl (num_e w _ _ _ b7 gg _ cc (wordsP q) 1 _ (wordsP_get q (by decide)) rfl (by with_reducible (repeat (exact Pick.head))) (by with_reducible (repeat (first | exact Pick.head | apply Pick.tail))) (hws 1 (by decide)) hT hM) ?_; rintro v' L' ⟨rfl, rfl⟩
    refine KO.ce (cp := [.pointer (some ⟨b7, 0, none⟩)]) rfl rfl rfl Tryz.call94 rfl (num_e w _ _ _ b7 gg _ cc (wordsP q) 4 _ (wordsP_get q (by decide)) rfl (by with_reducible (repeat (exact Pick.head))) (by with_reducible (repeat (first | exact Pick.head | apply Pick.tail))) (hws 4 (by decide)) hT hM) ?_; rintro v' L' ⟨rfl, rfl⟩
    refine KO.bldN (pl := [(0, 1), (1, 1), (2, 1), (3, 1), (4, 1)]) rfl Tryz.zeroValue31 Tryz.runUnderlying31 (by intro w; simp [Tryz.sizeOf3, Tryz.sizeOf9]) (by exact rfl) rfl ?_
    refine KO.bs1 (z := (Value.agg #[.int .i64 0, .int .i64 0, .string ⟨#[]⟩, .string ⟨#[]⟩, .int .i64 0])) (sz := 5) (by' := 56) rfl rfl Tryz.underlying50 (by kernel_rfl) (by exact rfl) (by exact rfl) (by decide) (by decide) rfl ?_; intro b39
    refine KO.app (z := Value.agg #[.int .i64 0, .int .i64 0, .string ⟨#[]⟩, .string ⟨#[]⟩, .int .i64 0]) (sz := 5) (by' := 56) rfl rfl rfl (by with_reducible (repeat (first | exact Pick.head | apply Pick.tail))) (by with_reducible (repeat (exact Pick.head))) Tryz.underlying50 msq_info rfl (parseR q) (by exact rfl) (by exact rfl) (by exact rfl) (by omega) (by decide) rfl ?_; intro v'; refine KO.fact (fun w hw => SL_form hw) ?_; rintro ⟨sb, cb, rfl, _⟩; rw [hll, ← hxk]
    refine KO.as rfl rfl ?_
    refine KO.nil ?_
    repeat (first | (with_reducible refine KQ.next ?_) | (with_reducible refine KQ.blk_normal ?_))
    refine K.reg ?_
    refine KO.add rfl rfl rfl (by omega) rfl ?_
    refine KO.mv rfl rfl ?_
    refine KO.nil ?_
    refine KQ.round (k + 1, sb, cb) (by dsimp only; omega) (by dsimp only; omega) ⟨rfl, rfl, rfl, rfl, rfl, trivial⟩ (fun w hw => hw.all (by repeat (first | exact PAll.nil | refine PAll.cons (by repeat (first | exact Pick.head | apply Pick.tail)) ?_)))
  · have hkl : k = (pcs 43 s).length := by omega
    subst hkl
    rw [List.take_length]
    have hmr := read_doc h0
    have hms : ∀ m ∈ (pcs 43 s).map parseR, m.body.size ≤ maxLen ∧ m.queue.size ≤ maxLen := fun m hm => by
      obtain ⟨q, hq, rfl⟩ := List.mem_map.1 hm
      have h1 := pcs_size hq
      have h2 := parseR_size (p := q)
      unfold maxLen; omega
    have hml : ((pcs 43 s).map parseR).length ≤ 100000 := by rw [List.length_map]; omega
    rw [hmr]
    generalize hxs : (pcs 43 s).map parseR = xs at hms hml
    repeat (first | (with_reducible refine K.seq ?_) | (with_reducible refine KQ.next ?_) | (with_reducible refine KQ.then_exit ?_) | (with_reducible refine KQ.blk_exit ?_) | (with_reducible refine K.exit ?_))
    refine K.reg ?_
    refine KO.mv rfl rfl ?_
    refine KO.ce (cp := []) rfl rfl rfl Tryz.call96 rfl (rwrite_e w _ _ xs (fun w' hw' => by have := RdA.ofSL (cf := msC) (fun _ => rfl) (by with_reducible (repeat (first | exact Pick.head | apply Pick.tail))) hw'; exact this) hT hms hml) ?_; rintro v' L' ⟨rfl, rfl⟩
    refine KO.mv rfl rfl ?_
    refine KO.extrL rfl (by exact rfl) rfl ?_
    refine KO.extrL rfl (by exact rfl) rfl ?_
    refine KO.alloc rfl Tryz.zeroValue97 (by exact rfl) rfl ?_; intro b10
    refine KO.as rfl rfl ?_
    refine KO.sto0 rfl rfl rfl (by exact rfl) (by exact Tryz.sizeOf97) (by exact rfl) (by with_reducible (repeat (exact Pick.head))) (by exact rfl) ?_
    refine KO.nil ?_
    repeat (first | (with_reducible refine K.seq ?_) | (with_reducible refine KQ.next ?_))
    cases hb : badI xs with
    | some kb =>
      have hE : writeE xs = 1 := writeE_bad (by rw [hb]; simp)
      rw [if_neg (by simp), hE]
      refine K.reg ?_
      refine KO.fo0 (off := 0) rfl Tryz.runUnderlying97 rfl rfl Tryz.sizeOf39 rfl ?_
      refine KO.ld rfl rfl Tryz.isAgg39 (by with_reducible (repeat (exact Pick.head))) (by exact rfl) rfl ?_
      refine KO.neI rfl rfl rfl ?_
      refine KO.mv rfl rfl ?_
      (refine KO.no rfl rfl ?_ rfl ?_; (focus rfl))
      (refine KO.no rfl rfl ?_ rfl ?_; (focus rfl))
      (refine KO.no rfl rfl ?_ rfl ?_; (focus rfl))
      (refine KO.pickT rfl ?_ rfl rfl ?_; (focus rfl))
      refine KO.nil ?_
      repeat ((with_reducible refine KQ.next ?_))
      refine K.condT rfl rfl ?_
      repeat ((with_reducible refine K.seq ?_))
      refine K.reg ?_
      refine KO.as rfl rfl ?_
      refine KO.as rfl rfl ?_
      refine KO.nil ?_
      repeat (first | (with_reducible refine KQ.next ?_) | (with_reducible refine KQ.then_ret ?_) | (with_reducible refine K.ret ?_))
      refine KQ.ret2 rfl rfl rfl (fun w' hs => ⟨_, _, rfl, ⟨rfl, rfl⟩, hw.below_step hs.below, hs.below⟩)
    | none =>
      obtain ⟨wt, we⟩ := writeT_ok hb
      rw [wt, we]
      by_cases hws : writeS xs = s
      · rw [if_pos ⟨rfl, hws⟩]
        refine K.reg ?_
        refine KO.fo0 (off := 0) rfl Tryz.runUnderlying97 rfl rfl Tryz.sizeOf39 rfl ?_
        refine KO.ld rfl rfl Tryz.isAgg39 (by with_reducible (repeat (exact Pick.head))) (by exact rfl) rfl ?_
        refine KO.neI rfl rfl rfl ?_
        refine KO.mv rfl rfl ?_
        (refine KO.on rfl rfl ?_ ?_; (focus rfl); (refine KO.mv rfl rfl ?_))
        (refine KO.on rfl rfl ?_ ?_; (focus rfl); (refine KO.mv rfl rfl ?_))
        (refine KO.on rfl rfl ?_ ?_; (focus rfl); (refine KO.neS rfl rfl rfl ?_))
        (refine KO.pickF rfl ?_ rfl rfl ?_; (focus rfl))
        refine KO.nil ?_
        repeat ((with_reducible refine KQ.next ?_))
        refine K.condF rfl (by simp [hws]) ?_
        repeat (first | (with_reducible refine K.seq ?_) | (with_reducible refine KQ.next ?_) | (with_reducible refine K.skip ?_))
        refine K.reg ?_
        refine KO.mv rfl rfl ?_
        refine KO.as rfl rfl ?_
        refine KO.as rfl rfl ?_
        refine KO.nil ?_
        repeat (first | (with_reducible refine KQ.next ?_) | (with_reducible refine K.ret ?_))
        refine KQ.ret2 rfl rfl rfl (fun w' hs => ⟨_, _, rfl, ⟨_, rfl, rfl⟩, ?_, hs.below⟩)
        exact hw.stack (M := [SL 31 5 msC (.slice sa (pcs 43 s).length cp) xs]) (hs.all (by with_reducible repeat (first | exact PAll.nil | refine PAll.cons (by with_reducible repeat (first | exact Pick.head | apply Pick.tail)) ?_)))
      · rw [if_neg (fun h => hws h.2)]
        refine K.reg ?_
        refine KO.fo0 (off := 0) rfl Tryz.runUnderlying97 rfl rfl Tryz.sizeOf39 rfl ?_
        refine KO.ld rfl rfl Tryz.isAgg39 (by with_reducible (repeat (exact Pick.head))) (by exact rfl) rfl ?_
        refine KO.neI rfl rfl rfl ?_
        refine KO.mv rfl rfl ?_
        (refine KO.on rfl rfl ?_ ?_; (focus rfl); (refine KO.mv rfl rfl ?_))
        (refine KO.on rfl rfl ?_ ?_; (focus rfl); (refine KO.mv rfl rfl ?_))
        (refine KO.on rfl rfl ?_ ?_; (focus rfl); (refine KO.neS rfl rfl rfl ?_))
        (refine KO.pickF rfl ?_ rfl rfl ?_; (focus rfl))
        refine KO.nil ?_
        repeat ((with_reducible refine KQ.next ?_))
        refine K.condT rfl (by simp [hws]) ?_
        repeat ((with_reducible refine K.seq ?_))
        refine K.reg ?_
        refine KO.as rfl rfl ?_
        refine KO.as rfl rfl ?_
        refine KO.nil ?_
        repeat (first | (with_reducible refine KQ.next ?_) | (with_reducible refine KQ.then_ret ?_) | (with_reducible refine K.ret ?_))
        refine KQ.ret2 rfl rfl rfl (fun w' hs => ⟨_, _, rfl, ⟨rfl, rfl⟩, hw.below_step hs.below, hs.below⟩)
end Go.Proofs.YtjhogocabcdjbaaGreatDoor
/- a frame's text read as the document tells: plain -/
namespace WB
open Go
def padsF : List ByteArray := [⟨#[]⟩, ⟨#[]⟩, ⟨#[]⟩, ⟨#[]⟩]
def wordsF (p : ByteArray) : List ByteArray := pcs 58 p ++ padsF
theorem wordsF_len (p : ByteArray) : 5 ≤ (wordsF p).length := by
  unfold wordsF padsF
  have := List.length_pos_iff.2 (pcs_ne 58 p)
  simp; omega
theorem wordsF_get (p : ByteArray) {i : Nat} (h : i < 5) : (wordsF p)[i]? = some ((wordsF p).getD i default) := by
  have := wordsF_len p
  rw [List.getD_eq_getElem?_getD, List.getElem?_eq_getElem (by omega)]; rfl
theorem wordsF_size {p x : ByteArray} (h : x ∈ wordsF p) : x.size ≤ p.size := by
  unfold wordsF at h
  rcases List.mem_append.1 h with h | h
  · exact pcs_size h
  · unfold padsF at h
    have : x = ⟨#[]⟩ := by simpa using h
    subst this; exact Nat.zero_le _
def frP (s : ByteArray) : Fr := ⟨nums ((wordsF s).getD 1 default), nums ((wordsF s).getD 2 default), decide ((wordsF s).getD 0 default = ⟨#[97]⟩)⟩
def frL (s : ByteArray) : List Ms := (mrd ((wordsF s).getD 3 default)).getD []
theorem readF_doc (s : ByteArray) : frd s = if okF (frP s) (frL s) ∧ frS (frP s) (frL s) = s then some (frP s, frL s) else none := by
  split
  · rename_i h
    have := frd_write h.1
    rw [h.2] at this; exact this
  · rename_i h
    cases hm : frd s with
    | none => rfl
    | some p =>
      exfalso
      obtain ⟨g, ys⟩ := p
      obtain ⟨h1, h2⟩ := frd_some hm
      have hp : wordsF s = [kindS g.ack, itoaS g.frm, itoaS g.num, writeS ys] ++ padsF := by unfold wordsF; rw [← h2, frS_pcs h1]
      have h3 := h1
      unfold okF at h3
      obtain ⟨h4, h5, h6, h7, h8, h9, h10⟩ := h3
      have e1 : frP s = g := by
        unfold frP
        rw [hp]
        simp only [List.cons_append, List.getD_cons_zero, List.getD_cons_succ, nums, canon_itoa (n := g.frm) ⟨by omega, by omega⟩, canon_itoa (n := g.num) ⟨by omega, by omega⟩, Option.getD_some, kind_ack]
      have e2 : frL s = ys := by
        unfold frL
        rw [hp]
        simp only [List.cons_append, List.getD_cons_zero, List.getD_cons_succ, mrd_write h10, Option.getD_some]
      rw [e1, e2] at h
      exact h ⟨h1, h2⟩
end WB
/- waybillref.ReadFrame: the walk -/
namespace Go.Proofs.YtjhogocabcdjbaaGreatDoor
open Go Go.RowKit WB
theorem rread2_e (w0 : World) (L : List HP) (s : ByteArray) (hs : s.size ≤ 10000) (hT0 : Tab w0) (hM0 : Lim w0) :
    KE Tryz.prog 46 #[.string s] w0 L (fun u M => ∃ sa cp, ∃ e : Int, u = .tuple #[.slice sa ((mrd s).getD []).length cp, .int .i64 e] ∧ M = SL 31 5 msC (.slice sa ((mrd s).getD []).length cp) ((mrd s).getD []) :: L) := by
  intro w hw
  refine (rread_e w0 L s hs hT0 hM0 w hw).mono ?_
  rintro e w' ⟨u, M, rfl, hR, hst, hb⟩
  unfold RdR at hR
  cases hm : mrd s with
  | some xs =>
    rw [hm] at hR
    obtain ⟨v, rfl, rfl⟩ := hR
    obtain ⟨sa, cp, rfl, _⟩ := SL_form hst
    exact ⟨_, _, rfl, ⟨sa, cp, _, rfl, rfl⟩, hst, hb⟩
  | none =>
    rw [hm] at hR
    obtain ⟨rfl, rfl⟩ := hR
    exact ⟨_, _, rfl, ⟨none, 0, _, rfl, rfl⟩, SL_nil hst, hb⟩
def RfR (L : List HP) (s : ByteArray) (u : Value) (M : List HP) : Prop :=
  match frd s with
  | some (f, xs) => ∃ v, u = .tuple #[.agg (frC f v).toArray, .int .i64 0] ∧ M = SL 31 5 msC v xs :: L
  | none => u = .tuple #[.agg (frC ⟨0, 0, false⟩ (.slice none 0 0)).toArray, .int .i64 3] ∧ M = L
set_option maxRecDepth 100000 in
set_option maxHeartbeats 4000000 in
theorem rfread_e (w0 : World) (L : List HP) (s : ByteArray) (hs : s.size ≤ 10000) (hT0 : Tab w0) (hM0 : Lim w0) : KE Tryz.prog 48 #[.string s] w0 L (RfR L s) := by
  refine KE.mk (n := 61) Tryz.func48 rfl Tryz.ntmps48 (by simp) ?_
  intro w hw
  have hT := hT0.ext (Ext.of_below hw.below)
  have hM := hM0.ext (Ext.of_below hw.below)
  unfold RfR
  have hwl := wordsF_len s
  have hpl := pcs_len_le 58 s
  have hws : ∀ i, i < 5 → ((wordsF s).getD i default).size ≤ 100000000 := fun i hi => by have := wordsF_size (List.mem_of_getElem? (wordsF_get s hi)); omega
  repeat ((with_reducible refine K.seq ?_))
  refine K.reg ?_
  refine KO.alloc rfl Tryz.zeroValue89 (by exact rfl) rfl ?_; intro b2
  refine KO.as rfl rfl ?_
  refine KO.nil ?_
  repeat (first | (with_reducible refine K.seq ?_) | (with_reducible refine KQ.next ?_))
  refine K.reg ?_
  refine KO.mv rfl rfl ?_
  refine KO.ce (cp := []) rfl rfl rfl Tryz.call77 rfl (split_e w _ s 58 (by omega) hM) ?_; rintro v' L' ⟨bq, rfl, rfl⟩
  refine KO.bsF (z := (Value.string ⟨#[]⟩)) (by' := 16) rfl [.const (.string ⟨#[]⟩), .const (.string ⟨#[]⟩), .const (.string ⟨#[]⟩), .const (.string ⟨#[]⟩)] rfl rfl Tryz.underlying57 (by kernel_rfl) (by exact rfl) (by exact rfl) (by decide) (by decide) (by exact rfl) rfl ?_; intro b22; refine KO.conv (fun w hw => strS_blkM (xs := padsF) hw rfl rfl (by decide)) ?_
  refine KO.appS (z := (Value.string ⟨#[]⟩)) (sz := 1) (by' := 16) rfl rfl rfl (.tail .head) (fun w hw => Src.of .head w hw) Tryz.underlying57 str_info rfl (fun _ => rfl) (fun _ => rfl) (by simp [padsF]; omega) (by decide) rfl ?_; intro v'; refine KO.fact (fun w hw => SL_some (i := 0) hw (by simp [padsF])) ?_; rintro ⟨gg, cc, rfl⟩; rw [show pcs 58 s ++ padsF = wordsF s from rfl]
  refine KO.as rfl rfl ?_
  refine KO.nil ?_
  repeat (first | (with_reducible refine K.seq ?_) | (with_reducible refine KQ.next ?_))
  refine K.reg ?_
  refine KO.mv rfl rfl ?_
  refine KO.idx0 (i := 1) rfl rfl Tryz.runUnderlying57 Tryz.sizeOf9 rfl (by omega) rfl ?_
  refine KO.ldE0 (i := 1) (sz := 1) (cf := strC) rfl rfl Tryz.isAgg9 (by with_reducible (repeat (exact Pick.head))) (fun _ => rfl) (wordsF_get s (by decide)) (by exact rfl) (by exact rfl) rfl ?_
  refine KO.ce (cp := []) rfl rfl rfl Tryz.call95 rfl (number_e w _ _ (hws 1 (by decide)) hT hM) ?_; rintro v' L' ⟨rfl, rfl⟩
  refine KO.mv rfl rfl ?_
  refine KO.extrL rfl (by exact rfl) rfl ?_
  refine KO.extrL rfl (by exact rfl) rfl ?_
  refine KO.as rfl rfl ?_
  refine KO.as rfl rfl ?_
  refine KO.nil ?_
  repeat (first | (with_reducible refine K.seq ?_) | (with_reducible refine KQ.next ?_))
  refine K.reg ?_
  refine KO.mv rfl rfl ?_
  refine KO.idx0 (i := 2) rfl rfl Tryz.runUnderlying57 Tryz.sizeOf9 rfl (by omega) rfl ?_
  refine KO.ldE0 (i := 2) (sz := 1) (cf := strC) rfl rfl Tryz.isAgg9 (by with_reducible (repeat (exact Pick.head))) (fun _ => rfl) (wordsF_get s (by decide)) (by exact rfl) (by exact rfl) rfl ?_
  refine KO.ce (cp := []) rfl rfl rfl Tryz.call95 rfl (number_e w _ _ (hws 2 (by decide)) hT hM) ?_; rintro v' L' ⟨rfl, rfl⟩
  refine KO.mv rfl rfl ?_
  refine KO.extrL rfl (by exact rfl) rfl ?_
  refine KO.extrL rfl (by exact rfl) rfl ?_
  refine KO.as rfl rfl ?_
  refine KO.as rfl rfl ?_
  refine KO.nil ?_
  repeat (first | (with_reducible refine K.seq ?_) | (with_reducible refine KQ.next ?_))
  refine K.reg ?_
  refine KO.mv rfl rfl ?_
  refine KO.idx0 (i := 3) rfl rfl Tryz.runUnderlying57 Tryz.sizeOf9 rfl (by omega) rfl ?_
  refine KO.ldE0 (i := 3) (sz := 1) (cf := strC) rfl rfl Tryz.isAgg9 (by with_reducible (repeat (exact Pick.head))) (fun _ => rfl) (wordsF_get s (by decide)) (by exact rfl) (by exact rfl) rfl ?_
  refine KO.ce (cp := []) rfl rfl rfl Tryz.call46 rfl (rread2_e w _ _ (by have := wordsF_size (List.mem_of_getElem? (wordsF_get s (i := 3) (by decide))); omega) hT hM) ?_; rintro v' L' ⟨sa, cp, e3, rfl, rfl⟩
  refine KO.mv rfl rfl ?_
  refine KO.extrL rfl (by exact rfl) rfl ?_
  refine KO.extrL rfl (by exact rfl) rfl ?_
  refine KO.as rfl rfl ?_
  refine KO.as rfl rfl ?_
  refine KO.nil ?_
  repeat (first | (with_reducible refine K.seq ?_) | (with_reducible refine KQ.next ?_))
  refine K.reg ?_
  refine KO.mv rfl rfl ?_
  refine KO.mv rfl rfl ?_
  refine KO.mv rfl rfl ?_
  refine KO.idx0 (i := 0) rfl rfl Tryz.runUnderlying57 Tryz.sizeOf9 rfl (by omega) rfl ?_
  refine KO.ldE0 (i := 0) (sz := 1) (cf := strC) rfl rfl Tryz.isAgg9 (by with_reducible (repeat (first | exact Pick.head | apply Pick.tail))) (fun _ => rfl) (wordsF_get s (by decide)) (by exact rfl) (by exact rfl) rfl ?_
  refine KO.eqS rfl rfl rfl ?_
  refine KO.mv rfl rfl ?_
  refine KO.bldN (pl := [(0, 1), (1, 1), (2, 1), (3, 1)]) rfl Tryz.zeroValue89 Tryz.runUnderlying89 (by intro w; simp [Tryz.sizeOf3, Tryz.sizeOf4, Tryz.sizeOf50]) (by exact rfl) rfl ?_
  refine KO.alloc rfl Tryz.zeroValue89 (by exact rfl) rfl ?_; intro b11
  refine KO.sto0 rfl rfl rfl (by exact rfl) (by exact Tryz.sizeOf89) (by exact rfl) (by with_reducible (repeat (exact Pick.head))) (by exact rfl) ?_
  refine KO.nil ?_
  repeat (first | (with_reducible refine K.seq ?_) | (with_reducible refine KQ.next ?_))
  have hmz : ∀ ys, mrd ((wordsF s).getD 3 default) = some ys → (∀ m ∈ ys, m.body.size ≤ maxLen ∧ m.queue.size ≤ maxLen) ∧ ys.length ≤ 100000 := fun ys h => by
    have h2 := wordsF_size (List.mem_of_getElem? (wordsF_get s (i := 3) (by decide)))
    have h3 := mrd_len h
    exact ⟨fun m hm => right_size (badI_all (mrd_some h).1 m hm), by omega⟩
  have hsz : ∀ m ∈ frL s, m.body.size ≤ maxLen ∧ m.queue.size ≤ maxLen := by
    unfold frL
    cases h : mrd ((wordsF s).getD 3 default) with
    | none => intro m hm; cases hm
    | some ys => exact (hmz ys h).1
  have hml : (frL s).length ≤ 100000 := by
    unfold frL
    cases h : mrd ((wordsF s).getD 3 default) with
    | none => simp
    | some ys => exact (hmz ys h).2
  rw [readF_doc s]
  rw [show (mrd ((wordsF s).getD 3 default)).getD [] = frL s from rfl]
  refine K.reg ?_
  refine KO.ldB0 rfl rfl Tryz.isAgg89 Tryz.sizeOf89 (by with_reducible (repeat (exact Pick.head))) (by exact rfl) rfl ?_
  refine KO.ce (cp := []) rfl rfl rfl Tryz.call99 rfl (rfw_e w _ (frP s) _ (frL s) (fun w' hw' => RdA.ofSL (fun _ => rfl) (by with_reducible (repeat (first | exact Pick.head | apply Pick.tail))) hw') hT hsz hml) ?_; rintro v' L' ⟨rfl, rfl⟩
  refine KO.mv rfl rfl ?_
  refine KO.extrL rfl (by exact rfl) rfl ?_
  refine KO.extrL rfl (by exact rfl) rfl ?_
  refine KO.as rfl rfl ?_
  refine KO.as rfl rfl ?_
  refine KO.nil ?_
  repeat (first | (with_reducible refine K.seq ?_) | (with_reducible refine KQ.next ?_))
  by_cases hok : okF (frP s) (frL s)
  case neg =>
    rw [(fw_bad hok).1, if_neg (fun h => hok h.1)]
    refine K.reg ?_
    refine KO.mv rfl rfl ?_
    refine KO.neI rfl rfl rfl ?_
    refine KO.mv rfl rfl ?_
    (refine KO.no rfl rfl ?_ rfl ?_; (focus rfl))
    (refine KO.no rfl rfl ?_ rfl ?_; (focus rfl))
    (refine KO.no rfl rfl ?_ rfl ?_; (focus rfl))
    (refine KO.pickT rfl ?_ rfl rfl ?_; (focus rfl))
    refine KO.nil ?_
    repeat ((with_reducible refine KQ.next ?_))
    refine K.condT rfl rfl ?_
    repeat ((with_reducible refine K.seq ?_))
    refine K.reg ?_
    refine KO.bldN (pl := [(0, 1), (1, 1), (2, 1), (3, 1)]) rfl Tryz.zeroValue89 Tryz.runUnderlying89 (by intro w; simp [Tryz.sizeOf3, Tryz.sizeOf4, Tryz.sizeOf50]) (by exact rfl) rfl ?_
    refine KO.sto0 rfl rfl rfl (by exact rfl) (by exact Tryz.sizeOf89) (by exact rfl) (by with_reducible (repeat (first | exact Pick.head | apply Pick.tail))) (by exact rfl) ?_
    refine KO.as rfl rfl ?_
    refine KO.nil ?_
    repeat (first | (with_reducible refine KQ.next ?_) | (with_reducible refine KQ.then_ret ?_) | (with_reducible refine K.ret ?_))
    refine KQ.retCT rfl rfl Tryz.isAgg89 (by with_reducible (repeat (exact Pick.head))) (by exact Tryz.sizeOf89) rfl (fun w' hs => ⟨_, _, rfl, ⟨(by exact rfl), rfl⟩, hw.below_step hs.below, hs.below⟩)
  rw [(fw_ok hok).1, (fw_ok hok).2]
  by_cases hfs : frS (frP s) (frL s) = s
  case neg =>
    rw [if_neg (fun h => hfs h.2)]
    refine K.reg ?_
    refine KO.mv rfl rfl ?_
    refine KO.neI rfl rfl rfl ?_
    refine KO.mv rfl rfl ?_
    (refine KO.on rfl rfl ?_ ?_; (focus rfl); (refine KO.mv rfl rfl ?_))
    (refine KO.on rfl rfl ?_ ?_; (focus rfl); (refine KO.mv rfl rfl ?_))
    (refine KO.on rfl rfl ?_ ?_; (focus rfl); (refine KO.neS rfl rfl rfl ?_))
    (refine KO.pickF rfl ?_ rfl rfl ?_; (focus rfl))
    refine KO.nil ?_
    repeat ((with_reducible refine KQ.next ?_))
    refine K.condT rfl (by simp [hfs]) ?_
    repeat ((with_reducible refine K.seq ?_))
    refine K.reg ?_
    refine KO.bldN (pl := [(0, 1), (1, 1), (2, 1), (3, 1)]) rfl Tryz.zeroValue89 Tryz.runUnderlying89 (by intro w; simp [Tryz.sizeOf3, Tryz.sizeOf4, Tryz.sizeOf50]) (by exact rfl) rfl ?_
    refine KO.sto0 rfl rfl rfl (by exact rfl) (by exact Tryz.sizeOf89) (by exact rfl) (by with_reducible (repeat (first | exact Pick.head | apply Pick.tail))) (by exact rfl) ?_
    refine KO.as rfl rfl ?_
    refine KO.nil ?_
    repeat (first | (with_reducible refine KQ.next ?_) | (with_reducible refine KQ.then_ret ?_) | (with_reducible refine K.ret ?_))
    refine KQ.retCT rfl rfl Tryz.isAgg89 (by with_reducible (repeat (exact Pick.head))) (by exact Tryz.sizeOf89) rfl (fun w' hs => ⟨_, _, rfl, ⟨(by exact rfl), rfl⟩, hw.below_step hs.below, hs.below⟩)
  rw [if_pos ⟨hok, hfs⟩]
  refine K.reg ?_
  refine KO.mv rfl rfl ?_
  refine KO.neI rfl rfl rfl ?_
  refine KO.mv rfl rfl ?_
  (refine KO.on rfl rfl ?_ ?_; (focus rfl); (refine KO.mv rfl rfl ?_))
  (refine KO.on rfl rfl ?_ ?_; (focus rfl); (refine KO.mv rfl rfl ?_))
  (refine KO.on rfl rfl ?_ ?_; (focus rfl); (refine KO.neS rfl rfl rfl ?_))
  (refine KO.pickF rfl ?_ rfl rfl ?_; (focus rfl))
  refine KO.nil ?_
  repeat ((with_reducible refine KQ.next ?_))
  refine K.condF rfl (by simp [hfs]) ?_
  repeat (first | (with_reducible refine K.seq ?_) | (with_reducible refine KQ.next ?_) | (with_reducible refine K.skip ?_))
  refine K.reg ?_
  refine KO.ldB0 rfl rfl Tryz.isAgg89 Tryz.sizeOf89 (by with_reducible (repeat (exact Pick.head))) (by exact rfl) rfl ?_
  refine KO.sto0 rfl rfl rfl (by exact rfl) (by exact Tryz.sizeOf89) (by exact rfl) (by with_reducible (repeat (first | exact Pick.head | apply Pick.tail))) (by exact rfl) ?_
  refine KO.as rfl rfl ?_
  refine KO.nil ?_
  repeat (first | (with_reducible refine KQ.next ?_) | (with_reducible refine K.ret ?_))
  refine KQ.retCT rfl rfl Tryz.isAgg89 (by with_reducible (repeat (exact Pick.head))) (by exact Tryz.sizeOf89) rfl (fun w' hs => ⟨_, _, rfl, ⟨_, (by exact rfl), rfl⟩, hw.stack (M := [SL 31 5 msC (.slice sa (frL s).length cp) (frL s)]) (hs.all (by with_reducible repeat (first | exact PAll.nil | refine PAll.cons (by with_reducible repeat (first | exact Pick.head | apply Pick.tail)) ?_))), hs.below⟩)
end Go.Proofs.YtjhogocabcdjbaaGreatDoor
/- waybilllaw.FrameReads: the walk -/
namespace Go.Proofs.YtjhogocabcdjbaaGreatDoor
open Go Go.RowKit WB
set_option maxRecDepth 100000 in
set_option maxHeartbeats 4000000 in
theorem freads_e (w0 : World) (L : List HP) (s : ByteArray) (hT0 : Tab w0) (hM0 : Lim w0) (hg0 : ErrType w0) :
    KE Tryz.prog 8 #[.string s] w0 L (fun u M => u = .bool true ∧ M = L) := by
  refine KE.mk (n := 51) Tryz.func8 rfl Tryz.ntmps8 (by simp) ?_
  intro w hw
  have hT := hT0.ext (Ext.of_below hw.below)
  have hM := hM0.ext (Ext.of_below hw.below)
  have hg : ErrType w := (Ext.of_below hw.below).cell hg0
  have fin : ∀ (w' : World) (M : List HP), St w M w' → ∃ v L', Ending.returned (.bool true) = Ending.returned v ∧ (v = .bool true ∧ L' = L) ∧ St w0 L' w' ∧ Below w.heap.size w w' := fun w' M hs => ⟨_, _, rfl, ⟨rfl, rfl⟩, hw.below_step hs.below, hs.below⟩
  repeat ((with_reducible refine K.seq ?_))
  refine K.reg ?_
  refine KO.as rfl rfl ?_
  refine KO.nil ?_
  repeat (first | (with_reducible refine K.seq ?_) | (with_reducible refine KQ.next ?_))
  by_cases h8 : (800 : Int) < s.size
  · refine K.reg ?_
    refine KO.mv rfl rfl ?_
    refine KO.lenS rfl Tryz.underlying9 rfl ?_
    refine KO.gtr rfl rfl rfl ?_
    refine KO.nil ?_
    repeat ((with_reducible refine KQ.next ?_))
    refine K.condT rfl (by simp; omega) ?_
    repeat ((with_reducible refine K.seq ?_))
    refine K.reg ?_
    refine KO.as rfl rfl ?_
    refine KO.nil ?_
    repeat (first | (with_reducible refine KQ.next ?_) | (with_reducible refine KQ.then_ret ?_) | (with_reducible refine K.ret ?_))
    exact KQ.ret1 rfl rfl (fun w' hs => fin w' _ hs)
  refine K.reg ?_
  refine KO.mv rfl rfl ?_
  refine KO.lenS rfl Tryz.underlying9 rfl ?_
  refine KO.gtr rfl rfl rfl ?_
  refine KO.nil ?_
  repeat ((with_reducible refine KQ.next ?_))
  refine K.condF rfl (by simp; omega) ?_
  repeat (first | (with_reducible refine K.seq ?_) | (with_reducible refine KQ.next ?_) | (with_reducible refine K.skip ?_))
  cases hm : frd s with
  | none =>
    refine K.reg ?_
    refine KO.mv rfl rfl ?_
    refine KO.ce (cp := []) rfl rfl rfl Tryz.call48 rfl (rfread_e w _ s (by omega) hT hM) ?_; rintro v' L' hR; unfold RfR at hR; rw [hm] at hR; obtain ⟨rfl, rfl⟩ := hR
    refine KO.mv rfl rfl ?_
    refine KO.extrL rfl (by exact rfl) rfl ?_
    refine KO.extrL rfl (by exact rfl) rfl ?_
    refine KO.alloc rfl Tryz.zeroValue89 (by exact rfl) rfl ?_; intro b3
    refine KO.sto0 rfl rfl rfl (by exact rfl) (by exact Tryz.sizeOf89) (by exact rfl) (by with_reducible (repeat (exact Pick.head))) (by exact rfl) ?_
    refine KO.as rfl rfl ?_
    refine KO.nil ?_
    repeat (first | (with_reducible refine K.seq ?_) | (with_reducible refine KQ.next ?_))
    refine K.reg ?_
    refine KO.mv rfl rfl ?_
    refine KO.ce (cp := []) rfl rfl rfl Tryz.call49 rfl (fread_e w _ s (by omega) hT hM) ?_; rintro v' L' hR; unfold FrR at hR; rw [hm] at hR; obtain ⟨rfl, rfl⟩ := hR
    refine KO.mv rfl rfl ?_
    refine KO.extrL rfl (by exact rfl) rfl ?_
    refine KO.extrL rfl (by exact rfl) rfl ?_
    refine KO.alloc rfl Tryz.zeroValue92 (by exact rfl) rfl ?_; intro b5
    refine KO.sto0 rfl rfl rfl (by exact rfl) (by exact Tryz.sizeOf92) (by exact rfl) (by with_reducible (repeat (exact Pick.head))) (by exact rfl) ?_
    refine KO.as rfl rfl ?_
    refine KO.nil ?_
    repeat (first | (with_reducible refine K.seq ?_) | (with_reducible refine KQ.next ?_))
    refine K.reg ?_
    refine KO.mv rfl rfl ?_
    refine KO.mv rfl rfl ?_
    refine KO.ce (cp := []) rfl rfl rfl Tryz.call10 rfl (lbare_e w _ 3 3 hg) ?_; rintro v' L' ⟨rfl, rfl⟩
    refine KO.mv rfl rfl ?_
    (refine KO.on rfl rfl ?_ ?_; (focus rfl); (refine KO.fo0 (off := 0) rfl Tryz.runUnderlying92 rfl rfl Tryz.sizeOf3 rfl ?_))
    (refine KO.on rfl rfl ?_ ?_; (focus rfl); (refine KO.ld rfl rfl Tryz.isAgg3 (by with_reducible (repeat (exact Pick.head))) (by exact rfl) rfl ?_))
    (refine KO.on rfl rfl ?_ ?_; (focus rfl); (refine KO.fo0 (off := 0) rfl Tryz.runUnderlying89 rfl rfl Tryz.sizeOf3 rfl ?_))
    (refine KO.on rfl rfl ?_ ?_; (focus rfl); (refine KO.ld rfl rfl Tryz.isAgg3 (by with_reducible (repeat (first | exact Pick.head | apply Pick.tail))) (by exact rfl) rfl ?_))
    (refine KO.on rfl rfl ?_ ?_; (focus rfl); (refine KO.eqI rfl rfl rfl ?_))
    (refine KO.pickT rfl ?_ rfl rfl ?_; (focus rfl))
    refine KO.mv rfl rfl ?_
    (refine KO.on rfl rfl ?_ ?_; (focus rfl); (refine KO.fo0 (off := 1) rfl Tryz.runUnderlying92 rfl rfl Tryz.sizeOf3 rfl ?_))
    (refine KO.on rfl rfl ?_ ?_; (focus rfl); (refine KO.ld rfl rfl Tryz.isAgg3 (by with_reducible (repeat (exact Pick.head))) (by exact rfl) rfl ?_))
    (refine KO.on rfl rfl ?_ ?_; (focus rfl); (refine KO.fo0 (off := 1) rfl Tryz.runUnderlying89 rfl rfl Tryz.sizeOf3 rfl ?_))
    (refine KO.on rfl rfl ?_ ?_; (focus rfl); (refine KO.ld rfl rfl Tryz.isAgg3 (by with_reducible (repeat (first | exact Pick.head | apply Pick.tail))) (by exact rfl) rfl ?_))
    (refine KO.on rfl rfl ?_ ?_; (focus rfl); (refine KO.eqI rfl rfl rfl ?_))
    (refine KO.pickT rfl ?_ rfl rfl ?_; (focus rfl))
    refine KO.mv rfl rfl ?_
    (refine KO.on rfl rfl ?_ ?_; (focus rfl); (refine KO.fo0 (off := 2) rfl Tryz.runUnderlying92 rfl rfl Tryz.sizeOf4 rfl ?_))
    (refine KO.on rfl rfl ?_ ?_; (focus rfl); (refine KO.ld rfl rfl Tryz.isAgg4 (by with_reducible (repeat (exact Pick.head))) (by exact rfl) rfl ?_))
    (refine KO.on rfl rfl ?_ ?_; (focus rfl); (refine KO.fo0 (off := 2) rfl Tryz.runUnderlying89 rfl rfl Tryz.sizeOf4 rfl ?_))
    (refine KO.on rfl rfl ?_ ?_; (focus rfl); (refine KO.ld rfl rfl Tryz.isAgg4 (by with_reducible (repeat (first | exact Pick.head | apply Pick.tail))) (by exact rfl) rfl ?_))
    (refine KO.on rfl rfl ?_ ?_; (focus rfl); (refine KO.eqB rfl rfl Tryz.underlying4 rfl ?_))
    (refine KO.pickT rfl ?_ rfl rfl ?_; (focus rfl))
    refine KO.mv rfl rfl ?_
    (refine KO.on rfl rfl ?_ ?_; (focus rfl); (refine KO.fo0 (off := 3) rfl Tryz.runUnderlying92 rfl rfl Tryz.sizeOf50 rfl ?_))
    (refine KO.on rfl rfl ?_ ?_; (focus rfl); (refine KO.ld rfl rfl Tryz.isAgg50 (by with_reducible (repeat (exact Pick.head))) (by exact rfl) rfl ?_))
    (refine KO.on rfl rfl ?_ ?_; (focus rfl); (refine KO.fo0 (off := 3) rfl Tryz.runUnderlying89 rfl rfl Tryz.sizeOf50 rfl ?_))
    (refine KO.on rfl rfl ?_ ?_; (focus rfl); (refine KO.ld rfl rfl Tryz.isAgg50 (by with_reducible (repeat (first | exact Pick.head | apply Pick.tail))) (by exact rfl) rfl ?_))
    refine KO.on rfl rfl rfl ?_; refine KO.ce (cp := []) rfl rfl rfl Tryz.call22 rfl (sameA_e w _ _ _ [] [] (fun w' hw' => ⟨none, 0, rfl, fun i x h => by simp at h⟩) (fun w' hw' => ⟨none, 0, rfl, fun i x h => by simp at h⟩) (by simp) (by simp)) ?_; rintro v' L' ⟨rfl, rfl⟩
    (refine KO.pickT rfl ?_ rfl rfl ?_; (focus rfl))
    refine KO.as rfl rfl ?_
    refine KO.nil ?_
    repeat (first | (with_reducible refine KQ.next ?_) | (with_reducible refine K.ret ?_))
    refine KQ.ret1 rfl ?_ (fun w' hs => fin w' _ hs)
    simp [envAt]
  | some p =>
    obtain ⟨f, xs⟩ := p
    have hl := frd_len hm
    refine K.reg ?_
    refine KO.mv rfl rfl ?_
    refine KO.ce (cp := []) rfl rfl rfl Tryz.call48 rfl (rfread_e w _ s (by omega) hT hM) ?_; rintro v' L' hR; unfold RfR at hR; rw [hm] at hR; obtain ⟨v1, rfl, rfl⟩ := hR; refine KO.fact (fun w hw => SL_form hw) ?_; rintro ⟨sa, ca, rfl, _⟩
    refine KO.mv rfl rfl ?_
    refine KO.extrL rfl (by exact rfl) rfl ?_
    refine KO.extrL rfl (by exact rfl) rfl ?_
    refine KO.alloc rfl Tryz.zeroValue89 (by exact rfl) rfl ?_; intro b3
    refine KO.sto0 rfl rfl rfl (by exact rfl) (by exact Tryz.sizeOf89) (by exact rfl) (by with_reducible (repeat (exact Pick.head))) (by exact rfl) ?_
    refine KO.as rfl rfl ?_
    refine KO.nil ?_
    repeat (first | (with_reducible refine K.seq ?_) | (with_reducible refine KQ.next ?_))
    refine K.reg ?_
    refine KO.mv rfl rfl ?_
    refine KO.ce (cp := []) rfl rfl rfl Tryz.call49 rfl (fread_e w _ s (by omega) hT hM) ?_; rintro v' L' hR; unfold FrR at hR; rw [hm] at hR; obtain ⟨v2, rfl, rfl⟩ := hR; refine KO.fact (fun w hw => SL_form hw) ?_; rintro ⟨sb, cb, rfl, _⟩
    refine KO.mv rfl rfl ?_
    refine KO.extrL rfl (by exact rfl) rfl ?_
    refine KO.extrL rfl (by exact rfl) rfl ?_
    refine KO.alloc rfl Tryz.zeroValue92 (by exact rfl) rfl ?_; intro b5
    refine KO.sto0 rfl rfl rfl (by exact rfl) (by exact Tryz.sizeOf92) (by exact rfl) (by with_reducible (repeat (exact Pick.head))) (by exact rfl) ?_
    refine KO.as rfl rfl ?_
    refine KO.nil ?_
    repeat (first | (with_reducible refine K.seq ?_) | (with_reducible refine KQ.next ?_))
    refine K.reg ?_
    refine KO.mv rfl rfl ?_
    refine KO.mv rfl rfl ?_
    refine KO.ce (cp := []) rfl rfl rfl Tryz.call10 rfl (lbare_e w _ 0 0 hg) ?_; rintro v' L' ⟨rfl, rfl⟩
    refine KO.mv rfl rfl ?_
    (refine KO.on rfl rfl ?_ ?_; (focus rfl); (refine KO.fo0 (off := 0) rfl Tryz.runUnderlying92 rfl rfl Tryz.sizeOf3 rfl ?_))
    (refine KO.on rfl rfl ?_ ?_; (focus rfl); (refine KO.ld rfl rfl Tryz.isAgg3 (by with_reducible (repeat (exact Pick.head))) (by exact rfl) rfl ?_))
    (refine KO.on rfl rfl ?_ ?_; (focus rfl); (refine KO.fo0 (off := 0) rfl Tryz.runUnderlying89 rfl rfl Tryz.sizeOf3 rfl ?_))
    (refine KO.on rfl rfl ?_ ?_; (focus rfl); (refine KO.ld rfl rfl Tryz.isAgg3 (by with_reducible (repeat (first | exact Pick.head | apply Pick.tail))) (by exact rfl) rfl ?_))
    (refine KO.on rfl rfl ?_ ?_; (focus rfl); (refine KO.eqI rfl rfl rfl ?_))
    (refine KO.pickT rfl ?_ rfl rfl ?_; (focus rfl))
    refine KO.mv rfl rfl ?_
    (refine KO.on rfl rfl ?_ ?_; (focus (simp; done)); (refine KO.fo0 (off := 1) rfl Tryz.runUnderlying92 rfl rfl Tryz.sizeOf3 rfl ?_))
    (refine KO.on rfl rfl ?_ ?_; (focus (simp; done)); (refine KO.ld rfl rfl Tryz.isAgg3 (by with_reducible (repeat (exact Pick.head))) (by exact rfl) rfl ?_))
    (refine KO.on rfl rfl ?_ ?_; (focus (simp; done)); (refine KO.fo0 (off := 1) rfl Tryz.runUnderlying89 rfl rfl Tryz.sizeOf3 rfl ?_))
    (refine KO.on rfl rfl ?_ ?_; (focus (simp; done)); (refine KO.ld rfl rfl Tryz.isAgg3 (by with_reducible (repeat (first | exact Pick.head | apply Pick.tail))) (by exact rfl) rfl ?_))
    (refine KO.on rfl rfl ?_ ?_; (focus (simp; done)); (refine KO.eqI rfl rfl rfl ?_))
    (refine KO.pickT rfl ?_ rfl rfl ?_; (focus (simp; done)))
    refine KO.mv rfl rfl ?_
    (refine KO.on rfl rfl ?_ ?_; (focus (simp; done)); (refine KO.fo0 (off := 2) rfl Tryz.runUnderlying92 rfl rfl Tryz.sizeOf4 rfl ?_))
    (refine KO.on rfl rfl ?_ ?_; (focus (simp; done)); (refine KO.ld rfl rfl Tryz.isAgg4 (by with_reducible (repeat (exact Pick.head))) (by exact rfl) rfl ?_))
    (refine KO.on rfl rfl ?_ ?_; (focus (simp; done)); (refine KO.fo0 (off := 2) rfl Tryz.runUnderlying89 rfl rfl Tryz.sizeOf4 rfl ?_))
    (refine KO.on rfl rfl ?_ ?_; (focus (simp; done)); (refine KO.ld rfl rfl Tryz.isAgg4 (by with_reducible (repeat (first | exact Pick.head | apply Pick.tail))) (by exact rfl) rfl ?_))
    (refine KO.on rfl rfl ?_ ?_; (focus (simp; done)); (refine KO.eqB rfl rfl Tryz.underlying4 rfl ?_))
    (refine KO.pickT rfl ?_ rfl rfl ?_; (focus (simp; done)))
    refine KO.mv rfl rfl ?_
    (refine KO.on rfl rfl ?_ ?_; (focus (simp; done)); (refine KO.fo0 (off := 3) rfl Tryz.runUnderlying92 rfl rfl Tryz.sizeOf50 rfl ?_))
    (refine KO.on rfl rfl ?_ ?_; (focus (simp; done)); (refine KO.ld rfl rfl Tryz.isAgg50 (by with_reducible (repeat (exact Pick.head))) (by exact rfl) rfl ?_))
    (refine KO.on rfl rfl ?_ ?_; (focus (simp; done)); (refine KO.fo0 (off := 3) rfl Tryz.runUnderlying89 rfl rfl Tryz.sizeOf50 rfl ?_))
    (refine KO.on rfl rfl ?_ ?_; (focus (simp; done)); (refine KO.ld rfl rfl Tryz.isAgg50 (by with_reducible (repeat (first | exact Pick.head | apply Pick.tail))) (by exact rfl) rfl ?_))
    refine KO.on rfl rfl (by simp) ?_; refine KO.ce (cp := []) rfl rfl rfl Tryz.call22 rfl (sameA_e w _ _ _ xs xs (fun w' hw' => RdA.ofSL (fun _ => rfl) (by with_reducible (repeat (first | exact Pick.head | apply Pick.tail))) hw') (fun w' hw' => RdA.ofSL (fun _ => rfl) (.tail (.tail (.tail .head))) hw') (by omega) (by omega)) ?_; rintro v' L' ⟨rfl, rfl⟩
    (refine KO.pickT rfl ?_ rfl rfl ?_; (focus (simp; done)))
    refine KO.as rfl rfl ?_
    refine KO.nil ?_
    repeat (first | (with_reducible refine KQ.next ?_) | (with_reducible refine K.ret ?_))
    refine KQ.ret1 rfl ?_ (fun w' hs => fin w' _ hs)
    simp [envAt]
end Go.Proofs.YtjhogocabcdjbaaGreatDoor
/- rows that say 'leaving', of calls in which one goroutine runs from the first step to the last -/
namespace WB
open Go
theorem leaving_of_handed {a : Assume} {C : Checked} {os : Os} {f : FuncId} {r : Reach} {Pre : World → Array Value → Prop} {Post : World → Array Value → Value → World → Prop}
    (h : ReturnsInHanded a C os f r Pre Post) : ReturnsInLeavingWide a C os f r Pre Post := fun enter => by
  obtain ⟨h1, h2, h3, h4, h5⟩ := h enter
  refine ⟨h1, h2, h3, h4, fun w tape i hf => ?_⟩
  obtain ⟨n, v, w', k1, k2, k3, k4, ⟨j, last, k5, k6, k7⟩, k8⟩ := h5 w tape i hf
  exact ⟨n, v, w', k1, k2, k3, k4, ⟨j, last, k5, k6, k7.2.1, onlyLeaving_of_quiet k7.1, k7.2.2⟩, k8⟩
theorem holds_tied_goes (Lk : Looks) {p : Pinned} {s : OpenSpec} {c : OpenClaim} (kinds : List LaidKind) (tests : Bool) (har : Bool × String) (lk : Bool)
    (hc : c.holds p s) (hw : c.wfByText s = true) (htie : c.laidByTextAt Lk p kinds tests)
    (hst : c.start = .entering) (hnb : c.noBlocks = false ∧ c.again = false) (hm : p.checked.prog.mainIs = some (har.1, har.2.toList)) (hn : (!har.1 && har.2.isEmpty && !lk) = false)
    (hl : ∀ f fn, p.checked.prog.funcNamed c.func = some f → p.checked.prog.funcs[f]? = some fn → lk = p.checked.prog.looks [] ∧ ∀ (j : Nat) t, fn.params[j]? = some t → p.checked.prog.wantsStandIn t = false)
    (hg : true = c.goesBy p.checked.prog) :
    Claim7.holds p (.plain s) { stood := { row := c, standIns := [], harness := har, looks := lk }, kinds := [], alts := [], goes := true, laidByText := true, laidKinds := kinds, laidTests := tests, laidLooks := Lk } := by
  have h6 : Claim7.isSixth { stood := { row := c, standIns := [], harness := har, looks := lk }, kinds := [] } = false := by simpa [Claim7.isSixth] using hn
  exact ⟨Claim7.tied_new_at Lk kinds tests (Claim7.new_of_sixth hc har lk hst hnb hm h6 hl) hw, (fun D hD => by cases hD), htie, (fun h => by cases h), hg⟩
/-- the row's closed facts, reckoned apart -/
theorem joined_of {P : Program} {f : FuncId} {fn : Func} {s : ChangeSpec} {c : OpenClaim}
    (a1 : (c.wf (OpenSpec.ofChange s) && laidOutB P && mapsRowed P) = true)
    (a2 : (fn.params.all (P.readableRec ·) && namedTie P c.named s.vars && (c.stops == []) && (P.stops == []) && (c.knobs == []) && (P.stopKnobs == [])) = true)
    (a3 : (c.inPlace == P.inPlace f) = true) (a4 : (c.unfollowed == P.unfollowed f) = true) (a5 : (c.recurses == P.recurses f) = true) (a6 : (c.named == P.varsNamed f) = true)
    (a7 : ((c.maps == (fn.params.toList ++ s.plain.varTypes P).any (P.mapsRec ·)) && (c.ifaces == (fn.params.toList ++ s.plain.varTypes P).any (P.ifacesRec ·)) && (c.mapsOut == P.mapsAmong fn.resultTypes.toList) &&
      (c.loops == (fn.params.toList ++ s.plain.varTypes P).any (P.loopsFrom ·)) && (c.wideKeys == (fn.params.toList ++ s.plain.varTypes P ++ fn.resultTypes.toList).any (P.wideKeysFrom ·)) &&
      s.vars.all (P.varReadable ·) && fn.resultTypes.all (fun t => P.readableRec t && decide (t < P.types.size)) && (c.ifacesOut == fn.resultTypes.toList.any (P.ifacesRec ·)) && (c.loopsOut == fn.resultTypes.toList.any (P.loopsFrom ·)) && (c.plainKeys == P.plainKeys) && c.shortTexts.isNone) = true)
    (a8 : (P.stopsHeard && P.mayEnter && (c.lifted == P.liftsFinal) && (P.make == some c.make)) = true)
    (a9 : ((c.kinds == (if c.domain.isEmpty then [] else fn.params.toList.map fun t => match P.underlying t with | some (.int k) => some k | _ => none)) && (c.pinned == c.pinnedBy) &&
      (c.veiled == (fn.params.toList ++ s.plain.varTypes P ++ fn.resultTypes.toList).any (P.veiledRec ·)) && c.veiledFits P fn.params.toList (fn.params.toList ++ s.plain.varTypes P ++ fn.resultTypes.toList)) = true) :
    joinedFacts P f fn s c = true := by
  unfold joinedFacts
  simp only [Bool.and_eq_true] at a1 a2 a7 a8 a9 ⊢
  grind
end WB
/- waybilllaw.FrameReads: for every text the law returns true. No condition. -/
namespace Go.Proofs.YtjhogocabcdjbaaGreatDoor.freads
open Go Go.RowKit Go.ChangeShapes Go.WideShapes Go.ChangeAt Go.Deep WB
theorem own : ownKnob Tryz.prog.godebug = none := by kernel_rfl
theorem laidOut : laidOutB Tryz.prog = true := by kernel_rfl
theorem et : Tryz.prog.globalNamed "errors.errorType" = some 4 := by kernel_rfl
theorem rt : (Tryz.prog.cutTypes.find? (·.1 == "internal/reflectlite.rtype")).map (·.2) = some 300 := by kernel_rfl
theorem oneRow : ((List.range 482).filter fun t => Tryz.prog.rowNamed t [101, 114, 114, 111, 114]) = [37] := by kernel_rfl
theorem tsize : Tryz.prog.types.size = 482 := by kernel_rfl
theorem handle_of {W : World} (h : handlesMet Tryz.prog [("errors.errorType", Rows.laid_errors_errorType)] W) : ErrType W := by
  obtain ⟨name, u, ty, e1, e2, e3, e4, e5⟩ := h _ (List.mem_singleton.2 rfl)
  have en : name = [101, 114, 114, 111, 114] := (Option.some.inj e1).symm
  subst en
  obtain rfl := Option.some.inj (rt.symm.trans e2)
  have hm : ty ∈ (List.range 482).filter fun t => Tryz.prog.rowNamed t [101, 114, 114, 111, 114] := List.mem_filter.2 ⟨List.mem_range.2 (by rw [← tsize]; exact e3), e4⟩
  rw [oneRow] at hm
  obtain rfl := List.mem_singleton.1 hm
  have hh : typeHandle Tryz.prog 37 = .pointer (some ⟨10, 37, none⟩) := by kernel_rfl
  rw [hh] at e5
  have h1 := World.var?_cell et e5 0
  unfold ErrType
  simpa using h1
theorem handle_of_laid {W : World} (h : laidMetH Tryz.prog Rows.frameReadsRow.laid W) : ErrType W := handle_of h.2
/-- a world in which the listed variables lie -/
noncomputable def hold (os : Os) : World :=
  let w0 := World.holding Tryz.prog os ⟨#[], #[], []⟩
  { w0 with heap := w0.heap.modify 4 fun
      | .cells _ t frozen => .cells #[.iface 300 (.agg #[.pointer (some ⟨10, 37, none⟩)])] t frozen
      | o => o }
def data : List (String × DataW Unit) := [("math/bits.deBruijn32tab", Rows.laid_math_bits_deBruijn32tab), ("math/bits.deBruijn64tab", Rows.laid_math_bits_deBruijn64tab), ("internal/strconv.uint64pow10", Rows.laid_internal_strconv_uint64pow10), ("unicode/utf8.acceptRanges", Rows.laid_unicode_utf8_acceptRanges), ("strconv.ErrRange", Rows.laid_strconv_ErrRange), ("strconv.ErrSyntax", Rows.laid_strconv_ErrSyntax), ("unicode/utf8.first", Rows.laid_unicode_utf8_first)]
noncomputable def laidWorld (os : Os) : World := (hold os).layVars Tryz.prog data
theorem laidWorld_os (os : Os) : (laidWorld os).os = os := World.layVars_os _ _ _
set_option maxRecDepth 100000 in
theorem data_met (os : Os) (args : Array Value) : laidMet Tryz.prog data ((laidWorld os).forCall (fun _ _ => 0) ⟨#[], args, []⟩).memory := by
  have h : laidMet Tryz.prog data (laidWorld os) := laidMet_layVars (w0 := hold os) (data.map (·.1)) [] rfl (by kernel_rfl) (by kernel_rfl) LaidIn.none
  exact h.of_heap (by simp [World.memory, World.forCall, Input.heap])
set_option maxRecDepth 100000 in
theorem laid_met (os : Os) (args : Array Value) : laidMetH Tryz.prog Rows.frameReadsRow.laid ((laidWorld os).forCall (fun _ _ => 0) ⟨#[], args, []⟩).memory :=
  laidMetH_of_parts (data_met os args) (by kernel_rfl)
set_option maxRecDepth 100000 in
theorem laid_of {W : World} (h : laidMetH Tryz.prog Rows.frameReadsRow.laid W) : laidMet Tryz.prog data W := by
  have h1 := h.1
  rwa [show ((Rows.frameReadsRow.laid).filter fun x => x.2.handleName?.isNone) = data from by kernel_rfl] at h1
set_option maxRecDepth 100000 in
theorem tab_of {W : World} (h : laidMetH Tryz.prog Rows.frameReadsRow.laid W) : Tab W := by
  have h1 : laidMet Tryz.prog data W := laid_of h
  have hd : ("internal/strconv.uint64pow10", Lib.tabData .u64 Lib.pow10Tab) ∈ data := by
    have e : (Lib.tabData .u64 Lib.pow10Tab : DataW Unit) = Rows.laid_internal_strconv_uint64pow10 := by kernel_rfl
    rw [e]; unfold data; simp
  exact tab_of_laid h1 hd (g := 7) (by kernel_rfl) (by kernel_rfl) (n := 20) Tryz.underlying415 Tryz.underlying149 (by kernel_rfl) (by kernel_rfl)
theorem star : "*" ++ "errors.errorString" = "*errors.errorString" := by decide
theorem rowES (u : TypeId) (h : Tryz.prog.typeName? 3 u = some "*errors.errorString") : u = 417 :=
  typeName_ptr_named (nm := "errors.errorString") (by rw [star]; kernel_rfl) (by kernel_rfl) (by decide) u (by rw [star]; exact h)
set_option maxRecDepth 100000 in
theorem lim_of {W : World} (h : laidMetH Tryz.prog Rows.frameReadsRow.laid W) (hSh : W.ShapedOpen Tryz.prog) : Lim W := by
  have h1 : laidMet Tryz.prog [("strconv.ErrRange", Rows.laid_strconv_ErrRange), ("strconv.ErrSyntax", Rows.laid_strconv_ErrSyntax), ("unicode/utf8.first", Rows.laid_unicode_utf8_first)] W := (laid_of h).tail.tail.tail.tail
  obtain ⟨a0, s0, hv0, -, -, -⟩ := laid_sentinel h1 (show Tryz.prog.globalNamed "strconv.ErrRange" = some 3 by kernel_rfl) (show (Tryz.prog.globals[3]?).map (·.type) = some 37 by kernel_rfl) Tryz.underlying37 rowES Tryz.underlying417 Tryz.underlying419 rfl rfl Tryz.underlying9 (by kernel_rfl) (by kernel_rfl)
  obtain ⟨a1, s1, hv1, -, -, -⟩ := laid_sentinel h1.tail (show Tryz.prog.globalNamed "strconv.ErrSyntax" = some 2 by kernel_rfl) (show (Tryz.prog.globals[2]?).map (·.type) = some 37 by kernel_rfl) Tryz.underlying37 rowES Tryz.underlying417 Tryz.underlying419 rfl rfl Tryz.underlying9 (by kernel_rfl) (by kernel_rfl)
  exact ⟨Tryz.laysM146.s1_3 W hSh, ⟨_, _, by have := World.var?_cell (show Tryz.prog.globalNamed "strconv.ErrSyntax" = some 2 by kernel_rfl) hv1 0; simpa using this⟩, ⟨_, _, by have := World.var?_cell (show Tryz.prog.globalNamed "strconv.ErrRange" = some 3 by kernel_rfl) hv0 0; simpa using this⟩⟩
set_option maxRecDepth 100000 in
theorem contract (H : Type) (enc : TypeId × Value → H) (W : World) (base : Nat) (args : Array Value) (ds gs : List (DataW H)) (before : List MemPlace)
    (hval : ∀ (j : Nat) t v, Tryz.f8.params[j]? = some t → args[j]? = some v → Value.okWide Tryz.prog W .any base t v)
    (hW : DataW.Whole enc Tryz.prog Tryz.f8.params.toList Rows.frameReadsSpec.vars false W args.toList ds gs before) (hL : laidMetH Tryz.prog Rows.frameReadsRow.laid W) (hSh : W.ShapedOpen Tryz.prog) :
    Calls Tryz.prog 8 args W fun e W' => ∃ v, e = .returned v ∧ Rows.frameReadsSpec.post enc Tryz.prog Tryz.f8 false true false false W args v W' := by
  have hW' := hW
  obtain ⟨p, q, hA0, hV, rfl, hfz, hnd⟩ := hW
  have hA : DataW.TrodAll enc Tryz.prog W 0 (fun _ => true) true Tryz.f8.params.toList args.toList ds p := hA0
  have hA2 := hA
  rw [Tryz.params8] at hA hval
  obtain ⟨v0, d0, rfl, rfl, h0⟩ := trodAll_one hA
  obtain ⟨rfl, rfl⟩ := trodVars_none hV
  have hET := handle_of_laid hL
  obtain ⟨s, rfl, _, _, _⟩ := Go.ChangeMaps.open_string Tryz.underlying9 (hval 0 9 v0 rfl rfl) h0
  have hTab := tab_of hL
  have hLim := lim_of hL hSh
  have hlt : ∀ x ∈ p, x.block < W.heap.size := fun x hx => by
    have := hW'.lt x (List.mem_append_left _ hx)
    simpa using this
  have hwalk : Calls Tryz.prog 8 #[.string s] W fun e W' => e = .returned (.bool true) ∧ Below W.heap.size W W' := by
    refine (freads_e W [] s hTab hLim hET W (St.init W)).mono ?_
    rintro e W' ⟨v, L', rfl, ⟨rfl, _⟩, _, hb⟩
    exact ⟨rfl, hb⟩
  refine hwalk.mono fun e W' ⟨he, hb⟩ => ?_
  subst he
  simp only [List.append_nil] at hW'
  exact ⟨_, rfl, _, _, _, [], p, [], hW', trodAll_mk1 (shut_bool Tryz.underlying4 _), law_args laidOut hb (by kernel_rfl) hA2 hlt, rfl, hb.frame _, fun h => by cases h⟩
set_option maxRecDepth 100000 in
theorem reads (os : Os) {H : Type} (enc : TypeId × Value → H) : ∃ places, DataW.whole enc Tryz.prog ((laidWorld os).forCall (fun _ _ => 0) ⟨#[], #[.string ⟨#[]⟩], []⟩).memory Tryz.f8.params.toList Rows.frameReadsSpec.vars false (#[.string ⟨#[]⟩] : Array Value).toList 8 = some ([.lit (.string [])], [], places) :=
  ⟨[], by kernel_rfl⟩
set_option maxRecDepth 100000 in
theorem lifted (os : Os) (started : os.Started) (H : Type) (enc : TypeId × Value → H) (F : Stop.Interp) :
    ReturnsInHanded {} Tryz.checked os 8 .any ((OpenSpec.ofChange Rows.frameReadsSpec).preRow enc Tryz.prog Tryz.f8 Rows.frameReadsRow.domain false Rows.frameReadsRow.laid) (((OpenSpec.ofChange Rows.frameReadsSpec).at F).post enc Tryz.prog Tryz.f8 false true false false) := by
  obtain ⟨places, hx⟩ := reads os enc
  refine returnsInHanded_of_row (C := Tryz.checked) (s := OpenSpec.ofChange Rows.frameReadsSpec) own started (by kernel_rfl) Tryz.func8
    (witness_row_sh (enc := enc) (C := Tryz.checked) false (laidWorld os) #[.string ⟨#[]⟩] (laidWorld_os os) (World.shaped_of_ZipB (by kernel_rfl) (by kernel_rfl)) (by kernel_rfl)
      (OpenSpec.preRow_of_cond 8 hx (by kernel_rfl) (fun k hk => by cases hk) (by kernel_rfl) (laid_met os _))) ?_
  intro W base args ds gs before hval hW _ _ _ hL hSh _
  exact contract H enc W base args ds gs before hval hW hL hSh
theorem j1 : (Rows.frameReadsRow.wf (OpenSpec.ofChange Rows.frameReadsSpec) && laidOutB Tryz.prog && mapsRowed Tryz.prog) = true := by kernel_rfl
theorem j2 : (Tryz.f8.params.all (Tryz.prog.readableRec ·) && namedTie Tryz.prog Rows.frameReadsRow.named Rows.frameReadsSpec.vars && (Rows.frameReadsRow.stops == []) && (Tryz.prog.stops == []) && (Rows.frameReadsRow.knobs == []) && (Tryz.prog.stopKnobs == [])) = true := by kernel_rfl
theorem j3 : (Rows.frameReadsRow.inPlace == Tryz.prog.inPlace 8) = true := by kernel_rfl
theorem j4 : (Rows.frameReadsRow.unfollowed == Tryz.prog.unfollowed 8) = true := by kernel_rfl
theorem j5 : (Rows.frameReadsRow.recurses == Tryz.prog.recurses 8) = true := by kernel_rfl
theorem j6 : (Rows.frameReadsRow.named == Tryz.prog.varsNamed 8) = true := by kernel_rfl
theorem j8 : (Tryz.prog.stopsHeard && Tryz.prog.mayEnter && (Rows.frameReadsRow.lifted == Tryz.prog.liftsFinal) && (Tryz.prog.make == some Rows.frameReadsRow.make)) = true := by kernel_rfl
theorem closed : joinedFacts Tryz.prog 8 Tryz.f8 Rows.frameReadsSpec Rows.frameReadsRow = true := joined_of j1 j2 j3 j4 j5 j6 (by as_aux_lemma => kernel_rfl) j8 (by as_aux_lemma => kernel_rfl)
theorem said : Rows.FrameReadsSaid :=
  OpenClaim.holds_of_wide_leaving 8 Tryz.f8 rfl rfl rfl rfl rfl rfl rfl ⟨rfl, rfl, rfl, rfl, rfl⟩ rfl rfl rfl rfl rfl (by kernel_rfl) Tryz.func8 closed
    (of_decide_eq_true (by kernel_rfl)) (by unfold Func.isWrapper; first | (rw [if_pos (by decide +kernel)]; kernel_rfl) | (rw [if_neg (by decide +kernel)]; exact ⟨rfl, rfl⟩))
    (fun os started H enc _ => by rw [OpenClaim.pre_eq_preRow]; exact leaving_of_handed (lifted os started H enc (fun _ _ _ => 0)))
set_option maxRecDepth 100000 in
theorem plain (f : FuncId) (fn : Func) (hf : Tryz.pinned.checked.prog.funcNamed "waybill/waybilllaw.FrameReads" = some f) (hfn : Tryz.pinned.checked.prog.funcs[f]? = some fn) :
    true = Tryz.pinned.checked.prog.looks [] ∧ ∀ (j : Nat) t, fn.params[j]? = some t → Tryz.pinned.checked.prog.wantsStandIn t = false := by
  obtain rfl : f = 8 := Option.some.inj ((show Tryz.prog.funcNamed "waybill/waybilllaw.FrameReads" = some 8 by kernel_rfl).symm.trans hf) |>.symm
  obtain rfl : fn = Tryz.f8 := (Option.some.inj (Tryz.func8.symm.trans hfn)).symm
  refine ⟨by kernel_rfl, fun j t ht => ?_⟩
  rw [Tryz.params8] at ht
  have hm : t ∈ [9] := by simpa using Array.mem_of_getElem? ht
  have hall : ([9].all fun u => !Tryz.prog.wantsStandIn u) = true := by kernel_rfl
  exact (show Tryz.prog.wantsStandIn t = false by simpa using List.all_eq_true.1 hall t hm)
set_option maxRecDepth 100000 in
/-- the card -/
theorem card : Rows.FrameReadsCardSaid :=
  holds_tied_goes .later _ _ _ _ said (by kernel_rfl) frameReads_row_tie rfl ⟨rfl, rfl⟩ (by kernel_rfl) rfl plain (by kernel_rfl)
end Go.Proofs.YtjhogocabcdjbaaGreatDoor.freads
