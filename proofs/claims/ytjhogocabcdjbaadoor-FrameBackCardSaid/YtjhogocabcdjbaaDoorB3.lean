/- waybillkeep.FrameBack: for every frame and every text the law returns true, and the frame's list reads as it did. No condition. -/
import Derived.Test.YtjhogocabcdjbaaDoorCards
import Derived.Test.YtjhogocabcdjbaaDoorTie
import Derived.Stop.LaidErr
import Derived.ChangeMaps5
import Derived.Test.YtjhogocabcdjbaaDoorB2
set_option linter.unusedSimpArgs false
set_option linter.unusedVariables false
/- msg.Read: the walk -/
namespace Go.Proofs.YtjhogocabcdjbaaDoor
open Go Go.RowKit WB
def MrR (L : List HP) (s : ByteArray) (u : Value) (M : List HP) : Prop :=
  match mrd s with
  | some xs => ∃ v, u = .tuple #[v, .nilIface] ∧ M = SL 50 5 msC v xs :: L
  | none => u = .tuple #[.slice none 0 0, errV 37 3] ∧ M = L
def arr5 (x y z : Int) : Nat → List Value
  | 0 => [.int .i64 0, .int .i64 0, .int .i64 0, .int .i64 0, .int .i64 0]
  | 1 => [.int .i64 x, .int .i64 0, .int .i64 0, .int .i64 0, .int .i64 0]
  | 2 => [.int .i64 x, .int .i64 y, .int .i64 0, .int .i64 0, .int .i64 0]
  | _ => [.int .i64 x, .int .i64 y, .int .i64 0, .int .i64 0, .int .i64 z]
def rdP (b4 b3 b2 : Nat) (v e : Value) (xs : List Ms) : List HP := [blk b4 (.cells [v].toArray 57 (0, 0)), blk b3 (.cells [e].toArray 32 (0, 0)), blk b2 (.cells [.slice none 0 0].toArray 57 (0, 0)), SL 50 5 msC v xs]
def rdC (s : ByteArray) (b4 b3 b2 : Nat) (k : Nat) (M : List HP) : Prop := ∃ v xs, M = rdP b4 b3 b2 v .nilIface xs ∧ parseL ((pcs 43 s).take k) = some xs
def rdX (s : ByteArray) (b4 b3 b2 : Nat) (M : List HP) : Prop := (∃ v xs, M = rdP b4 b3 b2 v (errV 37 3) xs) ∧ parseL (pcs 43 s) = none
theorem msr_info : (Tryd.prog.info? 50).map (fun i => (i.zero, i.size, i.bytes)) = some (some (Value.agg #[.int .i64 0, .int .i64 0, .string ⟨#[]⟩, .string ⟨#[]⟩, .int .i64 0]), 5, 56) := by kernel_rfl
set_option maxRecDepth 100000 in
set_option maxHeartbeats 4000000 in
theorem mread_e (w0 : World) (L : List HP) (s : ByteArray) (hs : s.size ≤ 10000) (hT0 : Tab w0) (hM0 : Lim w0) : KE Tryd.prog 41 #[.string s] w0 L (MrR L s) := by
  refine KE.mkM (n := 74) Tryd.func41 rfl Tryd.ntmps41 (by simp) ?_
  intro w hw
  have hT := hT0.ext (Ext.of_below hw.below)
  have hM := hM0.ext (Ext.of_below hw.below)
  unfold MrR
  repeat ((with_reducible refine K.seq ?_))
  refine K.reg ?_
  refine KO.alloc rfl Tryd.zeroValue57 (by exact rfl) rfl ?_; intro b2
  refine KO.alloc rfl Tryd.zeroValue32 (by exact rfl) rfl ?_; intro b3
  refine KO.nil ?_
  repeat (first | (with_reducible refine K.seq ?_) | (with_reducible refine KQ.next ?_))
  by_cases h0 : s = ⟨#[]⟩
  · have e0 : mrd s = some [] := by unfold mrd; rw [if_pos h0]
    rw [e0]
    refine K.reg ?_
    refine KO.mv rfl rfl ?_
    refine KO.eqS rfl rfl rfl ?_
    refine KO.nil ?_
    repeat ((with_reducible refine KQ.next ?_))
    refine K.condT rfl (by simpa using h0) ?_
    repeat ((with_reducible refine K.seq ?_))
    refine K.reg ?_
    refine KO.sto0 rfl rfl rfl (by exact rfl) (by exact Tryd.sizeOf57) (by exact rfl) (by with_reducible (repeat (first | exact Pick.head | apply Pick.tail))) (by exact rfl) ?_
    refine KO.sto0 rfl rfl rfl (by exact rfl) (by exact Tryd.sizeOf32) (by exact rfl) (by with_reducible (repeat (first | exact Pick.head | apply Pick.tail))) (by exact rfl) ?_
    refine KO.nil ?_
    repeat (first | (with_reducible refine KQ.next ?_) | (with_reducible refine KQ.then_ret ?_) | (with_reducible refine K.ret ?_))
    refine KQ.retM2C rfl rfl rfl Tryd.isAgg57 Tryd.isAgg32 (by with_reducible (repeat (first | exact Pick.head | apply Pick.tail))) (by with_reducible (repeat (exact Pick.head))) (fun w' hs => ⟨_, _, rfl, ⟨_, rfl, rfl⟩, ?_, hs.below⟩)
    exact SL_nil (hw.below_step hs.below)
  refine K.reg ?_
  refine KO.mv rfl rfl ?_
  refine KO.eqS rfl rfl rfl ?_
  refine KO.nil ?_
  repeat ((with_reducible refine KQ.next ?_))
  refine K.condF rfl (by simpa using h0) ?_
  repeat (first | (with_reducible refine K.seq ?_) | (with_reducible refine KQ.next ?_) | (with_reducible refine K.skip ?_))
  refine K.reg ?_
  refine KO.alloc rfl Tryd.zeroValue57 (by exact rfl) rfl ?_; intro b4
  refine KO.nil ?_
  repeat (first | (with_reducible refine K.seq ?_) | (with_reducible refine KQ.next ?_))
  refine K.reg ?_
  refine KO.mv rfl rfl ?_
  refine KO.ce (cp := []) rfl rfl rfl Tryd.call65 rfl (seq_e w _ s ⟨#[43]⟩) ?_; rintro v' L' ⟨i4, i3, i5, rfl, rfl⟩
  refine KO.nil ?_
  refine KQ.next ?_
  refine K.block ?_
  refine K.conv (L' := itP i4 i3 i5 s ⟨#[43]⟩ ++ rdP b4 b3 b2 (.slice none 0 0) .nilIface []) (fun w hw => ?_) ?_
  · simp only [rdP, itP, List.cons_append, List.nil_append] at hw ⊢
    exact (SL_nil hw).all (by with_reducible repeat (first | exact PAll.refl | refine PAll.cons (by with_reducible repeat (first | exact Pick.head | apply Pick.tail)) ?_))
  have hlen : (pcs 43 s).length ≤ s.size + 1 := by unfold pcs; rw [List.length_map, pieces_len]; have := List.count_le_length (a := 43) (l := s.data.toList); rw [ba_size]; omega
  refine K.rangeSeq (rdC s b4 b3 b2) (rdX s b4 b3 b2) (G2 := fun q => [(5, .string q), (0, .string s), (2, .pointer (some ⟨b2, 0, none⟩)), (3, .pointer (some ⟨b3, 0, none⟩)), (4, .pointer (some ⟨b4, 0, none⟩))]) rfl rfl (by omega) ⟨_, _, rfl, rfl⟩ ?_ ?_ ?_ ?_
  · intro l N q
    refine KR.reg (by kernel_rfl) (fun a w h => by exact h) ?_
    refine KO.as rfl rfl ?_
    refine KO.nil ?_
    exact KQ.mid () trivial ⟨rfl, rfl, rfl, rfl, rfl, trivial⟩ (fun _ h => h)
  · rintro k q M l N RQ hq ⟨v, xs, rfl, hxs⟩ hno hgo hret
    have hxl : xs.length < 100000 := by have := parseL_len hxs; rw [List.length_take] at this; omega
    have hqs : q.size ≤ 10000 := by have := pcs_size (List.mem_of_getElem? hq); omega
    simp only [rdP, List.cons_append, List.nil_append]
    repeat (first | (with_reducible refine KR.seq ?_) | (with_reducible refine KR.block ?_))
    refine KR.reg (by kernel_rfl) (fun a w h => by exact hno a w h) ?_
    refine KO.mv rfl rfl ?_
    refine KO.ce (cp := []) rfl rfl rfl Tryd.call66 rfl (split_e w _ q 32 (by omega) hM) ?_; rintro v' L' ⟨bq, rfl, rfl⟩
    refine KO.as rfl rfl ?_
    refine KO.nil ?_
    repeat (first | (with_reducible refine KR.seq ?_) | (with_reducible refine KQ.nextR ?_))
    by_cases h5 : (pcs 32 q).length = 5
    case neg =>
      refine KR.reg (by kernel_rfl) (fun a w h => by exact hno a w h) ?_
      refine KO.mv rfl rfl ?_
      refine KO.len rfl Tryd.underlying24 rfl ?_
      refine KO.neI rfl rfl rfl ?_
      refine KO.nil ?_
      repeat ((with_reducible refine KQ.nextR ?_))
      refine KR.condT rfl (by simp; omega) ?_
      repeat ((with_reducible refine KR.seq ?_))
      refine KR.reg (by kernel_rfl) (fun a w h => by exact hno a w h) ?_
      refine KO.mki rfl (by kernel_rfl) rfl ?_
      refine KO.sto0 rfl rfl rfl (by exact rfl) (by exact Tryd.sizeOf57) (by exact rfl) (by with_reducible (repeat (first | exact Pick.head | apply Pick.tail))) (by exact rfl) ?_
      refine KO.sto0 rfl rfl rfl (by exact rfl) (by exact Tryd.sizeOf32) (by exact rfl) (by with_reducible (repeat (first | exact Pick.head | apply Pick.tail))) (by exact rfl) ?_
      refine KO.nil ?_
      repeat (first | (with_reducible refine KQ.nextR ?_) | (with_reducible refine KQ.then_ret ?_) | (with_reducible refine KQ.blk_ret ?_) | (with_reducible refine KR.ret ?_))
      refine KQ.conv (fun w hw => hw.all (M := rdP b4 b3 b2 v (errV 37 3) xs ++ N) (by repeat (first | exact PAll.refl | refine PAll.cons (by repeat (first | exact Pick.head | apply Pick.tail)) ?_ | apply PAll.drop))) ?_
      refine hret _ _ ⟨⟨_, _, rfl⟩, parseL_none (p := q) ?_ (List.mem_of_getElem? hq)⟩
      unfold parse1
      split
      · rename_i h; rw [h] at h5; exact absurd rfl h5
      · rfl
    refine KR.reg (by kernel_rfl) (fun a w h => by exact hno a w h) ?_
    refine KO.mv rfl rfl ?_
    refine KO.len rfl Tryd.underlying24 rfl ?_
    refine KO.neI rfl rfl rfl ?_
    refine KO.nil ?_
    repeat ((with_reducible refine KQ.nextR ?_))
    refine KR.condF rfl (by simp; omega) ?_
    repeat (first | (with_reducible refine KR.seq ?_) | (with_reducible refine KQ.nextR ?_) | (with_reducible refine KR.skip ?_))
    obtain ⟨wa, wb, wc, wd, we, hws⟩ : ∃ wa wb wc wd we, pcs 32 q = [wa, wb, wc, wd, we] := by
      generalize pcs 32 q = l at h5
      match l, h5 with
      | [a, b, c, d, e], _ => exact ⟨a, b, c, d, e, rfl⟩
    have hwz : ∀ x ∈ [wa, wb, wc, wd, we], x.size ≤ 100000000 := fun x hx => by have := pcs_size (c := 32) (s := q) (p := x) (by rw [hws]; exact hx); omega
    rw [hws]
    refine KR.reg (by kernel_rfl) (fun a w h => by exact hno a w h) ?_
    refine KO.alloc rfl Tryd.zeroValue119 (by exact rfl) rfl ?_; intro b7
    refine KO.nil ?_
    repeat (first | (with_reducible refine KR.seq ?_) | (with_reducible refine KQ.nextR ?_))
    refine KR.reg (by kernel_rfl) (fun a w h => by exact hno a w h) ?_
    refine KO.bld rfl (by intro w; go_simp; rfl) rfl ?_
    refine KO.mv rfl rfl ?_
    refine KO.nil ?_
    repeat (first | (with_reducible refine KQ.nextR ?_) | (with_reducible refine KR.block ?_))
    obtain ⟨x, hx⟩ : ∃ x, x = (numO wa).getD 0 := ⟨_, rfl⟩
    obtain ⟨y, hy⟩ : ∃ x, x = (numO wb).getD 0 := ⟨_, rfl⟩
    obtain ⟨z, hz⟩ : ∃ x, x = (numO we).getD 0 := ⟨_, rfl⟩
    refine KR.loop (fun i : Nat => [(26, .int .i64 (i : Nat)), (25, .agg [.int .i64 0, .int .i64 1, .int .i64 4].toArray), (7, .pointer (some ⟨b7, 0, none⟩)), (6, .slice (some ⟨bq, 0, none⟩) 5 5), (5, .string q), (0, .string s), (2, .pointer (some ⟨b2, 0, none⟩)), (3, .pointer (some ⟨b3, 0, none⟩)), (4, .pointer (some ⟨b4, 0, none⟩))])
      (fun i => blk b7 (.cells (arr5 x y z i).toArray 119 (0, 0)) :: strS (.slice (some ⟨bq, 0, none⟩) 5 5) [wa, wb, wc, wd, we] :: (rdP b4 b3 b2 v .nilIface xs ++ N))
      (fun i => i ≤ 3 ∧ (0 < i → numO wa = some x) ∧ (1 < i → numO wb = some y) ∧ (2 < i → numO we = some z)) (fun i => 3 - i) 0
      ⟨by omega, fun h => by omega, fun h => by omega, fun h => by omega⟩ ⟨rfl, rfl, rfl, rfl, rfl, rfl, rfl, rfl, rfl, trivial⟩ (fun w hw => hw.all (by repeat (exact PAll.refl))) ?_
    rintro i ⟨hi, hp1, hp2, hp3⟩
    have hcase : i = 0 ∨ i = 1 ∨ i = 2 ∨ i = 3 := by omega
    simp only [rdP, List.cons_append, List.nil_append]
    rcases hcase with rfl | rfl | rfl | rfl
    · -- round 0
      repeat ((with_reducible refine KR.seq ?_))
      refine KR.reg (by kernel_rfl) (fun a w h => by exact hno a w h) ?_
      refine KO.lss rfl rfl rfl ?_
      refine KO.nil ?_
      repeat (first | (with_reducible refine KR.seq ?_) | (with_reducible refine KQ.nextR ?_))
      refine KR.condT rfl rfl ?_
      repeat (first | (with_reducible refine KR.seq ?_) | (with_reducible refine KQ.nextR ?_) | (with_reducible refine KR.skip ?_) | (with_reducible refine KR.block ?_))
      refine KR.reg (by kernel_rfl) (fun a w h => by exact hno a w h) ?_
      refine KO.idxAg (cs := [.int .i64 0, .int .i64 1, .int .i64 4]) (i := 0) rfl rfl Tryd.underlying120 Tryd.isAgg3 Tryd.sizeOf3 rfl (by decide) rfl rfl ?_
      refine KO.as rfl rfl ?_
      refine KO.nil ?_
      repeat (first | (with_reducible refine KR.seq ?_) | (with_reducible refine KQ.nextR ?_))
      cases hn : numO wa with
      | none =>
        refine KR.reg (by kernel_rfl) (fun a w h => by exact hno a w h) ?_
        refine KO.mv rfl rfl ?_
        refine KO.mv rfl rfl ?_
        refine KO.idx0 (i := 0) rfl rfl Tryd.runUnderlying24 Tryd.sizeOf9 rfl (by decide) rfl ?_
        refine KO.ldE0 (i := 0) (sz := 1) (cf := strC) (e := wa) rfl rfl Tryd.isAgg9 (by with_reducible (repeat (first | exact Pick.head | apply Pick.tail))) (fun _ => rfl) rfl (by exact rfl) (by exact rfl) rfl ?_
        refine KO.ce (cp := []) rfl rfl rfl Tryd.call67 rfl (atoi_e w _ wa (hwz wa (by simp)) hM) ?_; rintro v' L' ⟨hR, rfl⟩; unfold atoiR at hR; rw [hn] at hR; obtain ⟨xx, TT, yy, rfl⟩ := hR
        refine KO.mv rfl rfl ?_
        refine KO.extrL rfl (by exact rfl) rfl ?_
        refine KO.extrL rfl (by exact rfl) rfl ?_
        refine KO.as rfl rfl ?_
        refine KO.as rfl rfl ?_
        refine KO.nil ?_
        repeat (first | (with_reducible refine KR.seq ?_) | (with_reducible refine KQ.nextR ?_))
        refine KR.reg (by kernel_rfl) (fun a w h => by exact hno a w h) ?_
        refine KO.mv rfl rfl ?_
        refine KO.neIf rfl (by kernel_rfl) rfl ?_
        refine KO.nil ?_
        repeat ((with_reducible refine KQ.nextR ?_))
        refine KR.condT rfl rfl ?_
        repeat ((with_reducible refine KR.seq ?_))
        refine KR.reg (by kernel_rfl) (fun a w h => by exact hno a w h) ?_
        refine KO.mki rfl (by kernel_rfl) rfl ?_
        refine KO.sto0 rfl rfl rfl (by exact rfl) (by exact Tryd.sizeOf57) (by exact rfl) (by with_reducible (repeat (first | exact Pick.head | apply Pick.tail))) (by exact rfl) ?_
        refine KO.sto0 rfl rfl rfl (by exact rfl) (by exact Tryd.sizeOf32) (by exact rfl) (by with_reducible (repeat (first | exact Pick.head | apply Pick.tail))) (by exact rfl) ?_
        refine KO.nil ?_
        repeat (first | (with_reducible refine KQ.nextR ?_) | (with_reducible refine KQ.then_ret ?_) | (with_reducible refine KQ.blk_ret ?_) | (with_reducible refine KR.ret ?_))
        refine KQ.conv (fun w hw => hw.all (M := rdP b4 b3 b2 v (errV 37 3) xs ++ N) (by repeat (first | exact PAll.refl | refine PAll.cons (by repeat (first | exact Pick.head | apply Pick.tail)) ?_ | apply PAll.drop))) ?_
        refine hret _ _ ⟨⟨_, _, rfl⟩, parseL_none (p := q) ?_ (List.mem_of_getElem? hq)⟩
        unfold parse1; rw [hws]; simp only []; rw [hn]
        all_goals (cases numO wa <;> cases numO wb <;> cases numO we <;> rfl)
      | some vv =>
        have hvx : vv = x := by rw [hx, hn]; rfl
        refine KR.reg (by kernel_rfl) (fun a w h => by exact hno a w h) ?_
        refine KO.mv rfl rfl ?_
        refine KO.mv rfl rfl ?_
        refine KO.idx0 (i := 0) rfl rfl Tryd.runUnderlying24 Tryd.sizeOf9 rfl (by decide) rfl ?_
        refine KO.ldE0 (i := 0) (sz := 1) (cf := strC) (e := wa) rfl rfl Tryd.isAgg9 (by with_reducible (repeat (first | exact Pick.head | apply Pick.tail))) (fun _ => rfl) rfl (by exact rfl) (by exact rfl) rfl ?_
        refine KO.ce (cp := []) rfl rfl rfl Tryd.call67 rfl (atoi_e w _ wa (hwz wa (by simp)) hM) ?_; rintro v' L' ⟨hR, rfl⟩; unfold atoiR at hR; rw [hn] at hR; subst hR
        refine KO.mv rfl rfl ?_
        refine KO.extrL rfl (by exact rfl) rfl ?_
        refine KO.extrL rfl (by exact rfl) rfl ?_
        refine KO.as rfl rfl ?_
        refine KO.as rfl rfl ?_
        refine KO.nil ?_
        repeat (first | (with_reducible refine KR.seq ?_) | (with_reducible refine KQ.nextR ?_))
        refine KR.reg (by kernel_rfl) (fun a w h => by exact hno a w h) ?_
        refine KO.mv rfl rfl ?_
        refine KO.neI0 rfl (by kernel_rfl) rfl ?_
        refine KO.nil ?_
        repeat ((with_reducible refine KQ.nextR ?_))
        refine KR.condF rfl rfl ?_
        repeat (first | (with_reducible refine KQ.nextR ?_) | (with_reducible refine KR.skip ?_))
        refine KR.reg (by kernel_rfl) (fun a w h => by exact hno a w h) ?_
        refine KO.mv rfl rfl ?_
        refine KO.mv rfl rfl ?_
        refine KO.idxA (i := 0) rfl rfl Tryd.runUnderlying119 Tryd.sizeOf3 rfl (by decide) rfl ?_
        refine KO.stAt (i := 0) rfl rfl rfl (by exact rfl) (by exact Tryd.sizeOf3) rfl (by with_reducible (repeat (exact Pick.head))) (by rfl) (by simp [arr5]) ?_
        refine KO.nil ?_
        repeat (first | (with_reducible refine KQ.nextR ?_) | (with_reducible refine KQ.blk_normal ?_))
        refine KR.reg (by kernel_rfl) (fun a w h => by exact hno a w h) ?_
        refine KO.add rfl rfl rfl (by omega) rfl ?_
        refine KO.mv rfl rfl ?_
        refine KO.nil ?_
        subst hvx
        refine KQ.round 1 ⟨by omega, fun h => ?_, fun h => ?_, fun h => ?_⟩ (by decide) ⟨rfl, rfl, rfl, rfl, rfl, rfl, rfl, rfl, rfl, trivial⟩ (fun w hw => hw.all (by repeat (exact PAll.refl)))
        all_goals first | omega | rfl
    · -- round 1
      repeat ((with_reducible refine KR.seq ?_))
      refine KR.reg (by kernel_rfl) (fun a w h => by exact hno a w h) ?_
      refine KO.lss rfl rfl rfl ?_
      refine KO.nil ?_
      repeat (first | (with_reducible refine KR.seq ?_) | (with_reducible refine KQ.nextR ?_))
      refine KR.condT rfl rfl ?_
      repeat (first | (with_reducible refine KR.seq ?_) | (with_reducible refine KQ.nextR ?_) | (with_reducible refine KR.skip ?_) | (with_reducible refine KR.block ?_))
      refine KR.reg (by kernel_rfl) (fun a w h => by exact hno a w h) ?_
      refine KO.idxAg (cs := [.int .i64 0, .int .i64 1, .int .i64 4]) (i := 1) rfl rfl Tryd.underlying120 Tryd.isAgg3 Tryd.sizeOf3 rfl (by decide) rfl rfl ?_
      refine KO.as rfl rfl ?_
      refine KO.nil ?_
      repeat (first | (with_reducible refine KR.seq ?_) | (with_reducible refine KQ.nextR ?_))
      cases hn : numO wb with
      | none =>
        refine KR.reg (by kernel_rfl) (fun a w h => by exact hno a w h) ?_
        refine KO.mv rfl rfl ?_
        refine KO.mv rfl rfl ?_
        refine KO.idx0 (i := 1) rfl rfl Tryd.runUnderlying24 Tryd.sizeOf9 rfl (by decide) rfl ?_
        refine KO.ldE0 (i := 1) (sz := 1) (cf := strC) (e := wb) rfl rfl Tryd.isAgg9 (by with_reducible (repeat (first | exact Pick.head | apply Pick.tail))) (fun _ => rfl) rfl (by exact rfl) (by exact rfl) rfl ?_
        refine KO.ce (cp := []) rfl rfl rfl Tryd.call67 rfl (atoi_e w _ wb (hwz wb (by simp)) hM) ?_; rintro v' L' ⟨hR, rfl⟩; unfold atoiR at hR; rw [hn] at hR; obtain ⟨xx, TT, yy, rfl⟩ := hR
        refine KO.mv rfl rfl ?_
        refine KO.extrL rfl (by exact rfl) rfl ?_
        refine KO.extrL rfl (by exact rfl) rfl ?_
        refine KO.as rfl rfl ?_
        refine KO.as rfl rfl ?_
        refine KO.nil ?_
        repeat (first | (with_reducible refine KR.seq ?_) | (with_reducible refine KQ.nextR ?_))
        refine KR.reg (by kernel_rfl) (fun a w h => by exact hno a w h) ?_
        refine KO.mv rfl rfl ?_
        refine KO.neIf rfl (by kernel_rfl) rfl ?_
        refine KO.nil ?_
        repeat ((with_reducible refine KQ.nextR ?_))
        refine KR.condT rfl rfl ?_
        repeat ((with_reducible refine KR.seq ?_))
        refine KR.reg (by kernel_rfl) (fun a w h => by exact hno a w h) ?_
        refine KO.mki rfl (by kernel_rfl) rfl ?_
        refine KO.sto0 rfl rfl rfl (by exact rfl) (by exact Tryd.sizeOf57) (by exact rfl) (by with_reducible (repeat (first | exact Pick.head | apply Pick.tail))) (by exact rfl) ?_
        refine KO.sto0 rfl rfl rfl (by exact rfl) (by exact Tryd.sizeOf32) (by exact rfl) (by with_reducible (repeat (first | exact Pick.head | apply Pick.tail))) (by exact rfl) ?_
        refine KO.nil ?_
        repeat (first | (with_reducible refine KQ.nextR ?_) | (with_reducible refine KQ.then_ret ?_) | (with_reducible refine KQ.blk_ret ?_) | (with_reducible refine KR.ret ?_))
        refine KQ.conv (fun w hw => hw.all (M := rdP b4 b3 b2 v (errV 37 3) xs ++ N) (by repeat (first | exact PAll.refl | refine PAll.cons (by repeat (first | exact Pick.head | apply Pick.tail)) ?_ | apply PAll.drop))) ?_
        refine hret _ _ ⟨⟨_, _, rfl⟩, parseL_none (p := q) ?_ (List.mem_of_getElem? hq)⟩
        unfold parse1; rw [hws]; simp only []; rw [hn]
        all_goals (cases numO wa <;> cases numO wb <;> cases numO we <;> rfl)
      | some vv =>
        have hvx : vv = y := by rw [hy, hn]; rfl
        refine KR.reg (by kernel_rfl) (fun a w h => by exact hno a w h) ?_
        refine KO.mv rfl rfl ?_
        refine KO.mv rfl rfl ?_
        refine KO.idx0 (i := 1) rfl rfl Tryd.runUnderlying24 Tryd.sizeOf9 rfl (by decide) rfl ?_
        refine KO.ldE0 (i := 1) (sz := 1) (cf := strC) (e := wb) rfl rfl Tryd.isAgg9 (by with_reducible (repeat (first | exact Pick.head | apply Pick.tail))) (fun _ => rfl) rfl (by exact rfl) (by exact rfl) rfl ?_
        refine KO.ce (cp := []) rfl rfl rfl Tryd.call67 rfl (atoi_e w _ wb (hwz wb (by simp)) hM) ?_; rintro v' L' ⟨hR, rfl⟩; unfold atoiR at hR; rw [hn] at hR; subst hR
        refine KO.mv rfl rfl ?_
        refine KO.extrL rfl (by exact rfl) rfl ?_
        refine KO.extrL rfl (by exact rfl) rfl ?_
        refine KO.as rfl rfl ?_
        refine KO.as rfl rfl ?_
        refine KO.nil ?_
        repeat (first | (with_reducible refine KR.seq ?_) | (with_reducible refine KQ.nextR ?_))
        refine KR.reg (by kernel_rfl) (fun a w h => by exact hno a w h) ?_
        refine KO.mv rfl rfl ?_
        refine KO.neI0 rfl (by kernel_rfl) rfl ?_
        refine KO.nil ?_
        repeat ((with_reducible refine KQ.nextR ?_))
        refine KR.condF rfl rfl ?_
        repeat (first | (with_reducible refine KQ.nextR ?_) | (with_reducible refine KR.skip ?_))
        refine KR.reg (by kernel_rfl) (fun a w h => by exact hno a w h) ?_
        refine KO.mv rfl rfl ?_
        refine KO.mv rfl rfl ?_
        refine KO.idxA (i := 1) rfl rfl Tryd.runUnderlying119 Tryd.sizeOf3 rfl (by decide) rfl ?_
        refine KO.stAt (i := 1) rfl rfl rfl (by exact rfl) (by exact Tryd.sizeOf3) rfl (by with_reducible (repeat (exact Pick.head))) (by rfl) (by simp [arr5]) ?_
        refine KO.nil ?_
        repeat (first | (with_reducible refine KQ.nextR ?_) | (with_reducible refine KQ.blk_normal ?_))
        refine KR.reg (by kernel_rfl) (fun a w h => by exact hno a w h) ?_
        refine KO.add rfl rfl rfl (by omega) rfl ?_
        refine KO.mv rfl rfl ?_
        refine KO.nil ?_
        subst hvx
        refine KQ.round 2 ⟨by omega, fun h => ?_, fun h => ?_, fun h => ?_⟩ (by decide) ⟨rfl, rfl, rfl, rfl, rfl, rfl, rfl, rfl, rfl, trivial⟩ (fun w hw => hw.all (by repeat (exact PAll.refl)))
        all_goals first | omega | rfl | exact hp1 (by omega)
    · -- round 2
      repeat ((with_reducible refine KR.seq ?_))
      refine KR.reg (by kernel_rfl) (fun a w h => by exact hno a w h) ?_
      refine KO.lss rfl rfl rfl ?_
      refine KO.nil ?_
      repeat (first | (with_reducible refine KR.seq ?_) | (with_reducible refine KQ.nextR ?_))
      refine KR.condT rfl rfl ?_
      repeat (first | (with_reducible refine KR.seq ?_) | (with_reducible refine KQ.nextR ?_) | (with_reducible refine KR.skip ?_) | (with_reducible refine KR.block ?_))
      refine KR.reg (by kernel_rfl) (fun a w h => by exact hno a w h) ?_
      refine KO.idxAg (cs := [.int .i64 0, .int .i64 1, .int .i64 4]) (i := 2) rfl rfl Tryd.underlying120 Tryd.isAgg3 Tryd.sizeOf3 rfl (by decide) rfl rfl ?_
      refine KO.as rfl rfl ?_
      refine KO.nil ?_
      repeat (first | (with_reducible refine KR.seq ?_) | (with_reducible refine KQ.nextR ?_))
      cases hn : numO we with
      | none =>
        refine KR.reg (by kernel_rfl) (fun a w h => by exact hno a w h) ?_
        refine KO.mv rfl rfl ?_
        refine KO.mv rfl rfl ?_
        refine KO.idx0 (i := 4) rfl rfl Tryd.runUnderlying24 Tryd.sizeOf9 rfl (by decide) rfl ?_
        refine KO.ldE0 (i := 4) (sz := 1) (cf := strC) (e := we) rfl rfl Tryd.isAgg9 (by with_reducible (repeat (first | exact Pick.head | apply Pick.tail))) (fun _ => rfl) rfl (by exact rfl) (by exact rfl) rfl ?_
        refine KO.ce (cp := []) rfl rfl rfl Tryd.call67 rfl (atoi_e w _ we (hwz we (by simp)) hM) ?_; rintro v' L' ⟨hR, rfl⟩; unfold atoiR at hR; rw [hn] at hR; obtain ⟨xx, TT, yy, rfl⟩ := hR
        refine KO.mv rfl rfl ?_
        refine KO.extrL rfl (by exact rfl) rfl ?_
        refine KO.extrL rfl (by exact rfl) rfl ?_
        refine KO.as rfl rfl ?_
        refine KO.as rfl rfl ?_
        refine KO.nil ?_
        repeat (first | (with_reducible refine KR.seq ?_) | (with_reducible refine KQ.nextR ?_))
        refine KR.reg (by kernel_rfl) (fun a w h => by exact hno a w h) ?_
        refine KO.mv rfl rfl ?_
        refine KO.neIf rfl (by kernel_rfl) rfl ?_
        refine KO.nil ?_
        repeat ((with_reducible refine KQ.nextR ?_))
        refine KR.condT rfl rfl ?_
        repeat ((with_reducible refine KR.seq ?_))
        refine KR.reg (by kernel_rfl) (fun a w h => by exact hno a w h) ?_
        refine KO.mki rfl (by kernel_rfl) rfl ?_
        refine KO.sto0 rfl rfl rfl (by exact rfl) (by exact Tryd.sizeOf57) (by exact rfl) (by with_reducible (repeat (first | exact Pick.head | apply Pick.tail))) (by exact rfl) ?_
        refine KO.sto0 rfl rfl rfl (by exact rfl) (by exact Tryd.sizeOf32) (by exact rfl) (by with_reducible (repeat (first | exact Pick.head | apply Pick.tail))) (by exact rfl) ?_
        refine KO.nil ?_
        repeat (first | (with_reducible refine KQ.nextR ?_) | (with_reducible refine KQ.then_ret ?_) | (with_reducible refine KQ.blk_ret ?_) | (with_reducible refine KR.ret ?_))
        refine KQ.conv (fun w hw => hw.all (M := rdP b4 b3 b2 v (errV 37 3) xs ++ N) (by repeat (first | exact PAll.refl | refine PAll.cons (by repeat (first | exact Pick.head | apply Pick.tail)) ?_ | apply PAll.drop))) ?_
        refine hret _ _ ⟨⟨_, _, rfl⟩, parseL_none (p := q) ?_ (List.mem_of_getElem? hq)⟩
        unfold parse1; rw [hws]; simp only []; rw [hn]
        all_goals (cases numO wa <;> cases numO wb <;> cases numO we <;> rfl)
      | some vv =>
        have hvx : vv = z := by rw [hz, hn]; rfl
        refine KR.reg (by kernel_rfl) (fun a w h => by exact hno a w h) ?_
        refine KO.mv rfl rfl ?_
        refine KO.mv rfl rfl ?_
        refine KO.idx0 (i := 4) rfl rfl Tryd.runUnderlying24 Tryd.sizeOf9 rfl (by decide) rfl ?_
        refine KO.ldE0 (i := 4) (sz := 1) (cf := strC) (e := we) rfl rfl Tryd.isAgg9 (by with_reducible (repeat (first | exact Pick.head | apply Pick.tail))) (fun _ => rfl) rfl (by exact rfl) (by exact rfl) rfl ?_
        refine KO.ce (cp := []) rfl rfl rfl Tryd.call67 rfl (atoi_e w _ we (hwz we (by simp)) hM) ?_; rintro v' L' ⟨hR, rfl⟩; unfold atoiR at hR; rw [hn] at hR; subst hR
        refine KO.mv rfl rfl ?_
        refine KO.extrL rfl (by exact rfl) rfl ?_
        refine KO.extrL rfl (by exact rfl) rfl ?_
        refine KO.as rfl rfl ?_
        refine KO.as rfl rfl ?_
        refine KO.nil ?_
        repeat (first | (with_reducible refine KR.seq ?_) | (with_reducible refine KQ.nextR ?_))
        refine KR.reg (by kernel_rfl) (fun a w h => by exact hno a w h) ?_
        refine KO.mv rfl rfl ?_
        refine KO.neI0 rfl (by kernel_rfl) rfl ?_
        refine KO.nil ?_
        repeat ((with_reducible refine KQ.nextR ?_))
        refine KR.condF rfl rfl ?_
        repeat (first | (with_reducible refine KQ.nextR ?_) | (with_reducible refine KR.skip ?_))
        refine KR.reg (by kernel_rfl) (fun a w h => by exact hno a w h) ?_
        refine KO.mv rfl rfl ?_
        refine KO.mv rfl rfl ?_
        refine KO.idxA (i := 4) rfl rfl Tryd.runUnderlying119 Tryd.sizeOf3 rfl (by decide) rfl ?_
        refine KO.stAt (i := 4) rfl rfl rfl (by exact rfl) (by exact Tryd.sizeOf3) rfl (by with_reducible (repeat (exact Pick.head))) (by rfl) (by simp [arr5]) ?_
        refine KO.nil ?_
        repeat (first | (with_reducible refine KQ.nextR ?_) | (with_reducible refine KQ.blk_normal ?_))
        refine KR.reg (by kernel_rfl) (fun a w h => by exact hno a w h) ?_
        refine KO.add rfl rfl rfl (by omega) rfl ?_
        refine KO.mv rfl rfl ?_
        refine KO.nil ?_
        subst hvx
        refine KQ.round 3 ⟨by omega, fun h => ?_, fun h => ?_, fun h => ?_⟩ (by decide) ⟨rfl, rfl, rfl, rfl, rfl, rfl, rfl, rfl, rfl, trivial⟩ (fun w hw => hw.all (by repeat (exact PAll.refl)))
        all_goals first | rfl | exact hp1 (by omega) | exact hp2 (by omega)
    · repeat ((with_reducible refine KR.seq ?_))
      refine KR.reg (by kernel_rfl) (fun a w h => by exact hno a w h) ?_
      refine KO.lss rfl rfl rfl ?_
      refine KO.nil ?_
      repeat (first | (with_reducible refine KR.seq ?_) | (with_reducible refine KQ.nextR ?_))
      refine KR.condF rfl rfl ?_
      repeat (first | (with_reducible refine KQ.nextR ?_) | (with_reducible refine KQ.then_exit ?_) | (with_reducible refine KQ.blk_exit ?_) | (with_reducible refine KR.exit ?_))
      refine KR.draw [.read, .pure, .read, .pure, .read, .pure, .pure, .read, .pure, .pure, .read, .pure, .read, .pure, .keep, .write, .write] [0, 1, 2, 3, 4, 5, 6, 7, 8, 9, 10, 11, 12, 13, 14, 15, 16] (by kernel_rfl) (by kernel_rfl) (by kernel_rfl) (fun a w h => by exact hno a w h) ?_
      refine KO.ld rfl rfl Tryd.isAgg57 (by with_reducible (repeat (first | exact Pick.head | apply Pick.tail))) (by exact rfl) rfl ?_
      refine KO.idxA (i := 0) rfl rfl Tryd.runUnderlying119 Tryd.sizeOf3 rfl (by decide) rfl ?_
      refine KO.ld rfl rfl Tryd.isAgg3 (by with_reducible (repeat (exact Pick.head))) (by exact rfl) rfl ?_
      refine KO.idxA (i := 1) rfl rfl Tryd.runUnderlying119 Tryd.sizeOf3 rfl (by decide) rfl ?_
      refine KO.ld rfl rfl Tryd.isAgg3 (by with_reducible (repeat (exact Pick.head))) (by exact rfl) rfl ?_
      refine KO.mv rfl rfl ?_
      refine KO.idx0 (i := 2) rfl rfl Tryd.runUnderlying24 Tryd.sizeOf9 rfl (by decide) rfl ?_
      refine KO.ldE0 (i := 2) (sz := 1) (cf := strC) (e := wc) rfl rfl Tryd.isAgg9 (by with_reducible (repeat (first | exact Pick.head | apply Pick.tail))) (fun _ => rfl) rfl (by exact rfl) (by exact rfl) rfl ?_
      refine KO.mv rfl rfl ?_
      refine KO.idx0 (i := 3) rfl rfl Tryd.runUnderlying24 Tryd.sizeOf9 rfl (by decide) rfl ?_
      refine KO.ldE0 (i := 3) (sz := 1) (cf := strC) (e := wd) rfl rfl Tryd.isAgg9 (by with_reducible (repeat (first | exact Pick.head | apply Pick.tail))) (fun _ => rfl) rfl (by exact rfl) (by exact rfl) rfl ?_
      refine KO.idxA (i := 4) rfl rfl Tryd.runUnderlying119 Tryd.sizeOf3 rfl (by decide) rfl ?_
      refine KO.ld rfl rfl Tryd.isAgg3 (by with_reducible (repeat (exact Pick.head))) (by exact rfl) rfl ?_
      refine KO.bldN (pl := [(0, 1), (1, 1), (2, 1), (3, 1), (4, 1)]) rfl Tryd.zeroValue50 Tryd.runUnderlying50 (by intro w; simp [Tryd.sizeOf3, Tryd.sizeOf9]) (by exact rfl) rfl ?_
      refine KO.bs1 (z := (Value.agg #[.int .i64 0, .int .i64 0, .string ⟨#[]⟩, .string ⟨#[]⟩, .int .i64 0])) (sz := 5) (by' := 56) rfl rfl Tryd.underlying57 (by kernel_rfl) (by exact rfl) (by exact rfl) (by decide) (by decide) rfl ?_; intro b58
      refine KO.app (z := Value.agg #[.int .i64 0, .int .i64 0, .string ⟨#[]⟩, .string ⟨#[]⟩, .int .i64 0]) (sz := 5) (by' := 56) rfl rfl rfl (by with_reducible (repeat (first | exact Pick.head | apply Pick.tail))) (by with_reducible (repeat (exact Pick.head))) Tryd.underlying57 msr_info rfl (⟨x, y, wc, wd, z⟩ : Ms) (by exact rfl) (by exact rfl) (by exact rfl) (by omega) (by decide) rfl ?_; intro v'; refine KO.fact (fun w hw => SL_form hw) ?_; rintro ⟨sa, cp, rfl, _⟩
      refine KO.sto0 rfl rfl rfl (by exact rfl) (by exact Tryd.sizeOf57) (by exact rfl) (by with_reducible (repeat (first | exact Pick.head | apply Pick.tail))) (by exact rfl) ?_
      refine KO.nil ?_
      repeat ((with_reducible refine KQ.blk_normal ?_))
      refine KQ.conv (fun w hw => hw.all (M := rdP b4 b3 b2 (.slice sa (xs ++ [(⟨x, y, wc, wd, z⟩ : Ms)]).length cp) .nilIface (xs ++ [(⟨x, y, wc, wd, z⟩ : Ms)]) ++ N) (by repeat (first | exact PAll.refl | refine PAll.cons (by repeat (first | exact Pick.head | apply Pick.tail)) ?_ | apply PAll.drop))) ?_
      have hpm : parse1 q = some ⟨x, y, wc, wd, z⟩ := by
        unfold parse1; rw [hws]; simp only []; rw [hp1 (by omega), hp2 (by omega), hp3 (by omega)]
      refine hgo _ _ ⟨_, _, rfl, ?_⟩
      rw [take_succ_some hq, parseL_snoc hxs, hpm]; rfl
  · rintro b M ⟨v, xs, rfl, hxs⟩
    rw [List.take_length] at hxs
    have hxl : xs.length ≤ 100000 := by have := parseL_len hxs; omega
    have hms : ∀ m ∈ xs, m.body.size ≤ maxLen ∧ m.queue.size ≤ maxLen := fun m hm => by
      have := parseL_size (B := 10000) hxs (fun p hp => by have := pcs_size hp; omega) m hm
      unfold maxLen; omega
    have hmr : mrd s = if badI xs = none ∧ writeS xs = s then some xs else none := by unfold mrd; rw [if_neg h0, hxs]
    rw [hmr]
    simp only [rdP]
    repeat (first | (with_reducible refine K.seq ?_) | (with_reducible refine KQ.next ?_) | (with_reducible refine KQ.blk_normal ?_))
    refine K.fact (fun w hw => SL_form (hw.pick (.tail (.tail (.tail (.tail .head)))))) ?_
    rintro ⟨sa, cp, rfl, _⟩
    cases hb : badI xs with
    | some kb =>
      rw [if_neg (by simp)]
      refine K.reg ?_
      refine KO.ld rfl rfl Tryd.isAgg57 (by with_reducible (repeat (first | exact Pick.head | apply Pick.tail))) (by exact rfl) rfl ?_
      refine KO.ce (cp := []) rfl rfl rfl Tryd.call26 rfl (mwrite_e w _ _ xs (fun w' hw' => RdA.ofSL (fun _ => rfl) (by with_reducible (repeat (first | exact Pick.head | apply Pick.tail))) hw') hT hms hxl) ?_; rintro v' L' hR; unfold MwR at hR; rw [hb] at hR; obtain ⟨be, rfl, rfl⟩ := hR; unfold atV
      refine KO.mv rfl rfl ?_
      refine KO.extrL rfl (by exact rfl) rfl ?_
      refine KO.extrL rfl (by exact rfl) rfl ?_
      refine KO.as rfl rfl ?_
      refine KO.as rfl rfl ?_
      refine KO.nil ?_
      repeat (first | (with_reducible refine K.seq ?_) | (with_reducible refine KQ.next ?_))
      refine K.reg ?_
      refine KO.mv rfl rfl ?_
      refine KO.neIf rfl (by kernel_rfl) rfl ?_
      refine KO.mv rfl rfl ?_
      (refine KO.no rfl rfl ?_ rfl ?_; (focus rfl))
      (refine KO.no rfl rfl ?_ rfl ?_; (focus rfl))
      (refine KO.no rfl rfl ?_ rfl ?_; (focus rfl))
      (refine KO.pickT rfl ?_ rfl rfl ?_; (focus rfl))
      refine KO.nil ?_
      repeat ((with_reducible refine KQ.next ?_))
      refine K.condT rfl rfl ?_
      repeat ((with_reducible refine K.seq ?_))
      refine K.reg ?_
      refine KO.mki rfl (by kernel_rfl) rfl ?_
      refine KO.sto0 rfl rfl rfl (by exact rfl) (by exact Tryd.sizeOf57) (by exact rfl) (by with_reducible (repeat (first | exact Pick.head | apply Pick.tail))) (by exact rfl) ?_
      refine KO.sto0 rfl rfl rfl (by exact rfl) (by exact Tryd.sizeOf32) (by exact rfl) (by with_reducible (repeat (first | exact Pick.head | apply Pick.tail))) (by exact rfl) ?_
      refine KO.nil ?_
      repeat (first | (with_reducible refine KQ.next ?_) | (with_reducible refine KQ.then_ret ?_) | (with_reducible refine K.ret ?_))
      refine KQ.retM2C1 (by with_reducible (repeat (first | exact Pick.head | apply Pick.tail))) rfl rfl rfl Tryd.isAgg57 Tryd.isAgg32 (by with_reducible (repeat (first | exact Pick.head | apply Pick.tail))) (by with_reducible (repeat (exact Pick.head))) (fun w' hs => ⟨_, _, rfl, ⟨(by exact rfl), rfl⟩, hw.below_step hs.below, hs.below⟩)
    | none =>
      by_cases hws : writeS xs = s
      · rw [if_pos ⟨rfl, hws⟩]
        refine K.reg ?_
        refine KO.ld rfl rfl Tryd.isAgg57 (by with_reducible (repeat (first | exact Pick.head | apply Pick.tail))) (by exact rfl) rfl ?_
        refine KO.ce (cp := []) rfl rfl rfl Tryd.call26 rfl (mwrite_e w _ _ xs (fun w' hw' => RdA.ofSL (fun _ => rfl) (by with_reducible (repeat (first | exact Pick.head | apply Pick.tail))) hw') hT hms hxl) ?_; rintro v' L' hR; unfold MwR at hR; rw [hb] at hR; obtain ⟨rfl, rfl⟩ := hR
        refine KO.mv rfl rfl ?_
        refine KO.extrL rfl (by exact rfl) rfl ?_
        refine KO.extrL rfl (by exact rfl) rfl ?_
        refine KO.as rfl rfl ?_
        refine KO.as rfl rfl ?_
        refine KO.nil ?_
        repeat (first | (with_reducible refine K.seq ?_) | (with_reducible refine KQ.next ?_))
        refine K.reg ?_
        refine KO.mv rfl rfl ?_
        refine KO.neI0 rfl (by kernel_rfl) rfl ?_
        refine KO.mv rfl rfl ?_
        (refine KO.on rfl rfl ?_ ?_; (focus rfl); (refine KO.mv rfl rfl ?_))
        (refine KO.on rfl rfl ?_ ?_; (focus rfl); (refine KO.mv rfl rfl ?_))
        (refine KO.on rfl rfl ?_ ?_; (focus rfl); (refine KO.neS rfl rfl rfl ?_))
        (refine KO.pickF rfl ?_ rfl rfl ?_; (focus rfl))
        refine KO.nil ?_
        repeat ((with_reducible refine KQ.next ?_))
        refine K.condF rfl (by simp [hws]) ?_
        repeat (first | (with_reducible refine K.seq ?_) | (with_reducible refine KQ.next ?_) | (with_reducible refine K.skip ?_))
        refine K.reg ?_
        refine KO.ld rfl rfl Tryd.isAgg57 (by with_reducible (repeat (first | exact Pick.head | apply Pick.tail))) (by exact rfl) rfl ?_
        refine KO.sto0 rfl rfl rfl (by exact rfl) (by exact Tryd.sizeOf57) (by exact rfl) (by with_reducible (repeat (first | exact Pick.head | apply Pick.tail))) (by exact rfl) ?_
        refine KO.sto0 rfl rfl rfl (by exact rfl) (by exact Tryd.sizeOf32) (by exact rfl) (by with_reducible (repeat (first | exact Pick.head | apply Pick.tail))) (by exact rfl) ?_
        refine KO.nil ?_
        repeat (first | (with_reducible refine KQ.next ?_) | (with_reducible refine K.ret ?_))
        refine KQ.retM2C1 (by with_reducible (repeat (first | exact Pick.head | apply Pick.tail))) rfl rfl rfl Tryd.isAgg57 Tryd.isAgg32 (by with_reducible (repeat (first | exact Pick.head | apply Pick.tail))) (by with_reducible (repeat (exact Pick.head))) (fun w' hs => ⟨_, _, rfl, ⟨_, rfl, rfl⟩, ?_, hs.below⟩)
        exact hw.stack (M := [SL 50 5 msC (.slice sa xs.length cp) xs]) (hs.all (by with_reducible repeat (first | exact PAll.nil | refine PAll.cons (by with_reducible repeat (first | exact Pick.head | apply Pick.tail)) ?_)))
      · rw [if_neg (fun h => hws h.2)]
        refine K.reg ?_
        refine KO.ld rfl rfl Tryd.isAgg57 (by with_reducible (repeat (first | exact Pick.head | apply Pick.tail))) (by exact rfl) rfl ?_
        refine KO.ce (cp := []) rfl rfl rfl Tryd.call26 rfl (mwrite_e w _ _ xs (fun w' hw' => RdA.ofSL (fun _ => rfl) (by with_reducible (repeat (first | exact Pick.head | apply Pick.tail))) hw') hT hms hxl) ?_; rintro v' L' hR; unfold MwR at hR; rw [hb] at hR; obtain ⟨rfl, rfl⟩ := hR
        refine KO.mv rfl rfl ?_
        refine KO.extrL rfl (by exact rfl) rfl ?_
        refine KO.extrL rfl (by exact rfl) rfl ?_
        refine KO.as rfl rfl ?_
        refine KO.as rfl rfl ?_
        refine KO.nil ?_
        repeat (first | (with_reducible refine K.seq ?_) | (with_reducible refine KQ.next ?_))
        refine K.reg ?_
        refine KO.mv rfl rfl ?_
        refine KO.neI0 rfl (by kernel_rfl) rfl ?_
        refine KO.mv rfl rfl ?_
        (refine KO.on rfl rfl ?_ ?_; (focus rfl); (refine KO.mv rfl rfl ?_))
        (refine KO.on rfl rfl ?_ ?_; (focus rfl); (refine KO.mv rfl rfl ?_))
        (refine KO.on rfl rfl ?_ ?_; (focus rfl); (refine KO.neS rfl rfl rfl ?_))
        (refine KO.pickF rfl ?_ rfl rfl ?_; (focus rfl))
        refine KO.nil ?_
        repeat ((with_reducible refine KQ.next ?_))
        refine K.condT rfl (by simp [hws]) ?_
        repeat ((with_reducible refine K.seq ?_))
        refine K.reg ?_
        refine KO.mki rfl (by kernel_rfl) rfl ?_
        refine KO.sto0 rfl rfl rfl (by exact rfl) (by exact Tryd.sizeOf57) (by exact rfl) (by with_reducible (repeat (first | exact Pick.head | apply Pick.tail))) (by exact rfl) ?_
        refine KO.sto0 rfl rfl rfl (by exact rfl) (by exact Tryd.sizeOf32) (by exact rfl) (by with_reducible (repeat (first | exact Pick.head | apply Pick.tail))) (by exact rfl) ?_
        refine KO.nil ?_
        repeat (first | (with_reducible refine KQ.next ?_) | (with_reducible refine KQ.then_ret ?_) | (with_reducible refine K.ret ?_))
        refine KQ.retM2C1 (by with_reducible (repeat (first | exact Pick.head | apply Pick.tail))) rfl rfl rfl Tryd.isAgg57 Tryd.isAgg32 (by with_reducible (repeat (first | exact Pick.head | apply Pick.tail))) (by with_reducible (repeat (exact Pick.head))) (fun w' hs => ⟨_, _, rfl, ⟨(by exact rfl), rfl⟩, hw.below_step hs.below, hs.below⟩)
  · rintro b M ⟨⟨v, xs, rfl⟩, hx⟩
    have hmr : mrd s = none := by unfold mrd; rw [if_neg h0, hx]
    rw [hmr]
    simp only [rdP]
    repeat (first | (with_reducible refine KQ.then_ret ?_) | (with_reducible refine KQ.blk_ret ?_))
    refine KQ.retM2C1 (by with_reducible (repeat (exact Pick.head))) rfl rfl rfl Tryd.isAgg57 Tryd.isAgg32 (by with_reducible (repeat (first | exact Pick.head | apply Pick.tail))) (by with_reducible (repeat (first | exact Pick.head | apply Pick.tail))) (fun w' hs => ⟨_, _, rfl, ⟨(by exact rfl), rfl⟩, hw.below_step hs.below, hs.below⟩)
end Go.Proofs.YtjhogocabcdjbaaDoor
/- frames' text: plain -/
namespace WB
open Go
structure Fr where
  frm : Int
  num : Int
  ack : Bool
def frC (f : Fr) (v : Value) : List Value := [.int .i64 f.frm, .int .i64 f.num, .bool f.ack, v]
def colon : ByteArray := ⟨#[58]⟩
def kindS (a : Bool) : ByteArray := if a then ⟨#[97]⟩ else ⟨#[98]⟩
def frS (f : Fr) (xs : List Ms) : ByteArray := joinS [kindS f.ack, itoaS f.frm, itoaS f.num, writeS xs] colon
def okF (f : Fr) (xs : List Ms) : Prop := 0 ≤ f.frm ∧ f.frm ≤ 3 ∧ 0 ≤ f.num ∧ f.num ≤ 1099511627776 ∧ f.ack = decide (xs.length = 0) ∧ xs.length ≤ 3 ∧ badI xs = none
instance (f : Fr) (xs : List Ms) : Decidable (okF f xs) := by unfold okF; infer_instance
def fwE (f : Fr) (xs : List Ms) : Int := if okF f xs then 0 else 1
def fwT (f : Fr) (xs : List Ms) : ByteArray := if okF f xs then frS f xs else ⟨#[]⟩
theorem joinS_four (a b c d s : ByteArray) : joinS [a, b, c, d] s = a ++ s ++ b ++ s ++ c ++ s ++ d := by
  rw [joinS_cons2, joinS_cons2, joinS_two]
  simp only [cat_assoc]
theorem fw_bad {f : Fr} {xs : List Ms} (h : ¬ okF f xs) : fwE f xs = 1 ∧ fwT f xs = ⟨#[]⟩ := ⟨if_neg h, if_neg h⟩
theorem fw_ok {f : Fr} {xs : List Ms} (h : okF f xs) : fwE f xs = 0 ∧ fwT f xs = frS f xs := ⟨if_pos h, if_pos h⟩
theorem writeT_ok {xs : List Ms} (h : badI xs = none) : writeT xs = writeS xs ∧ writeE xs = 0 := by unfold writeT writeE; rw [h]; exact ⟨rfl, rfl⟩
theorem writeE_bad {xs : List Ms} (h : badI xs ≠ none) : writeE xs = 1 := by
  unfold writeE
  cases hb : badI xs with
  | none => exact absurd hb h
  | some k => rfl
end WB
/- frames' text: the program's and the document's -/
namespace Go.Proofs.YtjhogocabcdjbaaDoor
open Go Go.RowKit WB
theorem strS_blk {w0 w : World} {L : List HP} {b k : Nat} {xs : List ByteArray} {vs : List Value} (h : St w0 (blk b (.cells vs.toArray 9 (0, 0)) :: L) w) (hvs : vs = xs.map Value.string) (hk : xs.length = k) (hle : k ≤ 1000) : St w0 (strS (.slice (some ⟨b, 0, none⟩) k k) xs :: L) w := by
  subst hk
  have hf : xs.flatMap strC = vs := by rw [hvs]; clear hvs h hle; induction xs with
    | nil => rfl
    | cons a l ih => rw [List.flatMap_cons, ih]; rfl
  refine h.osl_mk (Nat.le_refl _) (by unfold maxLen; omega) ?_ ?_
  · rw [hvs]; simp
  · rw [hf, hvs, Nat.mul_one]; exact List.take_of_length_le (by simp)
set_option maxRecDepth 100000 in
set_option maxHeartbeats 4000000 in
theorem fw_e (w0 : World) (L : List HP) (f : Fr) (v : Value) (xs : List Ms) (hr0 : ∀ w, St w0 L w → RdA w 5 msC v xs) (hT0 : Tab w0) (hsz : ∀ m ∈ xs, m.body.size ≤ maxLen ∧ m.queue.size ≤ maxLen) :
    KE Tryd.prog 37 #[.agg (frC f v).toArray] w0 L (fun u M => u = .tuple #[.string (fwT f xs), errV 37 (fwE f xs)] ∧ M = L) := by
  refine KE.mk (n := 62) Tryd.func37 rfl Tryd.ntmps37 (by simp) ?_
  intro w hw
  have hT := hT0.ext (Ext.of_below hw.below)
  have hr := hr0 w hw
  have hr1 := hr
  obtain ⟨sa, cap, rfl, hc⟩ := hr1
  have fin : ∀ (e : Int) (t : ByteArray) (w' : World) (M : List HP), e = fwE f xs → t = fwT f xs → St w M w' → ∃ v L', Ending.returned (.tuple #[.string t, errV 37 e]) = Ending.returned v ∧ (v = .tuple #[.string (fwT f xs), errV 37 (fwE f xs)] ∧ L' = L) ∧ St w0 L' w' ∧ Below w.heap.size w w' := fun e t w' M h1 h2 hs => ⟨_, _, rfl, ⟨by rw [h1, h2], rfl⟩, hw.below_step hs.below, hs.below⟩
  repeat ((with_reducible refine K.seq ?_))
  refine K.reg ?_
  refine KO.box rfl rfl (by exact rfl) rfl ?_; intro b1
  refine KO.as rfl rfl ?_
  refine KO.as rfl rfl ?_
  refine KO.nil ?_
  repeat (first | (with_reducible refine K.seq ?_) | (with_reducible refine KQ.next ?_))
  by_cases a1 : f.frm < 0
  · have hbad := fw_bad (f := f) (xs := xs) (fun h => by unfold okF at h; omega)
    refine K.reg ?_
    refine KO.fo0 (off := 0) rfl Tryd.runUnderlying72 rfl rfl Tryd.sizeOf3 rfl ?_
    refine KO.ld rfl rfl Tryd.isAgg3 (by with_reducible (repeat (exact Pick.head))) (by exact rfl) rfl ?_
    refine KO.lss rfl rfl rfl ?_
    refine KO.mv rfl rfl ?_
    (refine KO.no rfl rfl ?_ rfl ?_; (focus (simp only [decide_eq_true_eq, decide_eq_false_iff_not, Bool.not_eq_true, Bool.not_true, Bool.not_false, ne_eq]; omega)))
    (refine KO.no rfl rfl ?_ rfl ?_; (focus (simp only [decide_eq_true_eq, decide_eq_false_iff_not, Bool.not_eq_true, Bool.not_true, Bool.not_false, ne_eq]; omega)))
    (refine KO.no rfl rfl ?_ rfl ?_; (focus (simp only [decide_eq_true_eq, decide_eq_false_iff_not, Bool.not_eq_true, Bool.not_true, Bool.not_false, ne_eq]; omega)))
    (refine KO.pickT rfl ?_ rfl rfl ?_; (focus (simp only [decide_eq_true_eq, decide_eq_false_iff_not, Bool.not_eq_true, Bool.not_true, Bool.not_false, ne_eq]; omega)))
    refine KO.mv rfl rfl ?_
    (refine KO.no rfl rfl ?_ rfl ?_; (focus rfl))
    (refine KO.no rfl rfl ?_ rfl ?_; (focus rfl))
    (refine KO.no rfl rfl ?_ rfl ?_; (focus rfl))
    (refine KO.pickT rfl ?_ rfl rfl ?_; (focus rfl))
    refine KO.mv rfl rfl ?_
    (refine KO.no rfl rfl ?_ rfl ?_; (focus rfl))
    (refine KO.no rfl rfl ?_ rfl ?_; (focus rfl))
    (refine KO.no rfl rfl ?_ rfl ?_; (focus rfl))
    (refine KO.pickT rfl ?_ rfl rfl ?_; (focus rfl))
    refine KO.mv rfl rfl ?_
    (refine KO.no rfl rfl ?_ rfl ?_; (focus rfl))
    (refine KO.no rfl rfl ?_ rfl ?_; (focus rfl))
    (refine KO.no rfl rfl ?_ rfl ?_; (focus rfl))
    (refine KO.no rfl rfl ?_ rfl ?_; (focus rfl))
    (refine KO.no rfl rfl ?_ rfl ?_; (focus rfl))
    (refine KO.no rfl rfl ?_ rfl ?_; (focus rfl))
    (refine KO.no rfl rfl ?_ rfl ?_; (focus rfl))
    (refine KO.pickT rfl ?_ rfl rfl ?_; (focus rfl))
    refine KO.mv rfl rfl ?_
    (refine KO.no rfl rfl ?_ rfl ?_; (focus rfl))
    (refine KO.no rfl rfl ?_ rfl ?_; (focus rfl))
    (refine KO.no rfl rfl ?_ rfl ?_; (focus rfl))
    (refine KO.no rfl rfl ?_ rfl ?_; (focus rfl))
    (refine KO.pickT rfl ?_ rfl rfl ?_; (focus rfl))
    refine KO.nil ?_
    repeat ((with_reducible refine KQ.next ?_))
    refine K.condT rfl rfl ?_
    repeat ((with_reducible refine K.seq ?_))
    refine K.reg ?_
    refine KO.mki rfl (by kernel_rfl) rfl ?_
    refine KO.as rfl rfl ?_
    refine KO.as rfl rfl ?_
    refine KO.nil ?_
    repeat (first | (with_reducible refine KQ.next ?_) | (with_reducible refine KQ.then_ret ?_) | (with_reducible refine K.ret ?_))
    refine KQ.ret2 rfl rfl rfl (fun w' hs => fin 1 ⟨#[]⟩ w' _ hbad.1.symm hbad.2.symm hs)
  by_cases a2 : 4 ≤ f.frm
  · have hbad := fw_bad (f := f) (xs := xs) (fun h => by unfold okF at h; omega)
    refine K.reg ?_
    refine KO.fo0 (off := 0) rfl Tryd.runUnderlying72 rfl rfl Tryd.sizeOf3 rfl ?_
    refine KO.ld rfl rfl Tryd.isAgg3 (by with_reducible (repeat (exact Pick.head))) (by exact rfl) rfl ?_
    refine KO.lss rfl rfl rfl ?_
    refine KO.mv rfl rfl ?_
    (refine KO.on rfl rfl ?_ ?_; (focus (simp only [decide_eq_true_eq, decide_eq_false_iff_not, Bool.not_eq_true, Bool.not_true, Bool.not_false, ne_eq]; omega)); (refine KO.fo0 (off := 0) rfl Tryd.runUnderlying72 rfl rfl Tryd.sizeOf3 rfl ?_))
    (refine KO.on rfl rfl ?_ ?_; (focus (simp only [decide_eq_true_eq, decide_eq_false_iff_not, Bool.not_eq_true, Bool.not_true, Bool.not_false, ne_eq]; omega)); (refine KO.ld rfl rfl Tryd.isAgg3 (by with_reducible (repeat (exact Pick.head))) (by exact rfl) rfl ?_))
    (refine KO.on rfl rfl ?_ ?_; (focus (simp only [decide_eq_true_eq, decide_eq_false_iff_not, Bool.not_eq_true, Bool.not_true, Bool.not_false, ne_eq]; omega)); (refine KO.geq rfl rfl rfl ?_))
    (refine KO.pickF rfl ?_ rfl rfl ?_; (focus (simp only [decide_eq_true_eq, decide_eq_false_iff_not, Bool.not_eq_true, Bool.not_true, Bool.not_false, ne_eq]; omega)))
    refine KO.mv rfl rfl ?_
    (refine KO.no rfl rfl ?_ rfl ?_; (focus (simp only [decide_eq_true_eq, decide_eq_false_iff_not, Bool.not_eq_true, Bool.not_true, Bool.not_false, ne_eq]; omega)))
    (refine KO.no rfl rfl ?_ rfl ?_; (focus (simp only [decide_eq_true_eq, decide_eq_false_iff_not, Bool.not_eq_true, Bool.not_true, Bool.not_false, ne_eq]; omega)))
    (refine KO.no rfl rfl ?_ rfl ?_; (focus (simp only [decide_eq_true_eq, decide_eq_false_iff_not, Bool.not_eq_true, Bool.not_true, Bool.not_false, ne_eq]; omega)))
    (refine KO.pickT rfl ?_ rfl rfl ?_; (focus (simp only [decide_eq_true_eq, decide_eq_false_iff_not, Bool.not_eq_true, Bool.not_true, Bool.not_false, ne_eq]; omega)))
    refine KO.mv rfl rfl ?_
    (refine KO.no rfl rfl ?_ rfl ?_; (focus rfl))
    (refine KO.no rfl rfl ?_ rfl ?_; (focus rfl))
    (refine KO.no rfl rfl ?_ rfl ?_; (focus rfl))
    (refine KO.pickT rfl ?_ rfl rfl ?_; (focus rfl))
    refine KO.mv rfl rfl ?_
    (refine KO.no rfl rfl ?_ rfl ?_; (focus rfl))
    (refine KO.no rfl rfl ?_ rfl ?_; (focus rfl))
    (refine KO.no rfl rfl ?_ rfl ?_; (focus rfl))
    (refine KO.no rfl rfl ?_ rfl ?_; (focus rfl))
    (refine KO.no rfl rfl ?_ rfl ?_; (focus rfl))
    (refine KO.no rfl rfl ?_ rfl ?_; (focus rfl))
    (refine KO.no rfl rfl ?_ rfl ?_; (focus rfl))
    (refine KO.pickT rfl ?_ rfl rfl ?_; (focus rfl))
    refine KO.mv rfl rfl ?_
    (refine KO.no rfl rfl ?_ rfl ?_; (focus rfl))
    (refine KO.no rfl rfl ?_ rfl ?_; (focus rfl))
    (refine KO.no rfl rfl ?_ rfl ?_; (focus rfl))
    (refine KO.no rfl rfl ?_ rfl ?_; (focus rfl))
    (refine KO.pickT rfl ?_ rfl rfl ?_; (focus rfl))
    refine KO.nil ?_
    repeat ((with_reducible refine KQ.next ?_))
    refine K.condT rfl (by simp [a2]) ?_
    repeat ((with_reducible refine K.seq ?_))
    refine K.reg ?_
    refine KO.mki rfl (by kernel_rfl) rfl ?_
    refine KO.as rfl rfl ?_
    refine KO.as rfl rfl ?_
    refine KO.nil ?_
    repeat (first | (with_reducible refine KQ.next ?_) | (with_reducible refine KQ.then_ret ?_) | (with_reducible refine K.ret ?_))
    refine KQ.ret2 rfl rfl rfl (fun w' hs => fin 1 ⟨#[]⟩ w' _ hbad.1.symm hbad.2.symm hs)
  by_cases a3 : f.num < 0
  · have hbad := fw_bad (f := f) (xs := xs) (fun h => by unfold okF at h; omega)
    refine K.reg ?_
    refine KO.fo0 (off := 0) rfl Tryd.runUnderlying72 rfl rfl Tryd.sizeOf3 rfl ?_
    refine KO.ld rfl rfl Tryd.isAgg3 (by with_reducible (repeat (exact Pick.head))) (by exact rfl) rfl ?_
    refine KO.lss rfl rfl rfl ?_
    refine KO.mv rfl rfl ?_
    (refine KO.on rfl rfl ?_ ?_; (focus (simp only [decide_eq_true_eq, decide_eq_false_iff_not, Bool.not_eq_true, Bool.not_true, Bool.not_false, ne_eq]; omega)); (refine KO.fo0 (off := 0) rfl Tryd.runUnderlying72 rfl rfl Tryd.sizeOf3 rfl ?_))
    (refine KO.on rfl rfl ?_ ?_; (focus (simp only [decide_eq_true_eq, decide_eq_false_iff_not, Bool.not_eq_true, Bool.not_true, Bool.not_false, ne_eq]; omega)); (refine KO.ld rfl rfl Tryd.isAgg3 (by with_reducible (repeat (exact Pick.head))) (by exact rfl) rfl ?_))
    (refine KO.on rfl rfl ?_ ?_; (focus (simp only [decide_eq_true_eq, decide_eq_false_iff_not, Bool.not_eq_true, Bool.not_true, Bool.not_false, ne_eq]; omega)); (refine KO.geq rfl rfl rfl ?_))
    (refine KO.pickF rfl ?_ rfl rfl ?_; (focus (simp only [decide_eq_true_eq, decide_eq_false_iff_not, Bool.not_eq_true, Bool.not_true, Bool.not_false, ne_eq]; omega)))
    refine KO.mv rfl rfl ?_
    (refine KO.on rfl rfl ?_ ?_; (focus (simp only [decide_eq_true_eq, decide_eq_false_iff_not, Bool.not_eq_true, Bool.not_true, Bool.not_false, ne_eq]; omega)); (refine KO.fo0 (off := 1) rfl Tryd.runUnderlying72 rfl rfl Tryd.sizeOf3 rfl ?_))
    (refine KO.on rfl rfl ?_ ?_; (focus (simp only [decide_eq_true_eq, decide_eq_false_iff_not, Bool.not_eq_true, Bool.not_true, Bool.not_false, ne_eq]; omega)); (refine KO.ld rfl rfl Tryd.isAgg3 (by with_reducible (repeat (exact Pick.head))) (by exact rfl) rfl ?_))
    (refine KO.on rfl rfl ?_ ?_; (focus (simp only [decide_eq_true_eq, decide_eq_false_iff_not, Bool.not_eq_true, Bool.not_true, Bool.not_false, ne_eq]; omega)); (refine KO.lss rfl rfl rfl ?_))
    (refine KO.pickF rfl ?_ rfl rfl ?_; (focus (simp only [decide_eq_true_eq, decide_eq_false_iff_not, Bool.not_eq_true, Bool.not_true, Bool.not_false, ne_eq]; omega)))
    refine KO.mv rfl rfl ?_
    (refine KO.no rfl rfl ?_ rfl ?_; (focus (simp only [decide_eq_true_eq, decide_eq_false_iff_not, Bool.not_eq_true, Bool.not_true, Bool.not_false, ne_eq]; omega)))
    (refine KO.no rfl rfl ?_ rfl ?_; (focus (simp only [decide_eq_true_eq, decide_eq_false_iff_not, Bool.not_eq_true, Bool.not_true, Bool.not_false, ne_eq]; omega)))
    (refine KO.no rfl rfl ?_ rfl ?_; (focus (simp only [decide_eq_true_eq, decide_eq_false_iff_not, Bool.not_eq_true, Bool.not_true, Bool.not_false, ne_eq]; omega)))
    (refine KO.pickT rfl ?_ rfl rfl ?_; (focus (simp only [decide_eq_true_eq, decide_eq_false_iff_not, Bool.not_eq_true, Bool.not_true, Bool.not_false, ne_eq]; omega)))
    refine KO.mv rfl rfl ?_
    (refine KO.no rfl rfl ?_ rfl ?_; (focus rfl))
    (refine KO.no rfl rfl ?_ rfl ?_; (focus rfl))
    (refine KO.no rfl rfl ?_ rfl ?_; (focus rfl))
    (refine KO.no rfl rfl ?_ rfl ?_; (focus rfl))
    (refine KO.no rfl rfl ?_ rfl ?_; (focus rfl))
    (refine KO.no rfl rfl ?_ rfl ?_; (focus rfl))
    (refine KO.no rfl rfl ?_ rfl ?_; (focus rfl))
    (refine KO.pickT rfl ?_ rfl rfl ?_; (focus rfl))
    refine KO.mv rfl rfl ?_
    (refine KO.no rfl rfl ?_ rfl ?_; (focus rfl))
    (refine KO.no rfl rfl ?_ rfl ?_; (focus rfl))
    (refine KO.no rfl rfl ?_ rfl ?_; (focus rfl))
    (refine KO.no rfl rfl ?_ rfl ?_; (focus rfl))
    (refine KO.pickT rfl ?_ rfl rfl ?_; (focus rfl))
    refine KO.nil ?_
    repeat ((with_reducible refine KQ.next ?_))
    refine K.condT rfl (by simp [a3]) ?_
    repeat ((with_reducible refine K.seq ?_))
    refine K.reg ?_
    refine KO.mki rfl (by kernel_rfl) rfl ?_
    refine KO.as rfl rfl ?_
    refine KO.as rfl rfl ?_
    refine KO.nil ?_
    repeat (first | (with_reducible refine KQ.next ?_) | (with_reducible refine KQ.then_ret ?_) | (with_reducible refine K.ret ?_))
    refine KQ.ret2 rfl rfl rfl (fun w' hs => fin 1 ⟨#[]⟩ w' _ hbad.1.symm hbad.2.symm hs)
  by_cases a4 : 1099511627776 < f.num
  · have hbad := fw_bad (f := f) (xs := xs) (fun h => by unfold okF at h; omega)
    refine K.reg ?_
    refine KO.fo0 (off := 0) rfl Tryd.runUnderlying72 rfl rfl Tryd.sizeOf3 rfl ?_
    refine KO.ld rfl rfl Tryd.isAgg3 (by with_reducible (repeat (exact Pick.head))) (by exact rfl) rfl ?_
    refine KO.lss rfl rfl rfl ?_
    refine KO.mv rfl rfl ?_
    (refine KO.on rfl rfl ?_ ?_; (focus (simp only [decide_eq_true_eq, decide_eq_false_iff_not, Bool.not_eq_true, Bool.not_true, Bool.not_false, ne_eq]; omega)); (refine KO.fo0 (off := 0) rfl Tryd.runUnderlying72 rfl rfl Tryd.sizeOf3 rfl ?_))
    (refine KO.on rfl rfl ?_ ?_; (focus (simp only [decide_eq_true_eq, decide_eq_false_iff_not, Bool.not_eq_true, Bool.not_true, Bool.not_false, ne_eq]; omega)); (refine KO.ld rfl rfl Tryd.isAgg3 (by with_reducible (repeat (exact Pick.head))) (by exact rfl) rfl ?_))
    (refine KO.on rfl rfl ?_ ?_; (focus (simp only [decide_eq_true_eq, decide_eq_false_iff_not, Bool.not_eq_true, Bool.not_true, Bool.not_false, ne_eq]; omega)); (refine KO.geq rfl rfl rfl ?_))
    (refine KO.pickF rfl ?_ rfl rfl ?_; (focus (simp only [decide_eq_true_eq, decide_eq_false_iff_not, Bool.not_eq_true, Bool.not_true, Bool.not_false, ne_eq]; omega)))
    refine KO.mv rfl rfl ?_
    (refine KO.on rfl rfl ?_ ?_; (focus (simp only [decide_eq_true_eq, decide_eq_false_iff_not, Bool.not_eq_true, Bool.not_true, Bool.not_false, ne_eq]; omega)); (refine KO.fo0 (off := 1) rfl Tryd.runUnderlying72 rfl rfl Tryd.sizeOf3 rfl ?_))
    (refine KO.on rfl rfl ?_ ?_; (focus (simp only [decide_eq_true_eq, decide_eq_false_iff_not, Bool.not_eq_true, Bool.not_true, Bool.not_false, ne_eq]; omega)); (refine KO.ld rfl rfl Tryd.isAgg3 (by with_reducible (repeat (exact Pick.head))) (by exact rfl) rfl ?_))
    (refine KO.on rfl rfl ?_ ?_; (focus (simp only [decide_eq_true_eq, decide_eq_false_iff_not, Bool.not_eq_true, Bool.not_true, Bool.not_false, ne_eq]; omega)); (refine KO.lss rfl rfl rfl ?_))
    (refine KO.pickF rfl ?_ rfl rfl ?_; (focus (simp only [decide_eq_true_eq, decide_eq_false_iff_not, Bool.not_eq_true, Bool.not_true, Bool.not_false, ne_eq]; omega)))
    refine KO.mv rfl rfl ?_
    (refine KO.on rfl rfl ?_ ?_; (focus (simp only [decide_eq_true_eq, decide_eq_false_iff_not, Bool.not_eq_true, Bool.not_true, Bool.not_false, ne_eq]; omega)); (refine KO.fo0 (off := 1) rfl Tryd.runUnderlying72 rfl rfl Tryd.sizeOf3 rfl ?_))
    (refine KO.on rfl rfl ?_ ?_; (focus (simp only [decide_eq_true_eq, decide_eq_false_iff_not, Bool.not_eq_true, Bool.not_true, Bool.not_false, ne_eq]; omega)); (refine KO.ld rfl rfl Tryd.isAgg3 (by with_reducible (repeat (exact Pick.head))) (by exact rfl) rfl ?_))
    (refine KO.on rfl rfl ?_ ?_; (focus (simp only [decide_eq_true_eq, decide_eq_false_iff_not, Bool.not_eq_true, Bool.not_true, Bool.not_false, ne_eq]; omega)); (refine KO.gtr rfl rfl rfl ?_))
    (refine KO.pickF rfl ?_ rfl rfl ?_; (focus (simp only [decide_eq_true_eq, decide_eq_false_iff_not, Bool.not_eq_true, Bool.not_true, Bool.not_false, ne_eq]; omega)))
    refine KO.mv rfl rfl ?_
    (refine KO.no rfl rfl ?_ rfl ?_; (focus (simp only [decide_eq_true_eq, decide_eq_false_iff_not, Bool.not_eq_true, Bool.not_true, Bool.not_false, ne_eq]; omega)))
    (refine KO.no rfl rfl ?_ rfl ?_; (focus (simp only [decide_eq_true_eq, decide_eq_false_iff_not, Bool.not_eq_true, Bool.not_true, Bool.not_false, ne_eq]; omega)))
    (refine KO.no rfl rfl ?_ rfl ?_; (focus (simp only [decide_eq_true_eq, decide_eq_false_iff_not, Bool.not_eq_true, Bool.not_true, Bool.not_false, ne_eq]; omega)))
    (refine KO.no rfl rfl ?_ rfl ?_; (focus (simp only [decide_eq_true_eq, decide_eq_false_iff_not, Bool.not_eq_true, Bool.not_true, Bool.not_false, ne_eq]; omega)))
    (refine KO.no rfl rfl ?_ rfl ?_; (focus (simp only [decide_eq_true_eq, decide_eq_false_iff_not, Bool.not_eq_true, Bool.not_true, Bool.not_false, ne_eq]; omega)))
    (refine KO.no rfl rfl ?_ rfl ?_; (focus (simp only [decide_eq_true_eq, decide_eq_false_iff_not, Bool.not_eq_true, Bool.not_true, Bool.not_false, ne_eq]; omega)))
    (refine KO.no rfl rfl ?_ rfl ?_; (focus (simp only [decide_eq_true_eq, decide_eq_false_iff_not, Bool.not_eq_true, Bool.not_true, Bool.not_false, ne_eq]; omega)))
    (refine KO.pickT rfl ?_ rfl rfl ?_; (focus (simp only [decide_eq_true_eq, decide_eq_false_iff_not, Bool.not_eq_true, Bool.not_true, Bool.not_false, ne_eq]; omega)))
    refine KO.mv rfl rfl ?_
    (refine KO.no rfl rfl ?_ rfl ?_; (focus rfl))
    (refine KO.no rfl rfl ?_ rfl ?_; (focus rfl))
    (refine KO.no rfl rfl ?_ rfl ?_; (focus rfl))
    (refine KO.no rfl rfl ?_ rfl ?_; (focus rfl))
    (refine KO.pickT rfl ?_ rfl rfl ?_; (focus rfl))
    refine KO.nil ?_
    repeat ((with_reducible refine KQ.next ?_))
    refine K.condT rfl (by simp [a4]) ?_
    repeat ((with_reducible refine K.seq ?_))
    refine K.reg ?_
    refine KO.mki rfl (by kernel_rfl) rfl ?_
    refine KO.as rfl rfl ?_
    refine KO.as rfl rfl ?_
    refine KO.nil ?_
    repeat (first | (with_reducible refine KQ.next ?_) | (with_reducible refine KQ.then_ret ?_) | (with_reducible refine K.ret ?_))
    refine KQ.ret2 rfl rfl rfl (fun w' hs => fin 1 ⟨#[]⟩ w' _ hbad.1.symm hbad.2.symm hs)
  have hz : decide ((xs.length : Int) = 0) = decide (xs.length = 0) := decide_eq_decide.2 (by omega)
  by_cases a5 : f.ack = decide ((xs.length : Int) = 0)
  case neg =>
    have hbad := fw_bad (f := f) (xs := xs) (fun h => by unfold okF at h; rw [hz] at a5; exact a5 h.2.2.2.2.1)
    have a6 : (f.ack != decide ((xs.length : Int) = 0)) = true := by simpa using a5
    refine K.reg ?_
    refine KO.fo0 (off := 0) rfl Tryd.runUnderlying72 rfl rfl Tryd.sizeOf3 rfl ?_
    refine KO.ld rfl rfl Tryd.isAgg3 (by with_reducible (repeat (exact Pick.head))) (by exact rfl) rfl ?_
    refine KO.lss rfl rfl rfl ?_
    refine KO.mv rfl rfl ?_
    (refine KO.on rfl rfl ?_ ?_; (focus (simp only [decide_eq_true_eq, decide_eq_false_iff_not, Bool.not_eq_true, Bool.not_true, Bool.not_false, ne_eq]; omega)); (refine KO.fo0 (off := 0) rfl Tryd.runUnderlying72 rfl rfl Tryd.sizeOf3 rfl ?_))
    (refine KO.on rfl rfl ?_ ?_; (focus (simp only [decide_eq_true_eq, decide_eq_false_iff_not, Bool.not_eq_true, Bool.not_true, Bool.not_false, ne_eq]; omega)); (refine KO.ld rfl rfl Tryd.isAgg3 (by with_reducible (repeat (exact Pick.head))) (by exact rfl) rfl ?_))
    (refine KO.on rfl rfl ?_ ?_; (focus (simp only [decide_eq_true_eq, decide_eq_false_iff_not, Bool.not_eq_true, Bool.not_true, Bool.not_false, ne_eq]; omega)); (refine KO.geq rfl rfl rfl ?_))
    (refine KO.pickF rfl ?_ rfl rfl ?_; (focus (simp only [decide_eq_true_eq, decide_eq_false_iff_not, Bool.not_eq_true, Bool.not_true, Bool.not_false, ne_eq]; omega)))
    refine KO.mv rfl rfl ?_
    (refine KO.on rfl rfl ?_ ?_; (focus (simp only [decide_eq_true_eq, decide_eq_false_iff_not, Bool.not_eq_true, Bool.not_true, Bool.not_false, ne_eq]; omega)); (refine KO.fo0 (off := 1) rfl Tryd.runUnderlying72 rfl rfl Tryd.sizeOf3 rfl ?_))
    (refine KO.on rfl rfl ?_ ?_; (focus (simp only [decide_eq_true_eq, decide_eq_false_iff_not, Bool.not_eq_true, Bool.not_true, Bool.not_false, ne_eq]; omega)); (refine KO.ld rfl rfl Tryd.isAgg3 (by with_reducible (repeat (exact Pick.head))) (by exact rfl) rfl ?_))
    (refine KO.on rfl rfl ?_ ?_; (focus (simp only [decide_eq_true_eq, decide_eq_false_iff_not, Bool.not_eq_true, Bool.not_true, Bool.not_false, ne_eq]; omega)); (refine KO.lss rfl rfl rfl ?_))
    (refine KO.pickF rfl ?_ rfl rfl ?_; (focus (simp only [decide_eq_true_eq, decide_eq_false_iff_not, Bool.not_eq_true, Bool.not_true, Bool.not_false, ne_eq]; omega)))
    refine KO.mv rfl rfl ?_
    (refine KO.on rfl rfl ?_ ?_; (focus (simp only [decide_eq_true_eq, decide_eq_false_iff_not, Bool.not_eq_true, Bool.not_true, Bool.not_false, ne_eq]; omega)); (refine KO.fo0 (off := 1) rfl Tryd.runUnderlying72 rfl rfl Tryd.sizeOf3 rfl ?_))
    (refine KO.on rfl rfl ?_ ?_; (focus (simp only [decide_eq_true_eq, decide_eq_false_iff_not, Bool.not_eq_true, Bool.not_true, Bool.not_false, ne_eq]; omega)); (refine KO.ld rfl rfl Tryd.isAgg3 (by with_reducible (repeat (exact Pick.head))) (by exact rfl) rfl ?_))
    (refine KO.on rfl rfl ?_ ?_; (focus (simp only [decide_eq_true_eq, decide_eq_false_iff_not, Bool.not_eq_true, Bool.not_true, Bool.not_false, ne_eq]; omega)); (refine KO.gtr rfl rfl rfl ?_))
    (refine KO.pickF rfl ?_ rfl rfl ?_; (focus (simp only [decide_eq_true_eq, decide_eq_false_iff_not, Bool.not_eq_true, Bool.not_true, Bool.not_false, ne_eq]; omega)))
    refine KO.mv rfl rfl ?_
    (refine KO.on rfl rfl ?_ ?_; (focus (simp only [decide_eq_true_eq, decide_eq_false_iff_not, Bool.not_eq_true, Bool.not_true, Bool.not_false, ne_eq]; omega)); (refine KO.fo0 (off := 2) rfl Tryd.runUnderlying72 rfl rfl Tryd.sizeOf4 rfl ?_))
    (refine KO.on rfl rfl ?_ ?_; (focus (simp only [decide_eq_true_eq, decide_eq_false_iff_not, Bool.not_eq_true, Bool.not_true, Bool.not_false, ne_eq]; omega)); (refine KO.ld rfl rfl Tryd.isAgg4 (by with_reducible (repeat (exact Pick.head))) (by exact rfl) rfl ?_))
    (refine KO.on rfl rfl ?_ ?_; (focus (simp only [decide_eq_true_eq, decide_eq_false_iff_not, Bool.not_eq_true, Bool.not_true, Bool.not_false, ne_eq]; omega)); (refine KO.fo0 (off := 3) rfl Tryd.runUnderlying72 rfl rfl Tryd.sizeOf57 rfl ?_))
    (refine KO.on rfl rfl ?_ ?_; (focus (simp only [decide_eq_true_eq, decide_eq_false_iff_not, Bool.not_eq_true, Bool.not_true, Bool.not_false, ne_eq]; omega)); (refine KO.ld rfl rfl Tryd.isAgg57 (by with_reducible (repeat (exact Pick.head))) (by exact rfl) rfl ?_))
    (refine KO.on rfl rfl ?_ ?_; (focus (simp only [decide_eq_true_eq, decide_eq_false_iff_not, Bool.not_eq_true, Bool.not_true, Bool.not_false, ne_eq]; omega)); (refine KO.len rfl Tryd.underlying57 rfl ?_))
    (refine KO.on rfl rfl ?_ ?_; (focus (simp only [decide_eq_true_eq, decide_eq_false_iff_not, Bool.not_eq_true, Bool.not_true, Bool.not_false, ne_eq]; omega)); (refine KO.eqI rfl rfl rfl ?_))
    (refine KO.on rfl rfl ?_ ?_; (focus (simp only [decide_eq_true_eq, decide_eq_false_iff_not, Bool.not_eq_true, Bool.not_true, Bool.not_false, ne_eq]; omega)); (refine KO.neB rfl rfl Tryd.underlying4 rfl ?_))
    (refine KO.pickF rfl ?_ rfl rfl ?_; (focus (simp only [decide_eq_true_eq, decide_eq_false_iff_not, Bool.not_eq_true, Bool.not_true, Bool.not_false, ne_eq]; omega)))
    refine KO.mv rfl rfl ?_
    (refine KO.no rfl rfl ?_ rfl ?_; (focus assumption))
    (refine KO.no rfl rfl ?_ rfl ?_; (focus assumption))
    (refine KO.no rfl rfl ?_ rfl ?_; (focus assumption))
    (refine KO.no rfl rfl ?_ rfl ?_; (focus assumption))
    (refine KO.pickT rfl ?_ rfl rfl ?_; (focus assumption))
    refine KO.nil ?_
    repeat ((with_reducible refine KQ.next ?_))
    refine K.condT rfl (by simp [a6]) ?_
    repeat ((with_reducible refine K.seq ?_))
    refine K.reg ?_
    refine KO.mki rfl (by kernel_rfl) rfl ?_
    refine KO.as rfl rfl ?_
    refine KO.as rfl rfl ?_
    refine KO.nil ?_
    repeat (first | (with_reducible refine KQ.next ?_) | (with_reducible refine KQ.then_ret ?_) | (with_reducible refine K.ret ?_))
    refine KQ.ret2 rfl rfl rfl (fun w' hs => fin 1 ⟨#[]⟩ w' _ hbad.1.symm hbad.2.symm hs)
  have a6 : (f.ack != decide ((xs.length : Int) = 0)) = false := by simpa using a5
  by_cases a7 : 3 < (xs.length : Int)
  · have hbad := fw_bad (f := f) (xs := xs) (fun h => by unfold okF at h; omega)
    refine K.reg ?_
    refine KO.fo0 (off := 0) rfl Tryd.runUnderlying72 rfl rfl Tryd.sizeOf3 rfl ?_
    refine KO.ld rfl rfl Tryd.isAgg3 (by with_reducible (repeat (exact Pick.head))) (by exact rfl) rfl ?_
    refine KO.lss rfl rfl rfl ?_
    refine KO.mv rfl rfl ?_
    (refine KO.on rfl rfl ?_ ?_; (focus (simp only [decide_eq_true_eq, decide_eq_false_iff_not, Bool.not_eq_true, Bool.not_true, Bool.not_false, ne_eq]; omega)); (refine KO.fo0 (off := 0) rfl Tryd.runUnderlying72 rfl rfl Tryd.sizeOf3 rfl ?_))
    (refine KO.on rfl rfl ?_ ?_; (focus (simp only [decide_eq_true_eq, decide_eq_false_iff_not, Bool.not_eq_true, Bool.not_true, Bool.not_false, ne_eq]; omega)); (refine KO.ld rfl rfl Tryd.isAgg3 (by with_reducible (repeat (exact Pick.head))) (by exact rfl) rfl ?_))
    (refine KO.on rfl rfl ?_ ?_; (focus (simp only [decide_eq_true_eq, decide_eq_false_iff_not, Bool.not_eq_true, Bool.not_true, Bool.not_false, ne_eq]; omega)); (refine KO.geq rfl rfl rfl ?_))
    (refine KO.pickF rfl ?_ rfl rfl ?_; (focus (simp only [decide_eq_true_eq, decide_eq_false_iff_not, Bool.not_eq_true, Bool.not_true, Bool.not_false, ne_eq]; omega)))
    refine KO.mv rfl rfl ?_
    (refine KO.on rfl rfl ?_ ?_; (focus (simp only [decide_eq_true_eq, decide_eq_false_iff_not, Bool.not_eq_true, Bool.not_true, Bool.not_false, ne_eq]; omega)); (refine KO.fo0 (off := 1) rfl Tryd.runUnderlying72 rfl rfl Tryd.sizeOf3 rfl ?_))
    (refine KO.on rfl rfl ?_ ?_; (focus (simp only [decide_eq_true_eq, decide_eq_false_iff_not, Bool.not_eq_true, Bool.not_true, Bool.not_false, ne_eq]; omega)); (refine KO.ld rfl rfl Tryd.isAgg3 (by with_reducible (repeat (exact Pick.head))) (by exact rfl) rfl ?_))
    (refine KO.on rfl rfl ?_ ?_; (focus (simp only [decide_eq_true_eq, decide_eq_false_iff_not, Bool.not_eq_true, Bool.not_true, Bool.not_false, ne_eq]; omega)); (refine KO.lss rfl rfl rfl ?_))
    (refine KO.pickF rfl ?_ rfl rfl ?_; (focus (simp only [decide_eq_true_eq, decide_eq_false_iff_not, Bool.not_eq_true, Bool.not_true, Bool.not_false, ne_eq]; omega)))
    refine KO.mv rfl rfl ?_
    (refine KO.on rfl rfl ?_ ?_; (focus (simp only [decide_eq_true_eq, decide_eq_false_iff_not, Bool.not_eq_true, Bool.not_true, Bool.not_false, ne_eq]; omega)); (refine KO.fo0 (off := 1) rfl Tryd.runUnderlying72 rfl rfl Tryd.sizeOf3 rfl ?_))
    (refine KO.on rfl rfl ?_ ?_; (focus (simp only [decide_eq_true_eq, decide_eq_false_iff_not, Bool.not_eq_true, Bool.not_true, Bool.not_false, ne_eq]; omega)); (refine KO.ld rfl rfl Tryd.isAgg3 (by with_reducible (repeat (exact Pick.head))) (by exact rfl) rfl ?_))
    (refine KO.on rfl rfl ?_ ?_; (focus (simp only [decide_eq_true_eq, decide_eq_false_iff_not, Bool.not_eq_true, Bool.not_true, Bool.not_false, ne_eq]; omega)); (refine KO.gtr rfl rfl rfl ?_))
    (refine KO.pickF rfl ?_ rfl rfl ?_; (focus (simp only [decide_eq_true_eq, decide_eq_false_iff_not, Bool.not_eq_true, Bool.not_true, Bool.not_false, ne_eq]; omega)))
    refine KO.mv rfl rfl ?_
    (refine KO.on rfl rfl ?_ ?_; (focus (simp only [decide_eq_true_eq, decide_eq_false_iff_not, Bool.not_eq_true, Bool.not_true, Bool.not_false, ne_eq]; omega)); (refine KO.fo0 (off := 2) rfl Tryd.runUnderlying72 rfl rfl Tryd.sizeOf4 rfl ?_))
    (refine KO.on rfl rfl ?_ ?_; (focus (simp only [decide_eq_true_eq, decide_eq_false_iff_not, Bool.not_eq_true, Bool.not_true, Bool.not_false, ne_eq]; omega)); (refine KO.ld rfl rfl Tryd.isAgg4 (by with_reducible (repeat (exact Pick.head))) (by exact rfl) rfl ?_))
    (refine KO.on rfl rfl ?_ ?_; (focus (simp only [decide_eq_true_eq, decide_eq_false_iff_not, Bool.not_eq_true, Bool.not_true, Bool.not_false, ne_eq]; omega)); (refine KO.fo0 (off := 3) rfl Tryd.runUnderlying72 rfl rfl Tryd.sizeOf57 rfl ?_))
    (refine KO.on rfl rfl ?_ ?_; (focus (simp only [decide_eq_true_eq, decide_eq_false_iff_not, Bool.not_eq_true, Bool.not_true, Bool.not_false, ne_eq]; omega)); (refine KO.ld rfl rfl Tryd.isAgg57 (by with_reducible (repeat (exact Pick.head))) (by exact rfl) rfl ?_))
    (refine KO.on rfl rfl ?_ ?_; (focus (simp only [decide_eq_true_eq, decide_eq_false_iff_not, Bool.not_eq_true, Bool.not_true, Bool.not_false, ne_eq]; omega)); (refine KO.len rfl Tryd.underlying57 rfl ?_))
    (refine KO.on rfl rfl ?_ ?_; (focus (simp only [decide_eq_true_eq, decide_eq_false_iff_not, Bool.not_eq_true, Bool.not_true, Bool.not_false, ne_eq]; omega)); (refine KO.eqI rfl rfl rfl ?_))
    (refine KO.on rfl rfl ?_ ?_; (focus (simp only [decide_eq_true_eq, decide_eq_false_iff_not, Bool.not_eq_true, Bool.not_true, Bool.not_false, ne_eq]; omega)); (refine KO.neB rfl rfl Tryd.underlying4 rfl ?_))
    (refine KO.pickF rfl ?_ rfl rfl ?_; (focus (simp only [decide_eq_true_eq, decide_eq_false_iff_not, Bool.not_eq_true, Bool.not_true, Bool.not_false, ne_eq]; omega)))
    refine KO.mv rfl rfl ?_
    (refine KO.on rfl rfl ?_ ?_; (focus assumption); (refine KO.fo0 (off := 3) rfl Tryd.runUnderlying72 rfl rfl Tryd.sizeOf57 rfl ?_))
    (refine KO.on rfl rfl ?_ ?_; (focus assumption); (refine KO.ld rfl rfl Tryd.isAgg57 (by with_reducible (repeat (exact Pick.head))) (by exact rfl) rfl ?_))
    (refine KO.on rfl rfl ?_ ?_; (focus assumption); (refine KO.len rfl Tryd.underlying57 rfl ?_))
    (refine KO.on rfl rfl ?_ ?_; (focus assumption); (refine KO.gtr rfl rfl rfl ?_))
    (refine KO.pickF rfl ?_ rfl rfl ?_; (focus assumption))
    refine KO.nil ?_
    repeat ((with_reducible refine KQ.next ?_))
    refine K.condT rfl (by simp [a7]) ?_
    repeat ((with_reducible refine K.seq ?_))
    refine K.reg ?_
    refine KO.mki rfl (by kernel_rfl) rfl ?_
    refine KO.as rfl rfl ?_
    refine KO.as rfl rfl ?_
    refine KO.nil ?_
    repeat (first | (with_reducible refine KQ.next ?_) | (with_reducible refine KQ.then_ret ?_) | (with_reducible refine K.ret ?_))
    refine KQ.ret2 rfl rfl rfl (fun w' hs => fin 1 ⟨#[]⟩ w' _ hbad.1.symm hbad.2.symm hs)
  refine K.reg ?_
  refine KO.fo0 (off := 0) rfl Tryd.runUnderlying72 rfl rfl Tryd.sizeOf3 rfl ?_
  refine KO.ld rfl rfl Tryd.isAgg3 (by with_reducible (repeat (exact Pick.head))) (by exact rfl) rfl ?_
  refine KO.lss rfl rfl rfl ?_
  refine KO.mv rfl rfl ?_
  (refine KO.on rfl rfl ?_ ?_; (focus (simp only [decide_eq_true_eq, decide_eq_false_iff_not, Bool.not_eq_true, Bool.not_true, Bool.not_false, ne_eq]; omega)); (refine KO.fo0 (off := 0) rfl Tryd.runUnderlying72 rfl rfl Tryd.sizeOf3 rfl ?_))
  (refine KO.on rfl rfl ?_ ?_; (focus (simp only [decide_eq_true_eq, decide_eq_false_iff_not, Bool.not_eq_true, Bool.not_true, Bool.not_false, ne_eq]; omega)); (refine KO.ld rfl rfl Tryd.isAgg3 (by with_reducible (repeat (exact Pick.head))) (by exact rfl) rfl ?_))
  (refine KO.on rfl rfl ?_ ?_; (focus (simp only [decide_eq_true_eq, decide_eq_false_iff_not, Bool.not_eq_true, Bool.not_true, Bool.not_false, ne_eq]; omega)); (refine KO.geq rfl rfl rfl ?_))
  (refine KO.pickF rfl ?_ rfl rfl ?_; (focus (simp only [decide_eq_true_eq, decide_eq_false_iff_not, Bool.not_eq_true, Bool.not_true, Bool.not_false, ne_eq]; omega)))
  refine KO.mv rfl rfl ?_
  (refine KO.on rfl rfl ?_ ?_; (focus (simp only [decide_eq_true_eq, decide_eq_false_iff_not, Bool.not_eq_true, Bool.not_true, Bool.not_false, ne_eq]; omega)); (refine KO.fo0 (off := 1) rfl Tryd.runUnderlying72 rfl rfl Tryd.sizeOf3 rfl ?_))
  (refine KO.on rfl rfl ?_ ?_; (focus (simp only [decide_eq_true_eq, decide_eq_false_iff_not, Bool.not_eq_true, Bool.not_true, Bool.not_false, ne_eq]; omega)); (refine KO.ld rfl rfl Tryd.isAgg3 (by with_reducible (repeat (exact Pick.head))) (by exact rfl) rfl ?_))
  (refine KO.on rfl rfl ?_ ?_; (focus (simp only [decide_eq_true_eq, decide_eq_false_iff_not, Bool.not_eq_true, Bool.not_true, Bool.not_false, ne_eq]; omega)); (refine KO.lss rfl rfl rfl ?_))
  (refine KO.pickF rfl ?_ rfl rfl ?_; (focus (simp only [decide_eq_true_eq, decide_eq_false_iff_not, Bool.not_eq_true, Bool.not_true, Bool.not_false, ne_eq]; omega)))
  refine KO.mv rfl rfl ?_
  (refine KO.on rfl rfl ?_ ?_; (focus (simp only [decide_eq_true_eq, decide_eq_false_iff_not, Bool.not_eq_true, Bool.not_true, Bool.not_false, ne_eq]; omega)); (refine KO.fo0 (off := 1) rfl Tryd.runUnderlying72 rfl rfl Tryd.sizeOf3 rfl ?_))
  (refine KO.on rfl rfl ?_ ?_; (focus (simp only [decide_eq_true_eq, decide_eq_false_iff_not, Bool.not_eq_true, Bool.not_true, Bool.not_false, ne_eq]; omega)); (refine KO.ld rfl rfl Tryd.isAgg3 (by with_reducible (repeat (exact Pick.head))) (by exact rfl) rfl ?_))
  (refine KO.on rfl rfl ?_ ?_; (focus (simp only [decide_eq_true_eq, decide_eq_false_iff_not, Bool.not_eq_true, Bool.not_true, Bool.not_false, ne_eq]; omega)); (refine KO.gtr rfl rfl rfl ?_))
  (refine KO.pickF rfl ?_ rfl rfl ?_; (focus (simp only [decide_eq_true_eq, decide_eq_false_iff_not, Bool.not_eq_true, Bool.not_true, Bool.not_false, ne_eq]; omega)))
  refine KO.mv rfl rfl ?_
  (refine KO.on rfl rfl ?_ ?_; (focus (simp only [decide_eq_true_eq, decide_eq_false_iff_not, Bool.not_eq_true, Bool.not_true, Bool.not_false, ne_eq]; omega)); (refine KO.fo0 (off := 2) rfl Tryd.runUnderlying72 rfl rfl Tryd.sizeOf4 rfl ?_))
  (refine KO.on rfl rfl ?_ ?_; (focus (simp only [decide_eq_true_eq, decide_eq_false_iff_not, Bool.not_eq_true, Bool.not_true, Bool.not_false, ne_eq]; omega)); (refine KO.ld rfl rfl Tryd.isAgg4 (by with_reducible (repeat (exact Pick.head))) (by exact rfl) rfl ?_))
  (refine KO.on rfl rfl ?_ ?_; (focus (simp only [decide_eq_true_eq, decide_eq_false_iff_not, Bool.not_eq_true, Bool.not_true, Bool.not_false, ne_eq]; omega)); (refine KO.fo0 (off := 3) rfl Tryd.runUnderlying72 rfl rfl Tryd.sizeOf57 rfl ?_))
  (refine KO.on rfl rfl ?_ ?_; (focus (simp only [decide_eq_true_eq, decide_eq_false_iff_not, Bool.not_eq_true, Bool.not_true, Bool.not_false, ne_eq]; omega)); (refine KO.ld rfl rfl Tryd.isAgg57 (by with_reducible (repeat (exact Pick.head))) (by exact rfl) rfl ?_))
  (refine KO.on rfl rfl ?_ ?_; (focus (simp only [decide_eq_true_eq, decide_eq_false_iff_not, Bool.not_eq_true, Bool.not_true, Bool.not_false, ne_eq]; omega)); (refine KO.len rfl Tryd.underlying57 rfl ?_))
  (refine KO.on rfl rfl ?_ ?_; (focus (simp only [decide_eq_true_eq, decide_eq_false_iff_not, Bool.not_eq_true, Bool.not_true, Bool.not_false, ne_eq]; omega)); (refine KO.eqI rfl rfl rfl ?_))
  (refine KO.on rfl rfl ?_ ?_; (focus (simp only [decide_eq_true_eq, decide_eq_false_iff_not, Bool.not_eq_true, Bool.not_true, Bool.not_false, ne_eq]; omega)); (refine KO.neB rfl rfl Tryd.underlying4 rfl ?_))
  (refine KO.pickF rfl ?_ rfl rfl ?_; (focus (simp only [decide_eq_true_eq, decide_eq_false_iff_not, Bool.not_eq_true, Bool.not_true, Bool.not_false, ne_eq]; omega)))
  refine KO.mv rfl rfl ?_
  (refine KO.on rfl rfl ?_ ?_; (focus assumption); (refine KO.fo0 (off := 3) rfl Tryd.runUnderlying72 rfl rfl Tryd.sizeOf57 rfl ?_))
  (refine KO.on rfl rfl ?_ ?_; (focus assumption); (refine KO.ld rfl rfl Tryd.isAgg57 (by with_reducible (repeat (exact Pick.head))) (by exact rfl) rfl ?_))
  (refine KO.on rfl rfl ?_ ?_; (focus assumption); (refine KO.len rfl Tryd.underlying57 rfl ?_))
  (refine KO.on rfl rfl ?_ ?_; (focus assumption); (refine KO.gtr rfl rfl rfl ?_))
  (refine KO.pickF rfl ?_ rfl rfl ?_; (focus assumption))
  refine KO.nil ?_
  repeat ((with_reducible refine KQ.next ?_))
  refine K.condF rfl (by simp [a7]) ?_
  repeat (first | (with_reducible refine K.seq ?_) | (with_reducible refine KQ.next ?_) | (with_reducible refine K.skip ?_))
  cases hb : badI xs with
  | some k =>
    have hbad := fw_bad (f := f) (xs := xs) (fun h => by unfold okF at h; rw [hb] at h; exact absurd h.2.2.2.2.2.2 (by simp))
    refine K.reg ?_
    refine KO.fo0 (off := 3) rfl Tryd.runUnderlying72 rfl rfl Tryd.sizeOf57 rfl ?_
    refine KO.ld rfl rfl Tryd.isAgg57 (by with_reducible (repeat (exact Pick.head))) (by exact rfl) rfl ?_
    refine KO.ce (cp := []) rfl rfl rfl Tryd.call26 rfl (mwrite_e w _ _ xs (fun w' hw' => rdA_extM hr (Ext.of_below hw'.below)) hT hsz (by omega)) ?_; rintro v' L' hR; unfold MwR at hR; rw [hb] at hR; obtain ⟨be, rfl, rfl⟩ := hR; unfold atV
    refine KO.mv rfl rfl ?_
    refine KO.extrL rfl (by exact rfl) rfl ?_
    refine KO.extrL rfl (by exact rfl) rfl ?_
    refine KO.as rfl rfl ?_
    refine KO.as rfl rfl ?_
    refine KO.nil ?_
    repeat (first | (with_reducible refine K.seq ?_) | (with_reducible refine KQ.next ?_))
    refine K.reg ?_
    refine KO.mv rfl rfl ?_
    refine KO.neIf rfl (by kernel_rfl) rfl ?_
    refine KO.nil ?_
    repeat ((with_reducible refine KQ.next ?_))
    refine K.condT rfl rfl ?_
    repeat ((with_reducible refine K.seq ?_))
    refine K.reg ?_
    refine KO.mki rfl (by kernel_rfl) rfl ?_
    refine KO.as rfl rfl ?_
    refine KO.as rfl rfl ?_
    refine KO.nil ?_
    repeat (first | (with_reducible refine KQ.next ?_) | (with_reducible refine KQ.then_ret ?_) | (with_reducible refine K.ret ?_))
    refine KQ.ret2 rfl rfl rfl (fun w' hs => fin 1 ⟨#[]⟩ w' _ hbad.1.symm hbad.2.symm hs)
  | none =>
    have hok : okF f xs := by unfold okF; exact ⟨by omega, by omega, by omega, by omega, by rw [a5, hz], by omega, hb⟩
    obtain ⟨e1, e2⟩ := fw_ok hok
    have i1 : intB f.frm := ⟨by omega, by omega⟩
    have i2 : intB f.num := ⟨by omega, by omega⟩
    have s1 := itoaS_size i1
    have s2 := itoaS_size i2
    have s3 := writeS_size (badI_all hb)
    refine K.reg ?_
    refine KO.fo0 (off := 3) rfl Tryd.runUnderlying72 rfl rfl Tryd.sizeOf57 rfl ?_
    refine KO.ld rfl rfl Tryd.isAgg57 (by with_reducible (repeat (exact Pick.head))) (by exact rfl) rfl ?_
    refine KO.ce (cp := []) rfl rfl rfl Tryd.call26 rfl (mwrite_e w _ _ xs (fun w' hw' => rdA_extM hr (Ext.of_below hw'.below)) hT hsz (by omega)) ?_; rintro v' L' hR; unfold MwR at hR; rw [hb] at hR; obtain ⟨rfl, rfl⟩ := hR
    refine KO.mv rfl rfl ?_
    refine KO.extrL rfl (by exact rfl) rfl ?_
    refine KO.extrL rfl (by exact rfl) rfl ?_
    refine KO.as rfl rfl ?_
    refine KO.as rfl rfl ?_
    refine KO.nil ?_
    repeat (first | (with_reducible refine K.seq ?_) | (with_reducible refine KQ.next ?_))
    refine K.reg ?_
    refine KO.mv rfl rfl ?_
    refine KO.neI0 rfl (by kernel_rfl) rfl ?_
    refine KO.nil ?_
    repeat ((with_reducible refine KQ.next ?_))
    refine K.condF rfl rfl ?_
    repeat (first | (with_reducible refine K.seq ?_) | (with_reducible refine KQ.next ?_) | (with_reducible refine K.skip ?_))
    refine K.reg ?_
    refine KO.as rfl rfl ?_
    refine KO.nil ?_
    repeat (first | (with_reducible refine K.seq ?_) | (with_reducible refine KQ.next ?_))
    refine K.reg ?_
    refine KO.fo0 (off := 2) rfl Tryd.runUnderlying72 rfl rfl Tryd.sizeOf4 rfl ?_
    refine KO.ld rfl rfl Tryd.isAgg4 (by with_reducible (repeat (exact Pick.head))) (by exact rfl) rfl ?_
    refine KO.nil ?_
    repeat ((with_reducible refine KQ.next ?_))
    have hks : (kindS f.ack).size ≤ 1 := by unfold kindS; split <;> decide
    have hjz : (joinS [kindS f.ack, itoaS f.frm, itoaS f.num, writeS xs] colon).size ≤ 1000000 := by
      have := joinS_size colon 1000 [kindS f.ack, itoaS f.frm, itoaS f.num, writeS xs] (by intro x hx; simp at hx; rcases hx with rfl | rfl | rfl | rfl <;> omega)
      have h2 : colon.size = 1 := rfl
      simp at this; omega
    refine K.cut (fun _ : Unit => [(1, .pointer (some ⟨b1, 0, none⟩)), (4, .string (writeS xs)), (6, .string (kindS f.ack))]) (fun _ => [blk b1 (.cells (frC f (.slice sa xs.length cap)).toArray 72 (0, 0))]) (fun _ => True) ?_ ?_
    · refine K.cond rfl (fun h => ?_) (fun h => ?_)
      · refine K.reg ?_
        refine KO.as rfl rfl ?_
        refine KO.nil ?_
        exact KQ.mid () trivial ⟨rfl, rfl, by rw [h]; rfl, trivial⟩ (fun _ h => h.all (by with_reducible repeat (exact PAll.refl)))
      · refine K.skip ?_
        exact KQ.mid () trivial ⟨rfl, rfl, by rw [h]; rfl, trivial⟩ (fun _ h => h.all (by with_reducible repeat (exact PAll.refl)))
    rintro _ _
    repeat ((with_reducible refine K.seq ?_))
    refine K.draw [.pure, .pure, .read, .keep, .pure, .read, .keep, .pure, .keep, .keep, .pure, .pure] [0, 1, 2, 4, 5, 7, 3, 6, 8, 9, 10, 11] (by kernel_rfl) (by kernel_rfl) ?_
    refine KO.mv rfl rfl ?_
    refine KO.fo0 (off := 0) rfl Tryd.runUnderlying72 rfl rfl Tryd.sizeOf3 rfl ?_
    refine KO.ld rfl rfl Tryd.isAgg3 (by with_reducible (repeat (exact Pick.head))) (by exact rfl) rfl ?_
    refine KO.fo0 (off := 1) rfl Tryd.runUnderlying72 rfl rfl Tryd.sizeOf3 rfl ?_
    refine KO.ld rfl rfl Tryd.isAgg3 (by with_reducible (repeat (exact Pick.head))) (by exact rfl) rfl ?_
    refine KO.mv rfl rfl ?_
    refine KO.ce (cp := []) rfl rfl rfl Tryd.call59 rfl (itoa_e w _ f.frm hT i1) ?_; rintro v' L' ⟨rfl, rfl⟩
    refine KO.ce (cp := []) rfl rfl rfl Tryd.call59 rfl (itoa_e w _ f.num hT i2) ?_; rintro v' L' ⟨rfl, rfl⟩
    refine KO.bsF (z := (Value.string ⟨#[]⟩)) (by' := 16) rfl [.tmp 52, .tmp 55, .tmp 58, .tmp 59] rfl rfl Tryd.underlying24 (by kernel_rfl) (by exact rfl) (by exact rfl) (by decide) (by decide) (by exact rfl) rfl ?_; intro b60
    refine KO.conv (fun w' hw' => strS_blk (b := b60) (vs := [.string (kindS f.ack), .string (itoaS f.frm), .string (itoaS f.num), .string (writeS xs)]) (xs := [kindS f.ack, itoaS f.frm, itoaS f.num, writeS xs]) (k := 4) (hw'.pick (by with_reducible (repeat (exact Pick.head)))) rfl rfl (by omega)) ?_; refine KO.ce (cp := []) rfl rfl rfl Tryd.call60 rfl (join_e w _ _ (.slice (some ⟨b60, 0, none⟩) 4 4) [kindS f.ack, itoaS f.frm, itoaS f.num, writeS xs] colon .head (by simp) (by omega)) ?_; rintro v' L' ⟨rfl, rfl⟩
    refine KO.as rfl rfl ?_
    refine KO.as rfl rfl ?_
    refine KO.nil ?_
    repeat (first | (with_reducible refine KQ.next ?_) | (with_reducible refine K.ret ?_))
    refine KQ.ret2 rfl rfl rfl (fun w' hs => fin 0 (frS f xs) w' _ e1.symm e2.symm hs)
set_option maxRecDepth 100000 in
set_option maxHeartbeats 40000000 in
theorem rfw_e (w0 : World) (L : List HP) (f : Fr) (v : Value) (xs : List Ms) (hr0 : ∀ w, St w0 L w → RdA w 5 msC v xs) (hT0 : Tab w0) (hsz : ∀ m ∈ xs, m.body.size ≤ maxLen ∧ m.queue.size ≤ maxLen) (hl : xs.length ≤ 100000) :
    KE Tryd.prog 35 #[.agg (frC f v).toArray] w0 L (fun u M => u = .tuple #[.string (fwT f xs), .int .i64 (fwE f xs)] ∧ M = L) := by
  refine KE.mk (n := 72) Tryd.func35 rfl Tryd.ntmps35 (by simp) ?_
  intro w hw
  have hT := hT0.ext (Ext.of_below hw.below)
  have hr := hr0 w hw
  have hr1 := hr
  obtain ⟨sa, cap, rfl, hc⟩ := hr1
  have fin : ∀ (e : Int) (t : ByteArray) (w' : World) (M : List HP), e = fwE f xs → t = fwT f xs → St w M w' → ∃ v L', Ending.returned (.tuple #[.string t, .int .i64 e]) = Ending.returned v ∧ (v = .tuple #[.string (fwT f xs), .int .i64 (fwE f xs)] ∧ L' = L) ∧ St w0 L' w' ∧ Below w.heap.size w w' := fun e t w' M h1 h2 hs => ⟨_, _, rfl, ⟨by rw [h1, h2], rfl⟩, hw.below_step hs.below, hs.below⟩
  generalize hc1 : (decide (0 ≤ f.frm) && decide (f.frm ≤ 3)) = c1
  generalize hc2 : (decide (0 ≤ f.num) && decide (f.num ≤ 1099511627776)) = c2
  have d1 : c1 = true → 0 ≤ f.frm ∧ f.frm ≤ 3 := fun h => by rw [← hc1] at h; simpa using h
  have d1' : c1 = false → ¬ okF f xs := fun h hk => by rw [← hc1] at h; unfold okF at hk; simp at h; omega
  have d2 : c2 = true → 0 ≤ f.num ∧ f.num ≤ 1099511627776 := fun h => by rw [← hc2] at h; simpa using h
  have d2' : c2 = false → ¬ okF f xs := fun h hk => by rw [← hc2] at h; unfold okF at hk; simp at h; omega
  repeat ((with_reducible refine K.seq ?_))
  refine K.reg ?_
  refine KO.box rfl rfl (by exact rfl) rfl ?_; intro b1
  refine KO.as rfl rfl ?_
  refine KO.as rfl rfl ?_
  refine KO.nil ?_
  repeat (first | (with_reducible refine K.seq ?_) | (with_reducible refine KQ.next ?_))
  refine K.reg ?_
  refine KO.fo0 (off := 3) rfl Tryd.runUnderlying75 rfl rfl Tryd.sizeOf57 rfl ?_
  refine KO.ld rfl rfl Tryd.isAgg57 (by with_reducible (repeat (exact Pick.head))) (by exact rfl) rfl ?_
  refine KO.ce (cp := []) rfl rfl rfl Tryd.call25 rfl (rwrite_e w _ _ xs (fun w' hw' => rdA_extM hr (Ext.of_below hw'.below)) hT hsz (by omega)) ?_; rintro v' L' ⟨rfl, rfl⟩
  refine KO.mv rfl rfl ?_
  refine KO.extrL rfl (by exact rfl) rfl ?_
  refine KO.extrL rfl (by exact rfl) rfl ?_
  refine KO.alloc rfl Tryd.zeroValue63 (by exact rfl) rfl ?_; intro b5
  refine KO.as rfl rfl ?_
  refine KO.sto0 rfl rfl rfl (by exact rfl) (by exact Tryd.sizeOf63) (by exact rfl) (by with_reducible (repeat (exact Pick.head))) (by exact rfl) ?_
  refine KO.nil ?_
  repeat (first | (with_reducible refine K.seq ?_) | (with_reducible refine KQ.next ?_))
  cases c1
  · have hbad := fw_bad (d1' rfl)
    refine K.reg ?_
    refine KO.fo0 (off := 0) rfl Tryd.runUnderlying75 rfl rfl Tryd.sizeOf3 rfl ?_
    refine KO.ld rfl rfl Tryd.isAgg3 (by with_reducible (repeat (first | exact Pick.head | apply Pick.tail))) (by exact rfl) rfl ?_
    refine KO.ce (cp := []) rfl rfl rfl Tryd.call62 rfl (in_e w _ f.frm 0 3) ?_; rintro v' L' ⟨rfl, rfl⟩; rw [hc1]
    refine KO.not rfl rfl ?_
    refine KO.mv rfl rfl ?_
    (refine KO.no rfl rfl ?_ rfl ?_; (focus rfl))
    (refine KO.no rfl rfl ?_ rfl ?_; (focus rfl))
    (refine KO.no rfl rfl ?_ rfl ?_; (focus rfl))
    (refine KO.no rfl rfl ?_ rfl ?_; (focus rfl))
    (refine KO.pickT rfl ?_ rfl rfl ?_; (focus rfl))
    refine KO.mv rfl rfl ?_
    (refine KO.no rfl rfl ?_ rfl ?_; (focus rfl))
    (refine KO.no rfl rfl ?_ rfl ?_; (focus rfl))
    (refine KO.no rfl rfl ?_ rfl ?_; (focus rfl))
    (refine KO.no rfl rfl ?_ rfl ?_; (focus rfl))
    (refine KO.pickT rfl ?_ rfl rfl ?_; (focus rfl))
    refine KO.mv rfl rfl ?_
    (refine KO.no rfl rfl ?_ rfl ?_; (focus rfl))
    (refine KO.no rfl rfl ?_ rfl ?_; (focus rfl))
    (refine KO.no rfl rfl ?_ rfl ?_; (focus rfl))
    (refine KO.pickT rfl ?_ rfl rfl ?_; (focus rfl))
    refine KO.mv rfl rfl ?_
    (refine KO.no rfl rfl ?_ rfl ?_; (focus rfl))
    (refine KO.no rfl rfl ?_ rfl ?_; (focus rfl))
    (refine KO.no rfl rfl ?_ rfl ?_; (focus rfl))
    refine KO.no2 rfl rfl rfl ?_
    refine KO.no2 rfl rfl rfl ?_
    refine KO.no2 rfl rfl rfl ?_
    refine KO.no2 rfl rfl rfl ?_
    (refine KO.no rfl rfl ?_ rfl ?_; (focus rfl))
    (refine KO.pickT rfl ?_ rfl rfl ?_; (focus rfl))
    refine KO.mv rfl rfl ?_
    (refine KO.no rfl rfl ?_ rfl ?_; (focus rfl))
    (refine KO.no rfl rfl ?_ rfl ?_; (focus rfl))
    (refine KO.no rfl rfl ?_ rfl ?_; (focus rfl))
    (refine KO.no rfl rfl ?_ rfl ?_; (focus rfl))
    refine KO.no2 rfl rfl rfl ?_
    refine KO.no2 rfl rfl rfl ?_
    refine KO.no2 rfl rfl rfl ?_
    refine KO.no2 rfl rfl rfl ?_
    (refine KO.no rfl rfl ?_ rfl ?_; (focus rfl))
    (refine KO.pickT rfl ?_ rfl rfl ?_; (focus rfl))
    refine KO.nil ?_
    repeat ((with_reducible refine KQ.next ?_))
    refine K.condT rfl rfl ?_
    repeat ((with_reducible refine K.seq ?_))
    refine K.reg ?_
    refine KO.as rfl rfl ?_
    refine KO.as rfl rfl ?_
    refine KO.nil ?_
    repeat (first | (with_reducible refine KQ.next ?_) | (with_reducible refine KQ.then_ret ?_) | (with_reducible refine K.ret ?_))
    refine KQ.ret2 rfl rfl rfl (fun w' hs => fin 1 ⟨#[]⟩ w' _ hbad.1.symm hbad.2.symm hs)
  cases c2
  · have hbad := fw_bad (d2' rfl)
    refine K.reg ?_
    refine KO.fo0 (off := 0) rfl Tryd.runUnderlying75 rfl rfl Tryd.sizeOf3 rfl ?_
    refine KO.ld rfl rfl Tryd.isAgg3 (by with_reducible (repeat (first | exact Pick.head | apply Pick.tail))) (by exact rfl) rfl ?_
    refine KO.ce (cp := []) rfl rfl rfl Tryd.call62 rfl (in_e w _ f.frm 0 3) ?_; rintro v' L' ⟨rfl, rfl⟩; rw [hc1]
    refine KO.not rfl rfl ?_
    refine KO.mv rfl rfl ?_
    (refine KO.on rfl rfl ?_ ?_; (focus rfl); (refine KO.fo0 (off := 1) rfl Tryd.runUnderlying75 rfl rfl Tryd.sizeOf3 rfl ?_))
    (refine KO.on rfl rfl ?_ ?_; (focus rfl); (refine KO.ld rfl rfl Tryd.isAgg3 (by with_reducible (repeat (first | exact Pick.head | apply Pick.tail))) (by exact rfl) rfl ?_))
    refine KO.on rfl rfl rfl ?_; refine KO.ce (cp := []) rfl rfl rfl Tryd.call62 rfl (in_e w _ f.num 0 1099511627776) ?_; rintro v' L' ⟨rfl, rfl⟩; rw [hc2]
    (refine KO.on rfl rfl ?_ ?_; (focus rfl); (refine KO.not rfl rfl ?_))
    (refine KO.pickF rfl ?_ rfl rfl ?_; (focus rfl))
    refine KO.mv rfl rfl ?_
    (refine KO.no rfl rfl ?_ rfl ?_; (focus rfl))
    (refine KO.no rfl rfl ?_ rfl ?_; (focus rfl))
    (refine KO.no rfl rfl ?_ rfl ?_; (focus rfl))
    (refine KO.no rfl rfl ?_ rfl ?_; (focus rfl))
    (refine KO.pickT rfl ?_ rfl rfl ?_; (focus rfl))
    refine KO.mv rfl rfl ?_
    (refine KO.no rfl rfl ?_ rfl ?_; (focus rfl))
    (refine KO.no rfl rfl ?_ rfl ?_; (focus rfl))
    (refine KO.no rfl rfl ?_ rfl ?_; (focus rfl))
    (refine KO.pickT rfl ?_ rfl rfl ?_; (focus rfl))
    refine KO.mv rfl rfl ?_
    (refine KO.no rfl rfl ?_ rfl ?_; (focus rfl))
    (refine KO.no rfl rfl ?_ rfl ?_; (focus rfl))
    (refine KO.no rfl rfl ?_ rfl ?_; (focus rfl))
    refine KO.no2 rfl rfl rfl ?_
    refine KO.no2 rfl rfl rfl ?_
    refine KO.no2 rfl rfl rfl ?_
    refine KO.no2 rfl rfl rfl ?_
    (refine KO.no rfl rfl ?_ rfl ?_; (focus rfl))
    (refine KO.pickT rfl ?_ rfl rfl ?_; (focus rfl))
    refine KO.mv rfl rfl ?_
    (refine KO.no rfl rfl ?_ rfl ?_; (focus rfl))
    (refine KO.no rfl rfl ?_ rfl ?_; (focus rfl))
    (refine KO.no rfl rfl ?_ rfl ?_; (focus rfl))
    (refine KO.no rfl rfl ?_ rfl ?_; (focus rfl))
    refine KO.no2 rfl rfl rfl ?_
    refine KO.no2 rfl rfl rfl ?_
    refine KO.no2 rfl rfl rfl ?_
    refine KO.no2 rfl rfl rfl ?_
    (refine KO.no rfl rfl ?_ rfl ?_; (focus rfl))
    (refine KO.pickT rfl ?_ rfl rfl ?_; (focus rfl))
    refine KO.nil ?_
    repeat ((with_reducible refine KQ.next ?_))
    refine K.condT rfl rfl ?_
    repeat ((with_reducible refine K.seq ?_))
    refine K.reg ?_
    refine KO.as rfl rfl ?_
    refine KO.as rfl rfl ?_
    refine KO.nil ?_
    repeat (first | (with_reducible refine KQ.next ?_) | (with_reducible refine KQ.then_ret ?_) | (with_reducible refine K.ret ?_))
    refine KQ.ret2 rfl rfl rfl (fun w' hs => fin 1 ⟨#[]⟩ w' _ hbad.1.symm hbad.2.symm hs)
  by_cases a3 : 3 < (xs.length : Int)
  · have hbad := fw_bad (f := f) (xs := xs) (fun h => by unfold okF at h; omega)
    refine K.reg ?_
    refine KO.fo0 (off := 0) rfl Tryd.runUnderlying75 rfl rfl Tryd.sizeOf3 rfl ?_
    refine KO.ld rfl rfl Tryd.isAgg3 (by with_reducible (repeat (first | exact Pick.head | apply Pick.tail))) (by exact rfl) rfl ?_
    refine KO.ce (cp := []) rfl rfl rfl Tryd.call62 rfl (in_e w _ f.frm 0 3) ?_; rintro v' L' ⟨rfl, rfl⟩; rw [hc1]
    refine KO.not rfl rfl ?_
    refine KO.mv rfl rfl ?_
    (refine KO.on rfl rfl ?_ ?_; (focus rfl); (refine KO.fo0 (off := 1) rfl Tryd.runUnderlying75 rfl rfl Tryd.sizeOf3 rfl ?_))
    (refine KO.on rfl rfl ?_ ?_; (focus rfl); (refine KO.ld rfl rfl Tryd.isAgg3 (by with_reducible (repeat (first | exact Pick.head | apply Pick.tail))) (by exact rfl) rfl ?_))
    refine KO.on rfl rfl rfl ?_; refine KO.ce (cp := []) rfl rfl rfl Tryd.call62 rfl (in_e w _ f.num 0 1099511627776) ?_; rintro v' L' ⟨rfl, rfl⟩; rw [hc2]
    (refine KO.on rfl rfl ?_ ?_; (focus rfl); (refine KO.not rfl rfl ?_))
    (refine KO.pickF rfl ?_ rfl rfl ?_; (focus rfl))
    refine KO.mv rfl rfl ?_
    (refine KO.on rfl rfl ?_ ?_; (focus rfl); (refine KO.fo0 (off := 3) rfl Tryd.runUnderlying75 rfl rfl Tryd.sizeOf57 rfl ?_))
    (refine KO.on rfl rfl ?_ ?_; (focus rfl); (refine KO.ld rfl rfl Tryd.isAgg57 (by with_reducible (repeat (first | exact Pick.head | apply Pick.tail))) (by exact rfl) rfl ?_))
    (refine KO.on rfl rfl ?_ ?_; (focus rfl); (refine KO.len rfl Tryd.underlying57 rfl ?_))
    (refine KO.on rfl rfl ?_ ?_; (focus rfl); (refine KO.gtr rfl rfl rfl ?_))
    (refine KO.pickF rfl ?_ rfl rfl ?_; (focus rfl))
    refine KO.mv rfl rfl ?_
    (refine KO.no rfl rfl ?_ rfl ?_; (focus (simp only [decide_eq_true_eq, decide_eq_false_iff_not, Bool.not_eq_true, Bool.not_true, Bool.not_false, ne_eq]; omega)))
    (refine KO.no rfl rfl ?_ rfl ?_; (focus (simp only [decide_eq_true_eq, decide_eq_false_iff_not, Bool.not_eq_true, Bool.not_true, Bool.not_false, ne_eq]; omega)))
    (refine KO.no rfl rfl ?_ rfl ?_; (focus (simp only [decide_eq_true_eq, decide_eq_false_iff_not, Bool.not_eq_true, Bool.not_true, Bool.not_false, ne_eq]; omega)))
    (refine KO.pickT rfl ?_ rfl rfl ?_; (focus (simp only [decide_eq_true_eq, decide_eq_false_iff_not, Bool.not_eq_true, Bool.not_true, Bool.not_false, ne_eq]; omega)))
    refine KO.mv rfl rfl ?_
    (refine KO.no rfl rfl ?_ rfl ?_; (focus rfl))
    (refine KO.no rfl rfl ?_ rfl ?_; (focus rfl))
    (refine KO.no rfl rfl ?_ rfl ?_; (focus rfl))
    refine KO.no2 rfl rfl rfl ?_
    refine KO.no2 rfl rfl rfl ?_
    refine KO.no2 rfl rfl rfl ?_
    refine KO.no2 rfl rfl rfl ?_
    (refine KO.no rfl rfl ?_ rfl ?_; (focus rfl))
    (refine KO.pickT rfl ?_ rfl rfl ?_; (focus rfl))
    refine KO.mv rfl rfl ?_
    (refine KO.no rfl rfl ?_ rfl ?_; (focus rfl))
    (refine KO.no rfl rfl ?_ rfl ?_; (focus rfl))
    (refine KO.no rfl rfl ?_ rfl ?_; (focus rfl))
    (refine KO.no rfl rfl ?_ rfl ?_; (focus rfl))
    refine KO.no2 rfl rfl rfl ?_
    refine KO.no2 rfl rfl rfl ?_
    refine KO.no2 rfl rfl rfl ?_
    refine KO.no2 rfl rfl rfl ?_
    (refine KO.no rfl rfl ?_ rfl ?_; (focus rfl))
    (refine KO.pickT rfl ?_ rfl rfl ?_; (focus rfl))
    refine KO.nil ?_
    repeat ((with_reducible refine KQ.next ?_))
    refine K.condT rfl (by simp [a3]) ?_
    repeat ((with_reducible refine K.seq ?_))
    refine K.reg ?_
    refine KO.as rfl rfl ?_
    refine KO.as rfl rfl ?_
    refine KO.nil ?_
    repeat (first | (with_reducible refine KQ.next ?_) | (with_reducible refine KQ.then_ret ?_) | (with_reducible refine K.ret ?_))
    refine KQ.ret2 rfl rfl rfl (fun w' hs => fin 1 ⟨#[]⟩ w' _ hbad.1.symm hbad.2.symm hs)
  by_cases a4 : badI xs = none
  case neg =>
    have hbad := fw_bad (f := f) (xs := xs) (fun h => by unfold okF at h; exact a4 h.2.2.2.2.2.2)
    rw [writeE_bad a4]
    refine K.reg ?_
    refine KO.fo0 (off := 0) rfl Tryd.runUnderlying75 rfl rfl Tryd.sizeOf3 rfl ?_
    refine KO.ld rfl rfl Tryd.isAgg3 (by with_reducible (repeat (first | exact Pick.head | apply Pick.tail))) (by exact rfl) rfl ?_
    refine KO.ce (cp := []) rfl rfl rfl Tryd.call62 rfl (in_e w _ f.frm 0 3) ?_; rintro v' L' ⟨rfl, rfl⟩; rw [hc1]
    refine KO.not rfl rfl ?_
    refine KO.mv rfl rfl ?_
    (refine KO.on rfl rfl ?_ ?_; (focus rfl); (refine KO.fo0 (off := 1) rfl Tryd.runUnderlying75 rfl rfl Tryd.sizeOf3 rfl ?_))
    (refine KO.on rfl rfl ?_ ?_; (focus rfl); (refine KO.ld rfl rfl Tryd.isAgg3 (by with_reducible (repeat (first | exact Pick.head | apply Pick.tail))) (by exact rfl) rfl ?_))
    refine KO.on rfl rfl rfl ?_; refine KO.ce (cp := []) rfl rfl rfl Tryd.call62 rfl (in_e w _ f.num 0 1099511627776) ?_; rintro v' L' ⟨rfl, rfl⟩; rw [hc2]
    (refine KO.on rfl rfl ?_ ?_; (focus rfl); (refine KO.not rfl rfl ?_))
    (refine KO.pickF rfl ?_ rfl rfl ?_; (focus rfl))
    refine KO.mv rfl rfl ?_
    (refine KO.on rfl rfl ?_ ?_; (focus rfl); (refine KO.fo0 (off := 3) rfl Tryd.runUnderlying75 rfl rfl Tryd.sizeOf57 rfl ?_))
    (refine KO.on rfl rfl ?_ ?_; (focus rfl); (refine KO.ld rfl rfl Tryd.isAgg57 (by with_reducible (repeat (first | exact Pick.head | apply Pick.tail))) (by exact rfl) rfl ?_))
    (refine KO.on rfl rfl ?_ ?_; (focus rfl); (refine KO.len rfl Tryd.underlying57 rfl ?_))
    (refine KO.on rfl rfl ?_ ?_; (focus rfl); (refine KO.gtr rfl rfl rfl ?_))
    (refine KO.pickF rfl ?_ rfl rfl ?_; (focus rfl))
    refine KO.mv rfl rfl ?_
    (refine KO.on rfl rfl ?_ ?_; (focus (simp only [decide_eq_true_eq, decide_eq_false_iff_not, Bool.not_eq_true, Bool.not_true, Bool.not_false, ne_eq]; omega)); (refine KO.fo0 (off := 0) rfl Tryd.runUnderlying63 rfl rfl Tryd.sizeOf37 rfl ?_))
    (refine KO.on rfl rfl ?_ ?_; (focus (simp only [decide_eq_true_eq, decide_eq_false_iff_not, Bool.not_eq_true, Bool.not_true, Bool.not_false, ne_eq]; omega)); (refine KO.ld rfl rfl Tryd.isAgg37 (by with_reducible (repeat (exact Pick.head))) (by exact rfl) rfl ?_))
    (refine KO.on rfl rfl ?_ ?_; (focus (simp only [decide_eq_true_eq, decide_eq_false_iff_not, Bool.not_eq_true, Bool.not_true, Bool.not_false, ne_eq]; omega)); (refine KO.neI rfl rfl rfl ?_))
    (refine KO.pickF rfl ?_ rfl rfl ?_; (focus (simp only [decide_eq_true_eq, decide_eq_false_iff_not, Bool.not_eq_true, Bool.not_true, Bool.not_false, ne_eq]; omega)))
    refine KO.mv rfl rfl ?_
    (refine KO.no rfl rfl ?_ rfl ?_; (focus rfl))
    (refine KO.no rfl rfl ?_ rfl ?_; (focus rfl))
    (refine KO.no rfl rfl ?_ rfl ?_; (focus rfl))
    refine KO.no2 rfl rfl rfl ?_
    refine KO.no2 rfl rfl rfl ?_
    refine KO.no2 rfl rfl rfl ?_
    refine KO.no2 rfl rfl rfl ?_
    (refine KO.no rfl rfl ?_ rfl ?_; (focus rfl))
    (refine KO.pickT rfl ?_ rfl rfl ?_; (focus rfl))
    refine KO.mv rfl rfl ?_
    (refine KO.no rfl rfl ?_ rfl ?_; (focus rfl))
    (refine KO.no rfl rfl ?_ rfl ?_; (focus rfl))
    (refine KO.no rfl rfl ?_ rfl ?_; (focus rfl))
    (refine KO.no rfl rfl ?_ rfl ?_; (focus rfl))
    refine KO.no2 rfl rfl rfl ?_
    refine KO.no2 rfl rfl rfl ?_
    refine KO.no2 rfl rfl rfl ?_
    refine KO.no2 rfl rfl rfl ?_
    (refine KO.no rfl rfl ?_ rfl ?_; (focus rfl))
    (refine KO.pickT rfl ?_ rfl rfl ?_; (focus rfl))
    refine KO.nil ?_
    repeat ((with_reducible refine KQ.next ?_))
    refine K.condT rfl (by simp) ?_
    repeat ((with_reducible refine K.seq ?_))
    refine K.reg ?_
    refine KO.as rfl rfl ?_
    refine KO.as rfl rfl ?_
    refine KO.nil ?_
    repeat (first | (with_reducible refine KQ.next ?_) | (with_reducible refine KQ.then_ret ?_) | (with_reducible refine K.ret ?_))
    refine KQ.ret2 rfl rfl rfl (fun w' hs => fin 1 ⟨#[]⟩ w' _ hbad.1.symm hbad.2.symm hs)
  obtain ⟨wt, we⟩ := writeT_ok a4
  rw [wt, we]
  by_cases a5 : f.ack = decide (xs.length = 0)
  case neg =>
    have hbad := fw_bad (f := f) (xs := xs) (fun h => by unfold okF at h; exact a5 h.2.2.2.2.1)
    cases hk : f.ack
    · have a6 : (xs.length : Int) = 0 := by rw [hk] at a5; rcases Decidable.em (xs.length = 0) with h0 | h0 <;> first | omega | exact absurd (decide_eq_false h0).symm a5
      refine K.reg ?_
      refine KO.fo0 (off := 0) rfl Tryd.runUnderlying75 rfl rfl Tryd.sizeOf3 rfl ?_
      refine KO.ld rfl rfl Tryd.isAgg3 (by with_reducible (repeat (first | exact Pick.head | apply Pick.tail))) (by exact rfl) rfl ?_
      refine KO.ce (cp := []) rfl rfl rfl Tryd.call62 rfl (in_e w _ f.frm 0 3) ?_; rintro v' L' ⟨rfl, rfl⟩; rw [hc1]
      refine KO.not rfl rfl ?_
      refine KO.mv rfl rfl ?_
      (refine KO.on rfl rfl ?_ ?_; (focus rfl); (refine KO.fo0 (off := 1) rfl Tryd.runUnderlying75 rfl rfl Tryd.sizeOf3 rfl ?_))
      (refine KO.on rfl rfl ?_ ?_; (focus rfl); (refine KO.ld rfl rfl Tryd.isAgg3 (by with_reducible (repeat (first | exact Pick.head | apply Pick.tail))) (by exact rfl) rfl ?_))
      refine KO.on rfl rfl rfl ?_; refine KO.ce (cp := []) rfl rfl rfl Tryd.call62 rfl (in_e w _ f.num 0 1099511627776) ?_; rintro v' L' ⟨rfl, rfl⟩; rw [hc2]
      (refine KO.on rfl rfl ?_ ?_; (focus rfl); (refine KO.not rfl rfl ?_))
      (refine KO.pickF rfl ?_ rfl rfl ?_; (focus rfl))
      refine KO.mv rfl rfl ?_
      (refine KO.on rfl rfl ?_ ?_; (focus rfl); (refine KO.fo0 (off := 3) rfl Tryd.runUnderlying75 rfl rfl Tryd.sizeOf57 rfl ?_))
      (refine KO.on rfl rfl ?_ ?_; (focus rfl); (refine KO.ld rfl rfl Tryd.isAgg57 (by with_reducible (repeat (first | exact Pick.head | apply Pick.tail))) (by exact rfl) rfl ?_))
      (refine KO.on rfl rfl ?_ ?_; (focus rfl); (refine KO.len rfl Tryd.underlying57 rfl ?_))
      (refine KO.on rfl rfl ?_ ?_; (focus rfl); (refine KO.gtr rfl rfl rfl ?_))
      (refine KO.pickF rfl ?_ rfl rfl ?_; (focus rfl))
      refine KO.mv rfl rfl ?_
      (refine KO.on rfl rfl ?_ ?_; (focus (simp only [decide_eq_true_eq, decide_eq_false_iff_not, Bool.not_eq_true, Bool.not_true, Bool.not_false, ne_eq]; omega)); (refine KO.fo0 (off := 0) rfl Tryd.runUnderlying63 rfl rfl Tryd.sizeOf37 rfl ?_))
      (refine KO.on rfl rfl ?_ ?_; (focus (simp only [decide_eq_true_eq, decide_eq_false_iff_not, Bool.not_eq_true, Bool.not_true, Bool.not_false, ne_eq]; omega)); (refine KO.ld rfl rfl Tryd.isAgg37 (by with_reducible (repeat (exact Pick.head))) (by exact rfl) rfl ?_))
      (refine KO.on rfl rfl ?_ ?_; (focus (simp only [decide_eq_true_eq, decide_eq_false_iff_not, Bool.not_eq_true, Bool.not_true, Bool.not_false, ne_eq]; omega)); (refine KO.neI rfl rfl rfl ?_))
      (refine KO.pickF rfl ?_ rfl rfl ?_; (focus (simp only [decide_eq_true_eq, decide_eq_false_iff_not, Bool.not_eq_true, Bool.not_true, Bool.not_false, ne_eq]; omega)))
      refine KO.mv rfl rfl ?_
      (refine KO.on rfl rfl ?_ ?_; (focus rfl); (refine KO.fo0 (off := 2) rfl Tryd.runUnderlying75 rfl rfl Tryd.sizeOf4 rfl ?_))
      (refine KO.on rfl rfl ?_ ?_; (focus rfl); (refine KO.ld rfl rfl Tryd.isAgg4 (by with_reducible (repeat (first | exact Pick.head | apply Pick.tail))) (by exact rfl) rfl ?_))
      (refine KO.on rfl rfl ?_ ?_; (focus rfl); (refine KO.mv rfl rfl ?_))
      (refine KO.no rfl rfl ?_ rfl ?_; (focus assumption))
      (refine KO.no rfl rfl ?_ rfl ?_; (focus assumption))
      (refine KO.no rfl rfl ?_ rfl ?_; (focus assumption))
      (refine KO.no rfl rfl ?_ rfl ?_; (focus assumption))
      (refine KO.on rfl rfl ?_ ?_; (focus rfl); ((refine KO.pickF rfl ?_ rfl rfl ?_; (focus assumption))))
      (refine KO.pickF rfl ?_ rfl rfl ?_; (focus rfl))
      refine KO.mv rfl rfl ?_
      (refine KO.on rfl rfl ?_ ?_; (focus rfl); (refine KO.fo0 (off := 2) rfl Tryd.runUnderlying75 rfl rfl Tryd.sizeOf4 rfl ?_))
      (refine KO.on rfl rfl ?_ ?_; (focus rfl); (refine KO.ld rfl rfl Tryd.isAgg4 (by with_reducible (repeat (first | exact Pick.head | apply Pick.tail))) (by exact rfl) rfl ?_))
      (refine KO.on rfl rfl ?_ ?_; (focus rfl); (refine KO.not rfl rfl ?_))
      (refine KO.on rfl rfl ?_ ?_; (focus rfl); (refine KO.mv rfl rfl ?_))
      (refine KO.on rfl rfl ?_ ?_; (focus (simp_all; done)); (refine KO.fo0 (off := 3) rfl Tryd.runUnderlying75 rfl rfl Tryd.sizeOf57 rfl ?_))
      (refine KO.on rfl rfl ?_ ?_; (focus (simp_all; done)); (refine KO.ld rfl rfl Tryd.isAgg57 (by with_reducible (repeat (first | exact Pick.head | apply Pick.tail))) (by exact rfl) rfl ?_))
      (refine KO.on rfl rfl ?_ ?_; (focus (simp_all; done)); (refine KO.len rfl Tryd.underlying57 rfl ?_))
      (refine KO.on rfl rfl ?_ ?_; (focus (simp_all; done)); (refine KO.eqI rfl rfl rfl ?_))
      (refine KO.on rfl rfl ?_ ?_; (focus rfl); ((refine KO.pickT rfl ?_ rfl rfl ?_; (focus (simp_all; done)))))
      (refine KO.pickF rfl ?_ rfl rfl ?_; (focus rfl))
      refine KO.nil ?_
      repeat ((with_reducible refine KQ.next ?_))
      refine K.condT rfl (by simp [a6]) ?_
      repeat ((with_reducible refine K.seq ?_))
      refine K.reg ?_
      refine KO.as rfl rfl ?_
      refine KO.as rfl rfl ?_
      refine KO.nil ?_
      repeat (first | (with_reducible refine KQ.next ?_) | (with_reducible refine KQ.then_ret ?_) | (with_reducible refine K.ret ?_))
      refine KQ.ret2 rfl rfl rfl (fun w' hs => fin 1 ⟨#[]⟩ w' _ hbad.1.symm hbad.2.symm hs)
    · have a6 : 0 < (xs.length : Int) := by rw [hk] at a5; rcases Decidable.em (xs.length = 0) with h0 | h0 <;> first | omega | exact absurd (decide_eq_true h0).symm a5
      refine K.reg ?_
      refine KO.fo0 (off := 0) rfl Tryd.runUnderlying75 rfl rfl Tryd.sizeOf3 rfl ?_
      refine KO.ld rfl rfl Tryd.isAgg3 (by with_reducible (repeat (first | exact Pick.head | apply Pick.tail))) (by exact rfl) rfl ?_
      refine KO.ce (cp := []) rfl rfl rfl Tryd.call62 rfl (in_e w _ f.frm 0 3) ?_; rintro v' L' ⟨rfl, rfl⟩; rw [hc1]
      refine KO.not rfl rfl ?_
      refine KO.mv rfl rfl ?_
      (refine KO.on rfl rfl ?_ ?_; (focus rfl); (refine KO.fo0 (off := 1) rfl Tryd.runUnderlying75 rfl rfl Tryd.sizeOf3 rfl ?_))
      (refine KO.on rfl rfl ?_ ?_; (focus rfl); (refine KO.ld rfl rfl Tryd.isAgg3 (by with_reducible (repeat (first | exact Pick.head | apply Pick.tail))) (by exact rfl) rfl ?_))
      refine KO.on rfl rfl rfl ?_; refine KO.ce (cp := []) rfl rfl rfl Tryd.call62 rfl (in_e w _ f.num 0 1099511627776) ?_; rintro v' L' ⟨rfl, rfl⟩; rw [hc2]
      (refine KO.on rfl rfl ?_ ?_; (focus rfl); (refine KO.not rfl rfl ?_))
      (refine KO.pickF rfl ?_ rfl rfl ?_; (focus rfl))
      refine KO.mv rfl rfl ?_
      (refine KO.on rfl rfl ?_ ?_; (focus rfl); (refine KO.fo0 (off := 3) rfl Tryd.runUnderlying75 rfl rfl Tryd.sizeOf57 rfl ?_))
      (refine KO.on rfl rfl ?_ ?_; (focus rfl); (refine KO.ld rfl rfl Tryd.isAgg57 (by with_reducible (repeat (first | exact Pick.head | apply Pick.tail))) (by exact rfl) rfl ?_))
      (refine KO.on rfl rfl ?_ ?_; (focus rfl); (refine KO.len rfl Tryd.underlying57 rfl ?_))
      (refine KO.on rfl rfl ?_ ?_; (focus rfl); (refine KO.gtr rfl rfl rfl ?_))
      (refine KO.pickF rfl ?_ rfl rfl ?_; (focus rfl))
      refine KO.mv rfl rfl ?_
      (refine KO.on rfl rfl ?_ ?_; (focus (simp only [decide_eq_true_eq, decide_eq_false_iff_not, Bool.not_eq_true, Bool.not_true, Bool.not_false, ne_eq]; omega)); (refine KO.fo0 (off := 0) rfl Tryd.runUnderlying63 rfl rfl Tryd.sizeOf37 rfl ?_))
      (refine KO.on rfl rfl ?_ ?_; (focus (simp only [decide_eq_true_eq, decide_eq_false_iff_not, Bool.not_eq_true, Bool.not_true, Bool.not_false, ne_eq]; omega)); (refine KO.ld rfl rfl Tryd.isAgg37 (by with_reducible (repeat (exact Pick.head))) (by exact rfl) rfl ?_))
      (refine KO.on rfl rfl ?_ ?_; (focus (simp only [decide_eq_true_eq, decide_eq_false_iff_not, Bool.not_eq_true, Bool.not_true, Bool.not_false, ne_eq]; omega)); (refine KO.neI rfl rfl rfl ?_))
      (refine KO.pickF rfl ?_ rfl rfl ?_; (focus (simp only [decide_eq_true_eq, decide_eq_false_iff_not, Bool.not_eq_true, Bool.not_true, Bool.not_false, ne_eq]; omega)))
      refine KO.mv rfl rfl ?_
      (refine KO.on rfl rfl ?_ ?_; (focus rfl); (refine KO.fo0 (off := 2) rfl Tryd.runUnderlying75 rfl rfl Tryd.sizeOf4 rfl ?_))
      (refine KO.on rfl rfl ?_ ?_; (focus rfl); (refine KO.ld rfl rfl Tryd.isAgg4 (by with_reducible (repeat (first | exact Pick.head | apply Pick.tail))) (by exact rfl) rfl ?_))
      (refine KO.on rfl rfl ?_ ?_; (focus rfl); (refine KO.mv rfl rfl ?_))
      (refine KO.on rfl rfl ?_ ?_; (focus assumption); (refine KO.fo0 (off := 3) rfl Tryd.runUnderlying75 rfl rfl Tryd.sizeOf57 rfl ?_))
      (refine KO.on rfl rfl ?_ ?_; (focus assumption); (refine KO.ld rfl rfl Tryd.isAgg57 (by with_reducible (repeat (first | exact Pick.head | apply Pick.tail))) (by exact rfl) rfl ?_))
      (refine KO.on rfl rfl ?_ ?_; (focus assumption); (refine KO.len rfl Tryd.underlying57 rfl ?_))
      (refine KO.on rfl rfl ?_ ?_; (focus assumption); (refine KO.gtr rfl rfl rfl ?_))
      (refine KO.on rfl rfl ?_ ?_; (focus rfl); ((refine KO.pickT rfl ?_ rfl rfl ?_; (focus assumption))))
      (refine KO.pickF rfl ?_ rfl rfl ?_; (focus rfl))
      refine KO.mv rfl rfl ?_
      (refine KO.no rfl rfl ?_ rfl ?_; (focus (simp only [decide_eq_true_eq, decide_eq_false_iff_not, Bool.not_eq_true, Bool.not_true, Bool.not_false, ne_eq]; omega)))
      (refine KO.no rfl rfl ?_ rfl ?_; (focus (simp only [decide_eq_true_eq, decide_eq_false_iff_not, Bool.not_eq_true, Bool.not_true, Bool.not_false, ne_eq]; omega)))
      (refine KO.no rfl rfl ?_ rfl ?_; (focus (simp only [decide_eq_true_eq, decide_eq_false_iff_not, Bool.not_eq_true, Bool.not_true, Bool.not_false, ne_eq]; omega)))
      (refine KO.no rfl rfl ?_ rfl ?_; (focus (simp only [decide_eq_true_eq, decide_eq_false_iff_not, Bool.not_eq_true, Bool.not_true, Bool.not_false, ne_eq]; omega)))
      refine KO.no2 rfl rfl rfl ?_
      refine KO.no2 rfl rfl rfl ?_
      refine KO.no2 rfl rfl rfl ?_
      refine KO.no2 rfl rfl rfl ?_
      (refine KO.no rfl rfl ?_ rfl ?_; (focus (simp only [decide_eq_true_eq, decide_eq_false_iff_not, Bool.not_eq_true, Bool.not_true, Bool.not_false, ne_eq]; omega)))
      (refine KO.pickT rfl ?_ rfl rfl ?_; (focus (simp only [decide_eq_true_eq, decide_eq_false_iff_not, Bool.not_eq_true, Bool.not_true, Bool.not_false, ne_eq]; omega)))
      refine KO.nil ?_
      repeat ((with_reducible refine KQ.next ?_))
      refine K.condT rfl (by simp [a6]) ?_
      repeat ((with_reducible refine K.seq ?_))
      refine K.reg ?_
      refine KO.as rfl rfl ?_
      refine KO.as rfl rfl ?_
      refine KO.nil ?_
      repeat (first | (with_reducible refine KQ.next ?_) | (with_reducible refine KQ.then_ret ?_) | (with_reducible refine K.ret ?_))
      refine KQ.ret2 rfl rfl rfl (fun w' hs => fin 1 ⟨#[]⟩ w' _ hbad.1.symm hbad.2.symm hs)
  obtain ⟨b1', b2'⟩ := d1 rfl
  obtain ⟨b3', b4'⟩ := d2 rfl
  have hok : okF f xs := by unfold okF; exact ⟨b1', b2', b3', b4', a5, by omega, a4⟩
  obtain ⟨e1, e2⟩ := fw_ok hok
  have i1 : intB f.frm := ⟨by omega, by omega⟩
  have i2 : intB f.num := ⟨by omega, by omega⟩
  have z1 := itoaS_size i1
  have z2 := itoaS_size i2
  have z6 : (⟨#[58]⟩ : ByteArray).size = 1 := rfl
  have z7 : colon.size = 1 := rfl
  have s3 := writeS_size (badI_all a4)
  have hW1 : joinS ([f.frm].map itoaS) sp = itoaS f.frm := joinS_one _ _
  have hW2 : joinS ([f.num].map itoaS) sp = itoaS f.num := joinS_one _ _
  refine K.cut (fun _ : Unit => [(54, .bool false), (1, .pointer (some ⟨b1, 0, none⟩)), (4, .string (writeS xs))]) (fun _ => [blk b1 (.cells (frC f (.slice sa xs.length cap)).toArray 75 (0, 0))]) (fun _ => True) ?_ ?_
  · cases hk : f.ack
    · have a6 : ¬ (xs.length : Int) = 0 := by rw [hk] at a5; simp at a5; have := List.length_pos_iff.2 a5; omega
      refine K.reg ?_
      refine KO.fo0 (off := 0) rfl Tryd.runUnderlying75 rfl rfl Tryd.sizeOf3 rfl ?_
      refine KO.ld rfl rfl Tryd.isAgg3 (by with_reducible (repeat (first | exact Pick.head | apply Pick.tail))) (by exact rfl) rfl ?_
      refine KO.ce (cp := []) rfl rfl rfl Tryd.call62 rfl (in_e w _ f.frm 0 3) ?_; rintro v' L' ⟨rfl, rfl⟩; rw [hc1]
      refine KO.not rfl rfl ?_
      refine KO.mv rfl rfl ?_
      (refine KO.on rfl rfl ?_ ?_; (focus rfl); (refine KO.fo0 (off := 1) rfl Tryd.runUnderlying75 rfl rfl Tryd.sizeOf3 rfl ?_))
      (refine KO.on rfl rfl ?_ ?_; (focus rfl); (refine KO.ld rfl rfl Tryd.isAgg3 (by with_reducible (repeat (first | exact Pick.head | apply Pick.tail))) (by exact rfl) rfl ?_))
      refine KO.on rfl rfl rfl ?_; refine KO.ce (cp := []) rfl rfl rfl Tryd.call62 rfl (in_e w _ f.num 0 1099511627776) ?_; rintro v' L' ⟨rfl, rfl⟩; rw [hc2]
      (refine KO.on rfl rfl ?_ ?_; (focus rfl); (refine KO.not rfl rfl ?_))
      (refine KO.pickF rfl ?_ rfl rfl ?_; (focus rfl))
      refine KO.mv rfl rfl ?_
      (refine KO.on rfl rfl ?_ ?_; (focus rfl); (refine KO.fo0 (off := 3) rfl Tryd.runUnderlying75 rfl rfl Tryd.sizeOf57 rfl ?_))
      (refine KO.on rfl rfl ?_ ?_; (focus rfl); (refine KO.ld rfl rfl Tryd.isAgg57 (by with_reducible (repeat (first | exact Pick.head | apply Pick.tail))) (by exact rfl) rfl ?_))
      (refine KO.on rfl rfl ?_ ?_; (focus rfl); (refine KO.len rfl Tryd.underlying57 rfl ?_))
      (refine KO.on rfl rfl ?_ ?_; (focus rfl); (refine KO.gtr rfl rfl rfl ?_))
      (refine KO.pickF rfl ?_ rfl rfl ?_; (focus rfl))
      refine KO.mv rfl rfl ?_
      (refine KO.on rfl rfl ?_ ?_; (focus (simp only [decide_eq_true_eq, decide_eq_false_iff_not, Bool.not_eq_true, Bool.not_true, Bool.not_false, ne_eq]; omega)); (refine KO.fo0 (off := 0) rfl Tryd.runUnderlying63 rfl rfl Tryd.sizeOf37 rfl ?_))
      (refine KO.on rfl rfl ?_ ?_; (focus (simp only [decide_eq_true_eq, decide_eq_false_iff_not, Bool.not_eq_true, Bool.not_true, Bool.not_false, ne_eq]; omega)); (refine KO.ld rfl rfl Tryd.isAgg37 (by with_reducible (repeat (exact Pick.head))) (by exact rfl) rfl ?_))
      (refine KO.on rfl rfl ?_ ?_; (focus (simp only [decide_eq_true_eq, decide_eq_false_iff_not, Bool.not_eq_true, Bool.not_true, Bool.not_false, ne_eq]; omega)); (refine KO.neI rfl rfl rfl ?_))
      (refine KO.pickF rfl ?_ rfl rfl ?_; (focus (simp only [decide_eq_true_eq, decide_eq_false_iff_not, Bool.not_eq_true, Bool.not_true, Bool.not_false, ne_eq]; omega)))
      refine KO.mv rfl rfl ?_
      (refine KO.on rfl rfl ?_ ?_; (focus rfl); (refine KO.fo0 (off := 2) rfl Tryd.runUnderlying75 rfl rfl Tryd.sizeOf4 rfl ?_))
      (refine KO.on rfl rfl ?_ ?_; (focus rfl); (refine KO.ld rfl rfl Tryd.isAgg4 (by with_reducible (repeat (first | exact Pick.head | apply Pick.tail))) (by exact rfl) rfl ?_))
      (refine KO.on rfl rfl ?_ ?_; (focus rfl); (refine KO.mv rfl rfl ?_))
      (refine KO.no rfl rfl ?_ rfl ?_; (focus assumption))
      (refine KO.no rfl rfl ?_ rfl ?_; (focus assumption))
      (refine KO.no rfl rfl ?_ rfl ?_; (focus assumption))
      (refine KO.no rfl rfl ?_ rfl ?_; (focus assumption))
      (refine KO.on rfl rfl ?_ ?_; (focus rfl); ((refine KO.pickF rfl ?_ rfl rfl ?_; (focus assumption))))
      (refine KO.pickF rfl ?_ rfl rfl ?_; (focus rfl))
      refine KO.mv rfl rfl ?_
      (refine KO.on rfl rfl ?_ ?_; (focus rfl); (refine KO.fo0 (off := 2) rfl Tryd.runUnderlying75 rfl rfl Tryd.sizeOf4 rfl ?_))
      (refine KO.on rfl rfl ?_ ?_; (focus rfl); (refine KO.ld rfl rfl Tryd.isAgg4 (by with_reducible (repeat (first | exact Pick.head | apply Pick.tail))) (by exact rfl) rfl ?_))
      (refine KO.on rfl rfl ?_ ?_; (focus rfl); (refine KO.not rfl rfl ?_))
      (refine KO.on rfl rfl ?_ ?_; (focus rfl); (refine KO.mv rfl rfl ?_))
      (refine KO.on rfl rfl ?_ ?_; (focus (simp_all; done)); (refine KO.fo0 (off := 3) rfl Tryd.runUnderlying75 rfl rfl Tryd.sizeOf57 rfl ?_))
      (refine KO.on rfl rfl ?_ ?_; (focus (simp_all; done)); (refine KO.ld rfl rfl Tryd.isAgg57 (by with_reducible (repeat (first | exact Pick.head | apply Pick.tail))) (by exact rfl) rfl ?_))
      (refine KO.on rfl rfl ?_ ?_; (focus (simp_all; done)); (refine KO.len rfl Tryd.underlying57 rfl ?_))
      (refine KO.on rfl rfl ?_ ?_; (focus (simp_all; done)); (refine KO.eqI rfl rfl rfl ?_))
      (refine KO.on rfl rfl ?_ ?_; (focus rfl); ((refine KO.pickT rfl ?_ rfl rfl ?_; (focus (simp_all; done)))))
      (refine KO.pickF rfl ?_ rfl rfl ?_; (focus rfl))
      refine KO.nil ?_
      exact KQ.mid () trivial ⟨by simp [envAt, a3, hk]; exact fun h => a6 (by rw [h]; rfl), rfl, rfl, trivial⟩ (fun _ h => h.all (by with_reducible repeat (first | exact PAll.nil | refine PAll.cons (by with_reducible repeat (first | exact Pick.head | apply Pick.tail)) ?_)))
    · have a6 : ¬ 0 < (xs.length : Int) := by rw [hk] at a5; simp at a5; rw [a5]; simp
      refine K.reg ?_
      refine KO.fo0 (off := 0) rfl Tryd.runUnderlying75 rfl rfl Tryd.sizeOf3 rfl ?_
      refine KO.ld rfl rfl Tryd.isAgg3 (by with_reducible (repeat (first | exact Pick.head | apply Pick.tail))) (by exact rfl) rfl ?_
      refine KO.ce (cp := []) rfl rfl rfl Tryd.call62 rfl (in_e w _ f.frm 0 3) ?_; rintro v' L' ⟨rfl, rfl⟩; rw [hc1]
      refine KO.not rfl rfl ?_
      refine KO.mv rfl rfl ?_
      (refine KO.on rfl rfl ?_ ?_; (focus rfl); (refine KO.fo0 (off := 1) rfl Tryd.runUnderlying75 rfl rfl Tryd.sizeOf3 rfl ?_))
      (refine KO.on rfl rfl ?_ ?_; (focus rfl); (refine KO.ld rfl rfl Tryd.isAgg3 (by with_reducible (repeat (first | exact Pick.head | apply Pick.tail))) (by exact rfl) rfl ?_))
      refine KO.on rfl rfl rfl ?_; refine KO.ce (cp := []) rfl rfl rfl Tryd.call62 rfl (in_e w _ f.num 0 1099511627776) ?_; rintro v' L' ⟨rfl, rfl⟩; rw [hc2]
      (refine KO.on rfl rfl ?_ ?_; (focus rfl); (refine KO.not rfl rfl ?_))
      (refine KO.pickF rfl ?_ rfl rfl ?_; (focus rfl))
      refine KO.mv rfl rfl ?_
      (refine KO.on rfl rfl ?_ ?_; (focus rfl); (refine KO.fo0 (off := 3) rfl Tryd.runUnderlying75 rfl rfl Tryd.sizeOf57 rfl ?_))
      (refine KO.on rfl rfl ?_ ?_; (focus rfl); (refine KO.ld rfl rfl Tryd.isAgg57 (by with_reducible (repeat (first | exact Pick.head | apply Pick.tail))) (by exact rfl) rfl ?_))
      (refine KO.on rfl rfl ?_ ?_; (focus rfl); (refine KO.len rfl Tryd.underlying57 rfl ?_))
      (refine KO.on rfl rfl ?_ ?_; (focus rfl); (refine KO.gtr rfl rfl rfl ?_))
      (refine KO.pickF rfl ?_ rfl rfl ?_; (focus rfl))
      refine KO.mv rfl rfl ?_
      (refine KO.on rfl rfl ?_ ?_; (focus (simp only [decide_eq_true_eq, decide_eq_false_iff_not, Bool.not_eq_true, Bool.not_true, Bool.not_false, ne_eq]; omega)); (refine KO.fo0 (off := 0) rfl Tryd.runUnderlying63 rfl rfl Tryd.sizeOf37 rfl ?_))
      (refine KO.on rfl rfl ?_ ?_; (focus (simp only [decide_eq_true_eq, decide_eq_false_iff_not, Bool.not_eq_true, Bool.not_true, Bool.not_false, ne_eq]; omega)); (refine KO.ld rfl rfl Tryd.isAgg37 (by with_reducible (repeat (exact Pick.head))) (by exact rfl) rfl ?_))
      (refine KO.on rfl rfl ?_ ?_; (focus (simp only [decide_eq_true_eq, decide_eq_false_iff_not, Bool.not_eq_true, Bool.not_true, Bool.not_false, ne_eq]; omega)); (refine KO.neI rfl rfl rfl ?_))
      (refine KO.pickF rfl ?_ rfl rfl ?_; (focus (simp only [decide_eq_true_eq, decide_eq_false_iff_not, Bool.not_eq_true, Bool.not_true, Bool.not_false, ne_eq]; omega)))
      refine KO.mv rfl rfl ?_
      (refine KO.on rfl rfl ?_ ?_; (focus rfl); (refine KO.fo0 (off := 2) rfl Tryd.runUnderlying75 rfl rfl Tryd.sizeOf4 rfl ?_))
      (refine KO.on rfl rfl ?_ ?_; (focus rfl); (refine KO.ld rfl rfl Tryd.isAgg4 (by with_reducible (repeat (first | exact Pick.head | apply Pick.tail))) (by exact rfl) rfl ?_))
      (refine KO.on rfl rfl ?_ ?_; (focus rfl); (refine KO.mv rfl rfl ?_))
      (refine KO.on rfl rfl ?_ ?_; (focus assumption); (refine KO.fo0 (off := 3) rfl Tryd.runUnderlying75 rfl rfl Tryd.sizeOf57 rfl ?_))
      (refine KO.on rfl rfl ?_ ?_; (focus assumption); (refine KO.ld rfl rfl Tryd.isAgg57 (by with_reducible (repeat (first | exact Pick.head | apply Pick.tail))) (by exact rfl) rfl ?_))
      (refine KO.on rfl rfl ?_ ?_; (focus assumption); (refine KO.len rfl Tryd.underlying57 rfl ?_))
      (refine KO.on rfl rfl ?_ ?_; (focus assumption); (refine KO.gtr rfl rfl rfl ?_))
      (refine KO.on rfl rfl ?_ ?_; (focus rfl); ((refine KO.pickT rfl ?_ rfl rfl ?_; (focus assumption))))
      (refine KO.pickF rfl ?_ rfl rfl ?_; (focus rfl))
      refine KO.mv rfl rfl ?_
      (refine KO.on rfl rfl ?_ ?_; (focus (simp only [decide_eq_true_eq, decide_eq_false_iff_not, Bool.not_eq_true, Bool.not_true, Bool.not_false, ne_eq]; omega)); (refine KO.fo0 (off := 2) rfl Tryd.runUnderlying75 rfl rfl Tryd.sizeOf4 rfl ?_))
      (refine KO.on rfl rfl ?_ ?_; (focus (simp only [decide_eq_true_eq, decide_eq_false_iff_not, Bool.not_eq_true, Bool.not_true, Bool.not_false, ne_eq]; omega)); (refine KO.ld rfl rfl Tryd.isAgg4 (by with_reducible (repeat (first | exact Pick.head | apply Pick.tail))) (by exact rfl) rfl ?_))
      (refine KO.on rfl rfl ?_ ?_; (focus (simp only [decide_eq_true_eq, decide_eq_false_iff_not, Bool.not_eq_true, Bool.not_true, Bool.not_false, ne_eq]; omega)); (refine KO.not rfl rfl ?_))
      (refine KO.on rfl rfl ?_ ?_; (focus (simp only [decide_eq_true_eq, decide_eq_false_iff_not, Bool.not_eq_true, Bool.not_true, Bool.not_false, ne_eq]; omega)); (refine KO.mv rfl rfl ?_))
      (refine KO.no rfl rfl ?_ rfl ?_; (focus (simp_all; done)))
      (refine KO.no rfl rfl ?_ rfl ?_; (focus (simp_all; done)))
      (refine KO.no rfl rfl ?_ rfl ?_; (focus (simp_all; done)))
      (refine KO.no rfl rfl ?_ rfl ?_; (focus (simp_all; done)))
      (refine KO.on rfl rfl ?_ ?_; (focus (simp only [decide_eq_true_eq, decide_eq_false_iff_not, Bool.not_eq_true, Bool.not_true, Bool.not_false, ne_eq]; omega)); ((refine KO.pickF rfl ?_ rfl rfl ?_; (focus (simp_all; done)))))
      (refine KO.pickF rfl ?_ rfl rfl ?_; (focus (simp only [decide_eq_true_eq, decide_eq_false_iff_not, Bool.not_eq_true, Bool.not_true, Bool.not_false, ne_eq]; omega)))
      refine KO.nil ?_
      exact KQ.mid () trivial ⟨by simp [envAt, a3, a6, hk], rfl, rfl, trivial⟩ (fun _ h => h.all (by with_reducible repeat (first | exact PAll.nil | refine PAll.cons (by with_reducible repeat (first | exact Pick.head | apply Pick.tail)) ?_)))
  rintro _ _
  refine K.condF rfl rfl ?_
  repeat (first | (with_reducible refine K.seq ?_) | (with_reducible refine KQ.next ?_) | (with_reducible refine K.skip ?_))
  refine K.reg ?_
  refine KO.as rfl rfl ?_
  refine KO.nil ?_
  repeat (first | (with_reducible refine K.seq ?_) | (with_reducible refine KQ.next ?_))
  refine K.reg ?_
  refine KO.fo0 (off := 2) rfl Tryd.runUnderlying75 rfl rfl Tryd.sizeOf4 rfl ?_
  refine KO.ld rfl rfl Tryd.isAgg4 (by with_reducible (repeat (exact Pick.head))) (by exact rfl) rfl ?_
  refine KO.nil ?_
  repeat ((with_reducible refine KQ.next ?_))
  refine K.cut (fun _ : Unit => [(1, .pointer (some ⟨b1, 0, none⟩)), (4, .string (writeS xs)), (6, .string (kindS f.ack ++ colon))]) (fun _ => [blk b1 (.cells (frC f (.slice sa xs.length cap)).toArray 75 (0, 0))]) (fun _ => True) ?_ ?_
  · refine K.cond rfl (fun h => ?_) (fun h => ?_)
    · refine K.reg ?_
      refine KO.as rfl rfl ?_
      refine KO.nil ?_
      exact KQ.mid () trivial ⟨rfl, rfl, by rw [h]; rfl, trivial⟩ (fun _ h => h.all (by with_reducible repeat (exact PAll.refl)))
    · refine K.skip ?_
      exact KQ.mid () trivial ⟨rfl, rfl, by rw [h]; rfl, trivial⟩ (fun _ h => h.all (by with_reducible repeat (exact PAll.refl)))
  rintro _ _
  repeat ((with_reducible refine K.seq ?_))
  have hks : (kindS f.ack).size ≤ 1 := by unfold kindS; split <;> decide
  refine K.drawX [.pure, .pure, .read, .keep, .keep, .pure, .pure, .pure, .read, .keep, .keep, .pure, .pure, .pure, .pure, .pure, .pure] [(3, 9), (4, 9)] [[0, 1, 2, 7, 8, 13, 3, 4, 5, 6, 9, 10, 11, 12, 14, 15, 16], [0, 1, 2, 7, 8, 13, 3, 9, 4, 5, 6, 10, 11, 12, 14, 15, 16], [0, 1, 2, 7, 8, 13, 9, 3, 4, 5, 6, 10, 11, 12, 14, 15, 16]] (by kernel_rfl) (by kernel_rfl) (by kernel_rfl) ⟨?_, ?_, ?_, trivial⟩
  focus
    show KO _ _ _ _ _ _ _ _ _ _
    refine KO.mv rfl rfl ?_
    refine KO.fo0 (off := 0) rfl Tryd.runUnderlying75 rfl rfl Tryd.sizeOf3 rfl ?_
    refine KO.ld rfl rfl Tryd.isAgg3 (by with_reducible (repeat (exact Pick.head))) (by exact rfl) rfl ?_
    refine KO.fo0 (off := 1) rfl Tryd.runUnderlying75 rfl rfl Tryd.sizeOf3 rfl ?_
    refine KO.ld rfl rfl Tryd.isAgg3 (by with_reducible (repeat (exact Pick.head))) (by exact rfl) rfl ?_
    refine KO.mv rfl rfl ?_
    refine KO.bs1 (z := (Value.int .i64 0)) (sz := 1) (by' := 8) rfl rfl Tryd.underlying144 (by kernel_rfl) (by exact rfl) (by exact rfl) (by decide) (by decide) rfl ?_; intro b60
    refine KO.ce (cp := []) rfl rfl rfl Tryd.call55 rfl (words_e w _ _ [f.frm] (fun w' hw' => rdA_blk (vs := [.int .i64 f.frm]) (xs := [f.frm]) (by with_reducible (repeat (exact Pick.head))) rfl hw') hT (by intro n hn; simp at hn; subst hn; assumption) (by simp)) ?_; rintro v' L' ⟨rfl, rfl⟩; rw [hW1]
    refine KO.cat rfl rfl (by simp only [ByteArray.size_append, z1, z2, z6, z7]; omega) rfl ?_
    refine KO.cat rfl rfl (by simp only [ByteArray.size_append, z1, z2, z6, z7]; omega) rfl ?_
    refine KO.bs1 (z := (Value.int .i64 0)) (sz := 1) (by' := 8) rfl rfl Tryd.underlying144 (by kernel_rfl) (by exact rfl) (by exact rfl) (by decide) (by decide) rfl ?_; intro b66
    refine KO.ce (cp := []) rfl rfl rfl Tryd.call55 rfl (words_e w _ _ [f.num] (fun w' hw' => rdA_blk (vs := [.int .i64 f.num]) (xs := [f.num]) (by with_reducible (repeat (exact Pick.head))) rfl hw') hT (by intro n hn; simp at hn; subst hn; assumption) (by simp)) ?_; rintro v' L' ⟨rfl, rfl⟩; rw [hW2]
    refine KO.cat rfl rfl (by simp only [ByteArray.size_append, z1, z2, z6, z7]; omega) rfl ?_
    refine KO.cat rfl rfl (by simp only [ByteArray.size_append, z1, z2, z6, z7]; omega) rfl ?_
    refine KO.cat rfl rfl (by simp only [ByteArray.size_append, z1, z2, z6, z7]; omega) rfl ?_
    refine KO.as rfl rfl ?_
    refine KO.as rfl rfl ?_
    refine KO.nil ?_
    repeat (first | (with_reducible refine KQ.next ?_) | (with_reducible refine K.ret ?_))
  rotate_left
  focus
    show KO _ _ _ _ _ _ _ _ _ _
    refine KO.mv rfl rfl ?_
    refine KO.fo0 (off := 0) rfl Tryd.runUnderlying75 rfl rfl Tryd.sizeOf3 rfl ?_
    refine KO.ld rfl rfl Tryd.isAgg3 (by with_reducible (repeat (exact Pick.head))) (by exact rfl) rfl ?_
    refine KO.fo0 (off := 1) rfl Tryd.runUnderlying75 rfl rfl Tryd.sizeOf3 rfl ?_
    refine KO.ld rfl rfl Tryd.isAgg3 (by with_reducible (repeat (exact Pick.head))) (by exact rfl) rfl ?_
    refine KO.mv rfl rfl ?_
    refine KO.bs1 (z := (Value.int .i64 0)) (sz := 1) (by' := 8) rfl rfl Tryd.underlying144 (by kernel_rfl) (by exact rfl) (by exact rfl) (by decide) (by decide) rfl ?_; intro b60
    refine KO.bs1 (z := (Value.int .i64 0)) (sz := 1) (by' := 8) rfl rfl Tryd.underlying144 (by kernel_rfl) (by exact rfl) (by exact rfl) (by decide) (by decide) rfl ?_; intro b66
    refine KO.ce (cp := []) rfl rfl rfl Tryd.call55 rfl (words_e w _ _ [f.frm] (fun w' hw' => rdA_blk (vs := [.int .i64 f.frm]) (xs := [f.frm]) (by with_reducible (repeat (first | exact Pick.head | apply Pick.tail))) rfl hw') hT (by intro n hn; simp at hn; subst hn; assumption) (by simp)) ?_; rintro v' L' ⟨rfl, rfl⟩; rw [hW1]
    refine KO.cat rfl rfl (by simp only [ByteArray.size_append, z1, z2, z6, z7]; omega) rfl ?_
    refine KO.cat rfl rfl (by simp only [ByteArray.size_append, z1, z2, z6, z7]; omega) rfl ?_
    refine KO.ce (cp := []) rfl rfl rfl Tryd.call55 rfl (words_e w _ _ [f.num] (fun w' hw' => rdA_blk (vs := [.int .i64 f.num]) (xs := [f.num]) (by with_reducible (repeat (exact Pick.head))) rfl hw') hT (by intro n hn; simp at hn; subst hn; assumption) (by simp)) ?_; rintro v' L' ⟨rfl, rfl⟩; rw [hW2]
    refine KO.cat rfl rfl (by simp only [ByteArray.size_append, z1, z2, z6, z7]; omega) rfl ?_
    refine KO.cat rfl rfl (by simp only [ByteArray.size_append, z1, z2, z6, z7]; omega) rfl ?_
    refine KO.cat rfl rfl (by simp only [ByteArray.size_append, z1, z2, z6, z7]; omega) rfl ?_
    refine KO.as rfl rfl ?_
    refine KO.as rfl rfl ?_
    refine KO.nil ?_
    repeat (first | (with_reducible refine KQ.next ?_) | (with_reducible refine K.ret ?_))
  rotate_left
  focus
    show KO _ _ _ _ _ _ _ _ _ _
    refine KO.mv rfl rfl ?_
    refine KO.fo0 (off := 0) rfl Tryd.runUnderlying75 rfl rfl Tryd.sizeOf3 rfl ?_
    refine KO.ld rfl rfl Tryd.isAgg3 (by with_reducible (repeat (exact Pick.head))) (by exact rfl) rfl ?_
    refine KO.fo0 (off := 1) rfl Tryd.runUnderlying75 rfl rfl Tryd.sizeOf3 rfl ?_
    refine KO.ld rfl rfl Tryd.isAgg3 (by with_reducible (repeat (exact Pick.head))) (by exact rfl) rfl ?_
    refine KO.mv rfl rfl ?_
    refine KO.bs1 (z := (Value.int .i64 0)) (sz := 1) (by' := 8) rfl rfl Tryd.underlying144 (by kernel_rfl) (by exact rfl) (by exact rfl) (by decide) (by decide) rfl ?_; intro b66
    refine KO.bs1 (z := (Value.int .i64 0)) (sz := 1) (by' := 8) rfl rfl Tryd.underlying144 (by kernel_rfl) (by exact rfl) (by exact rfl) (by decide) (by decide) rfl ?_; intro b60
    refine KO.ce (cp := []) rfl rfl rfl Tryd.call55 rfl (words_e w _ _ [f.frm] (fun w' hw' => rdA_blk (vs := [.int .i64 f.frm]) (xs := [f.frm]) (by with_reducible (repeat (exact Pick.head))) rfl hw') hT (by intro n hn; simp at hn; subst hn; assumption) (by simp)) ?_; rintro v' L' ⟨rfl, rfl⟩; rw [hW1]
    refine KO.cat rfl rfl (by simp only [ByteArray.size_append, z1, z2, z6, z7]; omega) rfl ?_
    refine KO.cat rfl rfl (by simp only [ByteArray.size_append, z1, z2, z6, z7]; omega) rfl ?_
    refine KO.ce (cp := []) rfl rfl rfl Tryd.call55 rfl (words_e w _ _ [f.num] (fun w' hw' => rdA_blk (vs := [.int .i64 f.num]) (xs := [f.num]) (by with_reducible (repeat (first | exact Pick.head | apply Pick.tail))) rfl hw') hT (by intro n hn; simp at hn; subst hn; assumption) (by simp)) ?_; rintro v' L' ⟨rfl, rfl⟩; rw [hW2]
    refine KO.cat rfl rfl (by simp only [ByteArray.size_append, z1, z2, z6, z7]; omega) rfl ?_
    refine KO.cat rfl rfl (by simp only [ByteArray.size_append, z1, z2, z6, z7]; omega) rfl ?_
    refine KO.cat rfl rfl (by simp only [ByteArray.size_append, z1, z2, z6, z7]; omega) rfl ?_
    refine KO.as rfl rfl ?_
    refine KO.as rfl rfl ?_
    refine KO.nil ?_
    repeat (first | (with_reducible refine KQ.next ?_) | (with_reducible refine K.ret ?_))
  rotate_left
  all_goals exact KQ.ret2 rfl rfl rfl (fun w' hs => fin 0 (kindS f.ack ++ colon ++ itoaS f.frm ++ ⟨#[58]⟩ ++ itoaS f.num ++ ⟨#[58]⟩ ++ writeS xs) w' _ e1.symm (by rw [e2]; exact (joinS_four _ _ _ _ _).symm) hs)
end Go.Proofs.YtjhogocabcdjbaaDoor
/- a frame's text read: plain -/
namespace WB
open Go
/-- what a frame's text stands for -/
def frd (s : ByteArray) : Option (Fr × List Ms) :=
  match pcs 58 s with
  | [a, b, c, d] => match numO b, numO c, mrd d with
    | some x, some y, some xs => if okF ⟨x, y, decide (a = ⟨#[97]⟩)⟩ xs ∧ frS ⟨x, y, decide (a = ⟨#[97]⟩)⟩ xs = s then some (⟨x, y, decide (a = ⟨#[97]⟩)⟩, xs) else none
    | _, _, _ => none
  | _ => none
theorem itoa_colon {n : Int} : ∀ b ∈ (itoaS n).data.toList, b ≠ 58 := fun b hb => by
  have := itoa_mem b hb
  rintro rfl; revert this; decide
theorem let_colon {s : ByteArray} (h : allLet s = true) : ∀ b ∈ s.data.toList, b ≠ 58 := fun b hb => by
  unfold allLet at h
  have := List.all_eq_true.1 h b hb
  rintro rfl; revert this; decide
theorem msg_colon {m : Ms} (h : msRight m = true) : ∀ b ∈ (msgS m).data.toList, b ≠ 58 := fun b hb => by
  obtain ⟨h1, h2, h3, h4, h5, h6, h7, h8⟩ := msRight_parts h
  rw [msgS_join] at hb
  rcases mem_joinS hb with hb | ⟨x, hx, hb⟩
  · have : b = 32 := by simpa [sp] using hb
    subst this; decide
  · simp only [List.mem_cons, List.not_mem_nil, or_false] at hx
    rcases hx with rfl | rfl | rfl | rfl | rfl
    · exact itoa_colon b hb
    · exact itoa_colon b hb
    · exact let_colon (body_let h5) b hb
    · exact let_colon (word_let h6) b hb
    · exact itoa_colon b hb
theorem write_colon {xs : List Ms} (h : badI xs = none) : ∀ b ∈ (writeS xs).data.toList, b ≠ 58 := fun b hb => by
  unfold writeS at hb
  rcases mem_joinS hb with hb | ⟨x, hx, hb⟩
  · have : b = 43 := by simpa [plus] using hb
    subst this; decide
  · obtain ⟨m, hm, rfl⟩ := List.mem_map.1 hx
    exact msg_colon (badI_all h m hm) b hb
theorem frS_pcs {f : Fr} {xs : List Ms} (h : okF f xs) : pcs 58 (frS f xs) = [kindS f.ack, itoaS f.frm, itoaS f.num, writeS xs] := by
  unfold okF at h
  unfold frS
  refine pcs_join (c := 58) (by simp) fun x hx b hb => ?_
  simp only [List.mem_cons, List.not_mem_nil, or_false] at hx
  rcases hx with rfl | rfl | rfl | rfl
  · unfold kindS at hb
    split at hb
    · have : b = 97 := by simpa using hb
      subst this; decide
    · have : b = 98 := by simpa using hb
      subst this; decide
  · exact itoa_colon b hb
  · exact itoa_colon b hb
  · exact write_colon h.2.2.2.2.2.2 b hb
theorem kind_ack (a : Bool) : decide (kindS a = ⟨#[97]⟩) = a := by cases a <;> decide
theorem frd_write {f : Fr} {xs : List Ms} (h : okF f xs) : frd (frS f xs) = some (f, xs) := by
  have hp := frS_pcs h
  have h2 := h
  unfold okF at h2
  obtain ⟨h3, h4, h5, h6, h7, h8, h9⟩ := h2
  unfold frd
  rw [hp]
  have e1 := numO_itoa (n := f.frm) ⟨by omega, by omega⟩
  have e2 := numO_itoa (n := f.num) ⟨by omega, by omega⟩
  have e3 := mrd_write h9
  simp only [e1, e2, e3, kind_ack]
  rw [if_pos ⟨h, trivial⟩]
theorem frd_some {s : ByteArray} {f : Fr} {xs : List Ms} (h : frd s = some (f, xs)) : okF f xs ∧ frS f xs = s := by
  unfold frd at h
  split at h
  · split at h
    · split at h
      · rename_i hh
        simp only [Option.some.injEq, Prod.mk.injEq] at h
        obtain ⟨rfl, rfl⟩ := h; exact hh
      · cases h
    · cases h
  · cases h
theorem frd_len {s : ByteArray} {f : Fr} {xs : List Ms} (h : frd s = some (f, xs)) : xs.length ≤ 3 := by
  have := (frd_some h).1
  unfold okF at this
  omega
theorem frS_size {f : Fr} {xs : List Ms} (h : okF f xs) : (frS f xs).size ≤ 2000 := by
  have h2 := h
  unfold okF at h2
  obtain ⟨h3, h4, h5, h6, h7, h8, h9⟩ := h2
  have a1 := itoaS_size (n := f.frm) ⟨by omega, by omega⟩
  have a2 := itoaS_size (n := f.num) ⟨by omega, by omega⟩
  have a3 := writeS_size (badI_all h9)
  have a4 : (kindS f.ack).size ≤ 1 := by unfold kindS; split <;> decide
  have := joinS_size colon 400 [kindS f.ack, itoaS f.frm, itoaS f.num, writeS xs] (by intro x hx; simp at hx; rcases hx with rfl | rfl | rfl | rfl <;> omega)
  have h2 : colon.size = 1 := rfl
  unfold frS
  simp at this; omega
end WB
/- frame.Read: the walk -/
namespace Go.Proofs.YtjhogocabcdjbaaDoor
open Go Go.RowKit WB
theorem atoiR_form {s : ByteArray} {u : Value} (h : atoiR s u) : ∃ x e, u = .tuple #[.int .i64 x, e] ∧ ((numO s = some x ∧ e = .nilIface) ∨ (numO s = none ∧ ∃ T y, e = .iface T y)) := by
  unfold atoiR at h
  cases hn : numO s with
  | some v => rw [hn] at h; exact ⟨v, _, h, .inl ⟨rfl, rfl⟩⟩
  | none => rw [hn] at h; obtain ⟨x, T, y, rfl⟩ := h; exact ⟨x, _, rfl, .inr ⟨rfl, _, _, rfl⟩⟩
theorem mread2_e (w0 : World) (L : List HP) (s : ByteArray) (hs : s.size ≤ 10000) (hT0 : Tab w0) (hM0 : Lim w0) :
    KE Tryd.prog 41 #[.string s] w0 L (fun u M => ∃ sa cp, ∃ xs : List Ms, ∃ e, u = .tuple #[.slice sa xs.length cp, e] ∧ M = SL 50 5 msC (.slice sa xs.length cp) xs :: L ∧ ((mrd s = some xs ∧ e = .nilIface) ∨ (mrd s = none ∧ xs = [] ∧ ∃ T y, e = .iface T y))) := by
  intro w hw
  refine (mread_e w0 L s hs hT0 hM0 w hw).mono ?_
  rintro e w' ⟨u, M, rfl, hR, hst, hb⟩
  unfold MrR at hR
  cases hm : mrd s with
  | some xs =>
    rw [hm] at hR
    obtain ⟨v, rfl, rfl⟩ := hR
    obtain ⟨sa, cp, rfl, _⟩ := SL_form hst
    exact ⟨_, _, rfl, ⟨sa, cp, xs, _, rfl, rfl, .inl ⟨rfl, rfl⟩⟩, hst, hb⟩
  | none =>
    rw [hm] at hR
    obtain ⟨rfl, rfl⟩ := hR
    exact ⟨_, _, rfl, ⟨none, 0, [], _, rfl, rfl, .inr ⟨rfl, rfl, _, _, rfl⟩⟩, SL_nil hst, hb⟩
def FrR (L : List HP) (s : ByteArray) (u : Value) (M : List HP) : Prop :=
  match frd s with
  | some (f, xs) => ∃ v, u = .tuple #[.agg (frC f v).toArray, .nilIface] ∧ M = SL 50 5 msC v xs :: L
  | none => u = .tuple #[.agg (frC ⟨0, 0, false⟩ (.slice none 0 0)).toArray, errV 37 3] ∧ M = L
set_option maxRecDepth 100000 in
set_option maxHeartbeats 4000000 in
theorem fread_e (w0 : World) (L : List HP) (s : ByteArray) (hs : s.size ≤ 10000) (hT0 : Tab w0) (hM0 : Lim w0) : KE Tryd.prog 43 #[.string s] w0 L (FrR L s) := by
  refine KE.mk (n := 77) Tryd.func43 rfl Tryd.ntmps43 (by simp) ?_
  intro w hw
  have hT := hT0.ext (Ext.of_below hw.below)
  have hM := hM0.ext (Ext.of_below hw.below)
  unfold FrR
  repeat ((with_reducible refine K.seq ?_))
  refine K.reg ?_
  refine KO.alloc rfl Tryd.zeroValue72 (by exact rfl) rfl ?_; intro b2
  refine KO.as rfl rfl ?_
  refine KO.nil ?_
  repeat (first | (with_reducible refine K.seq ?_) | (with_reducible refine KQ.next ?_))
  by_cases h4 : (pcs 58 s).length = 4
  case neg =>
    have e0 : frd s = none := by
      unfold frd
      split
      · rename_i h; rw [h] at h4; exact absurd rfl h4
      · rfl
    rw [e0]
    refine K.reg ?_
    refine KO.mv rfl rfl ?_
    refine KO.ce (cp := []) rfl rfl rfl Tryd.call66 rfl (split_e w _ s 58 (by omega) hM) ?_; rintro v' L' ⟨bq, rfl, rfl⟩
    refine KO.as rfl rfl ?_
    refine KO.nil ?_
    repeat (first | (with_reducible refine K.seq ?_) | (with_reducible refine KQ.next ?_))
    refine K.reg ?_
    refine KO.mv rfl rfl ?_
    refine KO.len rfl Tryd.underlying24 rfl ?_
    refine KO.neI rfl rfl rfl ?_
    refine KO.nil ?_
    repeat ((with_reducible refine KQ.next ?_))
    refine K.condT rfl (by simp; omega) ?_
    repeat ((with_reducible refine K.seq ?_))
    refine K.reg ?_
    refine KO.bldN (pl := [(0, 1), (1, 1), (2, 1), (3, 1)]) rfl Tryd.zeroValue72 Tryd.runUnderlying72 (by intro w; simp [Tryd.sizeOf3, Tryd.sizeOf4, Tryd.sizeOf57]) (by exact rfl) rfl ?_
    refine KO.mki rfl (by kernel_rfl) rfl ?_
    refine KO.sto0 rfl rfl rfl (by exact rfl) (by exact Tryd.sizeOf72) (by exact rfl) (by with_reducible (repeat (first | exact Pick.head | apply Pick.tail))) (by exact rfl) ?_
    refine KO.as rfl rfl ?_
    refine KO.nil ?_
    repeat (first | (with_reducible refine KQ.next ?_) | (with_reducible refine KQ.then_ret ?_) | (with_reducible refine K.ret ?_))
    refine KQ.retCT rfl rfl Tryd.isAgg72 (by with_reducible (repeat (exact Pick.head))) (by exact Tryd.sizeOf72) rfl (fun w' hs => ⟨_, _, rfl, ⟨(by exact rfl), rfl⟩, hw.below_step hs.below, hs.below⟩)
  obtain ⟨wa, wb, wc, wd, hws⟩ : ∃ wa wb wc wd, pcs 58 s = [wa, wb, wc, wd] := by
    generalize pcs 58 s = l at h4
    match l, h4 with
    | [a, b, c, d], _ => exact ⟨a, b, c, d, rfl⟩
  have hwz : ∀ x ∈ [wa, wb, wc, wd], x.size ≤ 10000 := fun x hx => by have := pcs_size (c := 58) (s := s) (p := x) (by rw [hws]; exact hx); omega
  refine K.reg ?_
  refine KO.mv rfl rfl ?_
  refine KO.ce (cp := []) rfl rfl rfl Tryd.call66 rfl (split_e w _ s 58 (by omega) hM) ?_; rintro v' L' ⟨bq, rfl, rfl⟩; rw [hws]
  refine KO.as rfl rfl ?_
  refine KO.nil ?_
  repeat (first | (with_reducible refine K.seq ?_) | (with_reducible refine KQ.next ?_))
  refine K.reg ?_
  refine KO.mv rfl rfl ?_
  refine KO.len rfl Tryd.underlying24 rfl ?_
  refine KO.neI rfl rfl rfl ?_
  refine KO.nil ?_
  repeat ((with_reducible refine KQ.next ?_))
  refine K.condF rfl (by simp) ?_
  repeat (first | (with_reducible refine K.seq ?_) | (with_reducible refine KQ.next ?_) | (with_reducible refine K.skip ?_))
  refine K.reg ?_
  refine KO.mv rfl rfl ?_
  refine KO.idx0 (i := 1) rfl rfl Tryd.runUnderlying24 Tryd.sizeOf9 rfl (by simp) rfl ?_
  refine KO.ldE0 (i := 1) (sz := 1) (cf := strC) (e := wb) rfl rfl Tryd.isAgg9 (by with_reducible (repeat (exact Pick.head))) (fun _ => rfl) rfl (by exact rfl) (by exact rfl) rfl ?_
  refine KO.ce (cp := []) rfl rfl rfl Tryd.call67 rfl (atoi_e w _ wb (by have := hwz wb (by simp); omega) hM) ?_; rintro v' L' ⟨hR, rfl⟩; obtain ⟨x, e1, rfl, hx⟩ := atoiR_form hR
  refine KO.mv rfl rfl ?_
  refine KO.extrL rfl (by exact rfl) rfl ?_
  refine KO.extrL rfl (by exact rfl) rfl ?_
  refine KO.as rfl rfl ?_
  refine KO.as rfl rfl ?_
  refine KO.nil ?_
  repeat (first | (with_reducible refine K.seq ?_) | (with_reducible refine KQ.next ?_))
  refine K.reg ?_
  refine KO.mv rfl rfl ?_
  refine KO.idx0 (i := 2) rfl rfl Tryd.runUnderlying24 Tryd.sizeOf9 rfl (by simp) rfl ?_
  refine KO.ldE0 (i := 2) (sz := 1) (cf := strC) (e := wc) rfl rfl Tryd.isAgg9 (by with_reducible (repeat (exact Pick.head))) (fun _ => rfl) rfl (by exact rfl) (by exact rfl) rfl ?_
  refine KO.ce (cp := []) rfl rfl rfl Tryd.call67 rfl (atoi_e w _ wc (by have := hwz wc (by simp); omega) hM) ?_; rintro v' L' ⟨hR, rfl⟩; obtain ⟨y, e2, rfl, hy⟩ := atoiR_form hR
  refine KO.mv rfl rfl ?_
  refine KO.extrL rfl (by exact rfl) rfl ?_
  refine KO.extrL rfl (by exact rfl) rfl ?_
  refine KO.as rfl rfl ?_
  refine KO.as rfl rfl ?_
  refine KO.nil ?_
  repeat (first | (with_reducible refine K.seq ?_) | (with_reducible refine KQ.next ?_))
  refine K.reg ?_
  refine KO.mv rfl rfl ?_
  refine KO.idx0 (i := 3) rfl rfl Tryd.runUnderlying24 Tryd.sizeOf9 rfl (by simp) rfl ?_
  refine KO.ldE0 (i := 3) (sz := 1) (cf := strC) (e := wd) rfl rfl Tryd.isAgg9 (by with_reducible (repeat (exact Pick.head))) (fun _ => rfl) rfl (by exact rfl) (by exact rfl) rfl ?_
  refine KO.ce (cp := []) rfl rfl rfl Tryd.call41 rfl (mread2_e w _ wd (by have := hwz wd (by simp); omega) hT hM) ?_; rintro v' L' ⟨sa, cp, xs, e3, rfl, rfl, hz⟩
  refine KO.mv rfl rfl ?_
  refine KO.extrL rfl (by exact rfl) rfl ?_
  refine KO.extrL rfl (by exact rfl) rfl ?_
  refine KO.as rfl rfl ?_
  refine KO.as rfl rfl ?_
  refine KO.nil ?_
  repeat (first | (with_reducible refine K.seq ?_) | (with_reducible refine KQ.next ?_))
  refine K.reg ?_
  refine KO.mv rfl rfl ?_
  refine KO.mv rfl rfl ?_
  refine KO.mv rfl rfl ?_
  refine KO.idx0 (i := 0) rfl rfl Tryd.runUnderlying24 Tryd.sizeOf9 rfl (by simp) rfl ?_
  refine KO.ldE0 (i := 0) (sz := 1) (cf := strC) (e := wa) rfl rfl Tryd.isAgg9 (by with_reducible (repeat (first | exact Pick.head | apply Pick.tail))) (fun _ => rfl) rfl (by exact rfl) (by exact rfl) rfl ?_
  refine KO.eqS rfl rfl rfl ?_
  refine KO.mv rfl rfl ?_
  refine KO.bldN (pl := [(0, 1), (1, 1), (2, 1), (3, 1)]) rfl Tryd.zeroValue72 Tryd.runUnderlying72 (by intro w; simp [Tryd.sizeOf3, Tryd.sizeOf4, Tryd.sizeOf57]) (by exact rfl) rfl ?_
  refine KO.alloc rfl Tryd.zeroValue72 (by exact rfl) rfl ?_; intro b11
  refine KO.sto0 rfl rfl rfl (by exact rfl) (by exact Tryd.sizeOf72) (by exact rfl) (by with_reducible (repeat (exact Pick.head))) (by exact rfl) ?_
  refine KO.nil ?_
  repeat (first | (with_reducible refine K.seq ?_) | (with_reducible refine KQ.next ?_))
  have hsz : ∀ m ∈ xs, m.body.size ≤ maxLen ∧ m.queue.size ≤ maxLen := by
    rcases hz with ⟨h, _⟩ | ⟨_, rfl, _⟩
    · exact fun m hm => right_size (badI_all (mrd_some h).1 m hm)
    · intro m hm; cases hm
  refine K.reg ?_
  refine KO.ldB0 rfl rfl Tryd.isAgg72 Tryd.sizeOf72 (by with_reducible (repeat (exact Pick.head))) (by exact rfl) rfl ?_
  refine KO.ce (cp := []) rfl rfl rfl Tryd.call37 rfl (fw_e w _ ⟨x, y, decide (wa = ⟨#[97]⟩)⟩ _ xs (fun w' hw' => RdA.ofSL (fun _ => rfl) (by with_reducible (repeat (first | exact Pick.head | apply Pick.tail))) hw') hT hsz) ?_; rintro v' L' ⟨rfl, rfl⟩
  refine KO.mv rfl rfl ?_
  refine KO.extrL rfl (by exact rfl) rfl ?_
  refine KO.extrL rfl (by exact rfl) rfl ?_
  refine KO.as rfl rfl ?_
  refine KO.as rfl rfl ?_
  refine KO.nil ?_
  repeat (first | (with_reducible refine K.seq ?_) | (with_reducible refine KQ.next ?_))
  have bad : ¬ (numO wb = some x ∧ numO wc = some y ∧ mrd wd = some xs ∧ okF ⟨x, y, decide (wa = ⟨#[97]⟩)⟩ xs ∧ frS ⟨x, y, decide (wa = ⟨#[97]⟩)⟩ xs = s) → frd s = none := by
    intro hb
    unfold frd
    rw [hws]
    simp only []
    split
    · rename_i x' y' xs' h1 h2 h3
      split
      · rename_i hh
        exfalso
        have ex : x = x' := by
          rcases hx with ⟨h, _⟩ | ⟨h, _⟩
          · rw [h] at h1; exact Option.some.inj h1
          · rw [h] at h1; cases h1
        have ey : y = y' := by
          rcases hy with ⟨h, _⟩ | ⟨h, _⟩
          · rw [h] at h2; exact Option.some.inj h2
          · rw [h] at h2; cases h2
        have ez : xs = xs' := by
          rcases hz with ⟨h, _⟩ | ⟨h, _⟩
          · rw [h] at h3; exact Option.some.inj h3
          · rw [h] at h3; cases h3
        subst ex; subst ey; subst ez
        exact hb ⟨h1, h2, h3, hh.1, hh.2⟩
      · rfl
    · rfl
  rcases hx with ⟨hx, rfl⟩ | ⟨hx, T1, y1, rfl⟩
  case inr =>
    rw [bad (fun h => by rw [hx] at h; cases h.1)]
    refine K.reg ?_
    refine KO.mv rfl rfl ?_
    refine KO.neIf rfl (by kernel_rfl) rfl ?_
    refine KO.mv rfl rfl ?_
    (refine KO.no rfl rfl ?_ rfl ?_; (focus rfl))
    (refine KO.no rfl rfl ?_ rfl ?_; (focus rfl))
    (refine KO.pickT rfl ?_ rfl rfl ?_; (focus rfl))
    refine KO.mv rfl rfl ?_
    (refine KO.no rfl rfl ?_ rfl ?_; (focus rfl))
    (refine KO.no rfl rfl ?_ rfl ?_; (focus rfl))
    (refine KO.pickT rfl ?_ rfl rfl ?_; (focus rfl))
    refine KO.mv rfl rfl ?_
    (refine KO.no rfl rfl ?_ rfl ?_; (focus rfl))
    (refine KO.no rfl rfl ?_ rfl ?_; (focus rfl))
    (refine KO.pickT rfl ?_ rfl rfl ?_; (focus rfl))
    refine KO.mv rfl rfl ?_
    (refine KO.no rfl rfl ?_ rfl ?_; (focus rfl))
    (refine KO.no rfl rfl ?_ rfl ?_; (focus rfl))
    (refine KO.no rfl rfl ?_ rfl ?_; (focus rfl))
    (refine KO.pickT rfl ?_ rfl rfl ?_; (focus rfl))
    refine KO.nil ?_
    repeat ((with_reducible refine KQ.next ?_))
    refine K.condT rfl rfl ?_
    repeat ((with_reducible refine K.seq ?_))
    refine K.reg ?_
    refine KO.bldN (pl := [(0, 1), (1, 1), (2, 1), (3, 1)]) rfl Tryd.zeroValue72 Tryd.runUnderlying72 (by intro w; simp [Tryd.sizeOf3, Tryd.sizeOf4, Tryd.sizeOf57]) (by exact rfl) rfl ?_
    refine KO.mki rfl (by kernel_rfl) rfl ?_
    refine KO.sto0 rfl rfl rfl (by exact rfl) (by exact Tryd.sizeOf72) (by exact rfl) (by with_reducible (repeat (first | exact Pick.head | apply Pick.tail))) (by exact rfl) ?_
    refine KO.as rfl rfl ?_
    refine KO.nil ?_
    repeat (first | (with_reducible refine KQ.next ?_) | (with_reducible refine KQ.then_ret ?_) | (with_reducible refine K.ret ?_))
    refine KQ.retCT rfl rfl Tryd.isAgg72 (by with_reducible (repeat (exact Pick.head))) (by exact Tryd.sizeOf72) rfl (fun w' hs => ⟨_, _, rfl, ⟨(by exact rfl), rfl⟩, hw.below_step hs.below, hs.below⟩)
  rcases hy with ⟨hy, rfl⟩ | ⟨hy, T1, y1, rfl⟩
  case inr =>
    rw [bad (fun h => by rw [hy] at h; cases h.2.1)]
    refine K.reg ?_
    refine KO.mv rfl rfl ?_
    refine KO.neI0 rfl (by kernel_rfl) rfl ?_
    refine KO.mv rfl rfl ?_
    (refine KO.on rfl rfl ?_ ?_; (focus rfl); (refine KO.mv rfl rfl ?_))
    (refine KO.on rfl rfl ?_ ?_; (focus rfl); (refine KO.neIf rfl (by kernel_rfl) rfl ?_))
    (refine KO.pickF rfl ?_ rfl rfl ?_; (focus rfl))
    refine KO.mv rfl rfl ?_
    (refine KO.no rfl rfl ?_ rfl ?_; (focus rfl))
    (refine KO.no rfl rfl ?_ rfl ?_; (focus rfl))
    (refine KO.pickT rfl ?_ rfl rfl ?_; (focus rfl))
    refine KO.mv rfl rfl ?_
    (refine KO.no rfl rfl ?_ rfl ?_; (focus rfl))
    (refine KO.no rfl rfl ?_ rfl ?_; (focus rfl))
    (refine KO.pickT rfl ?_ rfl rfl ?_; (focus rfl))
    refine KO.mv rfl rfl ?_
    (refine KO.no rfl rfl ?_ rfl ?_; (focus rfl))
    (refine KO.no rfl rfl ?_ rfl ?_; (focus rfl))
    (refine KO.no rfl rfl ?_ rfl ?_; (focus rfl))
    (refine KO.pickT rfl ?_ rfl rfl ?_; (focus rfl))
    refine KO.nil ?_
    repeat ((with_reducible refine KQ.next ?_))
    refine K.condT rfl rfl ?_
    repeat ((with_reducible refine K.seq ?_))
    refine K.reg ?_
    refine KO.bldN (pl := [(0, 1), (1, 1), (2, 1), (3, 1)]) rfl Tryd.zeroValue72 Tryd.runUnderlying72 (by intro w; simp [Tryd.sizeOf3, Tryd.sizeOf4, Tryd.sizeOf57]) (by exact rfl) rfl ?_
    refine KO.mki rfl (by kernel_rfl) rfl ?_
    refine KO.sto0 rfl rfl rfl (by exact rfl) (by exact Tryd.sizeOf72) (by exact rfl) (by with_reducible (repeat (first | exact Pick.head | apply Pick.tail))) (by exact rfl) ?_
    refine KO.as rfl rfl ?_
    refine KO.nil ?_
    repeat (first | (with_reducible refine KQ.next ?_) | (with_reducible refine KQ.then_ret ?_) | (with_reducible refine K.ret ?_))
    refine KQ.retCT rfl rfl Tryd.isAgg72 (by with_reducible (repeat (exact Pick.head))) (by exact Tryd.sizeOf72) rfl (fun w' hs => ⟨_, _, rfl, ⟨(by exact rfl), rfl⟩, hw.below_step hs.below, hs.below⟩)
  rcases hz with ⟨hz, rfl⟩ | ⟨hz, _, T1, y1, rfl⟩
  case inr =>
    rw [bad (fun h => by rw [hz] at h; cases h.2.2.1)]
    refine K.reg ?_
    refine KO.mv rfl rfl ?_
    refine KO.neI0 rfl (by kernel_rfl) rfl ?_
    refine KO.mv rfl rfl ?_
    (refine KO.on rfl rfl ?_ ?_; (focus rfl); (refine KO.mv rfl rfl ?_))
    (refine KO.on rfl rfl ?_ ?_; (focus rfl); (refine KO.neI0 rfl (by kernel_rfl) rfl ?_))
    (refine KO.pickF rfl ?_ rfl rfl ?_; (focus rfl))
    refine KO.mv rfl rfl ?_
    (refine KO.on rfl rfl ?_ ?_; (focus rfl); (refine KO.mv rfl rfl ?_))
    (refine KO.on rfl rfl ?_ ?_; (focus rfl); (refine KO.neIf rfl (by kernel_rfl) rfl ?_))
    (refine KO.pickF rfl ?_ rfl rfl ?_; (focus rfl))
    refine KO.mv rfl rfl ?_
    (refine KO.no rfl rfl ?_ rfl ?_; (focus rfl))
    (refine KO.no rfl rfl ?_ rfl ?_; (focus rfl))
    (refine KO.pickT rfl ?_ rfl rfl ?_; (focus rfl))
    refine KO.mv rfl rfl ?_
    (refine KO.no rfl rfl ?_ rfl ?_; (focus rfl))
    (refine KO.no rfl rfl ?_ rfl ?_; (focus rfl))
    (refine KO.no rfl rfl ?_ rfl ?_; (focus rfl))
    (refine KO.pickT rfl ?_ rfl rfl ?_; (focus rfl))
    refine KO.nil ?_
    repeat ((with_reducible refine KQ.next ?_))
    refine K.condT rfl rfl ?_
    repeat ((with_reducible refine K.seq ?_))
    refine K.reg ?_
    refine KO.bldN (pl := [(0, 1), (1, 1), (2, 1), (3, 1)]) rfl Tryd.zeroValue72 Tryd.runUnderlying72 (by intro w; simp [Tryd.sizeOf3, Tryd.sizeOf4, Tryd.sizeOf57]) (by exact rfl) rfl ?_
    refine KO.mki rfl (by kernel_rfl) rfl ?_
    refine KO.sto0 rfl rfl rfl (by exact rfl) (by exact Tryd.sizeOf72) (by exact rfl) (by with_reducible (repeat (first | exact Pick.head | apply Pick.tail))) (by exact rfl) ?_
    refine KO.as rfl rfl ?_
    refine KO.nil ?_
    repeat (first | (with_reducible refine KQ.next ?_) | (with_reducible refine KQ.then_ret ?_) | (with_reducible refine K.ret ?_))
    refine KQ.retCT rfl rfl Tryd.isAgg72 (by with_reducible (repeat (exact Pick.head))) (by exact Tryd.sizeOf72) rfl (fun w' hs => ⟨_, _, rfl, ⟨(by exact rfl), rfl⟩, hw.below_step hs.below, hs.below⟩)
  by_cases hok : okF ⟨x, y, decide (wa = ⟨#[97]⟩)⟩ xs
  case neg =>
    rw [bad (fun h => hok h.2.2.2.1), (fw_bad hok).1]
    refine K.reg ?_
    refine KO.mv rfl rfl ?_
    refine KO.neI0 rfl (by kernel_rfl) rfl ?_
    refine KO.mv rfl rfl ?_
    (refine KO.on rfl rfl ?_ ?_; (focus rfl); (refine KO.mv rfl rfl ?_))
    (refine KO.on rfl rfl ?_ ?_; (focus rfl); (refine KO.neI0 rfl (by kernel_rfl) rfl ?_))
    (refine KO.pickF rfl ?_ rfl rfl ?_; (focus rfl))
    refine KO.mv rfl rfl ?_
    (refine KO.on rfl rfl ?_ ?_; (focus rfl); (refine KO.mv rfl rfl ?_))
    (refine KO.on rfl rfl ?_ ?_; (focus rfl); (refine KO.neI0 rfl (by kernel_rfl) rfl ?_))
    (refine KO.pickF rfl ?_ rfl rfl ?_; (focus rfl))
    refine KO.mv rfl rfl ?_
    (refine KO.on rfl rfl ?_ ?_; (focus rfl); (refine KO.mv rfl rfl ?_))
    (refine KO.on rfl rfl ?_ ?_; (focus rfl); (refine KO.neN rfl (by kernel_rfl) rfl ?_))
    (refine KO.pickF rfl ?_ rfl rfl ?_; (focus rfl))
    refine KO.mv rfl rfl ?_
    (refine KO.no rfl rfl ?_ rfl ?_; (focus rfl))
    (refine KO.no rfl rfl ?_ rfl ?_; (focus rfl))
    (refine KO.no rfl rfl ?_ rfl ?_; (focus rfl))
    (refine KO.pickT rfl ?_ rfl rfl ?_; (focus rfl))
    refine KO.nil ?_
    repeat ((with_reducible refine KQ.next ?_))
    refine K.condT rfl rfl ?_
    repeat ((with_reducible refine K.seq ?_))
    refine K.reg ?_
    refine KO.bldN (pl := [(0, 1), (1, 1), (2, 1), (3, 1)]) rfl Tryd.zeroValue72 Tryd.runUnderlying72 (by intro w; simp [Tryd.sizeOf3, Tryd.sizeOf4, Tryd.sizeOf57]) (by exact rfl) rfl ?_
    refine KO.mki rfl (by kernel_rfl) rfl ?_
    refine KO.sto0 rfl rfl rfl (by exact rfl) (by exact Tryd.sizeOf72) (by exact rfl) (by with_reducible (repeat (first | exact Pick.head | apply Pick.tail))) (by exact rfl) ?_
    refine KO.as rfl rfl ?_
    refine KO.nil ?_
    repeat (first | (with_reducible refine KQ.next ?_) | (with_reducible refine KQ.then_ret ?_) | (with_reducible refine K.ret ?_))
    refine KQ.retCT rfl rfl Tryd.isAgg72 (by with_reducible (repeat (exact Pick.head))) (by exact Tryd.sizeOf72) rfl (fun w' hs => ⟨_, _, rfl, ⟨(by exact rfl), rfl⟩, hw.below_step hs.below, hs.below⟩)
  rw [(fw_ok hok).1, (fw_ok hok).2]
  by_cases hfs : frS ⟨x, y, decide (wa = ⟨#[97]⟩)⟩ xs = s
  case neg =>
    rw [bad (fun h => hfs h.2.2.2.2)]
    refine K.reg ?_
    refine KO.mv rfl rfl ?_
    refine KO.neI0 rfl (by kernel_rfl) rfl ?_
    refine KO.mv rfl rfl ?_
    (refine KO.on rfl rfl ?_ ?_; (focus rfl); (refine KO.mv rfl rfl ?_))
    (refine KO.on rfl rfl ?_ ?_; (focus rfl); (refine KO.neI0 rfl (by kernel_rfl) rfl ?_))
    (refine KO.pickF rfl ?_ rfl rfl ?_; (focus rfl))
    refine KO.mv rfl rfl ?_
    (refine KO.on rfl rfl ?_ ?_; (focus rfl); (refine KO.mv rfl rfl ?_))
    (refine KO.on rfl rfl ?_ ?_; (focus rfl); (refine KO.neI0 rfl (by kernel_rfl) rfl ?_))
    (refine KO.pickF rfl ?_ rfl rfl ?_; (focus rfl))
    refine KO.mv rfl rfl ?_
    (refine KO.on rfl rfl ?_ ?_; (focus rfl); (refine KO.mv rfl rfl ?_))
    (refine KO.on rfl rfl ?_ ?_; (focus rfl); (refine KO.neN rfl (by kernel_rfl) rfl ?_))
    (refine KO.pickF rfl ?_ rfl rfl ?_; (focus rfl))
    refine KO.mv rfl rfl ?_
    (refine KO.on rfl rfl ?_ ?_; (focus rfl); (refine KO.mv rfl rfl ?_))
    (refine KO.on rfl rfl ?_ ?_; (focus rfl); (refine KO.mv rfl rfl ?_))
    (refine KO.on rfl rfl ?_ ?_; (focus rfl); (refine KO.neS rfl rfl rfl ?_))
    (refine KO.pickF rfl ?_ rfl rfl ?_; (focus rfl))
    refine KO.nil ?_
    repeat ((with_reducible refine KQ.next ?_))
    refine K.condT rfl (by simp [hfs]) ?_
    repeat ((with_reducible refine K.seq ?_))
    refine K.reg ?_
    refine KO.bldN (pl := [(0, 1), (1, 1), (2, 1), (3, 1)]) rfl Tryd.zeroValue72 Tryd.runUnderlying72 (by intro w; simp [Tryd.sizeOf3, Tryd.sizeOf4, Tryd.sizeOf57]) (by exact rfl) rfl ?_
    refine KO.mki rfl (by kernel_rfl) rfl ?_
    refine KO.sto0 rfl rfl rfl (by exact rfl) (by exact Tryd.sizeOf72) (by exact rfl) (by with_reducible (repeat (first | exact Pick.head | apply Pick.tail))) (by exact rfl) ?_
    refine KO.as rfl rfl ?_
    refine KO.nil ?_
    repeat (first | (with_reducible refine KQ.next ?_) | (with_reducible refine KQ.then_ret ?_) | (with_reducible refine K.ret ?_))
    refine KQ.retCT rfl rfl Tryd.isAgg72 (by with_reducible (repeat (exact Pick.head))) (by exact Tryd.sizeOf72) rfl (fun w' hs => ⟨_, _, rfl, ⟨(by exact rfl), rfl⟩, hw.below_step hs.below, hs.below⟩)
  have e0 : frd s = some (⟨x, y, decide (wa = ⟨#[97]⟩)⟩, xs) := by
    rw [← hfs]; exact frd_write hok
  rw [e0]
  refine K.reg ?_
  refine KO.mv rfl rfl ?_
  refine KO.neI0 rfl (by kernel_rfl) rfl ?_
  refine KO.mv rfl rfl ?_
  (refine KO.on rfl rfl ?_ ?_; (focus rfl); (refine KO.mv rfl rfl ?_))
  (refine KO.on rfl rfl ?_ ?_; (focus rfl); (refine KO.neI0 rfl (by kernel_rfl) rfl ?_))
  (refine KO.pickF rfl ?_ rfl rfl ?_; (focus rfl))
  refine KO.mv rfl rfl ?_
  (refine KO.on rfl rfl ?_ ?_; (focus rfl); (refine KO.mv rfl rfl ?_))
  (refine KO.on rfl rfl ?_ ?_; (focus rfl); (refine KO.neI0 rfl (by kernel_rfl) rfl ?_))
  (refine KO.pickF rfl ?_ rfl rfl ?_; (focus rfl))
  refine KO.mv rfl rfl ?_
  (refine KO.on rfl rfl ?_ ?_; (focus rfl); (refine KO.mv rfl rfl ?_))
  (refine KO.on rfl rfl ?_ ?_; (focus rfl); (refine KO.neN rfl (by kernel_rfl) rfl ?_))
  (refine KO.pickF rfl ?_ rfl rfl ?_; (focus rfl))
  refine KO.mv rfl rfl ?_
  (refine KO.on rfl rfl ?_ ?_; (focus rfl); (refine KO.mv rfl rfl ?_))
  (refine KO.on rfl rfl ?_ ?_; (focus rfl); (refine KO.mv rfl rfl ?_))
  (refine KO.on rfl rfl ?_ ?_; (focus rfl); (refine KO.neS rfl rfl rfl ?_))
  (refine KO.pickF rfl ?_ rfl rfl ?_; (focus rfl))
  refine KO.nil ?_
  repeat ((with_reducible refine KQ.next ?_))
  refine K.condF rfl (by simp [hfs]) ?_
  repeat (first | (with_reducible refine K.seq ?_) | (with_reducible refine KQ.next ?_) | (with_reducible refine K.skip ?_))
  refine K.reg ?_
  refine KO.ldB0 rfl rfl Tryd.isAgg72 Tryd.sizeOf72 (by with_reducible (repeat (exact Pick.head))) (by exact rfl) rfl ?_
  refine KO.sto0 rfl rfl rfl (by exact rfl) (by exact Tryd.sizeOf72) (by exact rfl) (by with_reducible (repeat (first | exact Pick.head | apply Pick.tail))) (by exact rfl) ?_
  refine KO.as rfl rfl ?_
  refine KO.nil ?_
  repeat (first | (with_reducible refine KQ.next ?_) | (with_reducible refine K.ret ?_))
  refine KQ.retCT rfl rfl Tryd.isAgg72 (by with_reducible (repeat (exact Pick.head))) (by exact Tryd.sizeOf72) rfl (fun w' hs => ⟨_, _, rfl, ⟨_, (by exact rfl), rfl⟩, hw.stack (M := [SL 50 5 msC (.slice sa xs.length cp) xs]) (hs.all (by with_reducible repeat (first | exact PAll.nil | refine PAll.cons (by with_reducible repeat (first | exact Pick.head | apply Pick.tail)) ?_))), hs.below⟩)
end Go.Proofs.YtjhogocabcdjbaaDoor
/- waybillkeep.MsgBack: the walk -/
namespace Go.Proofs.YtjhogocabcdjbaaDoor
open Go Go.RowKit WB
def ksmallB (m : Ms) : Bool := decide (m.body.size ≤ 60) && decide (m.queue.size ≤ 60)
def ksmallsB (xs : List Ms) : Bool := decide (xs.length ≤ 60) && xs.all ksmallB
theorem ksmalls_e (w0 : World) (L : List HP) (v : Value) (xs : List Ms) (hr : ∀ w, St w0 L w → RdA w 5 msC v xs) : KE Tryd.prog 39 #[v] w0 L (fun u M => u = .bool (ksmallsB xs) ∧ M = L) := by
  refine KE.mk (n := 29) Tryd.func39 rfl Tryd.ntmps39 (by simp) ?_
  intro w hw
  obtain ⟨sa, cap, rfl, hc⟩ := hr w hw
  have fin : ∀ (b : Bool) (w' : World) (M : List HP), b = ksmallsB xs → St w M w' → ∃ v L', Ending.returned (.bool b) = Ending.returned v ∧ (v = .bool (ksmallsB xs) ∧ L' = L) ∧ St w0 L' w' ∧ Below w.heap.size w w' := fun b w' M e hs => ⟨_, _, rfl, ⟨by rw [e], rfl⟩, hw.below_step hs.below, hs.below⟩
  repeat ((with_reducible refine K.seq ?_))
  refine K.reg ?_
  refine KO.as rfl rfl ?_
  refine KO.nil ?_
  repeat (first | (with_reducible refine K.seq ?_) | (with_reducible refine KQ.next ?_))
  refine K.reg ?_
  refine KO.mv rfl rfl ?_
  refine KO.len rfl Tryd.underlying57 rfl ?_
  refine KO.gtr rfl rfl rfl ?_
  refine KO.nil ?_
  repeat ((with_reducible refine KQ.next ?_))
  refine K.condD rfl (fun h => ?_) (fun h => ?_)
  · have h1 : ¬ xs.length ≤ 60 := by omega
    repeat ((with_reducible refine K.seq ?_))
    refine K.reg ?_
    refine KO.as rfl rfl ?_
    refine KO.nil ?_
    repeat (first | (with_reducible refine KQ.next ?_) | (with_reducible refine KQ.then_ret ?_) | (with_reducible refine K.ret ?_))
    exact KQ.ret1 rfl rfl (fun w' hs => fin _ w' _ (by simp [ksmallsB, h1]) hs)
  have h1 : xs.length ≤ 60 := by omega
  repeat (first | (with_reducible refine K.seq ?_) | (with_reducible refine KQ.next ?_) | (with_reducible refine K.skip ?_))
  refine K.reg ?_
  refine KO.as rfl rfl ?_
  refine KO.nil ?_
  repeat (first | (with_reducible refine KQ.next ?_) | (with_reducible refine K.block ?_))
  refine K.loop (fun k : Nat => [(0, .slice sa xs.length cap), (3, .int .i64 (k : Nat))]) (fun _ => []) (fun k => k ≤ xs.length ∧ ∀ (j : Nat) m, j < k → xs[j]? = some m → ksmallB m = true) (fun k => xs.length - k) 0
    ⟨Nat.zero_le _, fun j m h => by omega⟩ ⟨rfl, rfl, trivial⟩ (fun _ h => h) ?_
  rintro k ⟨hk, hall⟩
  repeat ((with_reducible refine K.seq ?_))
  refine K.reg ?_
  refine KO.mv rfl rfl ?_
  refine KO.mv rfl rfl ?_
  refine KO.len rfl Tryd.underlying57 rfl ?_
  refine KO.lss rfl rfl rfl ?_
  refine KO.nil ?_
  repeat ((with_reducible refine KQ.next ?_))
  refine K.condD rfl (fun h2 => ?_) (fun h2 => ?_)
  · obtain ⟨m, hm⟩ : ∃ e, xs[k]? = some e := ⟨xs[k], List.getElem?_eq_getElem (by omega)⟩
    obtain ⟨ad, rfl, hh⟩ := hc k m hm
    have hf2 : w.cell? ((ad.add (k * 5)).add 2) = some (.string m.body) := hh 2 _ rfl
    have hf3 : w.cell? ((ad.add (k * 5)).add 3) = some (.string m.queue) := hh 3 _ rfl
    repeat (first | (with_reducible refine K.seq ?_) | (with_reducible refine KQ.next ?_) | (with_reducible refine K.skip ?_) | (with_reducible refine K.block ?_))
    by_cases g1 : (m.body.size : Int) > 60
    · have h6 : ksmallB m = false := by unfold ksmallB; have : ¬ m.body.size ≤ 60 := by omega
                                        simp [this]
      refine K.reg ?_
      refine KO.mv rfl rfl ?_
      refine KO.mv rfl rfl ?_
      refine KO.idxH rfl rfl Tryd.runUnderlying57 Tryd.sizeOf50 (by exact rfl) (by omega) rfl ?_
      refine KO.fldH (off := 2) rfl Tryd.runUnderlying50 rfl rfl Tryd.sizeOf9 rfl ?_
      refine KO.ld0 rfl rfl Tryd.isAgg9 (by assumption) rfl ?_
      refine KO.lenS rfl Tryd.underlying9 rfl ?_
      refine KO.gtr rfl rfl rfl ?_
      refine KO.mv rfl rfl ?_
      (refine KO.no rfl rfl ?_ rfl ?_; (focus (simp only [decide_eq_true_eq, decide_eq_false_iff_not, Bool.not_eq_true, Bool.not_true, Bool.not_false, ne_eq]; omega)))
      (refine KO.no rfl rfl ?_ rfl ?_; (focus (simp only [decide_eq_true_eq, decide_eq_false_iff_not, Bool.not_eq_true, Bool.not_true, Bool.not_false, ne_eq]; omega)))
      (refine KO.no rfl rfl ?_ rfl ?_; (focus (simp only [decide_eq_true_eq, decide_eq_false_iff_not, Bool.not_eq_true, Bool.not_true, Bool.not_false, ne_eq]; omega)))
      (refine KO.no rfl rfl ?_ rfl ?_; (focus (simp only [decide_eq_true_eq, decide_eq_false_iff_not, Bool.not_eq_true, Bool.not_true, Bool.not_false, ne_eq]; omega)))
      (refine KO.no rfl rfl ?_ rfl ?_; (focus (simp only [decide_eq_true_eq, decide_eq_false_iff_not, Bool.not_eq_true, Bool.not_true, Bool.not_false, ne_eq]; omega)))
      (refine KO.no rfl rfl ?_ rfl ?_; (focus (simp only [decide_eq_true_eq, decide_eq_false_iff_not, Bool.not_eq_true, Bool.not_true, Bool.not_false, ne_eq]; omega)))
      (refine KO.no rfl rfl ?_ rfl ?_; (focus (simp only [decide_eq_true_eq, decide_eq_false_iff_not, Bool.not_eq_true, Bool.not_true, Bool.not_false, ne_eq]; omega)))
      (refine KO.pickT rfl ?_ rfl rfl ?_; (focus (simp only [decide_eq_true_eq, decide_eq_false_iff_not, Bool.not_eq_true, Bool.not_true, Bool.not_false, ne_eq]; omega)))
      refine KO.nil ?_
      repeat ((with_reducible refine KQ.next ?_))
      refine K.condT rfl rfl ?_
      repeat ((with_reducible refine K.seq ?_))
      refine K.reg ?_
      refine KO.as rfl rfl ?_
      refine KO.nil ?_
      repeat (first | (with_reducible refine KQ.next ?_) | (with_reducible refine KQ.then_ret ?_) | (with_reducible refine KQ.blk_ret ?_) | (with_reducible refine K.ret ?_))
      refine KQ.ret1 rfl rfl (fun w' hs => fin _ w' _ ?_ hs)
      have : xs.all ksmallB = false := List.all_eq_false.2 ⟨m, List.mem_of_getElem? hm, by simp [h6]⟩
      simp [ksmallsB, this]
    by_cases g2 : (m.queue.size : Int) > 60
    · have h6 : ksmallB m = false := by unfold ksmallB; have : ¬ m.queue.size ≤ 60 := by omega
                                        simp [this]
      refine K.reg ?_
      refine KO.mv rfl rfl ?_
      refine KO.mv rfl rfl ?_
      refine KO.idxH rfl rfl Tryd.runUnderlying57 Tryd.sizeOf50 (by exact rfl) (by omega) rfl ?_
      refine KO.fldH (off := 2) rfl Tryd.runUnderlying50 rfl rfl Tryd.sizeOf9 rfl ?_
      refine KO.ld0 rfl rfl Tryd.isAgg9 (by assumption) rfl ?_
      refine KO.lenS rfl Tryd.underlying9 rfl ?_
      refine KO.gtr rfl rfl rfl ?_
      refine KO.mv rfl rfl ?_
      (refine KO.on rfl rfl ?_ ?_; (focus (simp only [decide_eq_true_eq, decide_eq_false_iff_not, Bool.not_eq_true, Bool.not_true, Bool.not_false, ne_eq]; omega)); (refine KO.mv rfl rfl ?_))
      (refine KO.on rfl rfl ?_ ?_; (focus (simp only [decide_eq_true_eq, decide_eq_false_iff_not, Bool.not_eq_true, Bool.not_true, Bool.not_false, ne_eq]; omega)); (refine KO.mv rfl rfl ?_))
      (refine KO.on rfl rfl ?_ ?_; (focus (simp only [decide_eq_true_eq, decide_eq_false_iff_not, Bool.not_eq_true, Bool.not_true, Bool.not_false, ne_eq]; omega)); (refine KO.idxH rfl rfl Tryd.runUnderlying57 Tryd.sizeOf50 (by exact rfl) (by omega) rfl ?_))
      (refine KO.on rfl rfl ?_ ?_; (focus (simp only [decide_eq_true_eq, decide_eq_false_iff_not, Bool.not_eq_true, Bool.not_true, Bool.not_false, ne_eq]; omega)); (refine KO.fldH (off := 3) rfl Tryd.runUnderlying50 rfl rfl Tryd.sizeOf9 rfl ?_))
      (refine KO.on rfl rfl ?_ ?_; (focus (simp only [decide_eq_true_eq, decide_eq_false_iff_not, Bool.not_eq_true, Bool.not_true, Bool.not_false, ne_eq]; omega)); (refine KO.ld0 rfl rfl Tryd.isAgg9 (by assumption) rfl ?_))
      (refine KO.on rfl rfl ?_ ?_; (focus (simp only [decide_eq_true_eq, decide_eq_false_iff_not, Bool.not_eq_true, Bool.not_true, Bool.not_false, ne_eq]; omega)); (refine KO.lenS rfl Tryd.underlying9 rfl ?_))
      (refine KO.on rfl rfl ?_ ?_; (focus (simp only [decide_eq_true_eq, decide_eq_false_iff_not, Bool.not_eq_true, Bool.not_true, Bool.not_false, ne_eq]; omega)); (refine KO.gtr rfl rfl rfl ?_))
      (refine KO.pickF rfl ?_ rfl rfl ?_; (focus (simp only [decide_eq_true_eq, decide_eq_false_iff_not, Bool.not_eq_true, Bool.not_true, Bool.not_false, ne_eq]; omega)))
      refine KO.nil ?_
      repeat ((with_reducible refine KQ.next ?_))
      refine K.condT rfl (by simp; omega) ?_
      repeat ((with_reducible refine K.seq ?_))
      refine K.reg ?_
      refine KO.as rfl rfl ?_
      refine KO.nil ?_
      repeat (first | (with_reducible refine KQ.next ?_) | (with_reducible refine KQ.then_ret ?_) | (with_reducible refine KQ.blk_ret ?_) | (with_reducible refine K.ret ?_))
      refine KQ.ret1 rfl rfl (fun w' hs => fin _ w' _ ?_ hs)
      have : xs.all ksmallB = false := List.all_eq_false.2 ⟨m, List.mem_of_getElem? hm, by simp [h6]⟩
      simp [ksmallsB, this]
    have h6 : ksmallB m = true := by
      unfold ksmallB
      have a1 : m.body.size ≤ 60 := by omega
      have a2 : m.queue.size ≤ 60 := by omega
      simp [a1, a2]
    refine K.reg ?_
    refine KO.mv rfl rfl ?_
    refine KO.mv rfl rfl ?_
    refine KO.idxH rfl rfl Tryd.runUnderlying57 Tryd.sizeOf50 (by exact rfl) (by omega) rfl ?_
    refine KO.fldH (off := 2) rfl Tryd.runUnderlying50 rfl rfl Tryd.sizeOf9 rfl ?_
    refine KO.ld0 rfl rfl Tryd.isAgg9 (by assumption) rfl ?_
    refine KO.lenS rfl Tryd.underlying9 rfl ?_
    refine KO.gtr rfl rfl rfl ?_
    refine KO.mv rfl rfl ?_
    (refine KO.on rfl rfl ?_ ?_; (focus (simp only [decide_eq_true_eq, decide_eq_false_iff_not, Bool.not_eq_true, Bool.not_true, Bool.not_false, ne_eq]; omega)); (refine KO.mv rfl rfl ?_))
    (refine KO.on rfl rfl ?_ ?_; (focus (simp only [decide_eq_true_eq, decide_eq_false_iff_not, Bool.not_eq_true, Bool.not_true, Bool.not_false, ne_eq]; omega)); (refine KO.mv rfl rfl ?_))
    (refine KO.on rfl rfl ?_ ?_; (focus (simp only [decide_eq_true_eq, decide_eq_false_iff_not, Bool.not_eq_true, Bool.not_true, Bool.not_false, ne_eq]; omega)); (refine KO.idxH rfl rfl Tryd.runUnderlying57 Tryd.sizeOf50 (by exact rfl) (by omega) rfl ?_))
    (refine KO.on rfl rfl ?_ ?_; (focus (simp only [decide_eq_true_eq, decide_eq_false_iff_not, Bool.not_eq_true, Bool.not_true, Bool.not_false, ne_eq]; omega)); (refine KO.fldH (off := 3) rfl Tryd.runUnderlying50 rfl rfl Tryd.sizeOf9 rfl ?_))
    (refine KO.on rfl rfl ?_ ?_; (focus (simp only [decide_eq_true_eq, decide_eq_false_iff_not, Bool.not_eq_true, Bool.not_true, Bool.not_false, ne_eq]; omega)); (refine KO.ld0 rfl rfl Tryd.isAgg9 (by assumption) rfl ?_))
    (refine KO.on rfl rfl ?_ ?_; (focus (simp only [decide_eq_true_eq, decide_eq_false_iff_not, Bool.not_eq_true, Bool.not_true, Bool.not_false, ne_eq]; omega)); (refine KO.lenS rfl Tryd.underlying9 rfl ?_))
    (refine KO.on rfl rfl ?_ ?_; (focus (simp only [decide_eq_true_eq, decide_eq_false_iff_not, Bool.not_eq_true, Bool.not_true, Bool.not_false, ne_eq]; omega)); (refine KO.gtr rfl rfl rfl ?_))
    (refine KO.pickF rfl ?_ rfl rfl ?_; (focus (simp only [decide_eq_true_eq, decide_eq_false_iff_not, Bool.not_eq_true, Bool.not_true, Bool.not_false, ne_eq]; omega)))
    refine KO.nil ?_
    repeat ((with_reducible refine KQ.next ?_))
    refine K.condF rfl (by simp; omega) ?_
    repeat (first | (with_reducible refine KQ.next ?_) | (with_reducible refine KQ.blk_normal ?_) | (with_reducible refine K.skip ?_))
    refine K.reg ?_
    refine KO.mv rfl rfl ?_
    refine KO.add rfl rfl rfl (by omega) rfl ?_
    refine KO.as rfl rfl ?_
    refine KO.nil ?_
    refine KQ.round (k + 1) ⟨by omega, fun j m' hj hm' => ?_⟩ (by omega) ⟨rfl, rfl, trivial⟩ (fun _ h => h)
    by_cases hjk : j = k
    · subst hjk; rw [hm] at hm'; cases hm'; exact h6
    · exact hall j m' (by omega) hm'
  · repeat (first | (with_reducible refine K.seq ?_) | (with_reducible refine KQ.next ?_) | (with_reducible refine KQ.then_exit ?_) | (with_reducible refine KQ.blk_exit ?_) | (with_reducible refine K.exit ?_))
    refine K.reg ?_
    refine KO.as rfl rfl ?_
    refine KO.nil ?_
    repeat (first | (with_reducible refine KQ.next ?_) | (with_reducible refine K.ret ?_))
    refine KQ.ret1 rfl rfl (fun w' hs => fin _ w' _ ?_ hs)
    have : xs.all ksmallB = true := List.all_eq_true.2 fun m hm => by
      obtain ⟨j, hj, rfl⟩ := List.getElem_of_mem hm
      exact hall j _ (by omega) (List.getElem?_eq_getElem hj)
    simp [ksmallsB, this, h1]
def exM : Ms := ⟨7, 3, ⟨#[104, 101, 108, 108, 111]⟩, ⟨#[105, 110]⟩, 1⟩
theorem itoa_dig {d : Nat} (h : d < 10) : itoaS (d : Int) = ⟨#[UInt8.ofNat (48 + d)]⟩ := by
  unfold itoaS; rw [Lib.itoa_nonneg, Lib.decDigits, dif_pos h]
theorem exM_text : writeS [exM] = ⟨#[55, 32, 51, 32, 104, 101, 108, 108, 111, 32, 105, 110, 32, 49]⟩ := by
  show joinS [msgS exM] plus = _
  rw [joinS_one]
  unfold msgS
  rw [show itoaS exM.id = ⟨#[55]⟩ from itoa_dig (d := 7) (by decide), show itoaS exM.pri = ⟨#[51]⟩ from itoa_dig (d := 3) (by decide), show itoaS exM.house = ⟨#[49]⟩ from itoa_dig (d := 1) (by decide)]
  rfl
set_option maxRecDepth 100000 in
theorem written_e (w0 : World) (L : List HP) (hT0 : Tab w0) : KE Tryd.prog 40 #[] w0 L (fun u M => u = .bool true ∧ M = L) := by
  refine KE.mk (n := 15) Tryd.func40 rfl Tryd.ntmps40 (by simp) ?_
  intro w hw
  have hT := hT0.ext (Ext.of_below hw.below)
  have hb : badI [exM] = none := by decide +kernel
  repeat ((with_reducible refine K.seq ?_))
  refine K.reg ?_
  refine KO.as rfl rfl ?_
  refine KO.nil ?_
  repeat (first | (with_reducible refine K.seq ?_) | (with_reducible refine KQ.next ?_))
  refine K.reg ?_
  refine KO.bldN (pl := [(0, 1), (1, 1), (2, 1), (3, 1), (4, 1)]) rfl Tryd.zeroValue50 Tryd.runUnderlying50 (by intro w; simp [Tryd.sizeOf3, Tryd.sizeOf9]) (by exact rfl) rfl ?_
  refine KO.bs1 (z := (Value.agg #[.int .i64 0, .int .i64 0, .string ⟨#[]⟩, .string ⟨#[]⟩, .int .i64 0])) (sz := 5) (by' := 56) rfl rfl Tryd.underlying57 (by kernel_rfl) (by exact rfl) (by exact rfl) (by decide) (by decide) rfl ?_; intro b5
  refine KO.ce (cp := []) rfl rfl rfl Tryd.call26 rfl (mwrite_e w _ _ [exM] (fun w' hw' => ?_) hT ?_ (by decide)) ?_; rotate_left 2; rintro v' L' hR; unfold MwR at hR; rw [hb] at hR; obtain ⟨rfl, rfl⟩ := hR; rw [exM_text]
  refine KO.mv rfl rfl ?_
  refine KO.extrL rfl (by exact rfl) rfl ?_
  refine KO.extrL rfl (by exact rfl) rfl ?_
  refine KO.as rfl rfl ?_
  refine KO.as rfl rfl ?_
  refine KO.nil ?_
  repeat (first | (with_reducible refine K.seq ?_) | (with_reducible refine KQ.next ?_))
  refine K.reg ?_
  refine KO.mv rfl rfl ?_
  refine KO.eqI0 rfl (by kernel_rfl) rfl ?_
  refine KO.mv rfl rfl ?_
  (refine KO.on rfl rfl ?_ ?_; (focus rfl); (refine KO.mv rfl rfl ?_))
  refine KO.on rfl rfl rfl ?_; refine KO.eqS rfl rfl rfl ?_
  (refine KO.pickT rfl ?_ rfl rfl ?_; (focus rfl))
  refine KO.as rfl rfl ?_
  refine KO.nil ?_
  repeat (first | (with_reducible refine KQ.next ?_) | (with_reducible refine K.ret ?_))
  refine KQ.ret1 rfl rfl (fun w' hs => ⟨_, _, rfl, ⟨rfl, rfl⟩, hw.below_step hs.below, hs.below⟩)
  · refine ⟨_, _, rfl, fun i x hx => ⟨_, rfl, ?_⟩⟩
    cases i with
    | succ i => simp at hx
    | zero =>
      simp only [List.getElem?_cons_zero, Option.some.injEq] at hx
      subst hx
      exact hw'.hasCells (off := 0) (cs := msC exM) fun j c hj => by show (msC exM).toArray[0 + j]? = some c; simpa using hj
  · intro m hm; rw [List.mem_singleton.1 hm]; exact right_size (by decide +kernel)
set_option maxRecDepth 100000 in
set_option maxHeartbeats 4000000 in
theorem mback_e (w0 : World) (L : List HP) (v : Value) (xs : List Ms) (s : ByteArray) (hr0 : ∀ w, St w0 L w → RdA w 5 msC v xs) (hsz : ∀ m ∈ xs, m.body.size ≤ maxLen ∧ m.queue.size ≤ maxLen) (hT0 : Tab w0) (hM0 : Lim w0) :
    KE Tryd.prog 7 #[v, .string s] w0 L (fun u M => u = .bool true ∧ M = L) := by
  refine KE.mk (n := 62) Tryd.func7 rfl Tryd.ntmps7 (by simp) ?_
  intro w hw
  have hT := hT0.ext (Ext.of_below hw.below)
  have hM := hM0.ext (Ext.of_below hw.below)
  have hr := hr0 w hw
  have hr1 := hr
  obtain ⟨sa, cap, rfl, hc⟩ := hr1
  have fin : ∀ (w' : World) (M : List HP), St w M w' → ∃ v L', Ending.returned (.bool true) = Ending.returned v ∧ (v = .bool true ∧ L' = L) ∧ St w0 L' w' ∧ Below w.heap.size w w' := fun w' M hs => ⟨_, _, rfl, ⟨rfl, rfl⟩, hw.below_step hs.below, hs.below⟩
  repeat ((with_reducible refine K.seq ?_))
  refine K.reg ?_
  refine KO.as rfl rfl ?_
  refine KO.nil ?_
  repeat (first | (with_reducible refine K.seq ?_) | (with_reducible refine KQ.next ?_))
  generalize hc1 : ksmallsB xs = c1
  cases c1
  · refine K.reg ?_
    refine KO.mv rfl rfl ?_
    refine KO.ce (cp := []) rfl rfl rfl Tryd.call39 rfl (ksmalls_e w _ _ xs (fun w' hw' => rdA_extM hr (Ext.of_below hw'.below))) ?_; rintro v' L' ⟨rfl, rfl⟩; rw [hc1]
    refine KO.not rfl rfl ?_
    refine KO.mv rfl rfl ?_
    (refine KO.no rfl rfl ?_ rfl ?_; (focus rfl))
    (refine KO.no rfl rfl ?_ rfl ?_; (focus rfl))
    (refine KO.no rfl rfl ?_ rfl ?_; (focus rfl))
    (refine KO.pickT rfl ?_ rfl rfl ?_; (focus rfl))
    refine KO.nil ?_
    repeat ((with_reducible refine KQ.next ?_))
    refine K.condT rfl rfl ?_
    repeat ((with_reducible refine K.seq ?_))
    refine K.reg ?_
    refine KO.as rfl rfl ?_
    refine KO.nil ?_
    repeat (first | (with_reducible refine KQ.next ?_) | (with_reducible refine KQ.then_ret ?_) | (with_reducible refine K.ret ?_))
    exact KQ.ret1 rfl rfl (fun w' hs => fin w' _ hs)
  have hl60 : xs.length ≤ 60 := by unfold ksmallsB at hc1; simp at hc1; exact hc1.1
  by_cases h8 : (800 : Int) < s.size
  · refine K.reg ?_
    refine KO.mv rfl rfl ?_
    refine KO.ce (cp := []) rfl rfl rfl Tryd.call39 rfl (ksmalls_e w _ _ xs (fun w' hw' => rdA_extM hr (Ext.of_below hw'.below))) ?_; rintro v' L' ⟨rfl, rfl⟩; rw [hc1]
    refine KO.not rfl rfl ?_
    refine KO.mv rfl rfl ?_
    (refine KO.on rfl rfl ?_ ?_; (focus rfl); (refine KO.mv rfl rfl ?_))
    (refine KO.on rfl rfl ?_ ?_; (focus rfl); (refine KO.lenS rfl Tryd.underlying9 rfl ?_))
    (refine KO.on rfl rfl ?_ ?_; (focus rfl); (refine KO.gtr rfl rfl rfl ?_))
    (refine KO.pickF rfl ?_ rfl rfl ?_; (focus rfl))
    refine KO.nil ?_
    repeat ((with_reducible refine KQ.next ?_))
    refine K.condT rfl (by simp; omega) ?_
    repeat ((with_reducible refine K.seq ?_))
    refine K.reg ?_
    refine KO.as rfl rfl ?_
    refine KO.nil ?_
    repeat (first | (with_reducible refine KQ.next ?_) | (with_reducible refine KQ.then_ret ?_) | (with_reducible refine K.ret ?_))
    exact KQ.ret1 rfl rfl (fun w' hs => fin w' _ hs)
  refine K.reg ?_
  refine KO.mv rfl rfl ?_
  refine KO.ce (cp := []) rfl rfl rfl Tryd.call39 rfl (ksmalls_e w _ _ xs (fun w' hw' => rdA_extM hr (Ext.of_below hw'.below))) ?_; rintro v' L' ⟨rfl, rfl⟩; rw [hc1]
  refine KO.not rfl rfl ?_
  refine KO.mv rfl rfl ?_
  (refine KO.on rfl rfl ?_ ?_; (focus rfl); (refine KO.mv rfl rfl ?_))
  (refine KO.on rfl rfl ?_ ?_; (focus rfl); (refine KO.lenS rfl Tryd.underlying9 rfl ?_))
  (refine KO.on rfl rfl ?_ ?_; (focus rfl); (refine KO.gtr rfl rfl rfl ?_))
  (refine KO.pickF rfl ?_ rfl rfl ?_; (focus rfl))
  refine KO.nil ?_
  repeat ((with_reducible refine KQ.next ?_))
  refine K.condF rfl (by simp; omega) ?_
  repeat (first | (with_reducible refine K.seq ?_) | (with_reducible refine KQ.next ?_) | (with_reducible refine K.skip ?_))
  refine K.reg ?_
  refine KO.ce (cp := []) rfl rfl rfl Tryd.call40 rfl (written_e w _ hT) ?_; rintro v' L' ⟨rfl, rfl⟩
  refine KO.not rfl rfl ?_
  refine KO.nil ?_
  repeat ((with_reducible refine KQ.next ?_))
  refine K.condF rfl rfl ?_
  refine K.skip ?_
  repeat with_reducible refine KQ.next ?_
  refine K.seq ?_
  refine K.cut (fun _ : Unit => [(0, .slice sa xs.length cap), (1, .string s)]) (fun _ => []) (fun _ => True) ?_ ?_
  · repeat ((with_reducible refine K.seq ?_))
    cases hb : badI xs with
    | some kb =>
      refine K.reg ?_
      refine KO.mv rfl rfl ?_
      refine KO.ce (cp := []) rfl rfl rfl Tryd.call26 rfl (mwrite_e w _ _ xs (fun w' hw' => rdA_extM hr (Ext.of_below hw'.below)) hT hsz (by omega)) ?_; rintro v' L' hR; unfold MwR at hR; rw [hb] at hR; obtain ⟨be, rfl, rfl⟩ := hR; unfold atV
      refine KO.mv rfl rfl ?_
      refine KO.extrL rfl (by exact rfl) rfl ?_
      refine KO.extrL rfl (by exact rfl) rfl ?_
      refine KO.as rfl rfl ?_
      refine KO.as rfl rfl ?_
      refine KO.nil ?_
      repeat (first | (with_reducible refine K.seq ?_) | (with_reducible refine KQ.next ?_))
      refine K.reg ?_
      refine KO.mv rfl rfl ?_
      refine KO.eqIf rfl (by kernel_rfl) rfl ?_
      refine KO.nil ?_
      repeat ((with_reducible refine KQ.next ?_))
      refine K.condF rfl rfl ?_
      repeat ((with_reducible refine K.skip ?_))
      exact KQ.mid () trivial ⟨rfl, rfl, trivial⟩ (fun _ h => h.all (by with_reducible repeat (exact PAll.nil)))
    | none =>
      have hsw := writeS_size (badI_all hb)
      refine K.reg ?_
      refine KO.mv rfl rfl ?_
      refine KO.ce (cp := []) rfl rfl rfl Tryd.call26 rfl (mwrite_e w _ _ xs (fun w' hw' => rdA_extM hr (Ext.of_below hw'.below)) hT hsz (by omega)) ?_; rintro v' L' hR; unfold MwR at hR; rw [hb] at hR; obtain ⟨rfl, rfl⟩ := hR
      refine KO.mv rfl rfl ?_
      refine KO.extrL rfl (by exact rfl) rfl ?_
      refine KO.extrL rfl (by exact rfl) rfl ?_
      refine KO.as rfl rfl ?_
      refine KO.as rfl rfl ?_
      refine KO.nil ?_
      repeat (first | (with_reducible refine K.seq ?_) | (with_reducible refine KQ.next ?_))
      refine K.reg ?_
      refine KO.mv rfl rfl ?_
      refine KO.eqI0 rfl (by kernel_rfl) rfl ?_
      refine KO.nil ?_
      repeat ((with_reducible refine KQ.next ?_))
      refine K.condT rfl rfl ?_
      repeat ((with_reducible refine K.seq ?_))
      refine K.reg ?_
      refine KO.mv rfl rfl ?_
      refine KO.ce (cp := []) rfl rfl rfl Tryd.call41 rfl (mread_e w _ (writeS xs) (by omega) hT hM) ?_; rintro v' L' hR; unfold MrR at hR; rw [mrd_write hb] at hR; obtain ⟨v, rfl, rfl⟩ := hR
      refine KO.mv rfl rfl ?_
      refine KO.extrL rfl (by exact rfl) rfl ?_
      refine KO.extrL rfl (by exact rfl) rfl ?_
      refine KO.as rfl rfl ?_
      refine KO.as rfl rfl ?_
      refine KO.nil ?_
      repeat (first | (with_reducible refine K.seq ?_) | (with_reducible refine KQ.next ?_))
      refine K.reg ?_
      refine KO.mv rfl rfl ?_
      refine KO.neI0 rfl (by kernel_rfl) rfl ?_
      refine KO.mv rfl rfl ?_
      (refine KO.on rfl rfl ?_ ?_; (focus rfl); (refine KO.mv rfl rfl ?_))
      (refine KO.on rfl rfl ?_ ?_; (focus rfl); (refine KO.mv rfl rfl ?_))
      refine KO.on rfl rfl rfl ?_; refine KO.ce (cp := []) rfl rfl rfl Tryd.call20 rfl (sameA_e w _ _ _ xs xs (fun w' hw' => RdA.ofSL (fun _ => rfl) (by with_reducible (repeat (exact Pick.head))) hw') (fun w' hw' => rdA_extM hr (Ext.of_below hw'.below)) (by omega) (by omega)) ?_; rintro v' L' ⟨rfl, rfl⟩
      (refine KO.on rfl rfl ?_ ?_; (focus rfl); (refine KO.not rfl rfl ?_))
      (refine KO.pickF rfl ?_ rfl rfl ?_; (focus rfl))
      refine KO.nil ?_
      repeat ((with_reducible refine KQ.next ?_))
      refine K.condF rfl (by simp) ?_
      repeat ((with_reducible refine K.skip ?_))
      exact KQ.mid () trivial ⟨rfl, rfl, trivial⟩ (fun _ h => h.all (by with_reducible repeat (exact PAll.nil)))
  rintro _ _
  repeat ((with_reducible refine K.seq ?_))
  cases hm : mrd s with
  | none =>
    refine K.reg ?_
    refine KO.mv rfl rfl ?_
    refine KO.ce (cp := []) rfl rfl rfl Tryd.call41 rfl (mread_e w _ s (by omega) hT hM) ?_; rintro v' L' hR; unfold MrR at hR; rw [hm] at hR; obtain ⟨rfl, rfl⟩ := hR
    refine KO.mv rfl rfl ?_
    refine KO.extrL rfl (by exact rfl) rfl ?_
    refine KO.extrL rfl (by exact rfl) rfl ?_
    refine KO.as rfl rfl ?_
    refine KO.as rfl rfl ?_
    refine KO.nil ?_
    repeat (first | (with_reducible refine K.seq ?_) | (with_reducible refine KQ.next ?_))
    refine K.reg ?_
    refine KO.mv rfl rfl ?_
    refine KO.eqN rfl (by kernel_rfl) rfl ?_
    refine KO.nil ?_
    repeat ((with_reducible refine KQ.next ?_))
    refine K.condF rfl rfl ?_
    repeat (first | (with_reducible refine K.seq ?_) | (with_reducible refine KQ.next ?_) | (with_reducible refine K.skip ?_))
    refine K.reg ?_
    refine KO.as rfl rfl ?_
    refine KO.nil ?_
    repeat (first | (with_reducible refine KQ.next ?_) | (with_reducible refine K.ret ?_))
    exact KQ.ret1 rfl rfl (fun w' hs => fin w' _ hs)
  | some ys =>
    obtain ⟨hb2, hw2⟩ := mrd_some hm
    have hyl : ys.length ≤ 100000 := by have := mrd_len hm; omega
    have hys : ∀ m ∈ ys, m.body.size ≤ maxLen ∧ m.queue.size ≤ maxLen := fun m hm => right_size (badI_all hb2 m hm)
    refine K.reg ?_
    refine KO.mv rfl rfl ?_
    refine KO.ce (cp := []) rfl rfl rfl Tryd.call41 rfl (mread_e w _ s (by omega) hT hM) ?_; rintro v' L' hR; unfold MrR at hR; rw [hm] at hR; obtain ⟨v, rfl, rfl⟩ := hR
    refine KO.mv rfl rfl ?_
    refine KO.extrL rfl (by exact rfl) rfl ?_
    refine KO.extrL rfl (by exact rfl) rfl ?_
    refine KO.as rfl rfl ?_
    refine KO.as rfl rfl ?_
    refine KO.nil ?_
    repeat (first | (with_reducible refine K.seq ?_) | (with_reducible refine KQ.next ?_))
    refine K.reg ?_
    refine KO.mv rfl rfl ?_
    refine KO.eqI0 rfl (by kernel_rfl) rfl ?_
    refine KO.nil ?_
    repeat ((with_reducible refine KQ.next ?_))
    refine K.condT rfl rfl ?_
    repeat ((with_reducible refine K.seq ?_))
    refine K.reg ?_
    refine KO.mv rfl rfl ?_
    refine KO.ce (cp := []) rfl rfl rfl Tryd.call26 rfl (mwrite_e w _ _ ys (fun w' hw' => RdA.ofSL (fun _ => rfl) (by with_reducible (repeat (exact Pick.head))) hw') hT hys hyl) ?_; rintro v' L' hR; unfold MwR at hR; rw [hb2] at hR; obtain ⟨rfl, rfl⟩ := hR
    refine KO.mv rfl rfl ?_
    refine KO.extrL rfl (by exact rfl) rfl ?_
    refine KO.extrL rfl (by exact rfl) rfl ?_
    refine KO.as rfl rfl ?_
    refine KO.as rfl rfl ?_
    refine KO.nil ?_
    repeat (first | (with_reducible refine K.seq ?_) | (with_reducible refine KQ.next ?_))
    refine K.reg ?_
    refine KO.mv rfl rfl ?_
    refine KO.neI0 rfl (by kernel_rfl) rfl ?_
    refine KO.mv rfl rfl ?_
    (refine KO.on rfl rfl ?_ ?_; (focus rfl); (refine KO.mv rfl rfl ?_))
    (refine KO.on rfl rfl ?_ ?_; (focus rfl); (refine KO.mv rfl rfl ?_))
    (refine KO.on rfl rfl ?_ ?_; (focus rfl); (refine KO.neS rfl rfl rfl ?_))
    (refine KO.pickF rfl ?_ rfl rfl ?_; (focus rfl))
    refine KO.nil ?_
    repeat ((with_reducible refine KQ.next ?_))
    refine K.condF rfl (by simp [hw2]) ?_
    repeat (first | (with_reducible refine K.seq ?_) | (with_reducible refine KQ.next ?_) | (with_reducible refine K.skip ?_))
    refine K.reg ?_
    refine KO.as rfl rfl ?_
    refine KO.nil ?_
    repeat (first | (with_reducible refine KQ.next ?_) | (with_reducible refine K.ret ?_))
    exact KQ.ret1 rfl rfl (fun w' hs => fin w' _ hs)
end Go.Proofs.YtjhogocabcdjbaaDoor
/- waybillkeep.FrameBack: the walk -/
namespace Go.Proofs.YtjhogocabcdjbaaDoor
open Go Go.RowKit WB
def exF : Fr := ⟨1, 3, true⟩
theorem exF_ok : okF exF [] := by decide
theorem exF_text : frS exF [] = ⟨#[97, 58, 49, 58, 51, 58]⟩ := by
  unfold frS
  rw [joinS_four]
  rw [show itoaS exF.frm = ⟨#[49]⟩ from itoa_dig (d := 1) (by decide), show itoaS exF.num = ⟨#[51]⟩ from itoa_dig (d := 3) (by decide)]
  rfl
set_option maxRecDepth 100000 in
theorem framed_e (w0 : World) (L : List HP) (hT0 : Tab w0) : KE Tryd.prog 42 #[] w0 L (fun u M => u = .bool true ∧ M = L) := by
  refine KE.mk (n := 14) Tryd.func42 rfl Tryd.ntmps42 (by simp) ?_
  intro w hw
  have hT := hT0.ext (Ext.of_below hw.below)
  repeat ((with_reducible refine K.seq ?_))
  refine K.reg ?_
  refine KO.as rfl rfl ?_
  refine KO.nil ?_
  repeat (first | (with_reducible refine K.seq ?_) | (with_reducible refine KQ.next ?_))
  refine K.reg ?_
  refine KO.bldN (pl := [(0, 1), (1, 1), (2, 1), (3, 1)]) rfl Tryd.zeroValue72 Tryd.runUnderlying72 (by intro w; simp [Tryd.sizeOf3, Tryd.sizeOf4, Tryd.sizeOf57]) (by exact rfl) rfl ?_
  refine KO.ce (cp := []) rfl rfl rfl Tryd.call37 rfl (fw_e w _ exF (.slice none 0 0) [] (fun w' hw' => ⟨none, 0, rfl, fun i x h => by simp at h⟩) hT (fun m hm => by cases hm)) ?_; rintro v' L' ⟨rfl, rfl⟩; rw [(fw_ok exF_ok).1, (fw_ok exF_ok).2, exF_text]
  refine KO.mv rfl rfl ?_
  refine KO.extrL rfl (by exact rfl) rfl ?_
  refine KO.extrL rfl (by exact rfl) rfl ?_
  refine KO.as rfl rfl ?_
  refine KO.as rfl rfl ?_
  refine KO.nil ?_
  repeat (first | (with_reducible refine K.seq ?_) | (with_reducible refine KQ.next ?_))
  refine K.reg ?_
  refine KO.mv rfl rfl ?_
  refine KO.eqN rfl (by kernel_rfl) rfl ?_
  refine KO.mv rfl rfl ?_
  (refine KO.on rfl rfl ?_ ?_; (focus rfl); (refine KO.mv rfl rfl ?_))
  (refine KO.on rfl rfl ?_ ?_; (focus rfl); (refine KO.eqS rfl rfl rfl ?_))
  (refine KO.pickT rfl ?_ rfl rfl ?_; (focus rfl))
  refine KO.as rfl rfl ?_
  refine KO.nil ?_
  repeat (first | (with_reducible refine KQ.next ?_) | (with_reducible refine K.ret ?_))
  refine KQ.ret1 rfl rfl (fun w' hs => ⟨_, _, rfl, ⟨rfl, rfl⟩, hw.below_step hs.below, hs.below⟩)
set_option maxRecDepth 100000 in
set_option maxHeartbeats 4000000 in
theorem fback_e (w0 : World) (L : List HP) (f : Fr) (v : Value) (xs : List Ms) (s : ByteArray) (hr0 : ∀ w, St w0 L w → RdA w 5 msC v xs) (hsz : ∀ m ∈ xs, m.body.size ≤ maxLen ∧ m.queue.size ≤ maxLen) (hT0 : Tab w0) (hM0 : Lim w0) :
    KE Tryd.prog 8 #[.agg (frC f v).toArray, .string s] w0 L (fun u M => u = .bool true ∧ M = L) := by
  refine KE.mk (n := 86) Tryd.func8 rfl Tryd.ntmps8 (by simp) ?_
  intro w hw
  have hT := hT0.ext (Ext.of_below hw.below)
  have hM := hM0.ext (Ext.of_below hw.below)
  have hr := hr0 w hw
  have hr1 := hr
  obtain ⟨sa, cap, rfl, hc⟩ := hr1
  have fin : ∀ (w' : World) (M : List HP), St w M w' → ∃ v L', Ending.returned (.bool true) = Ending.returned v ∧ (v = .bool true ∧ L' = L) ∧ St w0 L' w' ∧ Below w.heap.size w w' := fun w' M hs => ⟨_, _, rfl, ⟨rfl, rfl⟩, hw.below_step hs.below, hs.below⟩
  repeat ((with_reducible refine K.seq ?_))
  refine K.reg ?_
  refine KO.box rfl rfl (by exact rfl) rfl ?_; intro b2
  refine KO.as rfl rfl ?_
  refine KO.nil ?_
  repeat (first | (with_reducible refine K.seq ?_) | (with_reducible refine KQ.next ?_))
  generalize hc1 : ksmallsB xs = c1
  cases c1
  · refine K.reg ?_
    refine KO.fo0 (off := 3) rfl Tryd.runUnderlying72 rfl rfl Tryd.sizeOf57 rfl ?_
    refine KO.ld rfl rfl Tryd.isAgg57 (by with_reducible (repeat (exact Pick.head))) (by exact rfl) rfl ?_
    refine KO.ce (cp := []) rfl rfl rfl Tryd.call39 rfl (ksmalls_e w _ _ xs (fun w' hw' => rdA_extM hr (Ext.of_below hw'.below))) ?_; rintro v' L' ⟨rfl, rfl⟩; rw [hc1]
    refine KO.not rfl rfl ?_
    refine KO.mv rfl rfl ?_
    (refine KO.no rfl rfl ?_ rfl ?_; (focus rfl))
    (refine KO.no rfl rfl ?_ rfl ?_; (focus rfl))
    (refine KO.no rfl rfl ?_ rfl ?_; (focus rfl))
    (refine KO.pickT rfl ?_ rfl rfl ?_; (focus rfl))
    refine KO.nil ?_
    repeat ((with_reducible refine KQ.next ?_))
    refine K.condT rfl rfl ?_
    repeat ((with_reducible refine K.seq ?_))
    refine K.reg ?_
    refine KO.as rfl rfl ?_
    refine KO.nil ?_
    repeat (first | (with_reducible refine KQ.next ?_) | (with_reducible refine KQ.then_ret ?_) | (with_reducible refine K.ret ?_))
    exact KQ.ret1 rfl rfl (fun w' hs => fin w' _ hs)
  have hl60 : xs.length ≤ 60 := by unfold ksmallsB at hc1; simp at hc1; exact hc1.1
  by_cases h8 : (800 : Int) < s.size
  · refine K.reg ?_
    refine KO.fo0 (off := 3) rfl Tryd.runUnderlying72 rfl rfl Tryd.sizeOf57 rfl ?_
    refine KO.ld rfl rfl Tryd.isAgg57 (by with_reducible (repeat (exact Pick.head))) (by exact rfl) rfl ?_
    refine KO.ce (cp := []) rfl rfl rfl Tryd.call39 rfl (ksmalls_e w _ _ xs (fun w' hw' => rdA_extM hr (Ext.of_below hw'.below))) ?_; rintro v' L' ⟨rfl, rfl⟩; rw [hc1]
    refine KO.not rfl rfl ?_
    refine KO.mv rfl rfl ?_
    (refine KO.on rfl rfl ?_ ?_; (focus rfl); (refine KO.mv rfl rfl ?_))
    (refine KO.on rfl rfl ?_ ?_; (focus rfl); (refine KO.lenS rfl Tryd.underlying9 rfl ?_))
    (refine KO.on rfl rfl ?_ ?_; (focus rfl); (refine KO.gtr rfl rfl rfl ?_))
    (refine KO.pickF rfl ?_ rfl rfl ?_; (focus rfl))
    refine KO.nil ?_
    repeat ((with_reducible refine KQ.next ?_))
    refine K.condT rfl (by simp; omega) ?_
    repeat ((with_reducible refine K.seq ?_))
    refine K.reg ?_
    refine KO.as rfl rfl ?_
    refine KO.nil ?_
    repeat (first | (with_reducible refine KQ.next ?_) | (with_reducible refine KQ.then_ret ?_) | (with_reducible refine K.ret ?_))
    exact KQ.ret1 rfl rfl (fun w' hs => fin w' _ hs)
  refine K.reg ?_
  refine KO.fo0 (off := 3) rfl Tryd.runUnderlying72 rfl rfl Tryd.sizeOf57 rfl ?_
  refine KO.ld rfl rfl Tryd.isAgg57 (by with_reducible (repeat (exact Pick.head))) (by exact rfl) rfl ?_
  refine KO.ce (cp := []) rfl rfl rfl Tryd.call39 rfl (ksmalls_e w _ _ xs (fun w' hw' => rdA_extM hr (Ext.of_below hw'.below))) ?_; rintro v' L' ⟨rfl, rfl⟩; rw [hc1]
  refine KO.not rfl rfl ?_
  refine KO.mv rfl rfl ?_
  (refine KO.on rfl rfl ?_ ?_; (focus rfl); (refine KO.mv rfl rfl ?_))
  (refine KO.on rfl rfl ?_ ?_; (focus rfl); (refine KO.lenS rfl Tryd.underlying9 rfl ?_))
  (refine KO.on rfl rfl ?_ ?_; (focus rfl); (refine KO.gtr rfl rfl rfl ?_))
  (refine KO.pickF rfl ?_ rfl rfl ?_; (focus rfl))
  refine KO.nil ?_
  repeat ((with_reducible refine KQ.next ?_))
  refine K.condF rfl (by simp; omega) ?_
  repeat (first | (with_reducible refine K.seq ?_) | (with_reducible refine KQ.next ?_) | (with_reducible refine K.skip ?_))
  refine K.reg ?_
  refine KO.ce (cp := []) rfl rfl rfl Tryd.call42 rfl (framed_e w _ hT) ?_; rintro v' L' ⟨rfl, rfl⟩
  refine KO.not rfl rfl ?_
  refine KO.nil ?_
  repeat ((with_reducible refine KQ.next ?_))
  refine K.condF rfl rfl ?_
  refine K.skip ?_
  repeat with_reducible refine KQ.next ?_
  refine K.seq ?_
  refine K.cut (fun _ : Unit => [(1, .string s)]) (fun _ => []) (fun _ => True) ?_ ?_
  · repeat ((with_reducible refine K.seq ?_))
    by_cases hok : okF f xs
    case neg =>
      refine K.reg ?_
      refine KO.ldB0 rfl rfl Tryd.isAgg72 Tryd.sizeOf72 (by with_reducible (repeat (exact Pick.head))) (by exact rfl) rfl ?_
      refine KO.ce (cp := []) rfl rfl rfl Tryd.call37 rfl (fw_e w _ f _ xs (fun w' hw' => rdA_extM hr (Ext.of_below hw'.below)) hT hsz) ?_; rintro v' L' ⟨rfl, rfl⟩; rw [(fw_bad hok).1]
      refine KO.mv rfl rfl ?_
      refine KO.extrL rfl (by exact rfl) rfl ?_
      refine KO.extrL rfl (by exact rfl) rfl ?_
      refine KO.as rfl rfl ?_
      refine KO.as rfl rfl ?_
      refine KO.nil ?_
      repeat (first | (with_reducible refine K.seq ?_) | (with_reducible refine KQ.next ?_))
      refine K.reg ?_
      refine KO.mv rfl rfl ?_
      refine KO.eqN rfl (by kernel_rfl) rfl ?_
      refine KO.nil ?_
      repeat ((with_reducible refine KQ.next ?_))
      refine K.condF rfl rfl ?_
      repeat ((with_reducible refine K.skip ?_))
      exact KQ.mid () trivial ⟨rfl, trivial⟩ (fun _ h => h.all (by with_reducible repeat (exact PAll.nil)))
    have hfz := frS_size hok
    refine K.reg ?_
    refine KO.ldB0 rfl rfl Tryd.isAgg72 Tryd.sizeOf72 (by with_reducible (repeat (exact Pick.head))) (by exact rfl) rfl ?_
    refine KO.ce (cp := []) rfl rfl rfl Tryd.call37 rfl (fw_e w _ f _ xs (fun w' hw' => rdA_extM hr (Ext.of_below hw'.below)) hT hsz) ?_; rintro v' L' ⟨rfl, rfl⟩; rw [(fw_ok hok).1, (fw_ok hok).2]
    refine KO.mv rfl rfl ?_
    refine KO.extrL rfl (by exact rfl) rfl ?_
    refine KO.extrL rfl (by exact rfl) rfl ?_
    refine KO.as rfl rfl ?_
    refine KO.as rfl rfl ?_
    refine KO.nil ?_
    repeat (first | (with_reducible refine K.seq ?_) | (with_reducible refine KQ.next ?_))
    refine K.reg ?_
    refine KO.mv rfl rfl ?_
    refine KO.eqN rfl (by kernel_rfl) rfl ?_
    refine KO.nil ?_
    repeat ((with_reducible refine KQ.next ?_))
    refine K.condT rfl rfl ?_
    repeat ((with_reducible refine K.seq ?_))
    refine K.reg ?_
    refine KO.mv rfl rfl ?_
    refine KO.ce (cp := []) rfl rfl rfl Tryd.call43 rfl (fread_e w _ (frS f xs) (by omega) hT hM) ?_; rintro v' L' hR; unfold FrR at hR; rw [frd_write hok] at hR; obtain ⟨v, rfl, rfl⟩ := hR; refine KO.fact (fun w hw => SL_form hw) ?_; rintro ⟨sb, cb, rfl, _⟩
    refine KO.mv rfl rfl ?_
    refine KO.extrL rfl (by exact rfl) rfl ?_
    refine KO.extrL rfl (by exact rfl) rfl ?_
    refine KO.alloc rfl Tryd.zeroValue72 (by exact rfl) rfl ?_; intro b7
    refine KO.sto0 rfl rfl rfl (by exact rfl) (by exact Tryd.sizeOf72) (by exact rfl) (by with_reducible (repeat (exact Pick.head))) (by exact rfl) ?_
    refine KO.as rfl rfl ?_
    refine KO.nil ?_
    repeat (first | (with_reducible refine K.seq ?_) | (with_reducible refine KQ.next ?_))
    refine K.reg ?_
    refine KO.mv rfl rfl ?_
    refine KO.neI0 rfl (by kernel_rfl) rfl ?_
    refine KO.mv rfl rfl ?_
    (refine KO.on rfl rfl ?_ ?_; (focus rfl); (refine KO.fo0 (off := 0) rfl Tryd.runUnderlying72 rfl rfl Tryd.sizeOf3 rfl ?_))
    (refine KO.on rfl rfl ?_ ?_; (focus rfl); (refine KO.ld rfl rfl Tryd.isAgg3 (by with_reducible (repeat (exact Pick.head))) (by exact rfl) rfl ?_))
    (refine KO.on rfl rfl ?_ ?_; (focus rfl); (refine KO.fo0 (off := 0) rfl Tryd.runUnderlying72 rfl rfl Tryd.sizeOf3 rfl ?_))
    (refine KO.on rfl rfl ?_ ?_; (focus rfl); (refine KO.ld rfl rfl Tryd.isAgg3 (by with_reducible (repeat (first | exact Pick.head | apply Pick.tail))) (by exact rfl) rfl ?_))
    (refine KO.on rfl rfl ?_ ?_; (focus rfl); (refine KO.neI rfl rfl rfl ?_))
    (refine KO.pickF rfl ?_ rfl rfl ?_; (focus rfl))
    refine KO.mv rfl rfl ?_
    (refine KO.on rfl rfl ?_ ?_; (focus (simp; done)); (refine KO.fo0 (off := 1) rfl Tryd.runUnderlying72 rfl rfl Tryd.sizeOf3 rfl ?_))
    (refine KO.on rfl rfl ?_ ?_; (focus (simp; done)); (refine KO.ld rfl rfl Tryd.isAgg3 (by with_reducible (repeat (exact Pick.head))) (by exact rfl) rfl ?_))
    (refine KO.on rfl rfl ?_ ?_; (focus (simp; done)); (refine KO.fo0 (off := 1) rfl Tryd.runUnderlying72 rfl rfl Tryd.sizeOf3 rfl ?_))
    (refine KO.on rfl rfl ?_ ?_; (focus (simp; done)); (refine KO.ld rfl rfl Tryd.isAgg3 (by with_reducible (repeat (first | exact Pick.head | apply Pick.tail))) (by exact rfl) rfl ?_))
    (refine KO.on rfl rfl ?_ ?_; (focus (simp; done)); (refine KO.neI rfl rfl rfl ?_))
    (refine KO.pickF rfl ?_ rfl rfl ?_; (focus (simp; done)))
    refine KO.mv rfl rfl ?_
    (refine KO.on rfl rfl ?_ ?_; (focus (simp; done)); (refine KO.fo0 (off := 2) rfl Tryd.runUnderlying72 rfl rfl Tryd.sizeOf4 rfl ?_))
    (refine KO.on rfl rfl ?_ ?_; (focus (simp; done)); (refine KO.ld rfl rfl Tryd.isAgg4 (by with_reducible (repeat (exact Pick.head))) (by exact rfl) rfl ?_))
    (refine KO.on rfl rfl ?_ ?_; (focus (simp; done)); (refine KO.fo0 (off := 2) rfl Tryd.runUnderlying72 rfl rfl Tryd.sizeOf4 rfl ?_))
    (refine KO.on rfl rfl ?_ ?_; (focus (simp; done)); (refine KO.ld rfl rfl Tryd.isAgg4 (by with_reducible (repeat (first | exact Pick.head | apply Pick.tail))) (by exact rfl) rfl ?_))
    (refine KO.on rfl rfl ?_ ?_; (focus (simp; done)); (refine KO.neB rfl rfl Tryd.underlying4 rfl ?_))
    (refine KO.pickF rfl ?_ rfl rfl ?_; (focus (simp; done)))
    refine KO.mv rfl rfl ?_
    (refine KO.on rfl rfl ?_ ?_; (focus (simp; done)); (refine KO.fo0 (off := 3) rfl Tryd.runUnderlying72 rfl rfl Tryd.sizeOf57 rfl ?_))
    (refine KO.on rfl rfl ?_ ?_; (focus (simp; done)); (refine KO.ld rfl rfl Tryd.isAgg57 (by with_reducible (repeat (exact Pick.head))) (by exact rfl) rfl ?_))
    (refine KO.on rfl rfl ?_ ?_; (focus (simp; done)); (refine KO.fo0 (off := 3) rfl Tryd.runUnderlying72 rfl rfl Tryd.sizeOf57 rfl ?_))
    (refine KO.on rfl rfl ?_ ?_; (focus (simp; done)); (refine KO.ld rfl rfl Tryd.isAgg57 (by with_reducible (repeat (first | exact Pick.head | apply Pick.tail))) (by exact rfl) rfl ?_))
    refine KO.on rfl rfl (by simp) ?_; refine KO.ce (cp := []) rfl rfl rfl Tryd.call20 rfl (sameA_e w _ _ _ xs xs (fun w' hw' => RdA.ofSL (fun _ => rfl) (by with_reducible (repeat (first | exact Pick.head | apply Pick.tail))) hw') (fun w' hw' => rdA_extM hr (Ext.of_below hw'.below)) (by omega) (by omega)) ?_; rintro v' L' ⟨rfl, rfl⟩
    (refine KO.on rfl rfl ?_ ?_; (focus (simp; done)); (refine KO.not rfl rfl ?_))
    (refine KO.pickF rfl ?_ rfl rfl ?_; (focus (simp; done)))
    refine KO.nil ?_
    repeat ((with_reducible refine KQ.next ?_))
    refine K.condF rfl (by simp) ?_
    repeat ((with_reducible refine K.skip ?_))
    exact KQ.mid () trivial ⟨rfl, trivial⟩ (fun _ h => h.all (by with_reducible repeat (exact PAll.nil)))
  rintro _ _
  repeat ((with_reducible refine K.seq ?_))
  cases hm : frd s with
  | none =>
    refine K.reg ?_
    refine KO.mv rfl rfl ?_
    refine KO.ce (cp := []) rfl rfl rfl Tryd.call43 rfl (fread_e w _ s (by omega) hT hM) ?_; rintro v' L' hR; unfold FrR at hR; rw [hm] at hR; obtain ⟨rfl, rfl⟩ := hR
    refine KO.mv rfl rfl ?_
    refine KO.extrL rfl (by exact rfl) rfl ?_
    refine KO.extrL rfl (by exact rfl) rfl ?_
    refine KO.alloc rfl Tryd.zeroValue72 (by exact rfl) rfl ?_; intro b9
    refine KO.sto0 rfl rfl rfl (by exact rfl) (by exact Tryd.sizeOf72) (by exact rfl) (by with_reducible (repeat (exact Pick.head))) (by exact rfl) ?_
    refine KO.as rfl rfl ?_
    refine KO.nil ?_
    repeat (first | (with_reducible refine K.seq ?_) | (with_reducible refine KQ.next ?_))
    refine K.reg ?_
    refine KO.mv rfl rfl ?_
    refine KO.eqN rfl (by kernel_rfl) rfl ?_
    refine KO.nil ?_
    repeat ((with_reducible refine KQ.next ?_))
    refine K.condF rfl rfl ?_
    repeat (first | (with_reducible refine K.seq ?_) | (with_reducible refine KQ.next ?_) | (with_reducible refine K.skip ?_))
    refine K.reg ?_
    refine KO.as rfl rfl ?_
    refine KO.nil ?_
    repeat (first | (with_reducible refine KQ.next ?_) | (with_reducible refine K.ret ?_))
    exact KQ.ret1 rfl rfl (fun w' hs => fin w' _ hs)
  | some p =>
    obtain ⟨g, ys⟩ := p
    obtain ⟨hok, hfs⟩ := frd_some hm
    have hys : ∀ m ∈ ys, m.body.size ≤ maxLen ∧ m.queue.size ≤ maxLen := fun m hm => right_size (badI_all (by unfold okF at hok; exact hok.2.2.2.2.2.2) m hm)
    refine K.reg ?_
    refine KO.mv rfl rfl ?_
    refine KO.ce (cp := []) rfl rfl rfl Tryd.call43 rfl (fread_e w _ s (by omega) hT hM) ?_; rintro v' L' hR; unfold FrR at hR; rw [hm] at hR; obtain ⟨v, rfl, rfl⟩ := hR; refine KO.fact (fun w hw => SL_form hw) ?_; rintro ⟨sb, cb, rfl, _⟩
    refine KO.mv rfl rfl ?_
    refine KO.extrL rfl (by exact rfl) rfl ?_
    refine KO.extrL rfl (by exact rfl) rfl ?_
    refine KO.alloc rfl Tryd.zeroValue72 (by exact rfl) rfl ?_; intro b9
    refine KO.sto0 rfl rfl rfl (by exact rfl) (by exact Tryd.sizeOf72) (by exact rfl) (by with_reducible (repeat (exact Pick.head))) (by exact rfl) ?_
    refine KO.as rfl rfl ?_
    refine KO.nil ?_
    repeat (first | (with_reducible refine K.seq ?_) | (with_reducible refine KQ.next ?_))
    refine K.reg ?_
    refine KO.mv rfl rfl ?_
    refine KO.eqI0 rfl (by kernel_rfl) rfl ?_
    refine KO.nil ?_
    repeat ((with_reducible refine KQ.next ?_))
    refine K.condT rfl rfl ?_
    repeat ((with_reducible refine K.seq ?_))
    refine K.reg ?_
    refine KO.ldB0 rfl rfl Tryd.isAgg72 Tryd.sizeOf72 (by with_reducible (repeat (exact Pick.head))) (by exact rfl) rfl ?_
    refine KO.ce (cp := []) rfl rfl rfl Tryd.call37 rfl (fw_e w _ g _ ys (fun w' hw' => RdA.ofSL (fun _ => rfl) (by with_reducible (repeat (first | exact Pick.head | apply Pick.tail))) hw') hT hys) ?_; rintro v' L' ⟨rfl, rfl⟩; rw [(fw_ok hok).1, (fw_ok hok).2]
    refine KO.mv rfl rfl ?_
    refine KO.extrL rfl (by exact rfl) rfl ?_
    refine KO.extrL rfl (by exact rfl) rfl ?_
    refine KO.as rfl rfl ?_
    refine KO.as rfl rfl ?_
    refine KO.nil ?_
    repeat (first | (with_reducible refine K.seq ?_) | (with_reducible refine KQ.next ?_))
    refine K.reg ?_
    refine KO.mv rfl rfl ?_
    refine KO.neN rfl (by kernel_rfl) rfl ?_
    refine KO.mv rfl rfl ?_
    (refine KO.on rfl rfl ?_ ?_; (focus rfl); (refine KO.mv rfl rfl ?_))
    (refine KO.on rfl rfl ?_ ?_; (focus rfl); (refine KO.mv rfl rfl ?_))
    (refine KO.on rfl rfl ?_ ?_; (focus rfl); (refine KO.neS rfl rfl rfl ?_))
    (refine KO.pickF rfl ?_ rfl rfl ?_; (focus rfl))
    refine KO.nil ?_
    repeat ((with_reducible refine KQ.next ?_))
    refine K.condF rfl (by simp [hfs]) ?_
    repeat (first | (with_reducible refine K.seq ?_) | (with_reducible refine KQ.next ?_) | (with_reducible refine K.skip ?_))
    refine K.reg ?_
    refine KO.as rfl rfl ?_
    refine KO.nil ?_
    repeat (first | (with_reducible refine KQ.next ?_) | (with_reducible refine K.ret ?_))
    exact KQ.ret1 rfl rfl (fun w' hs => fin w' _ hs)
end Go.Proofs.YtjhogocabcdjbaaDoor
/- waybillkeep.FrameBack: for every frame and every text the law returns true, and the frame's list reads as it did. No condition. -/
namespace Go.Proofs.YtjhogocabcdjbaaDoor.fback
open Go Go.RowKit Go.ChangeShapes Go.WideShapes Go.ChangeAt Go.Deep WB
theorem own : ownKnob Tryd.prog.godebug = none := by kernel_rfl
theorem laidOut : laidOutB Tryd.prog = true := by kernel_rfl
/-- a world in which the listed variables lie -/
noncomputable def hold (os : Os) : World := World.holding Tryd.prog os ⟨#[], #[], []⟩
def data : List (String × DataW Unit) := [("math/bits.deBruijn32tab", Rows.laid_math_bits_deBruijn32tab), ("math/bits.deBruijn64tab", Rows.laid_math_bits_deBruijn64tab), ("internal/strconv.uint64pow10", Rows.laid_internal_strconv_uint64pow10), ("unicode/utf8.acceptRanges", Rows.laid_unicode_utf8_acceptRanges), ("strconv.ErrRange", Rows.laid_strconv_ErrRange), ("strconv.ErrSyntax", Rows.laid_strconv_ErrSyntax), ("unicode/utf8.first", Rows.laid_unicode_utf8_first)]
noncomputable def laidWorld (os : Os) : World := (hold os).layVars Tryd.prog data
theorem laidWorld_os (os : Os) : (laidWorld os).os = os := World.layVars_os _ _ _
set_option maxRecDepth 100000 in
theorem data_met (os : Os) (args : Array Value) : laidMet Tryd.prog data ((laidWorld os).forCall (fun _ _ => 0) ⟨#[], args, []⟩).memory := by
  have h : laidMet Tryd.prog data (laidWorld os) := laidMet_layVars (w0 := hold os) (data.map (·.1)) [] rfl (by kernel_rfl) (by kernel_rfl) LaidIn.none
  exact h.of_heap (by simp [World.memory, World.forCall, Input.heap])
set_option maxRecDepth 100000 in
theorem laid_met (os : Os) (args : Array Value) : laidMetH Tryd.prog Rows.frameBackRow.laid ((laidWorld os).forCall (fun _ _ => 0) ⟨#[], args, []⟩).memory :=
  laidMetH_of_parts (data_met os args) (by kernel_rfl)
set_option maxRecDepth 100000 in
theorem laid_of {W : World} (h : laidMetH Tryd.prog Rows.frameBackRow.laid W) : laidMet Tryd.prog data W := by
  have e : Rows.frameBackRow.laid = data := by kernel_rfl
  rw [e] at h
  exact h
set_option maxRecDepth 100000 in
theorem rd_msg {H : Type} {enc : TypeId × Value → H} {W : World} {n : Nat} {cs : List Value} {y : DataW H × List MemPlace} (h : DataW.trod enc Tryd.prog W 0 (fun _ => true) true n 50 cs = some y) : ∃ m : Ms, (m.body.size ≤ maxLen ∧ m.queue.size ≤ maxLen) ∧ cs = msC m := by
  have hci : Tryd.prog.cellsOf 3 = 1 := by kernel_rfl
  have hcs : Tryd.prog.cellsOf 9 = 1 := by kernel_rfl
  have hlen := trod_len Tryd.underlying50 h (show Tryd.prog.cellsOf 50 = 5 by kernel_rfl)
  obtain ⟨s2, e2, _⟩ := trod_i Tryd.underlying50 h 0 0 3 rfl hci Tryd.underlying3
  obtain ⟨s3, e3, _⟩ := trod_i Tryd.underlying50 h 1 1 3 rfl hci Tryd.underlying3
  obtain ⟨s4, e4, w4⟩ := trod_str Tryd.underlying50 h 2 2 9 rfl hcs Tryd.underlying9
  obtain ⟨s5, e5, w5⟩ := trod_str Tryd.underlying50 h 3 3 9 rfl hcs Tryd.underlying9
  obtain ⟨s6, e6, _⟩ := trod_i Tryd.underlying50 h 4 4 3 rfl hci Tryd.underlying3
  match cs, hlen, e2, e3, e4, e5, e6 with
  | [c2, c3, c4, c5, c6], _, e2, e3, e4, e5, e6 =>
    simp only [List.getElem?_cons_zero, List.getElem?_cons_succ, Option.some.injEq] at e2 e3 e4 e5 e6
    exact ⟨⟨s2, s3, s4, s5, s6⟩, ⟨w4, w5⟩, by rw [e2, e3, e4, e5, e6]; rfl⟩
set_option maxRecDepth 100000 in
theorem open_msg {H : Type} {enc : TypeId × Value → H} {W : World} {r : Reach} {base : Nat} {v : Value} {d : DataW H} {p : List MemPlace} (hv : Value.okWide Tryd.prog W r base 50 v) (h : DataW.Trod enc Tryd.prog W 0 (fun _ => true) true 50 v d p) :
    ∃ m : Ms, v = .agg (msC m).toArray ∧ (m.body.size ≤ maxLen ∧ m.queue.size ≤ maxLen) := by
  obtain ⟨cs, rfl, _⟩ := okWide_struct Tryd.underlying50 hv
  obtain ⟨fuel, hf⟩ := h
  obtain ⟨m, hm, hcs⟩ := rd_msg hf
  refine ⟨m, ?_, hm⟩
  have : cs.toList = msC m := hcs
  rw [← this]
theorem open_slc {H : Type} {enc : TypeId × Value → H} {α : Type} {φ : α → Prop} {cf : α → List Value} {W : World} {t e : TypeId} {cs : List Value} {y : DataW H × List MemPlace} {fuel sz : Nat} (ht : Tryd.prog.underlying t = some (.slice e))
    (hf : DataW.trod enc Tryd.prog W 0 (fun _ => true) true fuel t cs = some y) (hsz : Tryd.prog.cellsOf e = sz) (rd : ∀ n cs y, DataW.trod enc Tryd.prog W 0 (fun _ => true) true n e cs = some y → ∃ x : α, φ x ∧ cs = cf x) :
    ∃ (v : Value) (xs : List α), cs = [v] ∧ RdA W sz cf v xs ∧ ∀ x ∈ xs, φ x := by
  rcases open_slice ht hf with ⟨hcs, _⟩ | ⟨a', len', cap', m, n, D, Pl, hcs, _, hl, _, hm, _, hi⟩
  · exact ⟨_, [], hcs, ⟨none, 0, rfl, fun i x h => by simp at h⟩, fun x hx => by simp at hx⟩
  · have key : ∀ i, i < len' → ∃ x : α, φ x ∧ HasCells W (a'.add (i * sz)) (cf x) := fun i hlt => by
      obtain ⟨cs', hc, htr⟩ := hi i (by rw [hm]; simp; omega)
      obtain ⟨x, hx, rfl⟩ := rd n cs' _ htr
      obtain ⟨_, hlen, hcell⟩ := World.cells?_some hc
      refine ⟨x, hx, fun j c hj => ?_⟩
      have hlt2 := (List.getElem?_eq_some_iff.1 hj).1
      rw [← hsz]
      rw [hcell j (by omega)]; exact hj
    obtain ⟨l, hll, hp⟩ := list_of_each len' key
    refine ⟨_, l, hcs, ⟨some a', cap', by rw [hll], fun i x hx => ⟨a', rfl, (hp i x hx).2⟩⟩, fun x hx => ?_⟩
    obtain ⟨i, hi, rfl⟩ := List.getElem_of_mem hx
    exact (hp i _ (List.getElem?_eq_getElem hi)).1
set_option maxRecDepth 100000 in
theorem rd_fr {H : Type} {enc : TypeId × Value → H} {W : World} {n : Nat} {cs : List Value} {y : DataW H × List MemPlace} (h : DataW.trod enc Tryd.prog W 0 (fun _ => true) true n 72 cs = some y) :
    ∃ (f : Fr) (sv : Value) (xs : List Ms), cs = frC f sv ∧ RdA W 5 msC sv xs ∧ ∀ m ∈ xs, m.body.size ≤ maxLen ∧ m.queue.size ≤ maxLen := by
  have hci : Tryd.prog.cellsOf 3 = 1 := by kernel_rfl
  have hcb : Tryd.prog.cellsOf 4 = 1 := by kernel_rfl
  have hcl : Tryd.prog.cellsOf 57 = 1 := by kernel_rfl
  have hlen := trod_len Tryd.underlying72 h (show Tryd.prog.cellsOf 72 = 4 by kernel_rfl)
  obtain ⟨s0, e0, _⟩ := trod_i Tryd.underlying72 h 0 0 3 rfl hci Tryd.underlying3
  obtain ⟨s1, e1, _⟩ := trod_i Tryd.underlying72 h 1 1 3 rfl hci Tryd.underlying3
  obtain ⟨s2, e2⟩ := trod_b Tryd.underlying72 h 2 2 4 rfl hcb Tryd.underlying4
  obtain ⟨m, y', h3⟩ := trod_field Tryd.underlying72 h 3 3 57 1 rfl hcl
  obtain ⟨sv, xs, e3, hx, hsz⟩ := open_slc (φ := fun m : Ms => m.body.size ≤ maxLen ∧ m.queue.size ≤ maxLen) (cf := msC) Tryd.underlying57 h3 (show Tryd.prog.cellsOf 50 = 5 by kernel_rfl) (fun n cs y h => rd_msg h)
  clear h h3
  match cs, hlen, e0, e1, e2, e3 with
  | [c0, c1, c2, c3], _, e0, e1, e2, e3 =>
    simp only [List.getElem?_cons_zero, List.getElem?_cons_succ, Option.some.injEq] at e0 e1 e2
    simp only [List.drop_succ_cons, List.drop_zero, List.take_succ_cons, List.take_zero, List.cons.injEq, and_true] at e3
    exact ⟨⟨s0, s1, s2⟩, sv, xs, by rw [e0, e1, e2, e3]; rfl, hx, hsz⟩
set_option maxRecDepth 100000 in
theorem open_fr {H : Type} {enc : TypeId × Value → H} {W : World} {r : Reach} {base : Nat} {v : Value} {d : DataW H} {p : List MemPlace} (hv : Value.okWide Tryd.prog W r base 72 v) (h : DataW.Trod enc Tryd.prog W 0 (fun _ => true) true 72 v d p) :
    ∃ (f : Fr) (sv : Value), v = .agg (frC f sv).toArray ∧ ∃ xs : List Ms, RdA W 5 msC sv xs ∧ ∀ m ∈ xs, m.body.size ≤ maxLen ∧ m.queue.size ≤ maxLen := by
  obtain ⟨cs, rfl, _⟩ := okWide_struct Tryd.underlying72 hv
  obtain ⟨fuel, hf⟩ := h
  obtain ⟨f, sv, xs, hcs, hx, hsz⟩ := rd_fr hf
  refine ⟨f, sv, ?_, xs, hx, hsz⟩
  have : cs.toList = frC f sv := hcs
  rw [← this]
set_option maxRecDepth 100000 in
theorem tab_of {W : World} (h : laidMetH Tryd.prog Rows.frameBackRow.laid W) : Tab W := by
  have h1 : laidMet Tryd.prog data W := laid_of h
  have hd : ("internal/strconv.uint64pow10", Lib.tabData .u64 Lib.pow10Tab) ∈ data := by
    have e : (Lib.tabData .u64 Lib.pow10Tab : DataW Unit) = Rows.laid_internal_strconv_uint64pow10 := by kernel_rfl
    rw [e]; unfold data; simp
  exact tab_of_laid h1 hd (g := 4) (by kernel_rfl) (by kernel_rfl) (n := 20) Tryd.underlying213 Tryd.underlying193 (by kernel_rfl) (by kernel_rfl)
theorem star : "*" ++ "errors.errorString" = "*errors.errorString" := by decide
theorem rowES (u : TypeId) (h : Tryd.prog.typeName? 3 u = some "*errors.errorString") : u = 223 :=
  typeName_ptr_named (nm := "errors.errorString") (by rw [star]; kernel_rfl) (by kernel_rfl) (by decide) u (by rw [star]; exact h)
set_option maxRecDepth 100000 in
theorem lim_of {W : World} (h : laidMetH Tryd.prog Rows.frameBackRow.laid W) (hSh : W.ShapedOpen Tryd.prog) : Lim W := by
  have h1 : laidMet Tryd.prog [("strconv.ErrRange", Rows.laid_strconv_ErrRange), ("strconv.ErrSyntax", Rows.laid_strconv_ErrSyntax), ("unicode/utf8.first", Rows.laid_unicode_utf8_first)] W := (laid_of h).tail.tail.tail.tail
  obtain ⟨a0, s0, hv0, -, -, -⟩ := laid_sentinel h1 (show Tryd.prog.globalNamed "strconv.ErrRange" = some 3 by kernel_rfl) (show (Tryd.prog.globals[3]?).map (·.type) = some 32 by kernel_rfl) Tryd.underlying32 rowES Tryd.underlying223 Tryd.underlying225 rfl rfl Tryd.underlying9 (by kernel_rfl) (by kernel_rfl)
  obtain ⟨a1, s1, hv1, -, -, -⟩ := laid_sentinel h1.tail (show Tryd.prog.globalNamed "strconv.ErrSyntax" = some 2 by kernel_rfl) (show (Tryd.prog.globals[2]?).map (·.type) = some 32 by kernel_rfl) Tryd.underlying32 rowES Tryd.underlying223 Tryd.underlying225 rfl rfl Tryd.underlying9 (by kernel_rfl) (by kernel_rfl)
  exact ⟨Tryd.laysM146.s1_3 W hSh, ⟨_, _, by have := World.var?_cell (show Tryd.prog.globalNamed "strconv.ErrSyntax" = some 2 by kernel_rfl) hv1 0; simpa using this⟩, ⟨_, _, by have := World.var?_cell (show Tryd.prog.globalNamed "strconv.ErrRange" = some 3 by kernel_rfl) hv0 0; simpa using this⟩⟩
set_option maxRecDepth 100000 in
theorem contract (H : Type) (enc : TypeId × Value → H) (W : World) (base : Nat) (args : Array Value) (ds gs : List (DataW H)) (before : List MemPlace)
    (hval : ∀ (j : Nat) t v, Tryd.f8.params[j]? = some t → args[j]? = some v → Value.okWide Tryd.prog W .any base t v)
    (hW : DataW.Whole enc Tryd.prog Tryd.f8.params.toList Rows.frameBackSpec.vars false W args.toList ds gs before) (hL : laidMetH Tryd.prog Rows.frameBackRow.laid W) (hSh : W.ShapedOpen Tryd.prog) :
    Calls Tryd.prog 8 args W fun e W' => ∃ v, e = .returned v ∧ Rows.frameBackSpec.post enc Tryd.prog Tryd.f8 false true false false W args v W' := by
  have hW' := hW
  obtain ⟨p, q, hA0, hV, rfl, hfz, hnd⟩ := hW
  have hA : DataW.TrodAll enc Tryd.prog W 0 (fun _ => true) true Tryd.f8.params.toList args.toList ds p := hA0
  have hA2 := hA
  rw [Tryd.params8] at hA hval
  obtain ⟨v0, v1, d0, d1, p0, p1, rfl, rfl, rfl, h0, h1⟩ := trodAll_two hA
  obtain ⟨rfl, rfl⟩ := trodVars_none hV
  obtain ⟨s, rfl, _, _, _⟩ := Go.ChangeMaps.open_string Tryd.underlying9 (hval 1 9 v1 rfl rfl) h1
  obtain ⟨f, sv, rfl, xs, hx, hsz⟩ := open_fr (hval 0 72 v0 rfl rfl) h0
  have hTab := tab_of hL
  have hLim := lim_of hL hSh
  have hlt : ∀ x ∈ p0 ++ p1, x.block < W.heap.size := fun x hx => by
    have := hW'.lt x (List.mem_append_left _ hx)
    simpa using this
  have hwalk : Calls Tryd.prog 8 #[.agg (frC f sv).toArray, .string s] W fun e W' => e = .returned (.bool true) ∧ Below W.heap.size W W' := by
    refine (fback_e W [] f sv xs s (fun w hw => rdA_extM hx (Ext.of_below hw.below)) hsz hTab hLim W (St.init W)).mono ?_
    rintro e W' ⟨v, L', rfl, ⟨rfl, _⟩, _, hb⟩
    exact ⟨rfl, hb⟩
  refine hwalk.mono fun e W' ⟨he, hb⟩ => ?_
  subst he
  simp only [List.append_nil] at hW'
  exact ⟨_, rfl, _, _, _, [], p0 ++ p1, [], hW', trodAll_mk1 (shut_bool Tryd.underlying4 _), law_args laidOut hb (by kernel_rfl) hA2 hlt, rfl, hb.frame _, fun h => by cases h⟩
set_option maxRecDepth 100000 in
theorem reads (os : Os) {H : Type} (enc : TypeId × Value → H) : ∃ places, DataW.whole enc Tryd.prog ((laidWorld os).forCall (fun _ _ => 0) ⟨#[], #[.agg #[.int .i64 0, .int .i64 0, .bool false, .slice none 0 0], .string ⟨#[]⟩], []⟩).memory Tryd.f8.params.toList Rows.frameBackSpec.vars false (#[.agg #[.int .i64 0, .int .i64 0, .bool false, .slice none 0 0], .string ⟨#[]⟩] : Array Value).toList 8 = some ([.agg [.lit (.int .i64 0), .lit (.int .i64 0), .lit (.bool false), .nil], .lit (.string [])], [], places) :=
  ⟨[], by kernel_rfl⟩
set_option maxRecDepth 100000 in
theorem lifted (os : Os) (started : os.Started) (H : Type) (enc : TypeId × Value → H) (F : Stop.Interp) :
    ReturnsInHanded {} Tryd.checked os 8 .any ((OpenSpec.ofChange Rows.frameBackSpec).preRow enc Tryd.prog Tryd.f8 Rows.frameBackRow.domain false Rows.frameBackRow.laid) (((OpenSpec.ofChange Rows.frameBackSpec).at F).post enc Tryd.prog Tryd.f8 false true false false) := by
  obtain ⟨places, hx⟩ := reads os enc
  refine returnsInHanded_of_row (C := Tryd.checked) (s := OpenSpec.ofChange Rows.frameBackSpec) own started (by kernel_rfl) Tryd.func8
    (witness_row_sh (enc := enc) (C := Tryd.checked) false (laidWorld os) #[.agg #[.int .i64 0, .int .i64 0, .bool false, .slice none 0 0], .string ⟨#[]⟩] (laidWorld_os os) (World.shaped_of_ZipB (by kernel_rfl) (by kernel_rfl)) (by kernel_rfl)
      (OpenSpec.preRow_of_cond 8 hx (by kernel_rfl) (fun k hk => by cases hk) (by kernel_rfl) (laid_met os _))) ?_
  intro W base args ds gs before hval hW _ _ _ hL hSh _
  exact contract H enc W base args ds gs before hval hW hL hSh
theorem said : Rows.FrameBackSaid :=
  OpenClaim.holds_of_cond 8 Tryd.f8 rfl rfl rfl rfl rfl rfl rfl ⟨rfl, rfl, rfl, rfl, rfl⟩ rfl rfl rfl rfl rfl (by kernel_rfl) Tryd.func8 (by kernel_rfl)
    (of_decide_eq_true (by kernel_rfl)) (by unfold Func.isWrapper; first | (rw [if_pos (by decide +kernel)]; kernel_rfl) | (rw [if_neg (by decide +kernel)]; exact ⟨rfl, rfl⟩))
    (fun os started H enc _ F => by rw [OpenClaim.pre_eq_preRow]; exact lifted os started H enc F)
set_option maxRecDepth 100000 in
theorem plain (f : FuncId) (fn : Func) (hf : Tryd.pinned.checked.prog.funcNamed "waybill/waybillkeep.FrameBack" = some f) (hfn : Tryd.pinned.checked.prog.funcs[f]? = some fn) :
    true = Tryd.pinned.checked.prog.looks [] ∧ ∀ (j : Nat) t, fn.params[j]? = some t → Tryd.pinned.checked.prog.wantsStandIn t = false := by
  obtain rfl : f = 8 := Option.some.inj ((show Tryd.prog.funcNamed "waybill/waybillkeep.FrameBack" = some 8 by kernel_rfl).symm.trans hf) |>.symm
  obtain rfl : fn = Tryd.f8 := (Option.some.inj (Tryd.func8.symm.trans hfn)).symm
  refine ⟨by kernel_rfl, fun j t ht => ?_⟩
  rw [Tryd.params8] at ht
  have hm : t ∈ [72, 9] := by simpa using Array.mem_of_getElem? ht
  have hall : ([72, 9].all fun u => !Tryd.prog.wantsStandIn u) = true := by kernel_rfl
  exact (show Tryd.prog.wantsStandIn t = false by simpa using List.all_eq_true.1 hall t hm)
set_option maxRecDepth 100000 in
/-- the card -/
theorem card : Rows.FrameBackCardSaid :=
  Claim7.holds_tied_plain_at .later [] _ _ _ _ said (fun _ h => by cases h) (by kernel_rfl) (fun _ h => by cases h) frameBack_row_tie rfl ⟨rfl, rfl⟩ (by kernel_rfl) rfl plain (by kernel_rfl)
end Go.Proofs.YtjhogocabcdjbaaDoor.fback
