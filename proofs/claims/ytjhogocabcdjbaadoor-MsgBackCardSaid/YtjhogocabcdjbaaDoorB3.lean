/- waybillkeep.MsgBack: for every list of messages and every text the law returns true, and the list reads as it did. No condition. -/
import Derived.Test.YtjhogocabcdjbaaDoorCards
import Derived.Test.YtjhogocabcdjbaaDoorTie
import Derived.Stop.LaidErr
import Derived.ChangeMaps5
import Derived.Test.YtjhogocabcdjbaaDoorB2
set_option linter.unusedSimpArgs false
set_option linter.unusedVariables false
/- msg.Read: the walk -/
namespace Go.Proofs.YtjhogocabcdjbaaDoor
open Go Go.RowKit WB
def MrR (L : List HP) (s : ByteArray) (u : Value) (M : List HP) : Prop :=
  match mrd s with
  | some xs => ∃ v, u = .tuple #[v, .nilIface] ∧ M = SL 50 5 msC v xs :: L
  | none => u = .tuple #[.slice none 0 0, errV 37 3] ∧ M = L
def arr5 (x y z : Int) : Nat → List Value
  | 0 => [.int .i64 0, .int .i64 0, .int .i64 0, .int .i64 0, .int .i64 0]
  | 1 => [.int .i64 x, .int .i64 0, .int .i64 0, .int .i64 0, .int .i64 0]
  | 2 => [.int .i64 x, .int .i64 y, .int .i64 0, .int .i64 0, .int .i64 0]
  | _ => [.int .i64 x, .int .i64 y, .int .i64 0, .int .i64 0, .int .i64 z]
def rdP (b4 b3 b2 : Nat) (v e : Value) (xs : List Ms) : List HP := [blk b4 (.cells [v].toArray 57 (0, 0)), blk b3 (.cells [e].toArray 32 (0, 0)), blk b2 (.cells [.slice none 0 0].toArray 57 (0, 0)), SL 50 5 msC v xs]
def rdC (s : ByteArray) (b4 b3 b2 : Nat) (k : Nat) (M : List HP) : Prop := ∃ v xs, M = rdP b4 b3 b2 v .nilIface xs ∧ parseL ((pcs 43 s).take k) = some xs
def rdX (s : ByteArray) (b4 b3 b2 : Nat) (M : List HP) : Prop := (∃ v xs, M = rdP b4 b3 b2 v (errV 37 3) xs) ∧ parseL (pcs 43 s) = none
theorem msr_info : (Tryd.prog.info? 50).map (fun i => (i.zero, i.size, i.bytes)) = some (some (Value.agg #[.int .i64 0, .int .i64 0, .string ⟨#[]⟩, .string ⟨#[]⟩, .int .i64 0]), 5, 56) := by kernel_rfl
set_option maxRecDepth 100000 in
set_option maxHeartbeats 4000000 in
theorem mread_e (w0 : World) (L : List HP) (s : ByteArray) (hs : s.size ≤ 10000) (hT0 : Tab w0) (hM0 : Lim w0) : KE Tryd.prog 41 #[.string s] w0 L (MrR L s) := by
  refine KE.mkM (n := 74) Tryd.func41 rfl Tryd.ntmps41 (by simp) ?_
  intro w hw
  have hT := hT0.ext (Ext.of_below hw.below)
  have hM := hM0.ext (Ext.of_below hw.below)
  unfold MrR
  repeat ((with_reducible refine K.seq ?_))
  refine K.reg ?_
  refine KO.alloc rfl Tryd.zeroValue57 (by exact rfl) rfl ?_; intro b2
  refine KO.alloc rfl Tryd.zeroValue32 (by exact rfl) rfl ?_; intro b3
  refine KO.nil ?_
  repeat (first | (with_reducible refine K.seq ?_) | (with_reducible refine KQ.next ?_))
  by_cases h0 : s = ⟨#[]⟩
  · have e0 : mrd s = some [] := by unfold mrd; rw [if_pos h0]
    rw [e0]
    refine K.reg ?_
    refine KO.mv rfl rfl ?_
    refine KO.eqS rfl rfl rfl ?_
    refine KO.nil ?_
    repeat ((with_reducible refine KQ.next ?_))
    refine K.condT rfl (by simpa using h0) ?_
    repeat ((with_reducible refine K.seq ?_))
    refine K.reg ?_
    refine KO.sto0 rfl rfl rfl (by exact rfl) (by exact Tryd.sizeOf57) (by exact rfl) (by with_reducible (repeat (first | exact Pick.head | apply Pick.tail))) (by exact rfl) ?_
    refine KO.sto0 rfl rfl rfl (by exact rfl) (by exact Tryd.sizeOf32) (by exact rfl) (by with_reducible (repeat (first | exact Pick.head | apply Pick.tail))) (by exact rfl) ?_
    refine KO.nil ?_
    repeat (first | (with_reducible refine KQ.next ?_) | (with_reducible refine KQ.then_ret ?_) | (with_reducible refine K.ret ?_))
    refine KQ.retM2C rfl rfl rfl Tryd.isAgg57 Tryd.isAgg32 (by with_reducible (repeat (first | exact Pick.head | apply Pick.tail))) (by with_reducible (repeat (exact Pick.head))) (fun w' hs => ⟨_, _, rfl, ⟨_, rfl, rfl⟩, ?_, hs.below⟩)
    exact SL_nil (hw.below_step hs.below)
  refine K.reg ?_
  refine KO.mv rfl rfl ?_
  refine KO.eqS rfl rfl rfl ?_
  refine KO.nil ?_
  repeat ((with_reducible refine KQ.next ?_))
  refine K.condF rfl (by simpa using h0) ?_
  repeat (first | (with_reducible refine K.seq ?_) | (with_reducible refine KQ.next ?_) | (with_reducible refine K.skip ?_))
  refine K.reg ?_
  refine KO.alloc rfl Tryd.zeroValue57 (by exact rfl) rfl ?_; intro b4
  refine KO.nil ?_
  repeat (first | (with_reducible refine K.seq ?_) | (with_reducible refine KQ.next ?_))
  refine K.reg ?_
  refine KO.mv rfl rfl ?_
  refine KO.ce (cp := []) rfl rfl rfl Tryd.call65 rfl (seq_e w _ s ⟨#[43]⟩) ?_; rintro v' L' ⟨i4, i3, i5, rfl, rfl⟩
  refine KO.nil ?_
  refine KQ.next ?_
  refine K.block ?_
  refine K.conv (L' := itP i4 i3 i5 s ⟨#[43]⟩ ++ rdP b4 b3 b2 (.slice none 0 0) .nilIface []) (fun w hw => ?_) ?_
  · simp only [rdP, itP, List.cons_append, List.nil_append] at hw ⊢
    exact (SL_nil hw).all (by with_reducible repeat (first | exact PAll.refl | refine PAll.cons (by with_reducible repeat (first | exact Pick.head | apply Pick.tail)) ?_))
  have hlen : (pcs 43 s).length ≤ s.size + 1 := by unfold pcs; rw [List.length_map, pieces_len]; have := List.count_le_length (a := 43) (l := s.data.toList); rw [ba_size]; omega
  refine K.rangeSeq (rdC s b4 b3 b2) (rdX s b4 b3 b2) (G2 := fun q => [(5, .string q), (0, .string s), (2, .pointer (some ⟨b2, 0, none⟩)), (3, .pointer (some ⟨b3, 0, none⟩)), (4, .pointer (some ⟨b4, 0, none⟩))]) rfl rfl (by omega) ⟨_, _, rfl, rfl⟩ ?_ ?_ ?_ ?_
  · intro l N q
    refine KR.reg (by kernel_rfl) (fun a w h => by exact h) ?_
    refine KO.as rfl rfl ?_
    refine KO.nil ?_
    exact KQ.mid () trivial ⟨rfl, rfl, rfl, rfl, rfl, trivial⟩ (fun _ h => h)
  · rintro k q M l N RQ hq ⟨v, xs, rfl, hxs⟩ hno hgo hret
    have hxl : xs.length < 100000 := by have := parseL_len hxs; rw [List.length_take] at this; omega
    have hqs : q.size ≤ 10000 := by have := pcs_size (List.mem_of_getElem? hq); omega
    simp only [rdP, List.cons_append, List.nil_append]
    repeat (first | (with_reducible refine KR.seq ?_) | (with_reducible refine KR.block ?_))
    refine KR.reg (by kernel_rfl) (fun a w h => by exact hno a w h) ?_
    refine KO.mv rfl rfl ?_
    refine KO.ce (cp := []) rfl rfl rfl Tryd.call66 rfl (split_e w _ q 32 (by omega) hM) ?_; rintro v' L' ⟨bq, rfl, rfl⟩
    refine KO.as rfl rfl ?_
    refine KO.nil ?_
    repeat (first | (with_reducible refine KR.seq ?_) | (with_reducible refine KQ.nextR ?_))
    by_cases h5 : (pcs 32 q).length = 5
    case neg =>
      refine KR.reg (by kernel_rfl) (fun a w h => by exact hno a w h) ?_
      refine KO.mv rfl rfl ?_
      refine KO.len rfl Tryd.underlying24 rfl ?_
      refine KO.neI rfl rfl rfl ?_
      refine KO.nil ?_
      repeat ((with_reducible refine KQ.nextR ?_))
      refine KR.condT rfl (by simp; omega) ?_
      repeat ((with_reducible refine KR.seq ?_))
      refine KR.reg (by kernel_rfl) (fun a w h => by exact hno a w h) ?_
      refine KO.mki rfl (by kernel_rfl) rfl ?_
      refine KO.sto0 rfl rfl rfl (by exact rfl) (by exact Tryd.sizeOf57) (by exact rfl) (by with_reducible (repeat (first | exact Pick.head | apply Pick.tail))) (by exact rfl) ?_
      refine KO.sto0 rfl rfl rfl (by exact rfl) (by exact Tryd.sizeOf32) (by exact rfl) (by with_reducible (repeat (first | exact Pick.head | apply Pick.tail))) (by exact rfl) ?_
      refine KO.nil ?_
      repeat (first | (with_reducible refine KQ.nextR ?_) | (with_reducible refine KQ.then_ret ?_) | (with_reducible refine KQ.blk_ret ?_) | (with_reducible refine KR.ret ?_))
      refine KQ.conv (fun w hw => hw.all (M := rdP b4 b3 b2 v (errV 37 3) xs ++ N) (by repeat (first | exact PAll.refl | refine PAll.cons (by repeat (first | exact Pick.head | apply Pick.tail)) ?_ | apply PAll.drop))) ?_
      refine hret _ _ ⟨⟨_, _, rfl⟩, parseL_none (p := q) ?_ (List.mem_of_getElem? hq)⟩
      unfold parse1
      split
      · rename_i h; rw [h] at h5; exact absurd rfl h5
      · rfl
    refine KR.reg (by kernel_rfl) (fun a w h => by exact hno a w h) ?_
    refine KO.mv rfl rfl ?_
    refine KO.len rfl Tryd.underlying24 rfl ?_
    refine KO.neI rfl rfl rfl ?_
    refine KO.nil ?_
    repeat ((with_reducible refine KQ.nextR ?_))
    refine KR.condF rfl (by simp; omega) ?_
    repeat (first | (with_reducible refine KR.seq ?_) | (with_reducible refine KQ.nextR ?_) | (with_reducible refine KR.skip ?_))
    obtain ⟨wa, wb, wc, wd, we, hws⟩ : ∃ wa wb wc wd we, pcs 32 q = [wa, wb, wc, wd, we] := by
      generalize pcs 32 q = l at h5
      match l, h5 with
      | [a, b, c, d, e], _ => exact ⟨a, b, c, d, e, rfl⟩
    have hwz : ∀ x ∈ [wa, wb, wc, wd, we], x.size ≤ 100000000 := fun x hx => by have := pcs_size (c := 32) (s := q) (p := x) (by rw [hws]; exact hx); omega
    rw [hws]
    refine KR.reg (by kernel_rfl) (fun a w h => by exact hno a w h) ?_
    refine KO.alloc rfl Tryd.zeroValue119 (by exact rfl) rfl ?_; intro b7
    refine KO.nil ?_
    repeat (first | (with_reducible refine KR.seq ?_) | (with_reducible refine KQ.nextR ?_))
    refine KR.reg (by kernel_rfl) (fun a w h => by exact hno a w h) ?_
    refine KO.bld rfl (by intro w; go_simp; rfl) rfl ?_
    refine KO.mv rfl rfl ?_
    refine KO.nil ?_
    repeat (first | (with_reducible refine KQ.nextR ?_) | (with_reducible refine KR.block ?_))
    obtain ⟨x, hx⟩ : ∃ x, x = (numO wa).getD 0 := ⟨_, rfl⟩
    obtain ⟨y, hy⟩ : ∃ x, x = (numO wb).getD 0 := ⟨_, rfl⟩
    obtain ⟨z, hz⟩ : ∃ x, x = (numO we).getD 0 := ⟨_, rfl⟩
    refine KR.loop (fun i : Nat => [(26, .int .i64 (i : Nat)), (25, .agg [.int .i64 0, .int .i64 1, .int .i64 4].toArray), (7, .pointer (some ⟨b7, 0, none⟩)), (6, .slice (some ⟨bq, 0, none⟩) 5 5), (5, .string q), (0, .string s), (2, .pointer (some ⟨b2, 0, none⟩)), (3, .pointer (some ⟨b3, 0, none⟩)), (4, .pointer (some ⟨b4, 0, none⟩))])
      (fun i => blk b7 (.cells (arr5 x y z i).toArray 119 (0, 0)) :: strS (.slice (some ⟨bq, 0, none⟩) 5 5) [wa, wb, wc, wd, we] :: (rdP b4 b3 b2 v .nilIface xs ++ N))
      (fun i => i ≤ 3 ∧ (0 < i → numO wa = some x) ∧ (1 < i → numO wb = some y) ∧ (2 < i → numO we = some z)) (fun i => 3 - i) 0
      ⟨by omega, fun h => by omega, fun h => by omega, fun h => by omega⟩ ⟨rfl, rfl, rfl, rfl, rfl, rfl, rfl, rfl, rfl, trivial⟩ (fun w hw => hw.all (by repeat (exact PAll.refl))) ?_
    rintro i ⟨hi, hp1, hp2, hp3⟩
    have hcase : i = 0 ∨ i = 1 ∨ i = 2 ∨ i = 3 := by omega
    simp only [rdP, List.cons_append, List.nil_append]
    rcases hcase with rfl | rfl | rfl | rfl
    · -- round 0
      repeat ((with_reducible refine KR.seq ?_))
      refine KR.reg (by kernel_rfl) (fun a w h => by exact hno a w h) ?_
      refine KO.lss rfl rfl rfl ?_
      refine KO.nil ?_
      repeat (first | (with_reducible refine KR.seq ?_) | (with_reducible refine KQ.nextR ?_))
      refine KR.condT rfl rfl ?_
      repeat (first | (with_reducible refine KR.seq ?_) | (with_reducible refine KQ.nextR ?_) | (with_reducible refine KR.skip ?_) | (with_reducible refine KR.block ?_))
      refine KR.reg (by kernel_rfl) (fun a w h => by exact hno a w h) ?_
      refine KO.idxAg (cs := [.int .i64 0, .int .i64 1, .int .i64 4]) (i := 0) rfl rfl Tryd.underlying120 Tryd.isAgg3 Tryd.sizeOf3 rfl (by decide) rfl rfl ?_
      refine KO.as rfl rfl ?_
      refine KO.nil ?_
      repeat (first | (with_reducible refine KR.seq ?_) | (with_reducible refine KQ.nextR ?_))
      cases hn : numO wa with
      | none =>
        refine KR.reg (by kernel_rfl) (fun a w h => by exact hno a w h) ?_
        refine KO.mv rfl rfl ?_
        refine KO.mv rfl rfl ?_
        refine KO.idx0 (i := 0) rfl rfl Tryd.runUnderlying24 Tryd.sizeOf9 rfl (by decide) rfl ?_
        refine KO.ldE0 (i := 0) (sz := 1) (cf := strC) (e := wa) rfl rfl Tryd.isAgg9 (by with_reducible (repeat (first | exact Pick.head | apply Pick.tail))) (fun _ => rfl) rfl (by exact rfl) (by exact rfl) rfl ?_
        refine KO.ce (cp := []) rfl rfl rfl Tryd.call67 rfl (atoi_e w _ wa (hwz wa (by simp)) hM) ?_; rintro v' L' ⟨hR, rfl⟩; unfold atoiR at hR; rw [hn] at hR; obtain ⟨xx, TT, yy, rfl⟩ := hR
        refine KO.mv rfl rfl ?_
        refine KO.extrL rfl (by exact rfl) rfl ?_
        refine KO.extrL rfl (by exact rfl) rfl ?_
        refine KO.as rfl rfl ?_
        refine KO.as rfl rfl ?_
        refine KO.nil ?_
        repeat (first | (with_reducible refine KR.seq ?_) | (with_reducible refine KQ.nextR ?_))
        refine KR.reg (by kernel_rfl) (fun a w h => by exact hno a w h) ?_
        refine KO.mv rfl rfl ?_
        refine KO.neIf rfl (by kernel_rfl) rfl ?_
        refine KO.nil ?_
        repeat ((with_reducible refine KQ.nextR ?_))
        refine KR.condT rfl rfl ?_
        repeat ((with_reducible refine KR.seq ?_))
        refine KR.reg (by kernel_rfl) (fun a w h => by exact hno a w h) ?_
        refine KO.mki rfl (by kernel_rfl) rfl ?_
        refine KO.sto0 rfl rfl rfl (by exact rfl) (by exact Tryd.sizeOf57) (by exact rfl) (by with_reducible (repeat (first | exact Pick.head | apply Pick.tail))) (by exact rfl) ?_
        refine KO.sto0 rfl rfl rfl (by exact rfl) (by exact Tryd.sizeOf32) (by exact rfl) (by with_reducible (repeat (first | exact Pick.head | apply Pick.tail))) (by exact rfl) ?_
        refine KO.nil ?_
        repeat (first | (with_reducible refine KQ.nextR ?_) | (with_reducible refine KQ.then_ret ?_) | (with_reducible refine KQ.blk_ret ?_) | (with_reducible refine KR.ret ?_))
        refine KQ.conv (fun w hw => hw.all (M := rdP b4 b3 b2 v (errV 37 3) xs ++ N) (by repeat (first | exact PAll.refl | refine PAll.cons (by repeat (first | exact Pick.head | apply Pick.tail)) ?_ | apply PAll.drop))) ?_
        refine hret _ _ ⟨⟨_, _, rfl⟩, parseL_none (p := q) ?_ (List.mem_of_getElem? hq)⟩
        unfold parse1; rw [hws]; simp only []; rw [hn]
        all_goals (cases numO wa <;> cases numO wb <;> cases numO we <;> rfl)
      | some vv =>
        have hvx : vv = x := by rw [hx, hn]; rfl
        refine KR.reg (by kernel_rfl) (fun a w h => by exact hno a w h) ?_
        refine KO.mv rfl rfl ?_
        refine KO.mv rfl rfl ?_
        refine KO.idx0 (i := 0) rfl rfl Tryd.runUnderlying24 Tryd.sizeOf9 rfl (by decide) rfl ?_
        refine KO.ldE0 (i := 0) (sz := 1) (cf := strC) (e := wa) rfl rfl Tryd.isAgg9 (by with_reducible (repeat (first | exact Pick.head | apply Pick.tail))) (fun _ => rfl) rfl (by exact rfl) (by exact rfl) rfl ?_
        refine KO.ce (cp := []) rfl rfl rfl Tryd.call67 rfl (atoi_e w _ wa (hwz wa (by simp)) hM) ?_; rintro v' L' ⟨hR, rfl⟩; unfold atoiR at hR; rw [hn] at hR; subst hR
        refine KO.mv rfl rfl ?_
        refine KO.extrL rfl (by exact rfl) rfl ?_
        refine KO.extrL rfl (by exact rfl) rfl ?_
        refine KO.as rfl rfl ?_
        refine KO.as rfl rfl ?_
        refine KO.nil ?_
        repeat (first | (with_reducible refine KR.seq ?_) | (with_reducible refine KQ.nextR ?_))
        refine KR.reg (by kernel_rfl) (fun a w h => by exact hno a w h) ?_
        refine KO.mv rfl rfl ?_
        refine KO.neI0 rfl (by kernel_rfl) rfl ?_
        refine KO.nil ?_
        repeat ((with_reducible refine KQ.nextR ?_))
        refine KR.condF rfl rfl ?_
        repeat (first | (with_reducible refine KQ.nextR ?_) | (with_reducible refine KR.skip ?_))
        refine KR.reg (by kernel_rfl) (fun a w h => by exact hno a w h) ?_
        refine KO.mv rfl rfl ?_
        refine KO.mv rfl rfl ?_
        refine KO.idxA (i := 0) rfl rfl Tryd.runUnderlying119 Tryd.sizeOf3 rfl (by decide) rfl ?_
        refine KO.stAt (i := 0) rfl rfl rfl (by exact rfl) (by exact Tryd.sizeOf3) rfl (by with_reducible (repeat (exact Pick.head))) (by rfl) (by simp [arr5]) ?_
        refine KO.nil ?_
        repeat (first | (with_reducible refine KQ.nextR ?_) | (with_reducible refine KQ.blk_normal ?_))
        refine KR.reg (by kernel_rfl) (fun a w h => by exact hno a w h) ?_
        refine KO.add rfl rfl rfl (by omega) rfl ?_
        refine KO.mv rfl rfl ?_
        refine KO.nil ?_
        subst hvx
        refine KQ.round 1 ⟨by omega, fun h => ?_, fun h => ?_, fun h => ?_⟩ (by decide) ⟨rfl, rfl, rfl, rfl, rfl, rfl, rfl, rfl, rfl, trivial⟩ (fun w hw => hw.all (by repeat (exact PAll.refl)))
        all_goals first | omega | rfl
    · -- round 1
      repeat ((with_reducible refine KR.seq ?_))
      refine KR.reg (by kernel_rfl) (fun a w h => by exact hno a w h) ?_
      refine KO.lss rfl rfl rfl ?_
      refine KO.nil ?_
      repeat (first | (with_reducible refine KR.seq ?_) | (with_reducible refine KQ.nextR ?_))
      refine KR.condT rfl rfl ?_
      repeat (first | (with_reducible refine KR.seq ?_) | (with_reducible refine KQ.nextR ?_) | (with_reducible refine KR.skip ?_) | (with_reducible refine KR.block ?_))
      refine KR.reg (by kernel_rfl) (fun a w h => by exact hno a w h) ?_
      refine KO.idxAg (cs := [.int .i64 0, .int .i64 1, .int .i64 4]) (i := 1) rfl rfl Tryd.underlying120 Tryd.isAgg3 Tryd.sizeOf3 rfl (by decide) rfl rfl ?_
      refine KO.as rfl rfl ?_
      refine KO.nil ?_
      repeat (first | (with_reducible refine KR.seq ?_) | (with_reducible refine KQ.nextR ?_))
      cases hn : numO wb with
      | none =>
        refine KR.reg (by kernel_rfl) (fun a w h => by exact hno a w h) ?_
        refine KO.mv rfl rfl ?_
        refine KO.mv rfl rfl ?_
        refine KO.idx0 (i := 1) rfl rfl Tryd.runUnderlying24 Tryd.sizeOf9 rfl (by decide) rfl ?_
        refine KO.ldE0 (i := 1) (sz := 1) (cf := strC) (e := wb) rfl rfl Tryd.isAgg9 (by with_reducible (repeat (first | exact Pick.head | apply Pick.tail))) (fun _ => rfl) rfl (by exact rfl) (by exact rfl) rfl ?_
        refine KO.ce (cp := []) rfl rfl rfl Tryd.call67 rfl (atoi_e w _ wb (hwz wb (by simp)) hM) ?_; rintro v' L' ⟨hR, rfl⟩; unfold atoiR at hR; rw [hn] at hR; obtain ⟨xx, TT, yy, rfl⟩ := hR
        refine KO.mv rfl rfl ?_
        refine KO.extrL rfl (by exact rfl) rfl ?_
        refine KO.extrL rfl (by exact rfl) rfl ?_
        refine KO.as rfl rfl ?_
        refine KO.as rfl rfl ?_
        refine KO.nil ?_
        repeat (first | (with_reducible refine KR.seq ?_) | (with_reducible refine KQ.nextR ?_))
        refine KR.reg (by kernel_rfl) (fun a w h => by exact hno a w h) ?_
        refine KO.mv rfl rfl ?_
        refine KO.neIf rfl (by kernel_rfl) rfl ?_
        refine KO.nil ?_
        repeat ((with_reducible refine KQ.nextR ?_))
        refine KR.condT rfl rfl ?_
        repeat ((with_reducible refine KR.seq ?_))
        refine KR.reg (by kernel_rfl) (fun a w h => by exact hno a w h) ?_
        refine KO.mki rfl (by kernel_rfl) rfl ?_
        refine KO.sto0 rfl rfl rfl (by exact rfl) (by exact Tryd.sizeOf57) (by exact rfl) (by with_reducible (repeat (first | exact Pick.head | apply Pick.tail))) (by exact rfl) ?_
        refine KO.sto0 rfl rfl rfl (by exact rfl) (by exact Tryd.sizeOf32) (by exact rfl) (by with_reducible (repeat (first | exact Pick.head | apply Pick.tail))) (by exact rfl) ?_
        refine KO.nil ?_
        repeat (first | (with_reducible refine KQ.nextR ?_) | (with_reducible refine KQ.then_ret ?_) | (with_reducible refine KQ.blk_ret ?_) | (with_reducible refine KR.ret ?_))
        refine KQ.conv (fun w hw => hw.all (M := rdP b4 b3 b2 v (errV 37 3) xs ++ N) (by repeat (first | exact PAll.refl | refine PAll.cons (by repeat (first | exact Pick.head | apply Pick.tail)) ?_ | apply PAll.drop))) ?_
        refine hret _ _ ⟨⟨_, _, rfl⟩, parseL_none (p := q) ?_ (List.mem_of_getElem? hq)⟩
        unfold parse1; rw [hws]; simp only []; rw [hn]
        all_goals (cases numO wa <;> cases numO wb <;> cases numO we <;> rfl)
      | some vv =>
        have hvx : vv = y := by rw [hy, hn]; rfl
        refine KR.reg (by kernel_rfl) (fun a w h => by exact hno a w h) ?_
        refine KO.mv rfl rfl ?_
        refine KO.mv rfl rfl ?_
        refine KO.idx0 (i := 1) rfl rfl Tryd.runUnderlying24 Tryd.sizeOf9 rfl (by decide) rfl ?_
        refine KO.ldE0 (i := 1) (sz := 1) (cf := strC) (e := wb) rfl rfl Tryd.isAgg9 (by with_reducible (repeat (first | exact Pick.head | apply Pick.tail))) (fun _ => rfl) rfl (by exact rfl) (by exact rfl) rfl ?_
        refine KO.ce (cp := []) rfl rfl rfl Tryd.call67 rfl (atoi_e w _ wb (hwz wb (by simp)) hM) ?_; rintro v' L' ⟨hR, rfl⟩; unfold atoiR at hR; rw [hn] at hR; subst hR
        refine KO.mv rfl rfl ?_
        refine KO.extrL rfl (by exact rfl) rfl ?_
        refine KO.extrL rfl (by exact rfl) rfl ?_
        refine KO.as rfl rfl ?_
        refine KO.as rfl rfl ?_
        refine KO.nil ?_
        repeat (first | (with_reducible refine KR.seq ?_) | (with_reducible refine KQ.nextR ?_))
        refine KR.reg (by kernel_rfl) (fun a w h => by exact hno a w h) ?_
        refine KO.mv rfl rfl ?_
        refine KO.neI0 rfl (by kernel_rfl) rfl ?_
        refine KO.nil ?_
        repeat ((with_reducible refine KQ.nextR ?_))
        refine KR.condF rfl rfl ?_
        repeat (first | (with_reducible refine KQ.nextR ?_) | (with_reducible refine KR.skip ?_))
        refine KR.reg (by kernel_rfl) (fun a w h => by exact hno a w h) ?_
        refine KO.mv rfl rfl ?_
        refine KO.mv rfl rfl ?_
        refine KO.idxA (i := 1) rfl rfl Tryd.runUnderlying119 Tryd.sizeOf3 rfl (by decide) rfl ?_
        refine KO.stAt (i := 1) rfl rfl rfl (by exact rfl) (by exact Tryd.sizeOf3) rfl (by with_reducible (repeat (exact Pick.head))) (by rfl) (by simp [arr5]) ?_
        refine KO.nil ?_
        repeat (first | (with_reducible refine KQ.nextR ?_) | (with_reducible refine KQ.blk_normal ?_))
        refine KR.reg (by kernel_rfl) (fun a w h => by exact hno a w h) ?_
        refine KO.add rfl rfl rfl (by omega) rfl ?_
        refine KO.mv rfl rfl ?_
        refine KO.nil ?_
        subst hvx
        refine KQ.round 2 ⟨by omega, fun h => ?_, fun h => ?_, fun h => ?_⟩ (by decide) ⟨rfl, rfl, rfl, rfl, rfl, rfl, rfl, rfl, rfl, trivial⟩ (fun w hw => hw.all (by repeat (exact PAll.refl)))
        all_goals first | omega | rfl | exact hp1 (by omega)
    · -- round 2
      repeat ((with_reducible refine KR.seq ?_))
      refine KR.reg (by kernel_rfl) (fun a w h => by exact hno a w h) ?_
      refine KO.lss rfl rfl rfl ?_
      refine KO.nil ?_
      repeat (first | (with_reducible refine KR.seq ?_) | (with_reducible refine KQ.nextR ?_))
      refine KR.condT rfl rfl ?_
      repeat (first | (with_reducible refine KR.seq ?_) | (with_reducible refine KQ.nextR ?_) | (with_reducible refine KR.skip ?_) | (with_reducible refine KR.block ?_))
      refine KR.reg (by kernel_rfl) (fun a w h => by exact hno a w h) ?_
      refine KO.idxAg (cs := [.int .i64 0, .int .i64 1, .int .i64 4]) (i := 2) rfl rfl Tryd.underlying120 Tryd.isAgg3 Tryd.sizeOf3 rfl (by decide) rfl rfl ?_
      refine KO.as rfl rfl ?_
      refine KO.nil ?_
      repeat (first | (with_reducible refine KR.seq ?_) | (with_reducible refine KQ.nextR ?_))
      cases hn : numO we with
      | none =>
        refine KR.reg (by kernel_rfl) (fun a w h => by exact hno a w h) ?_
        refine KO.mv rfl rfl ?_
        refine KO.mv rfl rfl ?_
        refine KO.idx0 (i := 4) rfl rfl Tryd.runUnderlying24 Tryd.sizeOf9 rfl (by decide) rfl ?_
        refine KO.ldE0 (i := 4) (sz := 1) (cf := strC) (e := we) rfl rfl Tryd.isAgg9 (by with_reducible (repeat (first | exact Pick.head | apply Pick.tail))) (fun _ => rfl) rfl (by exact rfl) (by exact rfl) rfl ?_
        refine KO.ce (cp := []) rfl rfl rfl Tryd.call67 rfl (atoi_e w _ we (hwz we (by simp)) hM) ?_; rintro v' L' ⟨hR, rfl⟩; unfold atoiR at hR; rw [hn] at hR; obtain ⟨xx, TT, yy, rfl⟩ := hR
        refine KO.mv rfl rfl ?_
        refine KO.extrL rfl (by exact rfl) rfl ?_
        refine KO.extrL rfl (by exact rfl) rfl ?_
        refine KO.as rfl rfl ?_
        refine KO.as rfl rfl ?_
        refine KO.nil ?_
        repeat (first | (with_reducible refine KR.seq ?_) | (with_reducible refine KQ.nextR ?_))
        refine KR.reg (by kernel_rfl) (fun a w h => by exact hno a w h) ?_
        refine KO.mv rfl rfl ?_
        refine KO.neIf rfl (by kernel_rfl) rfl ?_
        refine KO.nil ?_
        repeat ((with_reducible refine KQ.nextR ?_))
        refine KR.condT rfl rfl ?_
        repeat ((with_reducible refine KR.seq ?_))
        refine KR.reg (by kernel_rfl) (fun a w h => by exact hno a w h) ?_
        refine KO.mki rfl (by kernel_rfl) rfl ?_
        refine KO.sto0 rfl rfl rfl (by exact rfl) (by exact Tryd.sizeOf57) (by exact rfl) (by with_reducible (repeat (first | exact Pick.head | apply Pick.tail))) (by exact rfl) ?_
        refine KO.sto0 rfl rfl rfl (by exact rfl) (by exact Tryd.sizeOf32) (by exact rfl) (by with_reducible (repeat (first | exact Pick.head | apply Pick.tail))) (by exact rfl) ?_
        refine KO.nil ?_
        repeat (first | (with_reducible refine KQ.nextR ?_) | (with_reducible refine KQ.then_ret ?_) | (with_reducible refine KQ.blk_ret ?_) | (with_reducible refine KR.ret ?_))
        refine KQ.conv (fun w hw => hw.all (M := rdP b4 b3 b2 v (errV 37 3) xs ++ N) (by repeat (first | exact PAll.refl | refine PAll.cons (by repeat (first | exact Pick.head | apply Pick.tail)) ?_ | apply PAll.drop))) ?_
        refine hret _ _ ⟨⟨_, _, rfl⟩, parseL_none (p := q) ?_ (List.mem_of_getElem? hq)⟩
        unfold parse1; rw [hws]; simp only []; rw [hn]
        all_goals (cases numO wa <;> cases numO wb <;> cases numO we <;> rfl)
      | some vv =>
        have hvx : vv = z := by rw [hz, hn]; rfl
        refine KR.reg (by kernel_rfl) (fun a w h => by exact hno a w h) ?_
        refine KO.mv rfl rfl ?_
        refine KO.mv rfl rfl ?_
        refine KO.idx0 (i := 4) rfl rfl Tryd.runUnderlying24 Tryd.sizeOf9 rfl (by decide) rfl ?_
        refine KO.ldE0 (i := 4) (sz := 1) (cf := strC) (e := we) rfl rfl Tryd.isAgg9 (by with_reducible (repeat (first | exact Pick.head | apply Pick.tail))) (fun _ => rfl) rfl (by exact rfl) (by exact rfl) rfl ?_
        refine KO.ce (cp := []) rfl rfl rfl Tryd.call67 rfl (atoi_e w _ we (hwz we (by simp)) hM) ?_; rintro v' L' ⟨hR, rfl⟩; unfold atoiR at hR; rw [hn] at hR; subst hR
        refine KO.mv rfl rfl ?_
        refine KO.extrL rfl (by exact rfl) rfl ?_
        refine KO.extrL rfl (by exact rfl) rfl ?_
        refine KO.as rfl rfl ?_
        refine KO.as rfl rfl ?_
        refine KO.nil ?_
        repeat (first | (with_reducible refine KR.seq ?_) | (with_reducible refine KQ.nextR ?_))
        refine KR.reg (by kernel_rfl) (fun a w h => by exact hno a w h) ?_
        refine KO.mv rfl rfl ?_
        refine KO.neI0 rfl (by kernel_rfl) rfl ?_
        refine KO.nil ?_
        repeat ((with_reducible refine KQ.nextR ?_))
        refine KR.condF rfl rfl ?_
        repeat (first | (with_reducible refine KQ.nextR ?_) | (with_reducible refine KR.skip ?_))
        refine KR.reg (by kernel_rfl) (fun a w h => by exact hno a w h) ?_
        refine KO.mv rfl rfl ?_
        refine KO.mv rfl rfl ?_
        refine KO.idxA (i := 4) rfl rfl Tryd.runUnderlying119 Tryd.sizeOf3 rfl (by decide) rfl ?_
        refine KO.stAt (i := 4) rfl rfl rfl (by exact rfl) (by exact Tryd.sizeOf3) rfl (by with_reducible (repeat (exact Pick.head))) (by rfl) (by simp [arr5]) ?_
        refine KO.nil ?_
        repeat (first | (with_reducible refine KQ.nextR ?_) | (with_reducible refine KQ.blk_normal ?_))
        refine KR.reg (by kernel_rfl) (fun a w h => by exact hno a w h) ?_
        refine KO.add rfl rfl rfl (by omega) rfl ?_
        refine KO.mv rfl rfl ?_
        refine KO.nil ?_
        subst hvx
        refine KQ.round 3 ⟨by omega, fun h => ?_, fun h => ?_, fun h => ?_⟩ (by decide) ⟨rfl, rfl, rfl, rfl, rfl, rfl, rfl, rfl, rfl, trivial⟩ (fun w hw => hw.all (by repeat (exact PAll.refl)))
        all_goals first | rfl | exact hp1 (by omega) | exact hp2 (by omega)
    · repeat ((with_reducible refine KR.seq ?_))
      refine KR.reg (by kernel_rfl) (fun a w h => by exact hno a w h) ?_
      refine KO.lss rfl rfl rfl ?_
      refine KO.nil ?_
      repeat (first | (with_reducible refine KR.seq ?_) | (with_reducible refine KQ.nextR ?_))
      refine KR.condF rfl rfl ?_
      repeat (first | (with_reducible refine KQ.nextR ?_) | (with_reducible refine KQ.then_exit ?_) | (with_reducible refine KQ.blk_exit ?_) | (with_reducible refine KR.exit ?_))
      refine KR.draw [.read, .pure, .read, .pure, .read, .pure, .pure, .read, .pure, .pure, .read, .pure, .read, .pure, .keep, .write, .write] [0, 1, 2, 3, 4, 5, 6, 7, 8, 9, 10, 11, 12, 13, 14, 15, 16] (by kernel_rfl) (by kernel_rfl) (by kernel_rfl) (fun a w h => by exact hno a w h) ?_
      refine KO.ld rfl rfl Tryd.isAgg57 (by with_reducible (repeat (first | exact Pick.head | apply Pick.tail))) (by exact rfl) rfl ?_
      refine KO.idxA (i := 0) rfl rfl Tryd.runUnderlying119 Tryd.sizeOf3 rfl (by decide) rfl ?_
      refine KO.ld rfl rfl Tryd.isAgg3 (by with_reducible (repeat (exact Pick.head))) (by exact rfl) rfl ?_
      refine KO.idxA (i := 1) rfl rfl Tryd.runUnderlying119 Tryd.sizeOf3 rfl (by decide) rfl ?_
      refine KO.ld rfl rfl Tryd.isAgg3 (by with_reducible (repeat (exact Pick.head))) (by exact rfl) rfl ?_
      refine KO.mv rfl rfl ?_
      refine KO.idx0 (i := 2) rfl rfl Tryd.runUnderlying24 Tryd.sizeOf9 rfl (by decide) rfl ?_
      refine KO.ldE0 (i := 2) (sz := 1) (cf := strC) (e := wc) rfl rfl Tryd.isAgg9 (by with_reducible (repeat (first | exact Pick.head | apply Pick.tail))) (fun _ => rfl) rfl (by exact rfl) (by exact rfl) rfl ?_
      refine KO.mv rfl rfl ?_
      refine KO.idx0 (i := 3) rfl rfl Tryd.runUnderlying24 Tryd.sizeOf9 rfl (by decide) rfl ?_
      refine KO.ldE0 (i := 3) (sz := 1) (cf := strC) (e := wd) rfl rfl Tryd.isAgg9 (by with_reducible (repeat (first | exact Pick.head | apply Pick.tail))) (fun _ => rfl) rfl (by exact rfl) (by exact rfl) rfl ?_
      refine KO.idxA (i := 4) rfl rfl Tryd.runUnderlying119 Tryd.sizeOf3 rfl (by decide) rfl ?_
      refine KO.ld rfl rfl Tryd.isAgg3 (by with_reducible (repeat (exact Pick.head))) (by exact rfl) rfl ?_
      refine KO.bldN (pl := [(0, 1), (1, 1), (2, 1), (3, 1), (4, 1)]) rfl Tryd.zeroValue50 Tryd.runUnderlying50 (by intro w; simp [Tryd.sizeOf3, Tryd.sizeOf9]) (by exact rfl) rfl ?_
      refine KO.bs1 (z := (Value.agg #[.int .i64 0, .int .i64 0, .string ⟨#[]⟩, .string ⟨#[]⟩, .int .i64 0])) (sz := 5) (by' := 56) rfl rfl Tryd.underlying57 (by kernel_rfl) (by exact rfl) (by exact rfl) (by decide) (by decide) rfl ?_; intro b58
      refine KO.app (z := Value.agg #[.int .i64 0, .int .i64 0, .string ⟨#[]⟩, .string ⟨#[]⟩, .int .i64 0]) (sz := 5) (by' := 56) rfl rfl rfl (by with_reducible (repeat (first | exact Pick.head | apply Pick.tail))) (by with_reducible (repeat (exact Pick.head))) Tryd.underlying57 msr_info rfl (⟨x, y, wc, wd, z⟩ : Ms) (by exact rfl) (by exact rfl) (by exact rfl) (by omega) (by decide) rfl ?_; intro v'; refine KO.fact (fun w hw => SL_form hw) ?_; rintro ⟨sa, cp, rfl, _⟩
      refine KO.sto0 rfl rfl rfl (by exact rfl) (by exact Tryd.sizeOf57) (by exact rfl) (by with_reducible (repeat (first | exact Pick.head | apply Pick.tail))) (by exact rfl) ?_
      refine KO.nil ?_
      repeat ((with_reducible refine KQ.blk_normal ?_))
      refine KQ.conv (fun w hw => hw.all (M := rdP b4 b3 b2 (.slice sa (xs ++ [(⟨x, y, wc, wd, z⟩ : Ms)]).length cp) .nilIface (xs ++ [(⟨x, y, wc, wd, z⟩ : Ms)]) ++ N) (by repeat (first | exact PAll.refl | refine PAll.cons (by repeat (first | exact Pick.head | apply Pick.tail)) ?_ | apply PAll.drop))) ?_
      have hpm : parse1 q = some ⟨x, y, wc, wd, z⟩ := by
        unfold parse1; rw [hws]; simp only []; rw [hp1 (by omega), hp2 (by omega), hp3 (by omega)]
      refine hgo _ _ ⟨_, _, rfl, ?_⟩
      rw [take_succ_some hq, parseL_snoc hxs, hpm]; rfl
  · rintro b M ⟨v, xs, rfl, hxs⟩
    rw [List.take_length] at hxs
    have hxl : xs.length ≤ 100000 := by have := parseL_len hxs; omega
    have hms : ∀ m ∈ xs, m.body.size ≤ maxLen ∧ m.queue.size ≤ maxLen := fun m hm => by
      have := parseL_size (B := 10000) hxs (fun p hp => by have := pcs_size hp; omega) m hm
      unfold maxLen; omega
    have hmr : mrd s = if badI xs = none ∧ writeS xs = s then some xs else none := by unfold mrd; rw [if_neg h0, hxs]
    rw [hmr]
    simp only [rdP]
    repeat (first | (with_reducible refine K.seq ?_) | (with_reducible refine KQ.next ?_) | (with_reducible refine KQ.blk_normal ?_))
    refine K.fact (fun w hw => SL_form (hw.pick (.tail (.tail (.tail (.tail .head)))))) ?_
    rintro ⟨sa, cp, rfl, _⟩
    cases hb : badI xs with
    | some kb =>
      rw [if_neg (by simp)]
      refine K.reg ?_
      refine KO.ld rfl rfl Tryd.isAgg57 (by with_reducible (repeat (first | exact Pick.head | apply Pick.tail))) (by exact rfl) rfl ?_
      refine KO.ce (cp := []) rfl rfl rfl Tryd.call26 rfl (mwrite_e w _ _ xs (fun w' hw' => RdA.ofSL (fun _ => rfl) (by with_reducible (repeat (first | exact Pick.head | apply Pick.tail))) hw') hT hms hxl) ?_; rintro v' L' hR; unfold MwR at hR; rw [hb] at hR; obtain ⟨be, rfl, rfl⟩ := hR; unfold atV
      refine KO.mv rfl rfl ?_
      refine KO.extrL rfl (by exact rfl) rfl ?_
      refine KO.extrL rfl (by exact rfl) rfl ?_
      refine KO.as rfl rfl ?_
      refine KO.as rfl rfl ?_
      refine KO.nil ?_
      repeat (first | (with_reducible refine K.seq ?_) | (with_reducible refine KQ.next ?_))
      refine K.reg ?_
      refine KO.mv rfl rfl ?_
      refine KO.neIf rfl (by kernel_rfl) rfl ?_
      refine KO.mv rfl rfl ?_
      (refine KO.no rfl rfl ?_ rfl ?_; (focus rfl))
      (refine KO.no rfl rfl ?_ rfl ?_; (focus rfl))
      (refine KO.no rfl rfl ?_ rfl ?_; (focus rfl))
      (refine KO.pickT rfl ?_ rfl rfl ?_; (focus rfl))
      refine KO.nil ?_
      repeat ((with_reducible refine KQ.next ?_))
      refine K.condT rfl rfl ?_
      repeat ((with_reducible refine K.seq ?_))
      refine K.reg ?_
      refine KO.mki rfl (by kernel_rfl) rfl ?_
      refine KO.sto0 rfl rfl rfl (by exact rfl) (by exact Tryd.sizeOf57) (by exact rfl) (by with_reducible (repeat (first | exact Pick.head | apply Pick.tail))) (by exact rfl) ?_
      refine KO.sto0 rfl rfl rfl (by exact rfl) (by exact Tryd.sizeOf32) (by exact rfl) (by with_reducible (repeat (first | exact Pick.head | apply Pick.tail))) (by exact rfl) ?_
      refine KO.nil ?_
      repeat (first | (with_reducible refine KQ.next ?_) | (with_reducible refine KQ.then_ret ?_) | (with_reducible refine K.ret ?_))
      refine KQ.retM2C1 (by with_reducible (repeat (first | exact Pick.head | apply Pick.tail))) rfl rfl rfl Tryd.isAgg57 Tryd.isAgg32 (by with_reducible (repeat (first | exact Pick.head | apply Pick.tail))) (by with_reducible (repeat (exact Pick.head))) (fun w' hs => ⟨_, _, rfl, ⟨(by exact rfl), rfl⟩, hw.below_step hs.below, hs.below⟩)
    | none =>
      by_cases hws : writeS xs = s
      · rw [if_pos ⟨rfl, hws⟩]
        refine K.reg ?_
        refine KO.ld rfl rfl Tryd.isAgg57 (by with_reducible (repeat (first | exact Pick.head | apply Pick.tail))) (by exact rfl) rfl ?_
        refine KO.ce (cp := []) rfl rfl rfl Tryd.call26 rfl (mwrite_e w _ _ xs (fun w' hw' => RdA.ofSL (fun _ => rfl) (by with_reducible (repeat (first | exact Pick.head | apply Pick.tail))) hw') hT hms hxl) ?_; rintro v' L' hR; unfold MwR at hR; rw [hb] at hR; obtain ⟨rfl, rfl⟩ := hR
        refine KO.mv rfl rfl ?_
        refine KO.extrL rfl (by exact rfl) rfl ?_
        refine KO.extrL rfl (by exact rfl) rfl ?_
        refine KO.as rfl rfl ?_
        refine KO.as rfl rfl ?_
        refine KO.nil ?_
        repeat (first | (with_reducible refine K.seq ?_) | (with_reducible refine KQ.next ?_))
        refine K.reg ?_
        refine KO.mv rfl rfl ?_
        refine KO.neI0 rfl (by kernel_rfl) rfl ?_
        refine KO.mv rfl rfl ?_
        (refine KO.on rfl rfl ?_ ?_; (focus rfl); (refine KO.mv rfl rfl ?_))
        (refine KO.on rfl rfl ?_ ?_; (focus rfl); (refine KO.mv rfl rfl ?_))
        (refine KO.on rfl rfl ?_ ?_; (focus rfl); (refine KO.neS rfl rfl rfl ?_))
        (refine KO.pickF rfl ?_ rfl rfl ?_; (focus rfl))
        refine KO.nil ?_
        repeat ((with_reducible refine KQ.next ?_))
        refine K.condF rfl (by simp [hws]) ?_
        repeat (first | (with_reducible refine K.seq ?_) | (with_reducible refine KQ.next ?_) | (with_reducible refine K.skip ?_))
        refine K.reg ?_
        refine KO.ld rfl rfl Tryd.isAgg57 (by with_reducible (repeat (first | exact Pick.head | apply Pick.tail))) (by exact rfl) rfl ?_
        refine KO.sto0 rfl rfl rfl (by exact rfl) (by exact Tryd.sizeOf57) (by exact rfl) (by with_reducible (repeat (first | exact Pick.head | apply Pick.tail))) (by exact rfl) ?_
        refine KO.sto0 rfl rfl rfl (by exact rfl) (by exact Tryd.sizeOf32) (by exact rfl) (by with_reducible (repeat (first | exact Pick.head | apply Pick.tail))) (by exact rfl) ?_
        refine KO.nil ?_
        repeat (first | (with_reducible refine KQ.next ?_) | (with_reducible refine K.ret ?_))
        refine KQ.retM2C1 (by with_reducible (repeat (first | exact Pick.head | apply Pick.tail))) rfl rfl rfl Tryd.isAgg57 Tryd.isAgg32 (by with_reducible (repeat (first | exact Pick.head | apply Pick.tail))) (by with_reducible (repeat (exact Pick.head))) (fun w' hs => ⟨_, _, rfl, ⟨_, rfl, rfl⟩, ?_, hs.below⟩)
        exact hw.stack (M := [SL 50 5 msC (.slice sa xs.length cp) xs]) (hs.all (by with_reducible repeat (first | exact PAll.nil | refine PAll.cons (by with_reducible repeat (first | exact Pick.head | apply Pick.tail)) ?_)))
      · rw [if_neg (fun h => hws h.2)]
        refine K.reg ?_
        refine KO.ld rfl rfl Tryd.isAgg57 (by with_reducible (repeat (first | exact Pick.head | apply Pick.tail))) (by exact rfl) rfl ?_
        refine KO.ce (cp := []) rfl rfl rfl Tryd.call26 rfl (mwrite_e w _ _ xs (fun w' hw' => RdA.ofSL (fun _ => rfl) (by with_reducible (repeat (first | exact Pick.head | apply Pick.tail))) hw') hT hms hxl) ?_; rintro v' L' hR; unfold MwR at hR; rw [hb] at hR; obtain ⟨rfl, rfl⟩ := hR
        refine KO.mv rfl rfl ?_
        refine KO.extrL rfl (by exact rfl) rfl ?_
        refine KO.extrL rfl (by exact rfl) rfl ?_
        refine KO.as rfl rfl ?_
        refine KO.as rfl rfl ?_
        refine KO.nil ?_
        repeat (first | (with_reducible refine K.seq ?_) | (with_reducible refine KQ.next ?_))
        refine K.reg ?_
        refine KO.mv rfl rfl ?_
        refine KO.neI0 rfl (by kernel_rfl) rfl ?_
        refine KO.mv rfl rfl ?_
        (refine KO.on rfl rfl ?_ ?_; (focus rfl); (refine KO.mv rfl rfl ?_))
        (refine KO.on rfl rfl ?_ ?_; (focus rfl); (refine KO.mv rfl rfl ?_))
        (refine KO.on rfl rfl ?_ ?_; (focus rfl); (refine KO.neS rfl rfl rfl ?_))
        (refine KO.pickF rfl ?_ rfl rfl ?_; (focus rfl))
        refine KO.nil ?_
        repeat ((with_reducible refine KQ.next ?_))
        refine K.condT rfl (by simp [hws]) ?_
        repeat ((with_reducible refine K.seq ?_))
        refine K.reg ?_
        refine KO.mki rfl (by kernel_rfl) rfl ?_
        refine KO.sto0 rfl rfl rfl (by exact rfl) (by exact Tryd.sizeOf57) (by exact rfl) (by with_reducible (repeat (first | exact Pick.head | apply Pick.tail))) (by exact rfl) ?_
        refine KO.sto0 rfl rfl rfl (by exact rfl) (by exact Tryd.sizeOf32) (by exact rfl) (by with_reducible (repeat (first | exact Pick.head | apply Pick.tail))) (by exact rfl) ?_
        refine KO.nil ?_
        repeat (first | (with_reducible refine KQ.next ?_) | (with_reducible refine KQ.then_ret ?_) | (with_reducible refine K.ret ?_))
        refine KQ.retM2C1 (by with_reducible (repeat (first | exact Pick.head | apply Pick.tail))) rfl rfl rfl Tryd.isAgg57 Tryd.isAgg32 (by with_reducible (repeat (first | exact Pick.head | apply Pick.tail))) (by with_reducible (repeat (exact Pick.head))) (fun w' hs => ⟨_, _, rfl, ⟨(by exact rfl), rfl⟩, hw.below_step hs.below, hs.below⟩)
  · rintro b M ⟨⟨v, xs, rfl⟩, hx⟩
    have hmr : mrd s = none := by unfold mrd; rw [if_neg h0, hx]
    rw [hmr]
    simp only [rdP]
    repeat (first | (with_reducible refine KQ.then_ret ?_) | (with_reducible refine KQ.blk_ret ?_))
    refine KQ.retM2C1 (by with_reducible (repeat (exact Pick.head))) rfl rfl rfl Tryd.isAgg57 Tryd.isAgg32 (by with_reducible (repeat (first | exact Pick.head | apply Pick.tail))) (by with_reducible (repeat (first | exact Pick.head | apply Pick.tail))) (fun w' hs => ⟨_, _, rfl, ⟨(by exact rfl), rfl⟩, hw.below_step hs.below, hs.below⟩)
end Go.Proofs.YtjhogocabcdjbaaDoor
/- waybillkeep.MsgBack: the walk -/
namespace Go.Proofs.YtjhogocabcdjbaaDoor
open Go Go.RowKit WB
def ksmallB (m : Ms) : Bool := decide (m.body.size ≤ 60) && decide (m.queue.size ≤ 60)
def ksmallsB (xs : List Ms) : Bool := decide (xs.length ≤ 60) && xs.all ksmallB
theorem ksmalls_e (w0 : World) (L : List HP) (v : Value) (xs : List Ms) (hr : ∀ w, St w0 L w → RdA w 5 msC v xs) : KE Tryd.prog 39 #[v] w0 L (fun u M => u = .bool (ksmallsB xs) ∧ M = L) := by
  refine KE.mk (n := 29) Tryd.func39 rfl Tryd.ntmps39 (by simp) ?_
  intro w hw
  obtain ⟨sa, cap, rfl, hc⟩ := hr w hw
  have fin : ∀ (b : Bool) (w' : World) (M : List HP), b = ksmallsB xs → St w M w' → ∃ v L', Ending.returned (.bool b) = Ending.returned v ∧ (v = .bool (ksmallsB xs) ∧ L' = L) ∧ St w0 L' w' ∧ Below w.heap.size w w' := fun b w' M e hs => ⟨_, _, rfl, ⟨by rw [e], rfl⟩, hw.below_step hs.below, hs.below⟩
  repeat ((with_reducible refine K.seq ?_))
  refine K.reg ?_
  refine KO.as rfl rfl ?_
  refine KO.nil ?_
  repeat (first | (with_reducible refine K.seq ?_) | (with_reducible refine KQ.next ?_))
  refine K.reg ?_
  refine KO.mv rfl rfl ?_
  refine KO.len rfl Tryd.underlying57 rfl ?_
  refine KO.gtr rfl rfl rfl ?_
  refine KO.nil ?_
  repeat ((with_reducible refine KQ.next ?_))
  refine K.condD rfl (fun h => ?_) (fun h => ?_)
  · have h1 : ¬ xs.length ≤ 60 := by omega
    repeat ((with_reducible refine K.seq ?_))
    refine K.reg ?_
    refine KO.as rfl rfl ?_
    refine KO.nil ?_
    repeat (first | (with_reducible refine KQ.next ?_) | (with_reducible refine KQ.then_ret ?_) | (with_reducible refine K.ret ?_))
    exact KQ.ret1 rfl rfl (fun w' hs => fin _ w' _ (by simp [ksmallsB, h1]) hs)
  have h1 : xs.length ≤ 60 := by omega
  repeat (first | (with_reducible refine K.seq ?_) | (with_reducible refine KQ.next ?_) | (with_reducible refine K.skip ?_))
  refine K.reg ?_
  refine KO.as rfl rfl ?_
  refine KO.nil ?_
  repeat (first | (with_reducible refine KQ.next ?_) | (with_reducible refine K.block ?_))
  refine K.loop (fun k : Nat => [(0, .slice sa xs.length cap), (3, .int .i64 (k : Nat))]) (fun _ => []) (fun k => k ≤ xs.length ∧ ∀ (j : Nat) m, j < k → xs[j]? = some m → ksmallB m = true) (fun k => xs.length - k) 0
    ⟨Nat.zero_le _, fun j m h => by omega⟩ ⟨rfl, rfl, trivial⟩ (fun _ h => h) ?_
  rintro k ⟨hk, hall⟩
  repeat ((with_reducible refine K.seq ?_))
  refine K.reg ?_
  refine KO.mv rfl rfl ?_
  refine KO.mv rfl rfl ?_
  refine KO.len rfl Tryd.underlying57 rfl ?_
  refine KO.lss rfl rfl rfl ?_
  refine KO.nil ?_
  repeat ((with_reducible refine KQ.next ?_))
  refine K.condD rfl (fun h2 => ?_) (fun h2 => ?_)
  · obtain ⟨m, hm⟩ : ∃ e, xs[k]? = some e := ⟨xs[k], List.getElem?_eq_getElem (by omega)⟩
    obtain ⟨ad, rfl, hh⟩ := hc k m hm
    have hf2 : w.cell? ((ad.add (k * 5)).add 2) = some (.string m.body) := hh 2 _ rfl
    have hf3 : w.cell? ((ad.add (k * 5)).add 3) = some (.string m.queue) := hh 3 _ rfl
    repeat (first | (with_reducible refine K.seq ?_) | (with_reducible refine KQ.next ?_) | (with_reducible refine K.skip ?_) | (with_reducible refine K.block ?_))
    by_cases g1 : (m.body.size : Int) > 60
    · have h6 : ksmallB m = false := by unfold ksmallB; have : ¬ m.body.size ≤ 60 := by omega
                                        simp [this]
      refine K.reg ?_
      refine KO.mv rfl rfl ?_
      refine KO.mv rfl rfl ?_
      refine KO.idxH rfl rfl Tryd.runUnderlying57 Tryd.sizeOf50 (by exact rfl) (by omega) rfl ?_
      refine KO.fldH (off := 2) rfl Tryd.runUnderlying50 rfl rfl Tryd.sizeOf9 rfl ?_
      refine KO.ld0 rfl rfl Tryd.isAgg9 (by assumption) rfl ?_
      refine KO.lenS rfl Tryd.underlying9 rfl ?_
      refine KO.gtr rfl rfl rfl ?_
      refine KO.mv rfl rfl ?_
      (refine KO.no rfl rfl ?_ rfl ?_; (focus (simp only [decide_eq_true_eq, decide_eq_false_iff_not, Bool.not_eq_true, Bool.not_true, Bool.not_false, ne_eq]; omega)))
      (refine KO.no rfl rfl ?_ rfl ?_; (focus (simp only [decide_eq_true_eq, decide_eq_false_iff_not, Bool.not_eq_true, Bool.not_true, Bool.not_false, ne_eq]; omega)))
      (refine KO.no rfl rfl ?_ rfl ?_; (focus (simp only [decide_eq_true_eq, decide_eq_false_iff_not, Bool.not_eq_true, Bool.not_true, Bool.not_false, ne_eq]; omega)))
      (refine KO.no rfl rfl ?_ rfl ?_; (focus (simp only [decide_eq_true_eq, decide_eq_false_iff_not, Bool.not_eq_true, Bool.not_true, Bool.not_false, ne_eq]; omega)))
      (refine KO.no rfl rfl ?_ rfl ?_; (focus (simp only [decide_eq_true_eq, decide_eq_false_iff_not, Bool.not_eq_true, Bool.not_true, Bool.not_false, ne_eq]; omega)))
      (refine KO.no rfl rfl ?_ rfl ?_; (focus (simp only [decide_eq_true_eq, decide_eq_false_iff_not, Bool.not_eq_true, Bool.not_true, Bool.not_false, ne_eq]; omega)))
      (refine KO.no rfl rfl ?_ rfl ?_; (focus (simp only [decide_eq_true_eq, decide_eq_false_iff_not, Bool.not_eq_true, Bool.not_true, Bool.not_false, ne_eq]; omega)))
      (refine KO.pickT rfl ?_ rfl rfl ?_; (focus (simp only [decide_eq_true_eq, decide_eq_false_iff_not, Bool.not_eq_true, Bool.not_true, Bool.not_false, ne_eq]; omega)))
      refine KO.nil ?_
      repeat ((with_reducible refine KQ.next ?_))
      refine K.condT rfl rfl ?_
      repeat ((with_reducible refine K.seq ?_))
      refine K.reg ?_
      refine KO.as rfl rfl ?_
      refine KO.nil ?_
      repeat (first | (with_reducible refine KQ.next ?_) | (with_reducible refine KQ.then_ret ?_) | (with_reducible refine KQ.blk_ret ?_) | (with_reducible refine K.ret ?_))
      refine KQ.ret1 rfl rfl (fun w' hs => fin _ w' _ ?_ hs)
      have : xs.all ksmallB = false := List.all_eq_false.2 ⟨m, List.mem_of_getElem? hm, by simp [h6]⟩
      simp [ksmallsB, this]
    by_cases g2 : (m.queue.size : Int) > 60
    · have h6 : ksmallB m = false := by unfold ksmallB; have : ¬ m.queue.size ≤ 60 := by omega
                                        simp [this]
      refine K.reg ?_
      refine KO.mv rfl rfl ?_
      refine KO.mv rfl rfl ?_
      refine KO.idxH rfl rfl Tryd.runUnderlying57 Tryd.sizeOf50 (by exact rfl) (by omega) rfl ?_
      refine KO.fldH (off := 2) rfl Tryd.runUnderlying50 rfl rfl Tryd.sizeOf9 rfl ?_
      refine KO.ld0 rfl rfl Tryd.isAgg9 (by assumption) rfl ?_
      refine KO.lenS rfl Tryd.underlying9 rfl ?_
      refine KO.gtr rfl rfl rfl ?_
      refine KO.mv rfl rfl ?_
      (refine KO.on rfl rfl ?_ ?_; (focus (simp only [decide_eq_true_eq, decide_eq_false_iff_not, Bool.not_eq_true, Bool.not_true, Bool.not_false, ne_eq]; omega)); (refine KO.mv rfl rfl ?_))
      (refine KO.on rfl rfl ?_ ?_; (focus (simp only [decide_eq_true_eq, decide_eq_false_iff_not, Bool.not_eq_true, Bool.not_true, Bool.not_false, ne_eq]; omega)); (refine KO.mv rfl rfl ?_))
      (refine KO.on rfl rfl ?_ ?_; (focus (simp only [decide_eq_true_eq, decide_eq_false_iff_not, Bool.not_eq_true, Bool.not_true, Bool.not_false, ne_eq]; omega)); (refine KO.idxH rfl rfl Tryd.runUnderlying57 Tryd.sizeOf50 (by exact rfl) (by omega) rfl ?_))
      (refine KO.on rfl rfl ?_ ?_; (focus (simp only [decide_eq_true_eq, decide_eq_false_iff_not, Bool.not_eq_true, Bool.not_true, Bool.not_false, ne_eq]; omega)); (refine KO.fldH (off := 3) rfl Tryd.runUnderlying50 rfl rfl Tryd.sizeOf9 rfl ?_))
      (refine KO.on rfl rfl ?_ ?_; (focus (simp only [decide_eq_true_eq, decide_eq_false_iff_not, Bool.not_eq_true, Bool.not_true, Bool.not_false, ne_eq]; omega)); (refine KO.ld0 rfl rfl Tryd.isAgg9 (by assumption) rfl ?_))
      (refine KO.on rfl rfl ?_ ?_; (focus (simp only [decide_eq_true_eq, decide_eq_false_iff_not, Bool.not_eq_true, Bool.not_true, Bool.not_false, ne_eq]; omega)); (refine KO.lenS rfl Tryd.underlying9 rfl ?_))
      (refine KO.on rfl rfl ?_ ?_; (focus (simp only [decide_eq_true_eq, decide_eq_false_iff_not, Bool.not_eq_true, Bool.not_true, Bool.not_false, ne_eq]; omega)); (refine KO.gtr rfl rfl rfl ?_))
      (refine KO.pickF rfl ?_ rfl rfl ?_; (focus (simp only [decide_eq_true_eq, decide_eq_false_iff_not, Bool.not_eq_true, Bool.not_true, Bool.not_false, ne_eq]; omega)))
      refine KO.nil ?_
      repeat ((with_reducible refine KQ.next ?_))
      refine K.condT rfl (by simp; omega) ?_
      repeat ((with_reducible refine K.seq ?_))
      refine K.reg ?_
      refine KO.as rfl rfl ?_
      refine KO.nil ?_
      repeat (first | (with_reducible refine KQ.next ?_) | (with_reducible refine KQ.then_ret ?_) | (with_reducible refine KQ.blk_ret ?_) | (with_reducible refine K.ret ?_))
      refine KQ.ret1 rfl rfl (fun w' hs => fin _ w' _ ?_ hs)
      have : xs.all ksmallB = false := List.all_eq_false.2 ⟨m, List.mem_of_getElem? hm, by simp [h6]⟩
      simp [ksmallsB, this]
    have h6 : ksmallB m = true := by
      unfold ksmallB
      have a1 : m.body.size ≤ 60 := by omega
      have a2 : m.queue.size ≤ 60 := by omega
      simp [a1, a2]
    refine K.reg ?_
    refine KO.mv rfl rfl ?_
    refine KO.mv rfl rfl ?_
    refine KO.idxH rfl rfl Tryd.runUnderlying57 Tryd.sizeOf50 (by exact rfl) (by omega) rfl ?_
    refine KO.fldH (off := 2) rfl Tryd.runUnderlying50 rfl rfl Tryd.sizeOf9 rfl ?_
    refine KO.ld0 rfl rfl Tryd.isAgg9 (by assumption) rfl ?_
    refine KO.lenS rfl Tryd.underlying9 rfl ?_
    refine KO.gtr rfl rfl rfl ?_
    refine KO.mv rfl rfl ?_
    (refine KO.on rfl rfl ?_ ?_; (focus (simp only [decide_eq_true_eq, decide_eq_false_iff_not, Bool.not_eq_true, Bool.not_true, Bool.not_false, ne_eq]; omega)); (refine KO.mv rfl rfl ?_))
    (refine KO.on rfl rfl ?_ ?_; (focus (simp only [decide_eq_true_eq, decide_eq_false_iff_not, Bool.not_eq_true, Bool.not_true, Bool.not_false, ne_eq]; omega)); (refine KO.mv rfl rfl ?_))
    (refine KO.on rfl rfl ?_ ?_; (focus (simp only [decide_eq_true_eq, decide_eq_false_iff_not, Bool.not_eq_true, Bool.not_true, Bool.not_false, ne_eq]; omega)); (refine KO.idxH rfl rfl Tryd.runUnderlying57 Tryd.sizeOf50 (by exact rfl) (by omega) rfl ?_))
    (refine KO.on rfl rfl ?_ ?_; (focus (simp only [decide_eq_true_eq, decide_eq_false_iff_not, Bool.not_eq_true, Bool.not_true, Bool.not_false, ne_eq]; omega)); (refine KO.fldH (off := 3) rfl Tryd.runUnderlying50 rfl rfl Tryd.sizeOf9 rfl ?_))
    (refine KO.on rfl rfl ?_ ?_; (focus (simp only [decide_eq_true_eq, decide_eq_false_iff_not, Bool.not_eq_true, Bool.not_true, Bool.not_false, ne_eq]; omega)); (refine KO.ld0 rfl rfl Tryd.isAgg9 (by assumption) rfl ?_))
    (refine KO.on rfl rfl ?_ ?_; (focus (simp only [decide_eq_true_eq, decide_eq_false_iff_not, Bool.not_eq_true, Bool.not_true, Bool.not_false, ne_eq]; omega)); (refine KO.lenS rfl Tryd.underlying9 rfl ?_))
    (refine KO.on rfl rfl ?_ ?_; (focus (simp only [decide_eq_true_eq, decide_eq_false_iff_not, Bool.not_eq_true, Bool.not_true, Bool.not_false, ne_eq]; omega)); (refine KO.gtr rfl rfl rfl ?_))
    (refine KO.pickF rfl ?_ rfl rfl ?_; (focus (simp only [decide_eq_true_eq, decide_eq_false_iff_not, Bool.not_eq_true, Bool.not_true, Bool.not_false, ne_eq]; omega)))
    refine KO.nil ?_
    repeat ((with_reducible refine KQ.next ?_))
    refine K.condF rfl (by simp; omega) ?_
    repeat (first | (with_reducible refine KQ.next ?_) | (with_reducible refine KQ.blk_normal ?_) | (with_reducible refine K.skip ?_))
    refine K.reg ?_
    refine KO.mv rfl rfl ?_
    refine KO.add rfl rfl rfl (by omega) rfl ?_
    refine KO.as rfl rfl ?_
    refine KO.nil ?_
    refine KQ.round (k + 1) ⟨by omega, fun j m' hj hm' => ?_⟩ (by omega) ⟨rfl, rfl, trivial⟩ (fun _ h => h)
    by_cases hjk : j = k
    · subst hjk; rw [hm] at hm'; cases hm'; exact h6
    · exact hall j m' (by omega) hm'
  · repeat (first | (with_reducible refine K.seq ?_) | (with_reducible refine KQ.next ?_) | (with_reducible refine KQ.then_exit ?_) | (with_reducible refine KQ.blk_exit ?_) | (with_reducible refine K.exit ?_))
    refine K.reg ?_
    refine KO.as rfl rfl ?_
    refine KO.nil ?_
    repeat (first | (with_reducible refine KQ.next ?_) | (with_reducible refine K.ret ?_))
    refine KQ.ret1 rfl rfl (fun w' hs => fin _ w' _ ?_ hs)
    have : xs.all ksmallB = true := List.all_eq_true.2 fun m hm => by
      obtain ⟨j, hj, rfl⟩ := List.getElem_of_mem hm
      exact hall j _ (by omega) (List.getElem?_eq_getElem hj)
    simp [ksmallsB, this, h1]
def exM : Ms := ⟨7, 3, ⟨#[104, 101, 108, 108, 111]⟩, ⟨#[105, 110]⟩, 1⟩
theorem itoa_dig {d : Nat} (h : d < 10) : itoaS (d : Int) = ⟨#[UInt8.ofNat (48 + d)]⟩ := by
  unfold itoaS; rw [Lib.itoa_nonneg, Lib.decDigits, dif_pos h]
theorem exM_text : writeS [exM] = ⟨#[55, 32, 51, 32, 104, 101, 108, 108, 111, 32, 105, 110, 32, 49]⟩ := by
  show joinS [msgS exM] plus = _
  rw [joinS_one]
  unfold msgS
  rw [show itoaS exM.id = ⟨#[55]⟩ from itoa_dig (d := 7) (by decide), show itoaS exM.pri = ⟨#[51]⟩ from itoa_dig (d := 3) (by decide), show itoaS exM.house = ⟨#[49]⟩ from itoa_dig (d := 1) (by decide)]
  rfl
set_option maxRecDepth 100000 in
theorem written_e (w0 : World) (L : List HP) (hT0 : Tab w0) : KE Tryd.prog 40 #[] w0 L (fun u M => u = .bool true ∧ M = L) := by
  refine KE.mk (n := 15) Tryd.func40 rfl Tryd.ntmps40 (by simp) ?_
  intro w hw
  have hT := hT0.ext (Ext.of_below hw.below)
  have hb : badI [exM] = none := by decide +kernel
  repeat ((with_reducible refine K.seq ?_))
  refine K.reg ?_
  refine KO.as rfl rfl ?_
  refine KO.nil ?_
  repeat (first | (with_reducible refine K.seq ?_) | (with_reducible refine KQ.next ?_))
  refine K.reg ?_
  refine KO.bldN (pl := [(0, 1), (1, 1), (2, 1), (3, 1), (4, 1)]) rfl Tryd.zeroValue50 Tryd.runUnderlying50 (by intro w; simp [Tryd.sizeOf3, Tryd.sizeOf9]) (by exact rfl) rfl ?_
  refine KO.bs1 (z := (Value.agg #[.int .i64 0, .int .i64 0, .string ⟨#[]⟩, .string ⟨#[]⟩, .int .i64 0])) (sz := 5) (by' := 56) rfl rfl Tryd.underlying57 (by kernel_rfl) (by exact rfl) (by exact rfl) (by decide) (by decide) rfl ?_; intro b5
  refine KO.ce (cp := []) rfl rfl rfl Tryd.call26 rfl (mwrite_e w _ _ [exM] (fun w' hw' => ?_) hT ?_ (by decide)) ?_; rotate_left 2; rintro v' L' hR; unfold MwR at hR; rw [hb] at hR; obtain ⟨rfl, rfl⟩ := hR; rw [exM_text]
  refine KO.mv rfl rfl ?_
  refine KO.extrL rfl (by exact rfl) rfl ?_
  refine KO.extrL rfl (by exact rfl) rfl ?_
  refine KO.as rfl rfl ?_
  refine KO.as rfl rfl ?_
  refine KO.nil ?_
  repeat (first | (with_reducible refine K.seq ?_) | (with_reducible refine KQ.next ?_))
  refine K.reg ?_
  refine KO.mv rfl rfl ?_
  refine KO.eqI0 rfl (by kernel_rfl) rfl ?_
  refine KO.mv rfl rfl ?_
  (refine KO.on rfl rfl ?_ ?_; (focus rfl); (refine KO.mv rfl rfl ?_))
  refine KO.on rfl rfl rfl ?_; refine KO.eqS rfl rfl rfl ?_
  (refine KO.pickT rfl ?_ rfl rfl ?_; (focus rfl))
  refine KO.as rfl rfl ?_
  refine KO.nil ?_
  repeat (first | (with_reducible refine KQ.next ?_) | (with_reducible refine K.ret ?_))
  refine KQ.ret1 rfl rfl (fun w' hs => ⟨_, _, rfl, ⟨rfl, rfl⟩, hw.below_step hs.below, hs.below⟩)
  · refine ⟨_, _, rfl, fun i x hx => ⟨_, rfl, ?_⟩⟩
    cases i with
    | succ i => simp at hx
    | zero =>
      simp only [List.getElem?_cons_zero, Option.some.injEq] at hx
      subst hx
      exact hw'.hasCells (off := 0) (cs := msC exM) fun j c hj => by show (msC exM).toArray[0 + j]? = some c; simpa using hj
  · intro m hm; rw [List.mem_singleton.1 hm]; exact right_size (by decide +kernel)
set_option maxRecDepth 100000 in
set_option maxHeartbeats 4000000 in
theorem mback_e (w0 : World) (L : List HP) (v : Value) (xs : List Ms) (s : ByteArray) (hr0 : ∀ w, St w0 L w → RdA w 5 msC v xs) (hsz : ∀ m ∈ xs, m.body.size ≤ maxLen ∧ m.queue.size ≤ maxLen) (hT0 : Tab w0) (hM0 : Lim w0) :
    KE Tryd.prog 7 #[v, .string s] w0 L (fun u M => u = .bool true ∧ M = L) := by
  refine KE.mk (n := 62) Tryd.func7 rfl Tryd.ntmps7 (by simp) ?_
  intro w hw
  have hT := hT0.ext (Ext.of_below hw.below)
  have hM := hM0.ext (Ext.of_below hw.below)
  have hr := hr0 w hw
  have hr1 := hr
  obtain ⟨sa, cap, rfl, hc⟩ := hr1
  have fin : ∀ (w' : World) (M : List HP), St w M w' → ∃ v L', Ending.returned (.bool true) = Ending.returned v ∧ (v = .bool true ∧ L' = L) ∧ St w0 L' w' ∧ Below w.heap.size w w' := fun w' M hs => ⟨_, _, rfl, ⟨rfl, rfl⟩, hw.below_step hs.below, hs.below⟩
  repeat ((with_reducible refine K.seq ?_))
  refine K.reg ?_
  refine KO.as rfl rfl ?_
  refine KO.nil ?_
  repeat (first | (with_reducible refine K.seq ?_) | (with_reducible refine KQ.next ?_))
  generalize hc1 : ksmallsB xs = c1
  cases c1
  · refine K.reg ?_
    refine KO.mv rfl rfl ?_
    refine KO.ce (cp := []) rfl rfl rfl Tryd.call39 rfl (ksmalls_e w _ _ xs (fun w' hw' => rdA_extM hr (Ext.of_below hw'.below))) ?_; rintro v' L' ⟨rfl, rfl⟩; rw [hc1]
    refine KO.not rfl rfl ?_
    refine KO.mv rfl rfl ?_
    (refine KO.no rfl rfl ?_ rfl ?_; (focus rfl))
    (refine KO.no rfl rfl ?_ rfl ?_; (focus rfl))
    (refine KO.no rfl rfl ?_ rfl ?_; (focus rfl))
    (refine KO.pickT rfl ?_ rfl rfl ?_; (focus rfl))
    refine KO.nil ?_
    repeat ((with_reducible refine KQ.next ?_))
    refine K.condT rfl rfl ?_
    repeat ((with_reducible refine K.seq ?_))
    refine K.reg ?_
    refine KO.as rfl rfl ?_
    refine KO.nil ?_
    repeat (first | (with_reducible refine KQ.next ?_) | (with_reducible refine KQ.then_ret ?_) | (with_reducible refine K.ret ?_))
    exact KQ.ret1 rfl rfl (fun w' hs => fin w' _ hs)
  have hl60 : xs.length ≤ 60 := by unfold ksmallsB at hc1; simp at hc1; exact hc1.1
  by_cases h8 : (800 : Int) < s.size
  · refine K.reg ?_
    refine KO.mv rfl rfl ?_
    refine KO.ce (cp := []) rfl rfl rfl Tryd.call39 rfl (ksmalls_e w _ _ xs (fun w' hw' => rdA_extM hr (Ext.of_below hw'.below))) ?_; rintro v' L' ⟨rfl, rfl⟩; rw [hc1]
    refine KO.not rfl rfl ?_
    refine KO.mv rfl rfl ?_
    (refine KO.on rfl rfl ?_ ?_; (focus rfl); (refine KO.mv rfl rfl ?_))
    (refine KO.on rfl rfl ?_ ?_; (focus rfl); (refine KO.lenS rfl Tryd.underlying9 rfl ?_))
    (refine KO.on rfl rfl ?_ ?_; (focus rfl); (refine KO.gtr rfl rfl rfl ?_))
    (refine KO.pickF rfl ?_ rfl rfl ?_; (focus rfl))
    refine KO.nil ?_
    repeat ((with_reducible refine KQ.next ?_))
    refine K.condT rfl (by simp; omega) ?_
    repeat ((with_reducible refine K.seq ?_))
    refine K.reg ?_
    refine KO.as rfl rfl ?_
    refine KO.nil ?_
    repeat (first | (with_reducible refine KQ.next ?_) | (with_reducible refine KQ.then_ret ?_) | (with_reducible refine K.ret ?_))
    exact KQ.ret1 rfl rfl (fun w' hs => fin w' _ hs)
  refine K.reg ?_
  refine KO.mv rfl rfl ?_
  refine KO.ce (cp := []) rfl rfl rfl Tryd.call39 rfl (ksmalls_e w _ _ xs (fun w' hw' => rdA_extM hr (Ext.of_below hw'.below))) ?_; rintro v' L' ⟨rfl, rfl⟩; rw [hc1]
  refine KO.not rfl rfl ?_
  refine KO.mv rfl rfl ?_
  (refine KO.on rfl rfl ?_ ?_; (focus rfl); (refine KO.mv rfl rfl ?_))
  (refine KO.on rfl rfl ?_ ?_; (focus rfl); (refine KO.lenS rfl Tryd.underlying9 rfl ?_))
  (refine KO.on rfl rfl ?_ ?_; (focus rfl); (refine KO.gtr rfl rfl rfl ?_))
  (refine KO.pickF rfl ?_ rfl rfl ?_; (focus rfl))
  refine KO.nil ?_
  repeat ((with_reducible refine KQ.next ?_))
  refine K.condF rfl (by simp; omega) ?_
  repeat (first | (with_reducible refine K.seq ?_) | (with_reducible refine KQ.next ?_) | (with_reducible refine K.skip ?_))
  refine K.reg ?_
  refine KO.ce (cp := []) rfl rfl rfl Tryd.call40 rfl (written_e w _ hT) ?_; rintro v' L' ⟨rfl, rfl⟩
  refine KO.not rfl rfl ?_
  refine KO.nil ?_
  repeat ((with_reducible refine KQ.next ?_))
  refine K.condF rfl rfl ?_
  refine K.skip ?_
  repeat with_reducible refine KQ.next ?_
  refine K.seq ?_
  refine K.cut (fun _ : Unit => [(0, .slice sa xs.length cap), (1, .string s)]) (fun _ => []) (fun _ => True) ?_ ?_
  · repeat ((with_reducible refine K.seq ?_))
    cases hb : badI xs with
    | some kb =>
      refine K.reg ?_
      refine KO.mv rfl rfl ?_
      refine KO.ce (cp := []) rfl rfl rfl Tryd.call26 rfl (mwrite_e w _ _ xs (fun w' hw' => rdA_extM hr (Ext.of_below hw'.below)) hT hsz (by omega)) ?_; rintro v' L' hR; unfold MwR at hR; rw [hb] at hR; obtain ⟨be, rfl, rfl⟩ := hR; unfold atV
      refine KO.mv rfl rfl ?_
      refine KO.extrL rfl (by exact rfl) rfl ?_
      refine KO.extrL rfl (by exact rfl) rfl ?_
      refine KO.as rfl rfl ?_
      refine KO.as rfl rfl ?_
      refine KO.nil ?_
      repeat (first | (with_reducible refine K.seq ?_) | (with_reducible refine KQ.next ?_))
      refine K.reg ?_
      refine KO.mv rfl rfl ?_
      refine KO.eqIf rfl (by kernel_rfl) rfl ?_
      refine KO.nil ?_
      repeat ((with_reducible refine KQ.next ?_))
      refine K.condF rfl rfl ?_
      repeat ((with_reducible refine K.skip ?_))
      exact KQ.mid () trivial ⟨rfl, rfl, trivial⟩ (fun _ h => h.all (by with_reducible repeat (exact PAll.nil)))
    | none =>
      have hsw := writeS_size (badI_all hb)
      refine K.reg ?_
      refine KO.mv rfl rfl ?_
      refine KO.ce (cp := []) rfl rfl rfl Tryd.call26 rfl (mwrite_e w _ _ xs (fun w' hw' => rdA_extM hr (Ext.of_below hw'.below)) hT hsz (by omega)) ?_; rintro v' L' hR; unfold MwR at hR; rw [hb] at hR; obtain ⟨rfl, rfl⟩ := hR
      refine KO.mv rfl rfl ?_
      refine KO.extrL rfl (by exact rfl) rfl ?_
      refine KO.extrL rfl (by exact rfl) rfl ?_
      refine KO.as rfl rfl ?_
      refine KO.as rfl rfl ?_
      refine KO.nil ?_
      repeat (first | (with_reducible refine K.seq ?_) | (with_reducible refine KQ.next ?_))
      refine K.reg ?_
      refine KO.mv rfl rfl ?_
      refine KO.eqI0 rfl (by kernel_rfl) rfl ?_
      refine KO.nil ?_
      repeat ((with_reducible refine KQ.next ?_))
      refine K.condT rfl rfl ?_
      repeat ((with_reducible refine K.seq ?_))
      refine K.reg ?_
      refine KO.mv rfl rfl ?_
      refine KO.ce (cp := []) rfl rfl rfl Tryd.call41 rfl (mread_e w _ (writeS xs) (by omega) hT hM) ?_; rintro v' L' hR; unfold MrR at hR; rw [mrd_write hb] at hR; obtain ⟨v, rfl, rfl⟩ := hR
      refine KO.mv rfl rfl ?_
      refine KO.extrL rfl (by exact rfl) rfl ?_
      refine KO.extrL rfl (by exact rfl) rfl ?_
      refine KO.as rfl rfl ?_
      refine KO.as rfl rfl ?_
      refine KO.nil ?_
      repeat (first | (with_reducible refine K.seq ?_) | (with_reducible refine KQ.next ?_))
      refine K.reg ?_
      refine KO.mv rfl rfl ?_
      refine KO.neI0 rfl (by kernel_rfl) rfl ?_
      refine KO.mv rfl rfl ?_
      (refine KO.on rfl rfl ?_ ?_; (focus rfl); (refine KO.mv rfl rfl ?_))
      (refine KO.on rfl rfl ?_ ?_; (focus rfl); (refine KO.mv rfl rfl ?_))
      refine KO.on rfl rfl rfl ?_; refine KO.ce (cp := []) rfl rfl rfl Tryd.call20 rfl (sameA_e w _ _ _ xs xs (fun w' hw' => RdA.ofSL (fun _ => rfl) (by with_reducible (repeat (exact Pick.head))) hw') (fun w' hw' => rdA_extM hr (Ext.of_below hw'.below)) (by omega) (by omega)) ?_; rintro v' L' ⟨rfl, rfl⟩
      (refine KO.on rfl rfl ?_ ?_; (focus rfl); (refine KO.not rfl rfl ?_))
      (refine KO.pickF rfl ?_ rfl rfl ?_; (focus rfl))
      refine KO.nil ?_
      repeat ((with_reducible refine KQ.next ?_))
      refine K.condF rfl (by simp) ?_
      repeat ((with_reducible refine K.skip ?_))
      exact KQ.mid () trivial ⟨rfl, rfl, trivial⟩ (fun _ h => h.all (by with_reducible repeat (exact PAll.nil)))
  rintro _ _
  repeat ((with_reducible refine K.seq ?_))
  cases hm : mrd s with
  | none =>
    refine K.reg ?_
    refine KO.mv rfl rfl ?_
    refine KO.ce (cp := []) rfl rfl rfl Tryd.call41 rfl (mread_e w _ s (by omega) hT hM) ?_; rintro v' L' hR; unfold MrR at hR; rw [hm] at hR; obtain ⟨rfl, rfl⟩ := hR
    refine KO.mv rfl rfl ?_
    refine KO.extrL rfl (by exact rfl) rfl ?_
    refine KO.extrL rfl (by exact rfl) rfl ?_
    refine KO.as rfl rfl ?_
    refine KO.as rfl rfl ?_
    refine KO.nil ?_
    repeat (first | (with_reducible refine K.seq ?_) | (with_reducible refine KQ.next ?_))
    refine K.reg ?_
    refine KO.mv rfl rfl ?_
    refine KO.eqN rfl (by kernel_rfl) rfl ?_
    refine KO.nil ?_
    repeat ((with_reducible refine KQ.next ?_))
    refine K.condF rfl rfl ?_
    repeat (first | (with_reducible refine K.seq ?_) | (with_reducible refine KQ.next ?_) | (with_reducible refine K.skip ?_))
    refine K.reg ?_
    refine KO.as rfl rfl ?_
    refine KO.nil ?_
    repeat (first | (with_reducible refine KQ.next ?_) | (with_reducible refine K.ret ?_))
    exact KQ.ret1 rfl rfl (fun w' hs => fin w' _ hs)
  | some ys =>
    obtain ⟨hb2, hw2⟩ := mrd_some hm
    have hyl : ys.length ≤ 100000 := by have := mrd_len hm; omega
    have hys : ∀ m ∈ ys, m.body.size ≤ maxLen ∧ m.queue.size ≤ maxLen := fun m hm => right_size (badI_all hb2 m hm)
    refine K.reg ?_
    refine KO.mv rfl rfl ?_
    refine KO.ce (cp := []) rfl rfl rfl Tryd.call41 rfl (mread_e w _ s (by omega) hT hM) ?_; rintro v' L' hR; unfold MrR at hR; rw [hm] at hR; obtain ⟨v, rfl, rfl⟩ := hR
    refine KO.mv rfl rfl ?_
    refine KO.extrL rfl (by exact rfl) rfl ?_
    refine KO.extrL rfl (by exact rfl) rfl ?_
    refine KO.as rfl rfl ?_
    refine KO.as rfl rfl ?_
    refine KO.nil ?_
    repeat (first | (with_reducible refine K.seq ?_) | (with_reducible refine KQ.next ?_))
    refine K.reg ?_
    refine KO.mv rfl rfl ?_
    refine KO.eqI0 rfl (by kernel_rfl) rfl ?_
    refine KO.nil ?_
    repeat ((with_reducible refine KQ.next ?_))
    refine K.condT rfl rfl ?_
    repeat ((with_reducible refine K.seq ?_))
    refine K.reg ?_
    refine KO.mv rfl rfl ?_
    refine KO.ce (cp := []) rfl rfl rfl Tryd.call26 rfl (mwrite_e w _ _ ys (fun w' hw' => RdA.ofSL (fun _ => rfl) (by with_reducible (repeat (exact Pick.head))) hw') hT hys hyl) ?_; rintro v' L' hR; unfold MwR at hR; rw [hb2] at hR; obtain ⟨rfl, rfl⟩ := hR
    refine KO.mv rfl rfl ?_
    refine KO.extrL rfl (by exact rfl) rfl ?_
    refine KO.extrL rfl (by exact rfl) rfl ?_
    refine KO.as rfl rfl ?_
    refine KO.as rfl rfl ?_
    refine KO.nil ?_
    repeat (first | (with_reducible refine K.seq ?_) | (with_reducible refine KQ.next ?_))
    refine K.reg ?_
    refine KO.mv rfl rfl ?_
    refine KO.neI0 rfl (by kernel_rfl) rfl ?_
    refine KO.mv rfl rfl ?_
    (refine KO.on rfl rfl ?_ ?_; (focus rfl); (refine KO.mv rfl rfl ?_))
    (refine KO.on rfl rfl ?_ ?_; (focus rfl); (refine KO.mv rfl rfl ?_))
    (refine KO.on rfl rfl ?_ ?_; (focus rfl); (refine KO.neS rfl rfl rfl ?_))
    (refine KO.pickF rfl ?_ rfl rfl ?_; (focus rfl))
    refine KO.nil ?_
    repeat ((with_reducible refine KQ.next ?_))
    refine K.condF rfl (by simp [hw2]) ?_
    repeat (first | (with_reducible refine K.seq ?_) | (with_reducible refine KQ.next ?_) | (with_reducible refine K.skip ?_))
    refine K.reg ?_
    refine KO.as rfl rfl ?_
    refine KO.nil ?_
    repeat (first | (with_reducible refine KQ.next ?_) | (with_reducible refine K.ret ?_))
    exact KQ.ret1 rfl rfl (fun w' hs => fin w' _ hs)
end Go.Proofs.YtjhogocabcdjbaaDoor
/- waybillkeep.MsgBack: for every list of messages and every text the law returns true, and the list reads as it did. No condition. -/
namespace Go.Proofs.YtjhogocabcdjbaaDoor.mback
open Go Go.RowKit Go.ChangeShapes Go.WideShapes Go.ChangeAt Go.Deep WB
theorem own : ownKnob Tryd.prog.godebug = none := by kernel_rfl
theorem laidOut : laidOutB Tryd.prog = true := by kernel_rfl
/-- a world in which the listed variables lie -/
noncomputable def hold (os : Os) : World := World.holding Tryd.prog os ⟨#[], #[], []⟩
def data : List (String × DataW Unit) := [("math/bits.deBruijn32tab", Rows.laid_math_bits_deBruijn32tab), ("math/bits.deBruijn64tab", Rows.laid_math_bits_deBruijn64tab), ("internal/strconv.uint64pow10", Rows.laid_internal_strconv_uint64pow10), ("unicode/utf8.acceptRanges", Rows.laid_unicode_utf8_acceptRanges), ("strconv.ErrRange", Rows.laid_strconv_ErrRange), ("strconv.ErrSyntax", Rows.laid_strconv_ErrSyntax), ("unicode/utf8.first", Rows.laid_unicode_utf8_first)]
noncomputable def laidWorld (os : Os) : World := (hold os).layVars Tryd.prog data
theorem laidWorld_os (os : Os) : (laidWorld os).os = os := World.layVars_os _ _ _
set_option maxRecDepth 100000 in
theorem data_met (os : Os) (args : Array Value) : laidMet Tryd.prog data ((laidWorld os).forCall (fun _ _ => 0) ⟨#[], args, []⟩).memory := by
  have h : laidMet Tryd.prog data (laidWorld os) := laidMet_layVars (w0 := hold os) (data.map (·.1)) [] rfl (by kernel_rfl) (by kernel_rfl) LaidIn.none
  exact h.of_heap (by simp [World.memory, World.forCall, Input.heap])
set_option maxRecDepth 100000 in
theorem laid_met (os : Os) (args : Array Value) : laidMetH Tryd.prog Rows.msgBackRow.laid ((laidWorld os).forCall (fun _ _ => 0) ⟨#[], args, []⟩).memory :=
  laidMetH_of_parts (data_met os args) (by kernel_rfl)
set_option maxRecDepth 100000 in
theorem laid_of {W : World} (h : laidMetH Tryd.prog Rows.msgBackRow.laid W) : laidMet Tryd.prog data W := by
  have e : Rows.msgBackRow.laid = data := by kernel_rfl
  rw [e] at h
  exact h
set_option maxRecDepth 100000 in
theorem rd_msg {H : Type} {enc : TypeId × Value → H} {W : World} {n : Nat} {cs : List Value} {y : DataW H × List MemPlace} (h : DataW.trod enc Tryd.prog W 0 (fun _ => true) true n 50 cs = some y) : ∃ m : Ms, (m.body.size ≤ maxLen ∧ m.queue.size ≤ maxLen) ∧ cs = msC m := by
  have hci : Tryd.prog.cellsOf 3 = 1 := by kernel_rfl
  have hcs : Tryd.prog.cellsOf 9 = 1 := by kernel_rfl
  have hlen := trod_len Tryd.underlying50 h (show Tryd.prog.cellsOf 50 = 5 by kernel_rfl)
  obtain ⟨s2, e2, _⟩ := trod_i Tryd.underlying50 h 0 0 3 rfl hci Tryd.underlying3
  obtain ⟨s3, e3, _⟩ := trod_i Tryd.underlying50 h 1 1 3 rfl hci Tryd.underlying3
  obtain ⟨s4, e4, w4⟩ := trod_str Tryd.underlying50 h 2 2 9 rfl hcs Tryd.underlying9
  obtain ⟨s5, e5, w5⟩ := trod_str Tryd.underlying50 h 3 3 9 rfl hcs Tryd.underlying9
  obtain ⟨s6, e6, _⟩ := trod_i Tryd.underlying50 h 4 4 3 rfl hci Tryd.underlying3
  match cs, hlen, e2, e3, e4, e5, e6 with
  | [c2, c3, c4, c5, c6], _, e2, e3, e4, e5, e6 =>
    simp only [List.getElem?_cons_zero, List.getElem?_cons_succ, Option.some.injEq] at e2 e3 e4 e5 e6
    exact ⟨⟨s2, s3, s4, s5, s6⟩, ⟨w4, w5⟩, by rw [e2, e3, e4, e5, e6]; rfl⟩
set_option maxRecDepth 100000 in
theorem open_msg {H : Type} {enc : TypeId × Value → H} {W : World} {r : Reach} {base : Nat} {v : Value} {d : DataW H} {p : List MemPlace} (hv : Value.okWide Tryd.prog W r base 50 v) (h : DataW.Trod enc Tryd.prog W 0 (fun _ => true) true 50 v d p) :
    ∃ m : Ms, v = .agg (msC m).toArray ∧ (m.body.size ≤ maxLen ∧ m.queue.size ≤ maxLen) := by
  obtain ⟨cs, rfl, _⟩ := okWide_struct Tryd.underlying50 hv
  obtain ⟨fuel, hf⟩ := h
  obtain ⟨m, hm, hcs⟩ := rd_msg hf
  refine ⟨m, ?_, hm⟩
  have : cs.toList = msC m := hcs
  rw [← this]
set_option maxRecDepth 100000 in
theorem tab_of {W : World} (h : laidMetH Tryd.prog Rows.msgBackRow.laid W) : Tab W := by
  have h1 : laidMet Tryd.prog data W := laid_of h
  have hd : ("internal/strconv.uint64pow10", Lib.tabData .u64 Lib.pow10Tab) ∈ data := by
    have e : (Lib.tabData .u64 Lib.pow10Tab : DataW Unit) = Rows.laid_internal_strconv_uint64pow10 := by kernel_rfl
    rw [e]; unfold data; simp
  exact tab_of_laid h1 hd (g := 4) (by kernel_rfl) (by kernel_rfl) (n := 20) Tryd.underlying213 Tryd.underlying193 (by kernel_rfl) (by kernel_rfl)
theorem star : "*" ++ "errors.errorString" = "*errors.errorString" := by decide
theorem rowES (u : TypeId) (h : Tryd.prog.typeName? 3 u = some "*errors.errorString") : u = 223 :=
  typeName_ptr_named (nm := "errors.errorString") (by rw [star]; kernel_rfl) (by kernel_rfl) (by decide) u (by rw [star]; exact h)
set_option maxRecDepth 100000 in
theorem lim_of {W : World} (h : laidMetH Tryd.prog Rows.msgBackRow.laid W) (hSh : W.ShapedOpen Tryd.prog) : Lim W := by
  have h1 : laidMet Tryd.prog [("strconv.ErrRange", Rows.laid_strconv_ErrRange), ("strconv.ErrSyntax", Rows.laid_strconv_ErrSyntax), ("unicode/utf8.first", Rows.laid_unicode_utf8_first)] W := (laid_of h).tail.tail.tail.tail
  obtain ⟨a0, s0, hv0, -, -, -⟩ := laid_sentinel h1 (show Tryd.prog.globalNamed "strconv.ErrRange" = some 3 by kernel_rfl) (show (Tryd.prog.globals[3]?).map (·.type) = some 32 by kernel_rfl) Tryd.underlying32 rowES Tryd.underlying223 Tryd.underlying225 rfl rfl Tryd.underlying9 (by kernel_rfl) (by kernel_rfl)
  obtain ⟨a1, s1, hv1, -, -, -⟩ := laid_sentinel h1.tail (show Tryd.prog.globalNamed "strconv.ErrSyntax" = some 2 by kernel_rfl) (show (Tryd.prog.globals[2]?).map (·.type) = some 32 by kernel_rfl) Tryd.underlying32 rowES Tryd.underlying223 Tryd.underlying225 rfl rfl Tryd.underlying9 (by kernel_rfl) (by kernel_rfl)
  exact ⟨Tryd.laysM146.s1_3 W hSh, ⟨_, _, by have := World.var?_cell (show Tryd.prog.globalNamed "strconv.ErrSyntax" = some 2 by kernel_rfl) hv1 0; simpa using this⟩, ⟨_, _, by have := World.var?_cell (show Tryd.prog.globalNamed "strconv.ErrRange" = some 3 by kernel_rfl) hv0 0; simpa using this⟩⟩
set_option maxRecDepth 100000 in
theorem contract (H : Type) (enc : TypeId × Value → H) (W : World) (base : Nat) (args : Array Value) (ds gs : List (DataW H)) (before : List MemPlace)
    (hval : ∀ (j : Nat) t v, Tryd.f7.params[j]? = some t → args[j]? = some v → Value.okWide Tryd.prog W .any base t v)
    (hW : DataW.Whole enc Tryd.prog Tryd.f7.params.toList Rows.msgBackSpec.vars false W args.toList ds gs before) (hL : laidMetH Tryd.prog Rows.msgBackRow.laid W) (hSh : W.ShapedOpen Tryd.prog) :
    Calls Tryd.prog 7 args W fun e W' => ∃ v, e = .returned v ∧ Rows.msgBackSpec.post enc Tryd.prog Tryd.f7 false true false false W args v W' := by
  have hW' := hW
  obtain ⟨p, q, hA0, hV, rfl, hfz, hnd⟩ := hW
  have hA : DataW.TrodAll enc Tryd.prog W 0 (fun _ => true) true Tryd.f7.params.toList args.toList ds p := hA0
  have hA2 := hA
  rw [Tryd.params7] at hA hval
  obtain ⟨v0, v1, d0, d1, p0, p1, rfl, rfl, rfl, h0, h1⟩ := trodAll_two hA
  obtain ⟨rfl, rfl⟩ := trodVars_none hV
  obtain ⟨s, rfl, _, _, _⟩ := Go.ChangeMaps.open_string Tryd.underlying9 (hval 1 9 v1 rfl rfl) h1
  obtain ⟨xs, hx, hsz⟩ := open_sl (φ := fun m : Ms => m.body.size ≤ maxLen ∧ m.queue.size ≤ maxLen) (cf := msC) Tryd.underlying57 (hval 0 57 v0 rfl rfl) h0 (show Tryd.prog.cellsOf 50 = 5 by kernel_rfl) (fun n cs y h => rd_msg h)
  have hTab := tab_of hL
  have hLim := lim_of hL hSh
  have hlt : ∀ x ∈ p0 ++ p1, x.block < W.heap.size := fun x hx => by
    have := hW'.lt x (List.mem_append_left _ hx)
    simpa using this
  have hwalk : Calls Tryd.prog 7 #[v0, .string s] W fun e W' => e = .returned (.bool true) ∧ Below W.heap.size W W' := by
    refine (mback_e W [] v0 xs s (fun w hw => rdA_extM hx (Ext.of_below hw.below)) hsz hTab hLim W (St.init W)).mono ?_
    rintro e W' ⟨v, L', rfl, ⟨rfl, _⟩, _, hb⟩
    exact ⟨rfl, hb⟩
  refine hwalk.mono fun e W' ⟨he, hb⟩ => ?_
  subst he
  simp only [List.append_nil] at hW'
  exact ⟨_, rfl, _, _, _, [], p0 ++ p1, [], hW', trodAll_mk1 (shut_bool Tryd.underlying4 _), law_args laidOut hb (by kernel_rfl) hA2 hlt, rfl, hb.frame _, fun h => by cases h⟩
set_option maxRecDepth 100000 in
theorem reads (os : Os) {H : Type} (enc : TypeId × Value → H) : ∃ places, DataW.whole enc Tryd.prog ((laidWorld os).forCall (fun _ _ => 0) ⟨#[], #[.slice none 0 0, .string ⟨#[]⟩], []⟩).memory Tryd.f7.params.toList Rows.msgBackSpec.vars false (#[.slice none 0 0, .string ⟨#[]⟩] : Array Value).toList 8 = some ([.nil, .lit (.string [])], [], places) :=
  ⟨[], by kernel_rfl⟩
set_option maxRecDepth 100000 in
theorem lifted (os : Os) (started : os.Started) (H : Type) (enc : TypeId × Value → H) (F : Stop.Interp) :
    ReturnsInHanded {} Tryd.checked os 7 .any ((OpenSpec.ofChange Rows.msgBackSpec).preRow enc Tryd.prog Tryd.f7 Rows.msgBackRow.domain false Rows.msgBackRow.laid) (((OpenSpec.ofChange Rows.msgBackSpec).at F).post enc Tryd.prog Tryd.f7 false true false false) := by
  obtain ⟨places, hx⟩ := reads os enc
  refine returnsInHanded_of_row (C := Tryd.checked) (s := OpenSpec.ofChange Rows.msgBackSpec) own started (by kernel_rfl) Tryd.func7
    (witness_row_sh (enc := enc) (C := Tryd.checked) false (laidWorld os) #[.slice none 0 0, .string ⟨#[]⟩] (laidWorld_os os) (World.shaped_of_ZipB (by kernel_rfl) (by kernel_rfl)) (by kernel_rfl)
      (OpenSpec.preRow_of_cond 8 hx (by kernel_rfl) (fun k hk => by cases hk) (by kernel_rfl) (laid_met os _))) ?_
  intro W base args ds gs before hval hW _ _ _ hL hSh _
  exact contract H enc W base args ds gs before hval hW hL hSh
theorem said : Rows.MsgBackSaid :=
  OpenClaim.holds_of_cond 7 Tryd.f7 rfl rfl rfl rfl rfl rfl rfl ⟨rfl, rfl, rfl, rfl, rfl⟩ rfl rfl rfl rfl rfl (by kernel_rfl) Tryd.func7 (by kernel_rfl)
    (of_decide_eq_true (by kernel_rfl)) (by unfold Func.isWrapper; first | (rw [if_pos (by decide +kernel)]; kernel_rfl) | (rw [if_neg (by decide +kernel)]; exact ⟨rfl, rfl⟩))
    (fun os started H enc _ F => by rw [OpenClaim.pre_eq_preRow]; exact lifted os started H enc F)
set_option maxRecDepth 100000 in
theorem plain (f : FuncId) (fn : Func) (hf : Tryd.pinned.checked.prog.funcNamed "waybill/waybillkeep.MsgBack" = some f) (hfn : Tryd.pinned.checked.prog.funcs[f]? = some fn) :
    true = Tryd.pinned.checked.prog.looks [] ∧ ∀ (j : Nat) t, fn.params[j]? = some t → Tryd.pinned.checked.prog.wantsStandIn t = false := by
  obtain rfl : f = 7 := Option.some.inj ((show Tryd.prog.funcNamed "waybill/waybillkeep.MsgBack" = some 7 by kernel_rfl).symm.trans hf) |>.symm
  obtain rfl : fn = Tryd.f7 := (Option.some.inj (Tryd.func7.symm.trans hfn)).symm
  refine ⟨by kernel_rfl, fun j t ht => ?_⟩
  rw [Tryd.params7] at ht
  have hm : t ∈ [57, 9] := by simpa using Array.mem_of_getElem? ht
  have hall : ([57, 9].all fun u => !Tryd.prog.wantsStandIn u) = true := by kernel_rfl
  exact (show Tryd.prog.wantsStandIn t = false by simpa using List.all_eq_true.1 hall t hm)
set_option maxRecDepth 100000 in
/-- the card -/
theorem card : Rows.MsgBackCardSaid :=
  Claim7.holds_tied_plain_at .later [] _ _ _ _ said (fun _ h => by cases h) (by kernel_rfl) (fun _ h => by cases h) msgBack_row_tie rfl ⟨rfl, rfl⟩ (by kernel_rfl) rfl plain (by kernel_rfl)
end Go.Proofs.YtjhogocabcdjbaaDoor.mback
