import Derived.Stop.Asserts
import Derived.Lib.ItoaLen
import Derived.Lib.Join
import Derived.ProofKit
import Derived.OpenShut
import Derived.Deep.DeepHandedRow
import Derived.Deep.Slices
import Derived.Lay
import Derived.LaidHandle
import Derived.Lib.LaidTab
import Derived.Lib.AppendIntMem
import Derived.Test.YtjhogocabcdjbaaDoorB1
set_option linter.unusedSimpArgs false
set_option linter.unusedVariables false
/- what the laws ask: pick, plain.Same, api.Tell; lined. -/
namespace Go.Proofs.YtjhogocabcdjbaaDoor
open Go Go.RowKit WB
theorem pick_e (w0 : World) (L : List HP) (a n : Int) (h1 : 1 ≤ n) (h2 : n ≤ 1000) : KE Tryd.prog 10 #[.int .i64 a, .int .i64 n] w0 L (fun u L' => u = .int .i64 (pk a n) ∧ L' = L) := KE.of_below fun w _ => by
  have hu : IntKind.u64.wrap a = a % 18446744073709551616 := rfl
  have h0 : 0 ≤ a % 18446744073709551616 := Int.emod_nonneg _ (by omega)
  have hp : (IntKind.u64.wrap a).tmod n = pk a n := by rw [hu, Int.tmod_eq_emod_of_nonneg h0]; rfl
  have hw : wrap64 ((IntKind.u64.wrap a).tmod n) = pk a n := by rw [hp]; have := pk_lt a h1; unfold wrap64; omega
  have HW := Lib.hid hw
  clear hw hp h0 hu
  go_enter Tryd.func10, Tryd.ntmps10
  go_wp2_with fail
  rw [HW.out]
  go_ret
  exact ⟨rfl, Below.refl _ _⟩
theorem tell_e (w0 : World) (L : List HP) (k : Int) (hg : ErrType w0) : KE Tryd.prog 13 #[errV 37 k] w0 L (fun u L' => u = .int .i64 k ∧ L' = L) := KE.of_below fun w hw => by
  unfold errV
  split
  · next h => subst h; exact tell_nil w
  · exact tell_errno k w ((Ext.of_below hw.below).cell hg)
theorem ms_eq (a b : Ms) (w : World) : (Op.equalIn 10000 50 (.agg (msC a).toArray) (.agg (msC b).toArray)).run Tryd.prog w = .ok (decide (a = b)) w := by
  rw [run_equalIn_agg w 9999 50 _ _ (by kernel_rfl) (by kernel_rfl), ← ms_bools]
  simp only [Program.fieldsOf, Tryd.underlying50]
  refine eqF_int (by decide) Tryd.underlying3 (Tryd.isAgg3 w) rfl rfl (eqF_int (by decide) Tryd.underlying3 (Tryd.isAgg3 w) rfl rfl (eqF_str (by decide) Tryd.underlying9 (Tryd.isAgg9 w) rfl rfl (eqF_str (by decide) Tryd.underlying9 (Tryd.isAgg9 w) rfl rfl (eqF_int (by decide) Tryd.underlying3 (Tryd.isAgg3 w) rfl rfl eqF_nil))))
theorem same_e (w0 : World) (L : List HP) (v1 v2 : Value) (xs ys : List Ms) (h1 : ∀ w, St w0 L w → RdS w 5 msC v1 xs) (h2 : ∀ w, St w0 L w → RdS w 5 msC v2 ys) (hx : xs.length < 1000000) (hy : ys.length < 1000000) :
    KE Tryd.prog 20 #[v1, v2] w0 L (fun u M => u = .bool (decide (xs = ys)) ∧ M = L) := by
  refine KE.mk (n := 26) Tryd.func20 rfl Tryd.ntmps20 (by simp) ?_
  intro w hw
  obtain ⟨a1, c1, rfl, ha1, hc1⟩ := h1 w hw
  obtain ⟨a2, c2, rfl, ha2, hc2⟩ := h2 w hw
  have fin : ∀ (b : Bool) (w' : World) (M : List HP), b = decide (xs = ys) → St w M w' → ∃ v L', Ending.returned (.bool b) = Ending.returned v ∧ (v = .bool (decide (xs = ys)) ∧ L' = L) ∧ St w0 L' w' ∧ Below w.heap.size w w' := fun b w' M e hs => ⟨_, _, rfl, ⟨by rw [e], rfl⟩, hw.below_step hs.below, hs.below⟩
  repeat ((with_reducible refine K.seq ?_))
  refine K.reg ?_
  refine KO.as rfl rfl ?_
  refine KO.nil ?_
  repeat (first | (with_reducible refine K.seq ?_) | (with_reducible refine KQ.next ?_))
  refine K.reg ?_
  refine KO.mv rfl rfl ?_
  refine KO.len rfl Tryd.underlying57 rfl ?_
  refine KO.mv rfl rfl ?_
  refine KO.len rfl Tryd.underlying57 rfl ?_
  refine KO.neI rfl rfl rfl ?_
  refine KO.nil ?_
  repeat ((with_reducible refine KQ.next ?_))
  refine K.condD rfl (fun h => ?_) (fun h => ?_)
  · repeat ((with_reducible refine K.seq ?_))
    refine K.reg ?_
    refine KO.as rfl rfl ?_
    refine KO.nil ?_
    repeat (first | (with_reducible refine KQ.next ?_) | (with_reducible refine KQ.then_ret ?_) | (with_reducible refine K.ret ?_))
    refine KQ.ret1 rfl rfl (fun w' hs => fin _ w' _ (by rw [eq_comm, decide_eq_false_iff_not]; rintro rfl; exact h rfl) hs)
  · have hlen : xs.length = ys.length := by omega
    repeat (first | (with_reducible refine K.seq ?_) | (with_reducible refine KQ.next ?_) | (with_reducible refine K.skip ?_))
    refine K.reg ?_
    refine KO.mv rfl rfl ?_
    refine KO.len rfl Tryd.underlying57 rfl ?_
    refine KO.mv rfl rfl ?_
    refine KO.nil ?_
    repeat (first | (with_reducible refine KQ.next ?_) | (with_reducible refine K.block ?_))
    refine K.loop (fun k : Nat => [(0, .slice a1 xs.length c1), (1, .slice a2 ys.length c2), (4, .bool false), (12, .int .i64 (xs.length : Nat)), (13, .int .i64 (k : Nat))]) (fun _ => []) (fun k => k ≤ xs.length ∧ xs.take k = ys.take k) (fun k => xs.length - k) 0
      ⟨Nat.zero_le _, rfl⟩ ⟨rfl, rfl, rfl, rfl, rfl, trivial⟩ (fun _ h => h) ?_
    rintro k ⟨hk, hkk⟩
    repeat ((with_reducible refine K.seq ?_))
    refine K.reg ?_
    refine KO.lss rfl rfl rfl ?_
    refine KO.nil ?_
    repeat (first | (with_reducible refine K.seq ?_) | (with_reducible refine KQ.next ?_))
    refine K.condD rfl (fun h3 => ?_) (fun h3 => ?_)
    · obtain ⟨g1, rfl⟩ := ha1 (by omega)
      obtain ⟨g2, rfl⟩ := ha2 (by omega)
      obtain ⟨e1, he1⟩ : ∃ e, xs[k]? = some e := ⟨xs[k], List.getElem?_eq_getElem (by omega)⟩
      obtain ⟨e2, he2⟩ : ∃ e, ys[k]? = some e := ⟨ys[k], List.getElem?_eq_getElem (by omega)⟩
      repeat (first | (with_reducible refine K.seq ?_) | (with_reducible refine KQ.next ?_) | (with_reducible refine K.skip ?_) | (with_reducible refine K.block ?_))
      refine K.reg ?_
      refine KO.mv rfl rfl ?_
      refine KO.as rfl rfl ?_
      refine KO.nil ?_
      repeat (first | (with_reducible refine K.seq ?_) | (with_reducible refine KQ.next ?_))
      refine K.draw [.pure, .pure, .pure, .read, .pure, .pure, .pure, .read, .pure] [0, 1, 2, 3, 4, 5, 6, 7, 8] (by kernel_rfl) (by kernel_rfl) ?_
      refine KO.mv rfl rfl ?_
      refine KO.mv rfl rfl ?_
      refine KO.idx0 rfl rfl Tryd.runUnderlying57 Tryd.sizeOf50 (by exact rfl) (by omega) rfl ?_
      refine KO.ldN0 (cs := (msC e1).toArray) rfl rfl Tryd.isAgg50 Tryd.sizeOf50 rfl (hc1 g1 rfl k e1 he1) rfl ?_
      refine KO.mv rfl rfl ?_
      refine KO.mv rfl rfl ?_
      refine KO.idx0 rfl rfl Tryd.runUnderlying57 Tryd.sizeOf50 (by exact rfl) (by omega) rfl ?_
      refine KO.ldN0 (cs := (msC e2).toArray) rfl rfl Tryd.isAgg50 Tryd.sizeOf50 rfl (hc2 g2 rfl k e2 he2) rfl ?_
      refine KO.neA rfl rfl (by kernel_rfl) (ms_eq e1 e2) rfl ?_
      refine KO.nil ?_
      repeat ((with_reducible refine KQ.next ?_))
      refine K.cond rfl (fun h4 => ?_) (fun h4 => ?_)
      · repeat ((with_reducible refine K.seq ?_))
        refine K.reg ?_
        refine KO.as rfl rfl ?_
        refine KO.nil ?_
        repeat (first | (with_reducible refine KQ.next ?_) | (with_reducible refine KQ.then_ret ?_) | (with_reducible refine KQ.blk_ret ?_) | (with_reducible refine K.ret ?_))
        refine KQ.ret1 rfl rfl (fun w' hs => fin _ w' _ ?_ hs)
        rw [eq_comm, decide_eq_false_iff_not]
        rintro rfl
        rw [he1] at he2
        simp only [Option.some.injEq] at he2
        simp [he2] at h4
      · have e12 : e1 = e2 := by simpa using h4
        repeat (first | (with_reducible refine KQ.next ?_) | (with_reducible refine KQ.blk_normal ?_) | (with_reducible refine K.skip ?_))
        refine K.reg ?_
        refine KO.add rfl rfl rfl (by omega) rfl ?_
        refine KO.mv rfl rfl ?_
        refine KO.nil ?_
        refine KQ.round (k + 1) ⟨by omega, by rw [take_succ_some he1, take_succ_some he2, hkk, e12]⟩ (by omega) ⟨rfl, rfl, rfl, rfl, rfl, trivial⟩ (fun _ hs => hs)
    · have hkl : k = xs.length := by omega
      repeat (first | (with_reducible refine K.seq ?_) | (with_reducible refine KQ.next ?_) | (with_reducible refine KQ.then_exit ?_) | (with_reducible refine KQ.blk_exit ?_) | (with_reducible refine K.exit ?_))
      refine K.reg ?_
      refine KO.as rfl rfl ?_
      refine KO.nil ?_
      repeat (first | (with_reducible refine KQ.next ?_) | (with_reducible refine K.ret ?_))
      refine KQ.ret1 rfl rfl (fun w' hs => fin _ w' _ ?_ hs)
      rw [eq_comm, decide_eq_true_eq]
      rw [hkl, List.take_length, hlen, List.take_length] at hkk
      exact hkk
end Go.Proofs.YtjhogocabcdjbaaDoor
/- a region that draws its order, where some pairs of operations may come either way: each way is walked -/
namespace WB
open Go Go.RowKit
variable {P : Program} {ops : Array Oper} {Q : Exit → Act → World → Prop}
def via (anc : List (List Nat)) (x i : Nat) (q : Nat × Nat) : Bool := (q.1 == x || (anc.getD q.1 []).contains x) && (q.2 == i || (anc.getD i []).contains q.2)
theorem via_sound {anc : List (List Nat)} (hb : onlyBack ops = true) (ha : ancOk ops anc = true) {l : List Nat} (hv : Valid ops l) {q : Nat × Nat} (hE : ∀ p s, l = p ++ q.2 :: s → q.1 ∈ p) {x i : Nat} (h : via anc x i q = true) : ∀ p s, l = p ++ i :: s → x ∈ p := by
  intro p s hl
  unfold via at h
  simp only [Bool.and_eq_true, Bool.or_eq_true, beq_iff_eq] at h
  have lt : ∀ y, y ∈ l → y < ops.size := fun y hy => (hv.2.1 y).1 hy
  have h1 : q.1 ∈ p := by
    rcases h.2 with e | e
    · exact hE p s (by rw [e]; exact hl)
    · have := anc_sound hb ha hv i i (Nat.le_refl _) (lt i (by rw [hl]; simp)) p s hl q.2 (List.contains_iff_mem.1 e)
      obtain ⟨p1, p2, rfl⟩ := List.append_of_mem this
      have := hE p1 (p2 ++ i :: s) (by rw [hl]; simp)
      simp [this]
  rcases h.1 with e | e
  · rw [← e]; exact h1
  · obtain ⟨p1, p2, rfl⟩ := List.append_of_mem h1
    have := anc_sound hb ha hv q.1 q.1 (Nat.le_refl _) (lt q.1 (by rw [hl]; simp)) p1 (p2 ++ i :: s) (by rw [hl]; simp) x (List.contains_iff_mem.1 e)
    simp [this]
theorem main_stepE {E : List (Nat × Nat)} {ks : List Kd} {anc : List (List Nat)} (hb : onlyBack ops = true) (ha : ancOk ops anc = true) {l : List Nat} (hv : Valid ops l) (hE : ∀ q ∈ E, ∀ p s, l = p ++ q.2 :: s → q.1 ∈ p) :
    ∀ (s p rem : List Nat), l = p ++ s → (∀ x, x ∈ rem ↔ x ∈ s) →
      pairsOk (fun x i => !(x == i) && ((anc.getD i []).contains x || (lightFree ops ks x i || E.any (via anc x i)))) rem = true →
      ∀ a w, vcL P ops Q (rem.map (item ops ks)) a w → wpOps P ops Q s a w
  | [], p, rem, hl, hm, hp, a, w, h => by
    have : rem = [] := List.eq_nil_iff_forall_not_mem.2 fun x hx => by simpa using (hm x).1 hx
    subst this; exact h
  | i :: s, p, rem, hl, hm, hp, a, w, h => by
    have hi : i < ops.size := (hv.2.1 i).1 (by rw [hl]; simp)
    have hnd := hv.1
    rw [hl] at hnd
    have hnp : ∀ x ∈ i :: s, x ∉ p := fun x hx hxp => (List.nodup_append.1 hnd).2.2 x hxp x hx rfl
    have hns : i ∉ s := (List.nodup_cons.1 (List.nodup_append.1 hnd).2.1).1
    obtain ⟨pre, post, rfl⟩ := List.append_of_mem ((hm i).2 List.mem_cons_self)
    obtain ⟨h1, h2, h3⟩ := pairsOk_split pre hp
    have hpre : ∀ x ∈ pre, lightFree ops ks x i = true := fun x hx => by
      have hf := h1 x hx
      simp only [Bool.and_eq_true, Bool.or_eq_true] at hf
      rcases hf.2 with hc | hc | hc
      · have hxp := anc_sound hb ha hv i i (Nat.le_refl _) hi p s hl x (List.contains_iff_mem.1 hc)
        exact absurd hxp (hnp x ((hm x).1 (by simp [hx])))
      · exact hc
      · obtain ⟨q, hq, hqv⟩ := List.any_eq_true.1 hc
        have hxp := via_sound hb ha hv (hE q hq) hqv p s hl
        exact absurd hxp (hnp x ((hm x).1 (by simp [hx])))
    have hbub := bubble pre hpre a w h
    have hm' : ∀ x, x ∈ pre ++ post ↔ x ∈ s := fun x => by
      have hx := hm x
      constructor
      · intro hxx
        have hx2 : x ∈ pre ++ i :: post := by
          rcases List.mem_append.1 hxx with e | e <;> simp [e]
        rcases List.mem_cons.1 (hx.1 hx2) with rfl | e
        · exfalso
          rcases List.mem_append.1 hxx with e | e
          · have := h1 x e; simp at this
          · have := h3 x e; simp at this
        · exact e
      · intro hxs
        have := hx.2 (List.mem_cons_of_mem _ hxs)
        rcases List.mem_append.1 this with e | e
        · simp [e]
        · rcases List.mem_cons.1 e with rfl | e
          · exact absurd hxs hns
          · simp [e]
    have IH := main_stepE hb ha hv hE s (p ++ [i]) (pre ++ post) (by rw [hl]; simp) hm' h2
    have hget : ops[i]? = some (item ops ks i).2 := by simp [item, hi]
    simp only [List.map_cons] at hbub
    simp only [wpOps, hget]
    cases hw : Region.wanted (item ops ks i).2 (yielded ops a.tmps) with
    | false =>
      simp only [Bool.false_eq_true, if_false]
      rw [show item ops ks i = ((item ops ks i).1, (item ops ks i).2) from rfl, vcL_no hw] at hbub
      exact IH _ _ hbub
    | true =>
      simp only [if_true]
      left
      rw [show item ops ks i = ((item ops ks i).1, (item ops ks i).2) from rfl] at hbub
      by_cases hlt : (item ops ks i).1.light = true
      · rw [vcL_light hlt hw] at hbub
        obtain ⟨v, hv', hr⟩ := hbub
        have hst : stays (item ops ks i).1 w w := by
          cases (item ops ks i).1 <;> first | trivial | exact Ext.refl w | rfl
        unfold Oper.wp
        rcases hv' w hst with hg | ⟨f, args, hg, hcall⟩
        · rw [hg]; exact IH _ _ hr
        · rw [hg]
          refine hcall.mono ?_
          rintro e w' ⟨rfl, rfl⟩
          exact IH _ _ hr
      · generalize hk : (item ops ks i).1 = k at hbub hlt
        cases k with
        | keep => rw [vcL_keep hw] at hbub; exact wp_mono_F (fun a w hh => IH _ _ hh.2) hbub
        | write => rw [vcL_write hw] at hbub; exact wp_mono_F (fun a w hh => IH _ _ hh) hbub
        | _ => exact absurd rfl hlt

/-- for each of these pairs, which comes first -/
def ways : List (Nat × Nat) → List (List (Nat × Nat))
  | [] => [[]]
  | q :: r => (ways r).map (q :: ·) ++ (ways r).map ((q.2, q.1) :: ·)
theorem ways_some {l : List Nat} (hn : l.Nodup) : ∀ (X : List (Nat × Nat)), (∀ q ∈ X, q.1 ∈ l ∧ q.2 ∈ l ∧ q.1 ≠ q.2) → ∃ E ∈ ways X, (∀ q ∈ E, ∀ p s, l = p ++ q.2 :: s → q.1 ∈ p) ∧ ∀ q ∈ E, q.2 ∈ l
  | [], _ => ⟨[], by simp [ways], (fun _ h => by cases h), fun _ h => by cases h⟩
  | q :: X, h => by
    obtain ⟨E, hE, hall, hmem⟩ := ways_some hn X fun q hq => h q (List.mem_cons_of_mem _ hq)
    obtain ⟨h1, h2, h3⟩ := h q List.mem_cons_self
    obtain ⟨p1, s1, hl⟩ := List.append_of_mem h2
    have uniq : ∀ {y : Nat} {p s p' s' : List Nat}, l = p ++ y :: s → l = p' ++ y :: s' → p = p' := by
      intro y p s p' s' e1 e2
      have : ∀ (p p' s s' : List Nat), (p ++ y :: s).Nodup → p ++ y :: s = p' ++ y :: s' → p = p' := by
        intro p
        induction p with
        | nil =>
          intro p' s s' hn e
          cases p' with
          | nil => rfl
          | cons x p' =>
            simp only [List.nil_append, List.cons_append, List.cons.injEq] at e
            obtain ⟨rfl, e⟩ := e
            simp only [List.nil_append, List.nodup_cons] at hn
            exact absurd (by rw [e]; simp) hn.1
        | cons x p ih =>
          intro p' s s' hn e
          cases p' with
          | nil =>
            simp only [List.nil_append, List.cons_append, List.cons.injEq] at e
            obtain ⟨rfl, e⟩ := e
            simp only [List.cons_append, List.nodup_cons] at hn
            exact absurd (by simp) hn.1
          | cons x' p' =>
            simp only [List.cons_append, List.cons.injEq] at e
            simp only [List.cons_append, List.nodup_cons] at hn
            rw [e.1, ih p' s s' hn.2 e.2]
      exact this p p' s s' (e1 ▸ hn) (e1.symm.trans e2)
    by_cases hin : q.1 ∈ p1
    · refine ⟨q :: E, by simp only [ways, List.mem_append, List.mem_map]; exact .inl ⟨E, hE, rfl⟩, fun q' hq' p s e => ?_, fun q' hq' => (List.mem_cons.1 hq').elim (fun e => e ▸ h2) (hmem q')⟩
      rcases List.mem_cons.1 hq' with rfl | hq'
      · rw [← uniq hl e]; exact hin
      · exact hall q' hq' p s e
    · refine ⟨(q.2, q.1) :: E, by simp only [ways, List.mem_append, List.mem_map]; exact .inr ⟨E, hE, rfl⟩, fun q' hq' p s e => ?_, fun q' hq' => (List.mem_cons.1 hq').elim (fun e => e ▸ h1) (hmem q')⟩
      rcases List.mem_cons.1 hq' with rfl | hq'
      · dsimp only at e ⊢
        have h4 : q.1 ∈ s1 := by
          have := h1; rw [hl] at this
          simp only [List.mem_append, List.mem_cons] at this
          rcases this with a | a | a
          · exact absurd a hin
          · exact absurd a h3
          · exact a
        obtain ⟨p2, s2, rfl⟩ := List.append_of_mem h4
        have e2 : l = (p1 ++ q.2 :: p2) ++ q.1 :: s2 := by rw [hl]; simp
        rw [← uniq e2 e]; simp
      · exact hall q' hq' p s e
def okRE (ops : Array Oper) (ks : List Kd) (E : List (Nat × Nat)) (ord : List Nat) : Bool :=
  let anc := mkAnc ops.toList []
  onlyBack ops && (ancOk ops anc && ((List.range ops.size).all (fun i => ord.contains i) && (ord.all (fun i => Nat.blt i ops.size) &&
    pairsOk (fun x i => !(x == i) && ((anc.getD i []).contains x || (lightFree ops ks x i || E.any (via anc x i)))) ord)))
/-- no schedule goes so -/
def badE (ops : Array Oper) (E : List (Nat × Nat)) : Bool :=
  let anc := mkAnc ops.toList []
  ancOk ops anc && E.any fun q => E.any (via anc q.2 q.1)
theorem badE_sound {E : List (Nat × Nat)} (hb : onlyBack ops = true) {l : List Nat} (hv : Valid ops l) (hE : ∀ q ∈ E, ∀ p s, l = p ++ q.2 :: s → q.1 ∈ p) (hm : ∀ q ∈ E, q.2 ∈ l) (h : badE ops E = true) : False := by
  simp only [badE, Bool.and_eq_true] at h
  obtain ⟨ha, h⟩ := h
  obtain ⟨q, hq, h⟩ := List.any_eq_true.1 h
  obtain ⟨q', hq', h⟩ := List.any_eq_true.1 h
  obtain ⟨p1, s1, hl⟩ := List.append_of_mem (hm q hq)
  obtain ⟨a, b, rfl⟩ := List.append_of_mem (hE q hq p1 s1 hl)
  have := via_sound hb ha hv (hE q' hq') h a (b ++ q.2 :: s1) (by rw [hl]; simp)
  have hn := hv.1
  rw [hl] at hn
  simp only [List.append_assoc, List.cons_append] at hn
  exact (List.nodup_append.1 hn).2.2 q.2 this q.2 (by simp) rfl
def okX (ops : Array Oper) (ks : List Kd) : List (List (Nat × Nat)) → List (List Nat) → Bool
  | [], [] => true
  | E :: r, O => if badE ops E then okX ops ks r O else match O with | o :: s => okRE ops ks E o && okX ops ks r s | [] => false
  | _, _ => false
@[reducible] def allD (f : List Nat → Prop) : List (List Nat) → Prop
  | [] => True
  | o :: r => f o ∧ allD f r
theorem okX_some {ks : List Kd} {f : List Nat → Prop} {E : List (Nat × Nat)} : ∀ {W : List (List (Nat × Nat))} {O : List (List Nat)}, okX ops ks W O = true → allD f O → E ∈ W → badE ops E = true ∨ ∃ o, okRE ops ks E o = true ∧ f o
  | [], _, _, _, h => by cases h
  | F :: r, O, h, hf, hE => by
    cases hB : badE ops F with
    | true =>
      have h2 : okX ops ks r O = true := by unfold okX at h; rw [hB] at h; simpa using h
      rcases List.mem_cons.1 hE with rfl | hE
      · exact .inl hB
      · exact okX_some h2 hf hE
    | false =>
      unfold okX at h
      rw [hB] at h
      cases O with
      | nil => simp at h
      | cons o s =>
        simp only [Bool.false_eq_true, if_false, Bool.and_eq_true] at h
        rcases List.mem_cons.1 hE with rfl | hE
        · exact .inr ⟨o, h.1, hf.1⟩
        · exact okX_some h.2 hf.2 hE
theorem wp_region_ways {id : Nat} {a : Act} {w : World} (ks : List Kd) (X : List (Nat × Nat)) (O : List (List Nat)) (hmix : P.follows .mixedOrders = true) (hX : (onlyBack ops && X.all fun q => Nat.blt q.1 ops.size && (Nat.blt q.2 ops.size && !(q.1 == q.2))) = true) (hok : okX ops ks (ways X) O = true)
    (h : allD (fun ord => vcL P ops Q (ord.map (item ops ks)) a w.drew) O) : (Code.region id ops true).wp P Q a w := by
  rw [Bool.and_eq_true] at hX
  obtain ⟨hb, hX⟩ := hX
  refine wp_region_draw fun t => ?_
  have hv : Valid ops (Region.schedule (P.follows .mixedOrders) ops t) := schedule_valid _ hmix _ _ fun i o ho d hd => by
    have hi : i < ops.size := (Array.getElem?_eq_some_iff.1 ho).1
    have h1 := List.all_eq_true.1 (List.all_eq_true.1 hb i (List.mem_range.2 hi)) d (by
      have : ops.toList.getD i default = o := by
        simp [Array.getElem?_eq_getElem hi] at ho ⊢
        simp [ho]
      rw [this]; exact hd)
    simpa [Nat.blt_eq] using h1
  generalize Region.schedule (P.follows .mixedOrders) ops t = l at hv ⊢
  obtain ⟨E, hE, hEl, hEm⟩ := ways_some hv.1 X fun q hq => by
    have := List.all_eq_true.1 hX q hq
    simp only [Bool.and_eq_true, Nat.blt_eq, Bool.not_eq_true', beq_eq_false_iff_ne] at this
    exact ⟨(hv.2.1 _).2 this.1, (hv.2.1 _).2 this.2.1, this.2.2⟩
  rcases okX_some hok h hE with hbad | ⟨ord, hok, h⟩
  · exact (badE_sound hb hv hEl hEm hbad).elim
  simp only [okRE, Bool.and_eq_true] at hok
  obtain ⟨hb, ha, hall, hlt, hp⟩ := hok
  refine main_stepE hb ha hv hEl l [] ord rfl (fun x => ?_) hp a _ h
  rw [hv.2.1 x]
  constructor
  · intro hx; simpa [Nat.blt_eq] using List.all_eq_true.1 hlt x hx
  · intro hx; exact List.contains_iff_mem.1 (List.all_eq_true.1 hall x (List.mem_range.2 hx))
theorem allD_mono {f g : List Nat → Prop} (h : ∀ o, f o → g o) : ∀ {O : List (List Nat)}, allD f O → allD g O
  | [], _ => trivial
  | _ :: _, hf => ⟨h _ hf.1, allD_mono h hf.2⟩
theorem K.drawX {n : Nat} {D : List Deferred} {w0 : World} {G : Env} {L : List HP} {id : Nat} (ks : List Kd) (X : List (Nat × Nat)) (O : List (List Nat)) (hmix : P.follows .mixedOrders = true) (hX : (onlyBack ops && X.all fun q => Nat.blt q.1 ops.size && (Nat.blt q.2 ops.size && !(q.1 == q.2))) = true) (hok : okX ops ks (ways X) O = true)
    (h : allD (fun ord => KO P ops true Q n D w0 G L (ord.map (item ops ks))) O) : K P (.region id ops true) Q n D w0 G L := fun a _ ha hw =>
  wp_region_ways ks X O hmix hX hok (allD_mono (fun _ hh => hh a _ ha hw.drew) h)
end WB
/- the steps of the calculus: empty slices, slices appended to slices -/
namespace WB
open Go Go.RowKit
/-- a slice, wherever it lies, that reads so -/
def Src {α : Type} (w : World) (cf : α → List Value) (v : Value) (xs : List α) : Prop :=
  ∃ a cap, v = .slice a xs.length cap ∧ (a = none → xs = []) ∧ ∀ ad, a = some ad → HasCells w ad (xs.flatMap cf)
section
variable {w0 w : World} {L R : List HP} {E : TypeId} {α : Type} {cf : α → List Value} {sz : Nat} {xs ys : List α} {v : Value}
theorem flatC_len (hsz : ∀ e, (cf e).length = sz) : ∀ xs : List α, (xs.flatMap cf).length = xs.length * sz
  | [] => by simp
  | a :: l => by simp [flatC_len hsz l, hsz, Nat.succ_mul]; omega
theorem HasCells.take {ad : Addr} {cs ds : List Value} (h : HasCells w ad (cs ++ ds)) : HasCells w ad cs := fun j c hj => h j c (by rw [List.getElem?_append_left (List.getElem?_eq_some_iff.1 hj).1]; exact hj)
theorem Src.of (hp : Pick L (SL E sz cf v xs) R) (w : World) (hw : St w0 L w) : Src w cf v xs := by
  rcases (hw.pick hp).osl_cases with ⟨h1, h2, h3, _⟩ | ⟨g, cap, cur, h1, h2, h3, h4, h5, h6, h7⟩
  · have : xs = [] := List.eq_nil_of_length_eq_zero h2
    exact ⟨none, 0, by rw [h1, this]; rfl, fun _ => this, fun ad h => (by cases h)⟩
  · refine ⟨some ⟨g, 0, none⟩, cap, h1, (fun h => by cases h), fun ad h => ?_⟩
    cases h
    have hl := h7.look.2
    intro j c hj
    rw [Addr.add_lit, World.cell?, hl]
    rw [← h5, List.getElem?_take] at hj
    split at hj
    · simpa using hj
    · simp at hj
theorem Src.take {a : Option Addr} {len cap : Nat} (h : Src w cf (.slice a len cap) xs) (k : Nat) (hk : k ≤ xs.length) : Src w cf (.slice a k cap) (xs.take k) := by
  obtain ⟨b, c, e, h1, h2⟩ := h
  simp only [Value.slice.injEq] at e
  obtain ⟨rfl, rfl, rfl⟩ := e
  refine ⟨a, cap, by rw [List.length_take, Nat.min_eq_left hk], fun e => by rw [h1 e]; simp, fun ad e => ?_⟩
  have := h2 ad e
  rw [← List.take_append_drop k xs, List.flatMap_append] at this
  exact this.take
theorem Src.cut (hsz : ∀ e, (cf e).length = sz) {g len cap : Nat} (h : Src w cf (.slice (some ⟨g, 0, none⟩) len cap) xs) (k : Nat) (hk : k ≤ xs.length) (hc : xs.length ≤ cap) : Src w cf (.slice (some (cutAt g k sz cap)) (xs.length - k) (cap - k)) (xs.drop k) := by
  obtain ⟨b, c, e, h1, h2⟩ := h
  simp only [Value.slice.injEq] at e
  obtain ⟨rfl, rfl, rfl⟩ := e
  refine ⟨_, _, by rw [List.length_drop], (fun e => by cases e), fun ad e => ?_⟩
  cases e
  unfold cutAt
  by_cases hck : cap = k
  · have : xs.drop k = [] := List.drop_eq_nil_of_le (by omega)
    rw [this]; exact fun j c hj => by simp at hj
  · rw [if_neg hck]
    have := h2 _ rfl
    rw [← List.take_append_drop k xs, List.flatMap_append] at this
    intro j c hj
    have h3 := this (k * sz + j) c (by
      rw [List.getElem?_append_right (by rw [flatC_len hsz, List.length_take]; have := Nat.mul_le_mul_right sz (Nat.min_le_left k xs.length); omega)]
      rw [flatC_len hsz, List.length_take, Nat.min_eq_left hk]
      simpa using hj)
    rw [Addr.add_lit] at h3 ⊢
    simpa using h3
theorem Src.ext {w' : World} (h : Src w cf v xs) (e : Ext w w') : Src w' cf v xs := by
  obtain ⟨a, cap, h1, h2, h3⟩ := h
  exact ⟨a, cap, h1, h2, fun ad ha => (h3 ad ha).ext e⟩
theorem SL_cap {g n cap : Nat} (hw : St w0 (SL E sz cf (.slice (some ⟨g, 0, none⟩) n cap) xs :: R) w) : n = xs.length ∧ n ≤ cap := by
  obtain ⟨h1, h2, _⟩ := SL_open hw
  exact ⟨h1, h2⟩
end
section
variable {P : Program} {ops : Array Oper} {d : Bool} {Q : Exit → Act → World → Prop} {n : Nat} {D : List Deferred} {w0 : World} {G : Env} {L R R' N : List HP} {l : List (Kd × Oper)} {k : Kd}
  {t : Nat} {op : Op} {ty T T' E E' : TypeId} {pos : String} {af : Array Edge} {x y : Operand} {v u z : Value} {i j : Nat} {a c r : Int} {ad : Addr} {α : Type} {cf : α → List Value} {sz by' : Nat} {xs ys : List α} {e e' : α}
theorem run_buildSlice0 (w : World) (t e : TypeId) (sz : Nat) (hu : P.underlying t = some (.slice e)) (hs : (Go.sizeOf e).run P w = .ok sz w) :
    (Instr.buildSlice t 0 #[]).run P w = .ok (.slice (some ⟨w.heap.size, 0, none⟩) 0 0) (w.alloc (.cells #[] e)) := by
  simp [Instr.buildSlice, run_underlying hu, hs, Instr.fill, newRow]
  rw [show Array.range 0 = #[] from rfl, Array.map_empty]
/-- []T{} -/
theorem KO.bs0 (cf : α → List Value) (hk : (!d || (k == .keep || k == .write)) = true) (hT : P.underlying T = some (.slice E)) (hs : ∀ w, (Go.sizeOf E).run P w = .ok sz w) (ht : Nat.blt t n = true)
    (h : ∀ bb, KO P ops d Q n D w0 ((t, .slice (some ⟨bb, 0, none⟩) 0 0) :: G) (SL E sz cf (.slice (some ⟨bb, 0, none⟩) 0 0) [] :: L) l) : KO P ops d Q n D w0 G L ((k, ⟨some t, .buildSlice T 0 #[], ty, pos, af, none⟩) :: l) := by
  refine KO.keepRun hk (F := fun bb => .slice (some ⟨bb, 0, none⟩) 0 0) (N := fun bb => SL E sz cf (.slice (some ⟨bb, 0, none⟩) 0 0) [] :: L) (fun a w ha hw => ⟨w.heap.size, w.alloc (.cells #[] E), ?_, Ext.alloc w _, ?_⟩) ht h
  · have hr := run_buildSlice0 (P := P) w T E sz hT (hs w)
    simp [execOp, hr]
  · exact (hw.alloc (.cells #[] E)).osl_mk (n := 0) (cap := 0) (Nat.le_refl _) (by unfold maxLen; omega) (by simp) (by simp)
theorem run_append_none (w : World) (t ty e : TypeId) (b : Option Addr) (m cap c s : Nat) (hu : P.underlying t = some (.slice e)) (hs : (Go.sizeOf e).run P w = .ok s w) (h : m ≤ cap) :
    (Builtin.append_ #[t, t] ty #[.slice b m cap, .slice none 0 c]).run P w = .ok (.slice b m cap) w := by
  cases b <;> simp [Builtin.append_, run_underlying hu, hs, Builtin.lenOf, Builtin.firstCells, h, storeCells]
/-- append(x, y...) -/
theorem KO.appS (hk : (!d || k == .write) = true) (hx : ev G x = some v) (hy : ev G y = some u) (hp : Pick L (SL E sz cf v xs) R) (hs : ∀ w, St w0 L w → Src w cf u ys)
    (hT : P.underlying T = some (.slice E)) (hi : (P.info? E).map (fun i => (i.zero, i.size, i.bytes)) = some (some z, sz, by')) (hzs : z.cells.size = sz) (hsz : ∀ e, (cf e).length = sz) (h1 : ∀ e, (cf e).all Value.oneCell' = true) (hb : xs.length + ys.length < 1000000000) (hby : by' ≤ 10000) (ht : Nat.blt t n = true)
    (h : ∀ v', KO P ops d Q n D w0 ((t, v') :: G) (SL E sz cf v' (xs ++ ys) :: R) l) : KO P ops d Q n D w0 G L ((k, ⟨some t, .call ⟨.builtin .append, #[x, y], #[T, T]⟩, ty, pos, af, none⟩) :: l) := by
  obtain ⟨i0, hi1, hz0, hz1, hz2⟩ := info_parts hi
  refine KO.wvE hk (F := fun v' => SL E sz cf v' (xs ++ ys) :: R) (fun a w ha hw => ?_) ht h
  have hw2 := hw.pick hp
  obtain ⟨sa, cap, rfl, hn, hc⟩ := hs w hw
  cases sa with
  | none =>
    obtain rfl := hn rfl
    obtain ⟨b, c2, rfl, hb2⟩ : ∃ b c2, v = .slice b xs.length c2 ∧ xs.length ≤ c2 := by
      rcases hw2.osl_cases with ⟨h1, h2, _⟩ | ⟨g, cap, cur, h1, h2, _⟩
      · exact ⟨none, 0, by rw [h1, h2], by omega⟩
      · exact ⟨_, cap, h1, h2⟩
    refine ⟨.slice b xs.length c2, w, exec_append2 x y T T rfl _ _ (ha.eval hx) (ha.eval hy) (run_append_none (P := P) w T ty E b _ c2 cap sz hT (by simp [Go.sizeOf, typeInfo, hi1, hz1]) hb2), ?_⟩
    rw [List.append_nil]; exact hw2
  | some ad =>
    have hcells := hc ad rfl
    have hbb : (xs.length + ys.length) * by' ≤ 140737488355328 := by
      have := Nat.mul_le_mul (show xs.length + ys.length ≤ 1000000000 by omega) hby; omega
    obtain ⟨v', w', hr, hst⟩ := append_st (P := P) T ty E i0 z sz by' hT hi1 hz0 hz1 hz2 hzs hw2 ad ys.length cap (ys.flatMap cf) (flatC_len hsz ys) hcells (flat_one (fun e u hu => List.all_eq_true.1 (h1 e) u hu) ys) (by unfold maxLen; omega) hbb
    refine ⟨v', w', exec_append2 x y T T rfl v _ (ha.eval hx) (ha.eval hy) hr, ?_⟩
    show St w0 (osl E sz v' (xs ++ ys).length ((xs ++ ys).flatMap cf) :: R) w'
    rw [List.length_append, List.flatMap_append]
    exact hst
theorem LSub.nil : ∀ (M : List HP), LSub [] M
  | [] => .refl
  | _ :: M => .drop (LSub.nil M)
/-- a byte of a string -/
theorem KO.idxStr {s : ByteArray} {b : UInt8} (hx : ev G x = some (.string s)) (hy : ev G y = some (.int .i64 a)) (hT : P.underlying T = some .string) (ha : a = (i : Int)) (hc : s[i]? = some b) (ht : Nat.blt t n = true)
    (h : KO P ops d Q n D w0 ((t, .int .u8 (b.toNat : Nat)) :: G) L l) : KO P ops d Q n D w0 G L ((k, ⟨some t, .index T x y, ty, pos, af, none⟩) :: l) :=
  KO.val (fun a' w ha' => by
    subst ha
    simp [execOp, ha'.eval hx, ha'.eval hy, Instr.index, asIntOf, run_underlying hT, hc]) ht h
/-- x.(I), ok: it has not all of I's methods -/
theorem KO.taN {T0 : TypeId} {want : Array (String × TypeId)} (hx : ev G x = some (.iface T0 v)) (hu : P.underlying T' = some (.interface want)) (hl : (P.info? T0).map (fun i => (lacking want i.methods).isEmpty) = some false) (hz : (P.info? T').map (·.zero) = some (some z)) (ht : Nat.blt t n = true)
    (h : KO P ops d Q n D w0 ((t, .tuple #[z, .bool false]) :: G) L l) : KO P ops d Q n D w0 G L ((k, ⟨some t, .typeAssert x T T' true, ty, pos, af, none⟩) :: l) :=
  KO.val (fun a' w ha' => by
    simp [execOp, ha'.eval hx, run_typeAssert_lacksB hu hl hz v T w]) ht h
def noIface (u : Option TypeDesc) : Bool := match u with | some (.interface _) => false | none => false | some _ => true
theorem KO.taC {T0 : TypeId} (hx : ev G x = some (.iface T0 v)) (hu : noIface (P.underlying T') = true) (hne : Nat.beq T0 T' = false) (hz : ∀ w, (zeroValue T').run P w = .ok z w) (ht : Nat.blt t n = true)
    (h : KO P ops d Q n D w0 ((t, .tuple #[z, .bool false]) :: G) L l) : KO P ops d Q n D w0 G L ((k, ⟨some t, .typeAssert x T T' true, ty, pos, af, none⟩) :: l) :=
  KO.val (fun a' w ha' => by
    have hn : ¬ T0 = T' := fun e => by rw [e, Nat.beq_refl] at hne; cases hne
    cases hd : P.underlying T' with
    | none => rw [hd] at hu; cases hu
    | some dd =>
      rw [hd] at hu
      simp only [execOp, ha'.eval hx, Instr.typeAssert, run_underlying hd, Sem.run_bind, Result.andThen_ok]
      cases dd <;> first | (cases hu; done) | simp [hn, hz w]) ht h
theorem KO.taY (hx : ev G x = some (.iface T' v)) (hu : noIface (P.underlying T') = true) (ht : Nat.blt t n = true)
    (h : KO P ops d Q n D w0 ((t, .tuple #[v, .bool true]) :: G) L l) : KO P ops d Q n D w0 G L ((k, ⟨some t, .typeAssert x T T' true, ty, pos, af, none⟩) :: l) :=
  KO.val (fun a' w ha' => by
    cases hd : P.underlying T' with
    | none => rw [hd] at hu; cases hu
    | some dd =>
      rw [hd] at hu
      simp only [execOp, ha'.eval hx, Instr.typeAssert, run_underlying hd, Sem.run_bind, Result.andThen_ok]
      cases dd <;> first | (cases hu; done) | simp) ht h
theorem KO.neIf {T0 : TypeId} (hx : ev G x = some (.iface T0 v)) (hT : P.underlying T = some (.interface (P.methodsAt T))) (ht : Nat.blt t n = true) (h : KO P ops d Q n D w0 ((t, .bool true) :: G) L l) :
    KO P ops d Q n D w0 G L ((k, ⟨some t, .binOp .neq T x (.const .nilIface) T', ty, pos, af, none⟩) :: l) :=
  KO.val (fun a w ha => by
    simp only [execOp, ha.eval hx, show a.eval (.const .nilIface) = .nilIface from rfl]
    simp [run_neq_held_nil w T _ _ hT, eqGuard_at_iface]) ht h
theorem KO.eqIf {T0 : TypeId} (hx : ev G x = some (.iface T0 v)) (hT : P.underlying T = some (.interface (P.methodsAt T))) (ht : Nat.blt t n = true) (h : KO P ops d Q n D w0 ((t, .bool false) :: G) L l) :
    KO P ops d Q n D w0 G L ((k, ⟨some t, .binOp .eql T x (.const .nilIface) T', ty, pos, af, none⟩) :: l) :=
  KO.val (fun a w ha => by
    simp only [execOp, ha.eval hx, show a.eval (.const .nilIface) = .nilIface from rfl]
    simp [run_eql_held_nil w T _ _ hT, eqGuard_at_iface]) ht h
theorem KO.neI0 (hx : ev G x = some .nilIface) (hT : P.underlying T = some (.interface (P.methodsAt T))) (ht : Nat.blt t n = true) (h : KO P ops d Q n D w0 ((t, .bool false) :: G) L l) :
    KO P ops d Q n D w0 G L ((k, ⟨some t, .binOp .neq T x (.const .nilIface) T', ty, pos, af, none⟩) :: l) :=
  KO.val (fun a w ha => by
    simp only [execOp, ha.eval hx, show a.eval (.const .nilIface) = .nilIface from rfl]
    simp [run_neq_nil_nil w T hT, eqGuard_nil_constR]) ht h
theorem KO.eqI0 (hx : ev G x = some .nilIface) (hT : P.underlying T = some (.interface (P.methodsAt T))) (ht : Nat.blt t n = true) (h : KO P ops d Q n D w0 ((t, .bool true) :: G) L l) :
    KO P ops d Q n D w0 G L ((k, ⟨some t, .binOp .eql T x (.const .nilIface) T', ty, pos, af, none⟩) :: l) :=
  KO.val (fun a w ha => by
    simp only [execOp, ha.eval hx, show a.eval (.const .nilIface) = .nilIface from rfl]
    simp [run_eql_nil_nil w T hT, eqGuard_nil_constR]) ht h
theorem KO.nePn {E : TypeId} (hx : ev G x = some (.pointer (some ad))) (hT : P.underlying T = some (.pointer E)) (ht : Nat.blt t n = true) (h : KO P ops d Q n D w0 ((t, .bool true) :: G) L l) :
    KO P ops d Q n D w0 G L ((k, ⟨some t, .binOp .neq T x (.const (.pointer none)) T', ty, pos, af, none⟩) :: l) :=
  KO.val (fun a w ha => by
    simp only [execOp, ha.eval hx, show a.eval (.const (.pointer none)) = .pointer none from rfl]
    simp [go_sem, hT]) ht h
end
end WB
namespace WB
open Go Go.RowKit
section
variable {P : Program} {fn : Func} {R : Ending → World → Prop} {n : Nat} {w0 : World} {G : Env} {L M : List HP} {v v1 v2 v3 : Value} {t t1 t2 t3 : Nat} {T E : TypeId} {b : Nat} {cs : List Value} {fz : Nat × Nat}
theorem KQ.retTC (hr : fn.results = #[.tmp t2, .cell t1 T]) (h1 : envAt G t1 = some (.pointer (some ⟨b, 0, none⟩))) (hT : ∀ w, (isAgg T).run P w = .ok true w) (hp : Pick L (blk b (.cells cs.toArray E fz)) M) (hn : ∀ w, (Go.sizeOf T).run P w = .ok cs.length w)
    (h2 : envAt G t2 = some v2) (h : ∀ w, St w0 L w → R (.returned (.tuple #[v2, .agg cs.toArray])) w) : KQ (bodyPost P fn R) .ret n [] w0 G L :=
  KQ.fin (fun a w ha hw => by
    have hl := resC (P := P) h1 hT hn hp a w ha hw
    simp [results, hr, Array.getD_eq_getD_getElem?, ha.get _ _ h1, ha.get _ _ h2, asAddr, hl]) h
end
end WB
namespace WB
open Go Go.RowKit
theorem KE.turn {P : Program} {f : FuncId} {args : Array Value} {w0 : World} {L : List HP} {R R' : Value → List HP → Prop} (h : KE P f args w0 L R) (hr : ∀ v M, R v M → ∃ M', R' v M' ∧ ∀ w, St w0 M w → St w0 M' w) : KE P f args w0 L R' := fun w hw =>
  (h w hw).mono fun _ _ ⟨v, M, e, r, s, b⟩ => let ⟨M', r', c⟩ := hr v M r; ⟨v, M', e, r', c _ s, b⟩
end WB
/- the document's words: what may be; errors held beside it. -/
namespace Go.Proofs.YtjhogocabcdjbaaDoor
open Go Go.RowKit WB
theorem in_e (w0 : World) (L : List HP) (n a b : Int) : KE Tryd.prog 62 #[.int .i64 n, .int .i64 a, .int .i64 b] w0 L (fun u M => u = .bool (decide (a ≤ n) && decide (n ≤ b)) ∧ M = L) := by
  refine KE.mk (n := 15) Tryd.func62 rfl Tryd.ntmps62 (by simp) ?_
  intro w hw
  repeat ((with_reducible refine K.seq ?_))
  refine K.reg ?_
  refine KO.as rfl rfl ?_
  refine KO.nil ?_
  repeat (first | (with_reducible refine K.seq ?_) | (with_reducible refine KQ.next ?_))
  by_cases h : a ≤ n
  · refine K.reg ?_
    refine KO.mv rfl rfl ?_
    refine KO.mv rfl rfl ?_
    refine KO.leq rfl rfl rfl ?_
    refine KO.mv rfl rfl ?_
    (refine KO.on rfl rfl ?_ ?_; (focus (simp only [decide_eq_true_eq, decide_eq_false_iff_not, Bool.not_eq_true, Bool.not_true, Bool.not_false, ne_eq]; omega)); (refine KO.mv rfl rfl ?_))
    (refine KO.on rfl rfl ?_ ?_; (focus (simp only [decide_eq_true_eq, decide_eq_false_iff_not, Bool.not_eq_true, Bool.not_true, Bool.not_false, ne_eq]; omega)); (refine KO.mv rfl rfl ?_))
    (refine KO.on rfl rfl ?_ ?_; (focus (simp only [decide_eq_true_eq, decide_eq_false_iff_not, Bool.not_eq_true, Bool.not_true, Bool.not_false, ne_eq]; omega)); (refine KO.leq rfl rfl rfl ?_))
    (refine KO.pickT rfl ?_ rfl rfl ?_; (focus (simp only [decide_eq_true_eq, decide_eq_false_iff_not, Bool.not_eq_true, Bool.not_true, Bool.not_false, ne_eq]; omega)))
    refine KO.as rfl rfl ?_
    refine KO.nil ?_
    repeat (first | (with_reducible refine KQ.next ?_) | (with_reducible refine K.ret ?_))
    refine KQ.ret1 rfl rfl (fun w' hs => ⟨_, _, rfl, ⟨by simp [h], rfl⟩, hw.below_step hs.below, hs.below⟩)
  · refine K.reg ?_
    refine KO.mv rfl rfl ?_
    refine KO.mv rfl rfl ?_
    refine KO.leq rfl rfl rfl ?_
    refine KO.mv rfl rfl ?_
    (refine KO.no rfl rfl ?_ rfl ?_; (focus (simp only [decide_eq_true_eq, decide_eq_false_iff_not, Bool.not_eq_true, Bool.not_true, Bool.not_false, ne_eq]; omega)))
    (refine KO.no rfl rfl ?_ rfl ?_; (focus (simp only [decide_eq_true_eq, decide_eq_false_iff_not, Bool.not_eq_true, Bool.not_true, Bool.not_false, ne_eq]; omega)))
    (refine KO.no rfl rfl ?_ rfl ?_; (focus (simp only [decide_eq_true_eq, decide_eq_false_iff_not, Bool.not_eq_true, Bool.not_true, Bool.not_false, ne_eq]; omega)))
    (refine KO.pickF rfl ?_ rfl rfl ?_; (focus (simp only [decide_eq_true_eq, decide_eq_false_iff_not, Bool.not_eq_true, Bool.not_true, Bool.not_false, ne_eq]; omega)))
    refine KO.as rfl rfl ?_
    refine KO.nil ?_
    repeat (first | (with_reducible refine KQ.next ?_) | (with_reducible refine K.ret ?_))
    refine KQ.ret1 rfl rfl (fun w' hs => ⟨_, _, rfl, ⟨by simp [h], rfl⟩, hw.below_step hs.below, hs.below⟩)
theorem isLet_of (c : UInt8) : isLet c = ((decide ((97 : Int) ≤ (c.toNat : Nat)) && decide (((c.toNat : Nat) : Int) ≤ 122)) || (decide ((48 : Int) ≤ (c.toNat : Nat)) && decide (((c.toNat : Nat) : Int) ≤ 57))) := by
  unfold isLet
  have e : ∀ n : Fin 256, ((97 : UInt8) ≤ UInt8.ofNat n.val ↔ (97 : Int) ≤ (n.val : Nat)) ∧ (UInt8.ofNat n.val ≤ (122 : UInt8) ↔ ((n.val : Nat) : Int) ≤ 122) ∧ ((48 : UInt8) ≤ UInt8.ofNat n.val ↔ (48 : Int) ≤ (n.val : Nat)) ∧ (UInt8.ofNat n.val ≤ (57 : UInt8) ↔ ((n.val : Nat) : Int) ≤ 57) := by decide +kernel
  have h := e ⟨c.toNat, c.toNat_lt⟩
  simp only [UInt8.ofNat_toNat] at h
  simp only [h.1, h.2.1, h.2.2.1, h.2.2.2]
theorem rletters_e (w0 : World) (L : List HP) (s : ByteArray) (m : Nat) (hs : s.size ≤ maxLen) : KE Tryd.prog 64 #[.string s, .int .i64 (m : Nat)] w0 L (fun u M => u = .bool (lettersB s m) ∧ M = L) := by
  refine KE.mk (n := 35) Tryd.func64 rfl Tryd.ntmps64 (by simp) ?_
  intro w hw
  have hs9 : s.size ≤ 9223372036854775807 := by unfold maxLen at hs; exact hs
  repeat ((with_reducible refine K.seq ?_))
  refine K.reg ?_
  refine KO.as rfl rfl ?_
  refine KO.nil ?_
  repeat (first | (with_reducible refine K.seq ?_) | (with_reducible refine KQ.next ?_))
  refine K.reg ?_
  refine KO.mv rfl rfl ?_
  refine KO.lenS rfl Tryd.underlying9 rfl ?_
  refine KO.mv rfl rfl ?_
  refine KO.nil ?_
  repeat (first | (with_reducible refine KQ.next ?_) | (with_reducible refine K.block ?_))
  refine K.loop (fun k : Nat => [(0, .string s), (1, .int .i64 (m : Nat)), (8, .int .i64 (s.size : Nat)), (9, .int .i64 (k : Nat))]) (fun _ => []) (fun k => k ≤ s.size ∧ ∀ j c, j < k → s[j]? = some c → isLet c = true) (fun k => s.size - k) 0
    ⟨Nat.zero_le _, fun j c h => by omega⟩ ⟨rfl, rfl, rfl, rfl, trivial⟩ (fun _ h => h) ?_
  rintro k ⟨hk, hall⟩
  repeat ((with_reducible refine K.seq ?_))
  refine K.reg ?_
  refine KO.lss rfl rfl rfl ?_
  refine KO.nil ?_
  repeat (first | (with_reducible refine K.seq ?_) | (with_reducible refine KQ.next ?_))
  refine K.condD rfl (fun h => ?_) (fun h => ?_)
  · obtain ⟨c, hc⟩ : ∃ c, s[k]? = some c := ⟨s[k]'(by omega), getElem?_eq_some_iff.2 ⟨by omega, rfl⟩⟩
    have hl := isLet_of c
    repeat (first | (with_reducible refine K.seq ?_) | (with_reducible refine KQ.next ?_) | (with_reducible refine K.skip ?_) | (with_reducible refine K.block ?_))
    refine K.reg ?_
    refine KO.mv rfl rfl ?_
    refine KO.as rfl rfl ?_
    refine KO.nil ?_
    repeat (first | (with_reducible refine K.seq ?_) | (with_reducible refine KQ.next ?_))
    refine K.reg ?_
    refine KO.mv rfl rfl ?_
    refine KO.mv rfl rfl ?_
    refine KO.idxStr rfl rfl Tryd.underlying9 (by exact rfl) (by assumption) rfl ?_
    refine KO.as rfl rfl ?_
    refine KO.nil ?_
    repeat (first | (with_reducible refine K.seq ?_) | (with_reducible refine KQ.next ?_))
    refine K.cut (fun b : Bool => [(29, .bool (!b)), (0, .string s), (1, .int .i64 (m : Nat)), (8, .int .i64 (s.size : Nat)), (9, .int .i64 (k : Nat))]) (fun _ => []) (fun b => b = isLet c) ?_ ?_
    · by_cases h1 : (97 : Int) ≤ (c.toNat : Nat)
      all_goals by_cases h2 : ((c.toNat : Nat) : Int) ≤ 122
      all_goals by_cases h3 : (48 : Int) ≤ (c.toNat : Nat)
      all_goals by_cases h4 : ((c.toNat : Nat) : Int) ≤ 57
      all_goals first | (exfalso; omega) | skip
      all_goals (simp only [h1, h2, h3, h4, decide_true, decide_false, Bool.and_true, Bool.and_false, Bool.or_true, Bool.or_false, Bool.true_or, Bool.false_or] at hl)
      all_goals (
        refine K.reg ?_
        refine KO.mv rfl rfl ?_
        refine KO.geq rfl rfl rfl ?_
        refine KO.mv rfl rfl ?_
        first | (refine KO.on rfl rfl ?_ ?_; (focus (simp only [decide_eq_true_eq, decide_eq_false_iff_not, Bool.not_eq_true, Bool.not_true, Bool.not_false, ne_eq]; omega)); (refine KO.mv rfl rfl ?_)) | (refine KO.no rfl rfl ?_ rfl ?_; (focus (simp only [decide_eq_true_eq, decide_eq_false_iff_not, Bool.not_eq_true, Bool.not_true, Bool.not_false, ne_eq]; omega)))
        first | (refine KO.on rfl rfl ?_ ?_; (focus (simp only [decide_eq_true_eq, decide_eq_false_iff_not, Bool.not_eq_true, Bool.not_true, Bool.not_false, ne_eq]; omega)); (refine KO.leq rfl rfl rfl ?_)) | (refine KO.no rfl rfl ?_ rfl ?_; (focus (simp only [decide_eq_true_eq, decide_eq_false_iff_not, Bool.not_eq_true, Bool.not_true, Bool.not_false, ne_eq]; omega)))
        first | (refine KO.pickT rfl ?_ rfl rfl ?_; (focus (simp only [decide_eq_true_eq, decide_eq_false_iff_not, Bool.not_eq_true, Bool.not_true, Bool.not_false, ne_eq]; omega))) | (refine KO.pickF rfl ?_ rfl rfl ?_; (focus (simp only [decide_eq_true_eq, decide_eq_false_iff_not, Bool.not_eq_true, Bool.not_true, Bool.not_false, ne_eq]; omega)))
        refine KO.mv rfl rfl ?_
        first | (refine KO.on rfl rfl ?_ ?_; (focus first | rfl | (simp only [decide_eq_true_eq, decide_eq_false_iff_not, Bool.not_eq_true, Bool.not_true, Bool.not_false, ne_eq]; omega)); (refine KO.mv rfl rfl ?_)) | (refine KO.no rfl rfl ?_ rfl ?_; (focus (simp only [decide_eq_true_eq, decide_eq_false_iff_not, Bool.not_eq_true, Bool.not_true, Bool.not_false, ne_eq]; omega)))
        first | (refine KO.on rfl rfl ?_ ?_; (focus first | rfl | (simp only [decide_eq_true_eq, decide_eq_false_iff_not, Bool.not_eq_true, Bool.not_true, Bool.not_false, ne_eq]; omega)); (refine KO.geq rfl rfl rfl ?_)) | (refine KO.no rfl rfl ?_ rfl ?_; (focus (simp only [decide_eq_true_eq, decide_eq_false_iff_not, Bool.not_eq_true, Bool.not_true, Bool.not_false, ne_eq]; omega)))
        first | (refine KO.on rfl rfl ?_ ?_; (focus first | rfl | (simp only [decide_eq_true_eq, decide_eq_false_iff_not, Bool.not_eq_true, Bool.not_true, Bool.not_false, ne_eq]; omega)); (refine KO.mv rfl rfl ?_)) | (refine KO.no rfl rfl ?_ rfl ?_; (focus (simp only [decide_eq_true_eq, decide_eq_false_iff_not, Bool.not_eq_true, Bool.not_true, Bool.not_false, ne_eq]; omega)))
        first | (refine KO.on rfl rfl ?_ ?_; (focus (simp only [decide_eq_true_eq, decide_eq_false_iff_not, Bool.not_eq_true, Bool.not_true, Bool.not_false, ne_eq]; omega)); (refine KO.mv rfl rfl ?_)) | (refine KO.no rfl rfl ?_ rfl ?_; (focus (simp only [decide_eq_true_eq, decide_eq_false_iff_not, Bool.not_eq_true, Bool.not_true, Bool.not_false, ne_eq]; omega))) | refine KO.no2 rfl rfl rfl ?_
        first | (refine KO.on rfl rfl ?_ ?_; (focus (simp only [decide_eq_true_eq, decide_eq_false_iff_not, Bool.not_eq_true, Bool.not_true, Bool.not_false, ne_eq]; omega)); (refine KO.leq rfl rfl rfl ?_)) | (refine KO.no rfl rfl ?_ rfl ?_; (focus (simp only [decide_eq_true_eq, decide_eq_false_iff_not, Bool.not_eq_true, Bool.not_true, Bool.not_false, ne_eq]; omega))) | refine KO.no2 rfl rfl rfl ?_
        first | (refine KO.on rfl rfl ?_ ?_; (focus first | rfl | (simp only [decide_eq_true_eq, decide_eq_false_iff_not, Bool.not_eq_true, Bool.not_true, Bool.not_false, ne_eq]; omega)); (first | (refine KO.pickT rfl ?_ rfl rfl ?_; (focus (simp only [decide_eq_true_eq, decide_eq_false_iff_not, Bool.not_eq_true, Bool.not_true, Bool.not_false, ne_eq]; omega))) | (refine KO.pickF rfl ?_ rfl rfl ?_; (focus (simp only [decide_eq_true_eq, decide_eq_false_iff_not, Bool.not_eq_true, Bool.not_true, Bool.not_false, ne_eq]; omega))))) | (refine KO.no rfl rfl ?_ rfl ?_; (focus (simp only [decide_eq_true_eq, decide_eq_false_iff_not, Bool.not_eq_true, Bool.not_true, Bool.not_false, ne_eq]; omega)))
        first | (refine KO.pickT rfl ?_ rfl rfl ?_; (focus (simp only [decide_eq_true_eq, decide_eq_false_iff_not, Bool.not_eq_true, Bool.not_true, Bool.not_false, ne_eq]; omega))) | (refine KO.pickF rfl ?_ rfl rfl ?_; (focus first | rfl | (simp only [decide_eq_true_eq, decide_eq_false_iff_not, Bool.not_eq_true, Bool.not_true, Bool.not_false, ne_eq]; omega)))
        refine KO.not rfl rfl ?_
        refine KO.nil ?_
        exact KQ.mid (isLet c) rfl ⟨by rw [hl]; first | rfl | simp [envAt, h1, h2, h3, h4], rfl, rfl, rfl, rfl, trivial⟩ (fun _ h => h))
    rintro b rfl
    refine K.cond rfl (fun h5 => ?_) (fun h5 => ?_)
    · repeat ((with_reducible refine K.seq ?_))
      refine K.reg ?_
      refine KO.as rfl rfl ?_
      refine KO.nil ?_
      repeat (first | (with_reducible refine KQ.next ?_) | (with_reducible refine KQ.then_ret ?_) | (with_reducible refine KQ.blk_ret ?_) | (with_reducible refine K.ret ?_))
      refine KQ.ret1 rfl rfl (fun w' hs' => ⟨_, _, rfl, ⟨?_, rfl⟩, hw.below_step hs'.below, hs'.below⟩)
      have : allLet s = false := by
        unfold allLet
        rw [List.all_eq_false]
        obtain ⟨hlt, rfl⟩ := getElem?_eq_some_iff.1 hc
        exact ⟨s[k], Array.mem_toList_iff.2 (Array.getElem_mem (xs := s.data) hlt), by simpa using h5⟩
      simp [lettersB, this]
    · repeat (first | (with_reducible refine KQ.next ?_) | (with_reducible refine KQ.blk_normal ?_) | (with_reducible refine K.skip ?_))
      refine K.reg ?_
      refine KO.add rfl rfl rfl (by omega) rfl ?_
      refine KO.mv rfl rfl ?_
      refine KO.nil ?_
      refine KQ.round (k + 1) ⟨by omega, fun j d hj hd => ?_⟩ (by omega) ⟨rfl, rfl, rfl, rfl, trivial⟩ (fun _ h => h)
      by_cases hjk : j = k
      · subst hjk; rw [hc] at hd; cases hd; simpa using h5
      · exact hall j d (by omega) hd
  · have hall2 : allLet s = true := by
      unfold allLet
      rw [List.all_eq_true]
      intro c hc
      obtain ⟨j, hj, rfl⟩ := List.getElem_of_mem hc
      have hj2 : j < s.size := by simpa using hj
      exact hall j _ (by omega) (getElem?_eq_some_iff.2 ⟨hj2, rfl⟩)
    repeat (first | (with_reducible refine K.seq ?_) | (with_reducible refine KQ.next ?_) | (with_reducible refine KQ.then_exit ?_) | (with_reducible refine KQ.blk_exit ?_) | (with_reducible refine K.exit ?_))
    refine K.reg ?_
    refine KO.mv rfl rfl ?_
    refine KO.lenS rfl Tryd.underlying9 rfl ?_
    refine KO.mv rfl rfl ?_
    refine KO.ce (cp := []) rfl rfl rfl Tryd.call62 rfl (in_e w _ _ _ _) ?_; rintro v' L' ⟨rfl, rfl⟩
    refine KO.as rfl rfl ?_
    refine KO.nil ?_
    repeat (first | (with_reducible refine KQ.next ?_) | (with_reducible refine K.ret ?_))
    refine KQ.ret1 rfl rfl (fun w' hs' => ⟨_, _, rfl, ⟨?_, rfl⟩, hw.below_step hs'.below, hs'.below⟩)
    simp only [lettersB, hall2, Bool.and_true]
    congr 2
    · exact decide_eq_decide.2 (by omega)
    · exact decide_eq_decide.2 (by omega)
theorem rword_e (w0 : World) (L : List HP) (s : ByteArray) (hs : s.size ≤ maxLen) : KE Tryd.prog 31 #[.string s] w0 L (fun u M => u = .bool (wordB s) ∧ M = L) := by
  refine KE.mk (n := 5) Tryd.func31 rfl Tryd.ntmps31 (by simp) ?_
  intro w hw
  repeat ((with_reducible refine K.seq ?_))
  refine K.reg ?_
  refine KO.as rfl rfl ?_
  refine KO.nil ?_
  repeat (first | (with_reducible refine K.seq ?_) | (with_reducible refine KQ.next ?_))
  refine K.reg ?_
  refine KO.mv rfl rfl ?_
  refine KO.ce (cp := []) rfl rfl rfl Tryd.call64 rfl (rletters_e w _ s 8 hs) ?_; rintro v' L' ⟨rfl, rfl⟩
  refine KO.as rfl rfl ?_
  refine KO.nil ?_
  repeat (first | (with_reducible refine KQ.next ?_) | (with_reducible refine K.ret ?_))
  refine KQ.ret1 rfl rfl (fun w' hs' => ⟨_, _, rfl, ⟨rfl, rfl⟩, hw.below_step hs'.below, hs'.below⟩)
theorem rbody_e (w0 : World) (L : List HP) (s : ByteArray) (hs : s.size ≤ maxLen) : KE Tryd.prog 33 #[.string s] w0 L (fun u M => u = .bool (bodyB s) ∧ M = L) := by
  refine KE.mk (n := 5) Tryd.func33 rfl Tryd.ntmps33 (by simp) ?_
  intro w hw
  repeat ((with_reducible refine K.seq ?_))
  refine K.reg ?_
  refine KO.as rfl rfl ?_
  refine KO.nil ?_
  repeat (first | (with_reducible refine K.seq ?_) | (with_reducible refine KQ.next ?_))
  refine K.reg ?_
  refine KO.mv rfl rfl ?_
  refine KO.ce (cp := []) rfl rfl rfl Tryd.call64 rfl (rletters_e w _ s 12 hs) ?_; rintro v' L' ⟨rfl, rfl⟩
  refine KO.as rfl rfl ?_
  refine KO.nil ?_
  repeat (first | (with_reducible refine KQ.next ?_) | (with_reducible refine K.ret ?_))
  refine KQ.ret1 rfl rfl (fun w' hs' => ⟨_, _, rfl, ⟨rfl, rfl⟩, hw.below_step hs'.below, hs'.below⟩)
theorem rright_e (w0 : World) (L : List HP) (m : Ms) (hb : m.body.size ≤ maxLen) (hq : m.queue.size ≤ maxLen) : KE Tryd.prog 29 #[.agg (msC m).toArray] w0 L (fun u M => u = .bool (msRight m) ∧ M = L) := by
  refine KE.mk (n := 26) Tryd.func29 rfl Tryd.ntmps29 (by simp) ?_
  intro w hw
  have fin : ∀ (b : Bool) (w' : World) (M : List HP), b = msRight m → St w M w' → ∃ v L', Ending.returned (.bool b) = Ending.returned v ∧ (v = .bool (msRight m) ∧ L' = L) ∧ St w0 L' w' ∧ Below w.heap.size w w' := fun b w' M e hs => ⟨_, _, rfl, ⟨by rw [e], rfl⟩, hw.below_step hs.below, hs.below⟩
  have hd : msRight m = ((decide (0 ≤ m.id) && decide (m.id ≤ 1099511627776)) && ((decide (0 ≤ m.pri) && decide (m.pri ≤ 9)) && (bodyB m.body && (wordB m.queue && (decide (0 ≤ m.house) && decide (m.house ≤ 3)))))) := by
    unfold msRight
    rw [show decide (m.house < 4) = decide (m.house ≤ 3) from decide_eq_decide.2 (by omega)]
    simp only [Bool.and_assoc]
  repeat ((with_reducible refine K.seq ?_))
  refine K.reg ?_
  refine KO.box rfl rfl (by exact rfl) rfl ?_; intro b1
  refine KO.as rfl rfl ?_
  refine KO.nil ?_
  repeat (first | (with_reducible refine K.seq ?_) | (with_reducible refine KQ.next ?_))
  generalize hc1 : (decide (0 ≤ m.id) && decide (m.id ≤ 1099511627776)) = c1 at hd
  generalize hc2 : (decide (0 ≤ m.pri) && decide (m.pri ≤ 9)) = c2 at hd
  generalize hc3 : bodyB m.body = c3 at hd
  generalize hc4 : wordB m.queue = c4 at hd
  generalize hc5 : (decide (0 ≤ m.house) && decide (m.house ≤ 3)) = c5 at hd
  cases c1
  · refine K.reg ?_
    refine KO.fo0 (off := 0) rfl Tryd.runUnderlying50 rfl rfl Tryd.sizeOf3 rfl ?_
    refine KO.ld rfl rfl Tryd.isAgg3 (by with_reducible (repeat (exact Pick.head))) (by exact rfl) rfl ?_
    refine KO.ce (cp := []) rfl rfl rfl Tryd.call62 rfl (in_e w _ _ _ _) ?_; rintro v' L' ⟨rfl, rfl⟩; rw [hc1]
    refine KO.mv rfl rfl ?_
    (refine KO.no rfl rfl ?_ rfl ?_; (focus rfl))
    (refine KO.no rfl rfl ?_ rfl ?_; (focus rfl))
    (refine KO.no rfl rfl ?_ rfl ?_; (focus rfl))
    (refine KO.pickF rfl ?_ rfl rfl ?_; (focus rfl))
    refine KO.mv rfl rfl ?_
    (refine KO.no rfl rfl ?_ rfl ?_; (focus rfl))
    (refine KO.no rfl rfl ?_ rfl ?_; (focus rfl))
    (refine KO.no rfl rfl ?_ rfl ?_; (focus rfl))
    (refine KO.pickF rfl ?_ rfl rfl ?_; (focus rfl))
    refine KO.mv rfl rfl ?_
    (refine KO.no rfl rfl ?_ rfl ?_; (focus rfl))
    (refine KO.no rfl rfl ?_ rfl ?_; (focus rfl))
    (refine KO.no rfl rfl ?_ rfl ?_; (focus rfl))
    (refine KO.pickF rfl ?_ rfl rfl ?_; (focus rfl))
    refine KO.mv rfl rfl ?_
    (refine KO.no rfl rfl ?_ rfl ?_; (focus rfl))
    (refine KO.no rfl rfl ?_ rfl ?_; (focus rfl))
    (refine KO.no rfl rfl ?_ rfl ?_; (focus rfl))
    (refine KO.pickF rfl ?_ rfl rfl ?_; (focus rfl))
    refine KO.as rfl rfl ?_
    refine KO.nil ?_
    repeat (first | (with_reducible refine KQ.next ?_) | (with_reducible refine K.ret ?_))
    exact KQ.ret1 rfl rfl (fun w' hs => fin _ w' _ (by simp [hd]) hs)
  cases c2
  · refine K.reg ?_
    refine KO.fo0 (off := 0) rfl Tryd.runUnderlying50 rfl rfl Tryd.sizeOf3 rfl ?_
    refine KO.ld rfl rfl Tryd.isAgg3 (by with_reducible (repeat (exact Pick.head))) (by exact rfl) rfl ?_
    refine KO.ce (cp := []) rfl rfl rfl Tryd.call62 rfl (in_e w _ _ _ _) ?_; rintro v' L' ⟨rfl, rfl⟩; rw [hc1]
    refine KO.mv rfl rfl ?_
    (refine KO.on rfl rfl ?_ ?_; (focus rfl); (refine KO.fo0 (off := 1) rfl Tryd.runUnderlying50 rfl rfl Tryd.sizeOf3 rfl ?_))
    (refine KO.on rfl rfl ?_ ?_; (focus rfl); (refine KO.ld rfl rfl Tryd.isAgg3 (by with_reducible (repeat (exact Pick.head))) (by exact rfl) rfl ?_))
    refine KO.on rfl rfl rfl ?_; refine KO.ce (cp := []) rfl rfl rfl Tryd.call62 rfl (in_e w _ _ _ _) ?_; rintro v' L' ⟨rfl, rfl⟩; rw [hc2]
    (refine KO.pickT rfl ?_ rfl rfl ?_; (focus rfl))
    refine KO.mv rfl rfl ?_
    (refine KO.no rfl rfl ?_ rfl ?_; (focus rfl))
    (refine KO.no rfl rfl ?_ rfl ?_; (focus rfl))
    (refine KO.no rfl rfl ?_ rfl ?_; (focus rfl))
    (refine KO.pickF rfl ?_ rfl rfl ?_; (focus rfl))
    refine KO.mv rfl rfl ?_
    (refine KO.no rfl rfl ?_ rfl ?_; (focus rfl))
    (refine KO.no rfl rfl ?_ rfl ?_; (focus rfl))
    (refine KO.no rfl rfl ?_ rfl ?_; (focus rfl))
    (refine KO.pickF rfl ?_ rfl rfl ?_; (focus rfl))
    refine KO.mv rfl rfl ?_
    (refine KO.no rfl rfl ?_ rfl ?_; (focus rfl))
    (refine KO.no rfl rfl ?_ rfl ?_; (focus rfl))
    (refine KO.no rfl rfl ?_ rfl ?_; (focus rfl))
    (refine KO.pickF rfl ?_ rfl rfl ?_; (focus rfl))
    refine KO.as rfl rfl ?_
    refine KO.nil ?_
    repeat (first | (with_reducible refine KQ.next ?_) | (with_reducible refine K.ret ?_))
    exact KQ.ret1 rfl rfl (fun w' hs => fin _ w' _ (by simp [hd]) hs)
  cases c3
  · refine K.reg ?_
    refine KO.fo0 (off := 0) rfl Tryd.runUnderlying50 rfl rfl Tryd.sizeOf3 rfl ?_
    refine KO.ld rfl rfl Tryd.isAgg3 (by with_reducible (repeat (exact Pick.head))) (by exact rfl) rfl ?_
    refine KO.ce (cp := []) rfl rfl rfl Tryd.call62 rfl (in_e w _ _ _ _) ?_; rintro v' L' ⟨rfl, rfl⟩; rw [hc1]
    refine KO.mv rfl rfl ?_
    (refine KO.on rfl rfl ?_ ?_; (focus rfl); (refine KO.fo0 (off := 1) rfl Tryd.runUnderlying50 rfl rfl Tryd.sizeOf3 rfl ?_))
    (refine KO.on rfl rfl ?_ ?_; (focus rfl); (refine KO.ld rfl rfl Tryd.isAgg3 (by with_reducible (repeat (exact Pick.head))) (by exact rfl) rfl ?_))
    refine KO.on rfl rfl rfl ?_; refine KO.ce (cp := []) rfl rfl rfl Tryd.call62 rfl (in_e w _ _ _ _) ?_; rintro v' L' ⟨rfl, rfl⟩; rw [hc2]
    (refine KO.pickT rfl ?_ rfl rfl ?_; (focus rfl))
    refine KO.mv rfl rfl ?_
    (refine KO.on rfl rfl ?_ ?_; (focus rfl); (refine KO.fo0 (off := 2) rfl Tryd.runUnderlying50 rfl rfl Tryd.sizeOf9 rfl ?_))
    (refine KO.on rfl rfl ?_ ?_; (focus rfl); (refine KO.ld rfl rfl Tryd.isAgg9 (by with_reducible (repeat (exact Pick.head))) (by exact rfl) rfl ?_))
    refine KO.on rfl rfl rfl ?_; refine KO.ce (cp := []) rfl rfl rfl Tryd.call33 rfl (rbody_e w _ _ hb) ?_; rintro v' L' ⟨rfl, rfl⟩; rw [hc3]
    (refine KO.pickT rfl ?_ rfl rfl ?_; (focus rfl))
    refine KO.mv rfl rfl ?_
    (refine KO.no rfl rfl ?_ rfl ?_; (focus rfl))
    (refine KO.no rfl rfl ?_ rfl ?_; (focus rfl))
    (refine KO.no rfl rfl ?_ rfl ?_; (focus rfl))
    (refine KO.pickF rfl ?_ rfl rfl ?_; (focus rfl))
    refine KO.mv rfl rfl ?_
    (refine KO.no rfl rfl ?_ rfl ?_; (focus rfl))
    (refine KO.no rfl rfl ?_ rfl ?_; (focus rfl))
    (refine KO.no rfl rfl ?_ rfl ?_; (focus rfl))
    (refine KO.pickF rfl ?_ rfl rfl ?_; (focus rfl))
    refine KO.as rfl rfl ?_
    refine KO.nil ?_
    repeat (first | (with_reducible refine KQ.next ?_) | (with_reducible refine K.ret ?_))
    exact KQ.ret1 rfl rfl (fun w' hs => fin _ w' _ (by simp [hd]) hs)
  cases c4
  · refine K.reg ?_
    refine KO.fo0 (off := 0) rfl Tryd.runUnderlying50 rfl rfl Tryd.sizeOf3 rfl ?_
    refine KO.ld rfl rfl Tryd.isAgg3 (by with_reducible (repeat (exact Pick.head))) (by exact rfl) rfl ?_
    refine KO.ce (cp := []) rfl rfl rfl Tryd.call62 rfl (in_e w _ _ _ _) ?_; rintro v' L' ⟨rfl, rfl⟩; rw [hc1]
    refine KO.mv rfl rfl ?_
    (refine KO.on rfl rfl ?_ ?_; (focus rfl); (refine KO.fo0 (off := 1) rfl Tryd.runUnderlying50 rfl rfl Tryd.sizeOf3 rfl ?_))
    (refine KO.on rfl rfl ?_ ?_; (focus rfl); (refine KO.ld rfl rfl Tryd.isAgg3 (by with_reducible (repeat (exact Pick.head))) (by exact rfl) rfl ?_))
    refine KO.on rfl rfl rfl ?_; refine KO.ce (cp := []) rfl rfl rfl Tryd.call62 rfl (in_e w _ _ _ _) ?_; rintro v' L' ⟨rfl, rfl⟩; rw [hc2]
    (refine KO.pickT rfl ?_ rfl rfl ?_; (focus rfl))
    refine KO.mv rfl rfl ?_
    (refine KO.on rfl rfl ?_ ?_; (focus rfl); (refine KO.fo0 (off := 2) rfl Tryd.runUnderlying50 rfl rfl Tryd.sizeOf9 rfl ?_))
    (refine KO.on rfl rfl ?_ ?_; (focus rfl); (refine KO.ld rfl rfl Tryd.isAgg9 (by with_reducible (repeat (exact Pick.head))) (by exact rfl) rfl ?_))
    refine KO.on rfl rfl rfl ?_; refine KO.ce (cp := []) rfl rfl rfl Tryd.call33 rfl (rbody_e w _ _ hb) ?_; rintro v' L' ⟨rfl, rfl⟩; rw [hc3]
    (refine KO.pickT rfl ?_ rfl rfl ?_; (focus rfl))
    refine KO.mv rfl rfl ?_
    (refine KO.on rfl rfl ?_ ?_; (focus rfl); (refine KO.fo0 (off := 3) rfl Tryd.runUnderlying50 rfl rfl Tryd.sizeOf9 rfl ?_))
    (refine KO.on rfl rfl ?_ ?_; (focus rfl); (refine KO.ld rfl rfl Tryd.isAgg9 (by with_reducible (repeat (exact Pick.head))) (by exact rfl) rfl ?_))
    refine KO.on rfl rfl rfl ?_; refine KO.ce (cp := []) rfl rfl rfl Tryd.call31 rfl (rword_e w _ _ hq) ?_; rintro v' L' ⟨rfl, rfl⟩; rw [hc4]
    (refine KO.pickT rfl ?_ rfl rfl ?_; (focus rfl))
    refine KO.mv rfl rfl ?_
    (refine KO.no rfl rfl ?_ rfl ?_; (focus rfl))
    (refine KO.no rfl rfl ?_ rfl ?_; (focus rfl))
    (refine KO.no rfl rfl ?_ rfl ?_; (focus rfl))
    (refine KO.pickF rfl ?_ rfl rfl ?_; (focus rfl))
    refine KO.as rfl rfl ?_
    refine KO.nil ?_
    repeat (first | (with_reducible refine KQ.next ?_) | (with_reducible refine K.ret ?_))
    exact KQ.ret1 rfl rfl (fun w' hs => fin _ w' _ (by simp [hd]) hs)
  · refine K.reg ?_
    refine KO.fo0 (off := 0) rfl Tryd.runUnderlying50 rfl rfl Tryd.sizeOf3 rfl ?_
    refine KO.ld rfl rfl Tryd.isAgg3 (by with_reducible (repeat (exact Pick.head))) (by exact rfl) rfl ?_
    refine KO.ce (cp := []) rfl rfl rfl Tryd.call62 rfl (in_e w _ _ _ _) ?_; rintro v' L' ⟨rfl, rfl⟩; rw [hc1]
    refine KO.mv rfl rfl ?_
    (refine KO.on rfl rfl ?_ ?_; (focus rfl); (refine KO.fo0 (off := 1) rfl Tryd.runUnderlying50 rfl rfl Tryd.sizeOf3 rfl ?_))
    (refine KO.on rfl rfl ?_ ?_; (focus rfl); (refine KO.ld rfl rfl Tryd.isAgg3 (by with_reducible (repeat (exact Pick.head))) (by exact rfl) rfl ?_))
    refine KO.on rfl rfl rfl ?_; refine KO.ce (cp := []) rfl rfl rfl Tryd.call62 rfl (in_e w _ _ _ _) ?_; rintro v' L' ⟨rfl, rfl⟩; rw [hc2]
    (refine KO.pickT rfl ?_ rfl rfl ?_; (focus rfl))
    refine KO.mv rfl rfl ?_
    (refine KO.on rfl rfl ?_ ?_; (focus rfl); (refine KO.fo0 (off := 2) rfl Tryd.runUnderlying50 rfl rfl Tryd.sizeOf9 rfl ?_))
    (refine KO.on rfl rfl ?_ ?_; (focus rfl); (refine KO.ld rfl rfl Tryd.isAgg9 (by with_reducible (repeat (exact Pick.head))) (by exact rfl) rfl ?_))
    refine KO.on rfl rfl rfl ?_; refine KO.ce (cp := []) rfl rfl rfl Tryd.call33 rfl (rbody_e w _ _ hb) ?_; rintro v' L' ⟨rfl, rfl⟩; rw [hc3]
    (refine KO.pickT rfl ?_ rfl rfl ?_; (focus rfl))
    refine KO.mv rfl rfl ?_
    (refine KO.on rfl rfl ?_ ?_; (focus rfl); (refine KO.fo0 (off := 3) rfl Tryd.runUnderlying50 rfl rfl Tryd.sizeOf9 rfl ?_))
    (refine KO.on rfl rfl ?_ ?_; (focus rfl); (refine KO.ld rfl rfl Tryd.isAgg9 (by with_reducible (repeat (exact Pick.head))) (by exact rfl) rfl ?_))
    refine KO.on rfl rfl rfl ?_; refine KO.ce (cp := []) rfl rfl rfl Tryd.call31 rfl (rword_e w _ _ hq) ?_; rintro v' L' ⟨rfl, rfl⟩; rw [hc4]
    (refine KO.pickT rfl ?_ rfl rfl ?_; (focus rfl))
    refine KO.mv rfl rfl ?_
    (refine KO.on rfl rfl ?_ ?_; (focus rfl); (refine KO.fo0 (off := 4) rfl Tryd.runUnderlying50 rfl rfl Tryd.sizeOf3 rfl ?_))
    (refine KO.on rfl rfl ?_ ?_; (focus rfl); (refine KO.ld rfl rfl Tryd.isAgg3 (by with_reducible (repeat (exact Pick.head))) (by exact rfl) rfl ?_))
    refine KO.on rfl rfl rfl ?_; refine KO.ce (cp := []) rfl rfl rfl Tryd.call62 rfl (in_e w _ _ _ _) ?_; rintro v' L' ⟨rfl, rfl⟩; rw [hc5]
    (refine KO.pickT rfl ?_ rfl rfl ?_; (focus rfl))
    refine KO.as rfl rfl ?_
    refine KO.nil ?_
    repeat (first | (with_reducible refine KQ.next ?_) | (with_reducible refine K.ret ?_))
    exact KQ.ret1 rfl rfl (fun w' hs => fin _ w' _ (by simp [hd]) hs)
theorem bare_e (w0 : World) (L : List HP) (k : Int) : KE Tryd.prog 56 #[.int .i64 k] w0 L (fun u M => u = .agg [Value.int .i64 k, .int .i64 (-1)].toArray ∧ M = L) := by
  refine KE.mk (n := 5) Tryd.func56 rfl Tryd.ntmps56 (by simp) ?_
  intro w hw
  repeat ((with_reducible refine K.seq ?_))
  refine K.reg ?_
  refine KO.alloc rfl Tryd.zeroValue63 (by exact rfl) rfl ?_; intro b2
  refine KO.nil ?_
  repeat (first | (with_reducible refine K.seq ?_) | (with_reducible refine KQ.next ?_))
  refine K.reg ?_
  refine KO.mv rfl rfl ?_
  refine KO.bldS (pl := [(0, 1), (1, 1)]) [.int .i64 k, .int .i64 (-1)] rfl Tryd.zeroValue63 Tryd.runUnderlying63 (by intro w; simp [Tryd.sizeOf3, Tryd.sizeOf37]) rfl rfl ?_
  refine KO.sto0 rfl rfl rfl (by exact rfl) (by exact Tryd.sizeOf63) (by exact rfl) (by with_reducible (repeat (exact Pick.head))) (by exact rfl) ?_
  refine KO.nil ?_
  repeat (first | (with_reducible refine KQ.next ?_) | (with_reducible refine K.ret ?_))
  refine KQ.retC rfl rfl Tryd.isAgg63 (by with_reducible (repeat (exact Pick.head))) (by exact Tryd.sizeOf63) (fun w' hs => ⟨_, _, rfl, ⟨rfl, rfl⟩, hw.below_step hs.below, hs.below⟩)
theorem place_e (w0 : World) (L : List HP) (k : Int) (hg : ErrType w0) : KE Tryd.prog 61 #[errV 37 k] w0 L (fun u M => u = .tuple #[.int .i64 k, .int .i64 (-1)] ∧ M = L) := by
  refine KE.mk (n := 38) Tryd.func61 rfl Tryd.ntmps61 (by simp) ?_
  intro w hw
  have hgw : ErrType w := (Ext.of_below hw.below).cell hg
  repeat ((with_reducible refine K.seq ?_))
  refine K.reg ?_
  refine KO.as rfl rfl ?_
  refine KO.as rfl rfl ?_
  refine KO.nil ?_
  repeat (first | (with_reducible refine K.seq ?_) | (with_reducible refine KQ.next ?_))
  refine K.reg ?_
  refine KO.mv rfl rfl ?_
  refine KO.ce (cp := []) rfl rfl rfl Tryd.call13 rfl (tell_e w _ k hgw) ?_; rintro v' L' ⟨rfl, rfl⟩
  refine KO.as rfl rfl ?_
  refine KO.nil ?_
  repeat (first | (with_reducible refine K.seq ?_) | (with_reducible refine KQ.next ?_) | (with_reducible refine K.block ?_))
  refine K.loop (fun _ : Unit => [(0, errV 37 k), (4, .int .i64 k)]) (fun _ => []) (fun _ => True) (fun _ => 0) () trivial ⟨rfl, rfl, trivial⟩ (fun _ h => h) ?_
  rintro _ _
  repeat ((with_reducible refine K.seq ?_))
  refine K.reg ?_
  refine KO.mv rfl rfl ?_
  refine KO.neN rfl (by kernel_rfl) rfl ?_
  refine KO.nil ?_
  repeat ((with_reducible refine KQ.next ?_))
  refine K.condD rfl (fun h => ?_) (fun h => ?_)
  · rw [show errV 37 k = .iface 37 (.int .i64 k) from if_neg h]
    repeat (first | (with_reducible refine K.seq ?_) | (with_reducible refine KQ.next ?_) | (with_reducible refine K.skip ?_) | (with_reducible refine K.block ?_))
    refine K.reg ?_
    refine KO.mv rfl rfl ?_
    refine KO.taC rfl (by kernel_rfl) (by exact rfl) Tryd.zeroValue107 rfl ?_
    refine KO.mv rfl rfl ?_
    refine KO.extrL rfl (by exact rfl) rfl ?_
    refine KO.extrL rfl (by exact rfl) rfl ?_
    refine KO.as rfl rfl ?_
    refine KO.as rfl rfl ?_
    refine KO.nil ?_
    repeat (first | (with_reducible refine K.seq ?_) | (with_reducible refine KQ.next ?_))
    refine K.reg ?_
    refine KO.mv rfl rfl ?_
    refine KO.mv rfl rfl ?_
    (refine KO.no rfl rfl ?_ rfl ?_; (focus rfl))
    (refine KO.no rfl rfl ?_ rfl ?_; (focus rfl))
    (refine KO.pickF rfl ?_ rfl rfl ?_; (focus rfl))
    refine KO.nil ?_
    repeat ((with_reducible refine KQ.next ?_))
    refine K.condF rfl rfl ?_
    repeat (first | (with_reducible refine K.seq ?_) | (with_reducible refine KQ.next ?_) | (with_reducible refine K.skip ?_))
    refine K.reg ?_
    refine KO.mv rfl rfl ?_
    refine KO.taN (z := Value.nilIface) rfl Tryd.underlying152 (by kernel_rfl) (by kernel_rfl) rfl ?_
    refine KO.mv rfl rfl ?_
    refine KO.extrL rfl (by exact rfl) rfl ?_
    refine KO.extrL rfl (by exact rfl) rfl ?_
    refine KO.as rfl rfl ?_
    refine KO.as rfl rfl ?_
    refine KO.nil ?_
    repeat (first | (with_reducible refine K.seq ?_) | (with_reducible refine KQ.next ?_))
    refine K.reg ?_
    refine KO.mv rfl rfl ?_
    refine KO.not rfl rfl ?_
    refine KO.nil ?_
    repeat ((with_reducible refine KQ.next ?_))
    refine K.condT rfl rfl ?_
    repeat (first | (with_reducible refine K.seq ?_) | (with_reducible refine KQ.next ?_) | (with_reducible refine KQ.then_exit ?_) | (with_reducible refine KQ.blk_exit ?_) | (refine KQ.blk_pass rfl ?_) | (with_reducible refine K.exit ?_))
    refine K.reg ?_
    refine KO.mv rfl rfl ?_
    refine KO.as rfl rfl ?_
    refine KO.as rfl rfl ?_
    refine KO.nil ?_
    repeat (first | (with_reducible refine KQ.next ?_) | (with_reducible refine K.ret ?_))
    refine KQ.ret2 rfl rfl rfl (fun w' hs => ⟨_, _, rfl, ⟨rfl, rfl⟩, hw.below_step hs.below, hs.below⟩)
  · repeat (first | (with_reducible refine K.seq ?_) | (with_reducible refine KQ.next ?_) | (with_reducible refine KQ.then_exit ?_) | (with_reducible refine KQ.blk_exit ?_) | (with_reducible refine K.exit ?_))
    refine K.reg ?_
    refine KO.mv rfl rfl ?_
    refine KO.as rfl rfl ?_
    refine KO.as rfl rfl ?_
    refine KO.nil ?_
    repeat (first | (with_reducible refine KQ.next ?_) | (with_reducible refine K.ret ?_))
    refine KQ.ret2 rfl rfl rfl (fun w' hs => ⟨_, _, rfl, ⟨rfl, rfl⟩, hw.below_step hs.below, hs.below⟩)
theorem is_e (w0 : World) (L : List HP) (k e p : Int) (hg : ErrType w0) : KE Tryd.prog 27 #[errV 37 k, .agg [Value.int .i64 e, .int .i64 p].toArray] w0 L (fun u M => u = .bool (decide (k = e) && decide (-1 = p)) ∧ M = L) := by
  refine KE.mk (n := 22) Tryd.func27 rfl Tryd.ntmps27 (by simp) ?_
  intro w hw
  have hgw : ErrType w := (Ext.of_below hw.below).cell hg
  repeat ((with_reducible refine K.seq ?_))
  refine K.reg ?_
  refine KO.box rfl rfl (by exact rfl) rfl ?_; intro b3
  refine KO.as rfl rfl ?_
  refine KO.nil ?_
  repeat (first | (with_reducible refine K.seq ?_) | (with_reducible refine KQ.next ?_))
  refine K.reg ?_
  refine KO.mv rfl rfl ?_
  refine KO.ce (cp := []) rfl rfl rfl Tryd.call61 rfl (place_e w _ k hgw) ?_; rintro v' L' ⟨rfl, rfl⟩
  refine KO.mv rfl rfl ?_
  refine KO.extrL rfl (by exact rfl) rfl ?_
  refine KO.extrL rfl (by exact rfl) rfl ?_
  refine KO.as rfl rfl ?_
  refine KO.as rfl rfl ?_
  refine KO.nil ?_
  repeat (first | (with_reducible refine K.seq ?_) | (with_reducible refine KQ.next ?_))
  by_cases h : k = e
  · refine K.reg ?_
    refine KO.mv rfl rfl ?_
    refine KO.fo0 (off := 0) rfl Tryd.runUnderlying63 rfl rfl Tryd.sizeOf37 rfl ?_
    refine KO.ld rfl rfl Tryd.isAgg37 (by with_reducible (repeat (exact Pick.head))) (by exact rfl) rfl ?_
    refine KO.eqI rfl rfl rfl ?_
    refine KO.mv rfl rfl ?_
    (refine KO.on rfl rfl ?_ ?_; (focus (simp only [decide_eq_true_eq, decide_eq_false_iff_not, Bool.not_eq_true, Bool.not_true, Bool.not_false, ne_eq]; omega)); (refine KO.mv rfl rfl ?_))
    (refine KO.on rfl rfl ?_ ?_; (focus (simp only [decide_eq_true_eq, decide_eq_false_iff_not, Bool.not_eq_true, Bool.not_true, Bool.not_false, ne_eq]; omega)); (refine KO.fo0 (off := 1) rfl Tryd.runUnderlying63 rfl rfl Tryd.sizeOf3 rfl ?_))
    (refine KO.on rfl rfl ?_ ?_; (focus (simp only [decide_eq_true_eq, decide_eq_false_iff_not, Bool.not_eq_true, Bool.not_true, Bool.not_false, ne_eq]; omega)); (refine KO.ld rfl rfl Tryd.isAgg3 (by with_reducible (repeat (exact Pick.head))) (by exact rfl) rfl ?_))
    (refine KO.on rfl rfl ?_ ?_; (focus (simp only [decide_eq_true_eq, decide_eq_false_iff_not, Bool.not_eq_true, Bool.not_true, Bool.not_false, ne_eq]; omega)); (refine KO.eqI rfl rfl rfl ?_))
    (refine KO.pickT rfl ?_ rfl rfl ?_; (focus (simp only [decide_eq_true_eq, decide_eq_false_iff_not, Bool.not_eq_true, Bool.not_true, Bool.not_false, ne_eq]; omega)))
    refine KO.as rfl rfl ?_
    refine KO.nil ?_
    repeat (first | (with_reducible refine KQ.next ?_) | (with_reducible refine K.ret ?_))
    refine KQ.ret1 rfl rfl (fun w' hs => ⟨_, _, rfl, ⟨by simp [h], rfl⟩, hw.below_step hs.below, hs.below⟩)
  · refine K.reg ?_
    refine KO.mv rfl rfl ?_
    refine KO.fo0 (off := 0) rfl Tryd.runUnderlying63 rfl rfl Tryd.sizeOf37 rfl ?_
    refine KO.ld rfl rfl Tryd.isAgg37 (by with_reducible (repeat (exact Pick.head))) (by exact rfl) rfl ?_
    refine KO.eqI rfl rfl rfl ?_
    refine KO.mv rfl rfl ?_
    (refine KO.no rfl rfl ?_ rfl ?_; (focus (simp only [decide_eq_true_eq, decide_eq_false_iff_not, Bool.not_eq_true, Bool.not_true, Bool.not_false, ne_eq]; omega)))
    (refine KO.no rfl rfl ?_ rfl ?_; (focus (simp only [decide_eq_true_eq, decide_eq_false_iff_not, Bool.not_eq_true, Bool.not_true, Bool.not_false, ne_eq]; omega)))
    (refine KO.no rfl rfl ?_ rfl ?_; (focus (simp only [decide_eq_true_eq, decide_eq_false_iff_not, Bool.not_eq_true, Bool.not_true, Bool.not_false, ne_eq]; omega)))
    (refine KO.no rfl rfl ?_ rfl ?_; (focus (simp only [decide_eq_true_eq, decide_eq_false_iff_not, Bool.not_eq_true, Bool.not_true, Bool.not_false, ne_eq]; omega)))
    (refine KO.pickF rfl ?_ rfl rfl ?_; (focus (simp only [decide_eq_true_eq, decide_eq_false_iff_not, Bool.not_eq_true, Bool.not_true, Bool.not_false, ne_eq]; omega)))
    refine KO.as rfl rfl ?_
    refine KO.nil ?_
    repeat (first | (with_reducible refine KQ.next ?_) | (with_reducible refine K.ret ?_))
    refine KQ.ret1 rfl rfl (fun w' hs => ⟨_, _, rfl, ⟨by simp [h], rfl⟩, hw.below_step hs.below, hs.below⟩)
theorem lbare_e (w0 : World) (L : List HP) (k e : Int) (hg : ErrType w0) : KE Tryd.prog 38 #[errV 37 k, .int .i64 e] w0 L (fun u M => u = .bool (decide (k = e)) ∧ M = L) := by
  refine KE.mk (n := 9) Tryd.func38 rfl Tryd.ntmps38 (by simp) ?_
  intro w hw
  have hgw : ErrType w := (Ext.of_below hw.below).cell hg
  repeat ((with_reducible refine K.seq ?_))
  refine K.reg ?_
  refine KO.as rfl rfl ?_
  refine KO.nil ?_
  repeat (first | (with_reducible refine K.seq ?_) | (with_reducible refine KQ.next ?_))
  refine K.reg ?_
  refine KO.mv rfl rfl ?_
  refine KO.mv rfl rfl ?_
  refine KO.ce (cp := []) rfl rfl rfl Tryd.call56 rfl (bare_e w _ e) ?_; rintro v' L' ⟨rfl, rfl⟩
  refine KO.ce (cp := []) rfl rfl rfl Tryd.call27 rfl (is_e w _ k e (-1) hgw) ?_; rintro v' L' ⟨rfl, rfl⟩
  refine KO.as rfl rfl ?_
  refine KO.nil ?_
  repeat (first | (with_reducible refine KQ.next ?_) | (with_reducible refine K.ret ?_))
  refine KQ.ret1 rfl rfl (fun w' hs => ⟨_, _, rfl, ⟨by simp, rfl⟩, hw.below_step hs.below, hs.below⟩)
theorem small_e (w0 : World) (L : List HP) (m : Ms) : KE Tryd.prog 24 #[.agg (msC m).toArray] w0 L (fun u M => u = .bool (decide (m.body.size ≤ 60) && decide (m.queue.size ≤ 60)) ∧ M = L) := by
  refine KE.mk (n := 13) Tryd.func24 rfl Tryd.ntmps24 (by simp) ?_
  intro w hw
  have fin : ∀ (b : Bool) (w' : World) (M : List HP), b = (decide (m.body.size ≤ 60) && decide (m.queue.size ≤ 60)) → St w M w' → ∃ v L', Ending.returned (.bool b) = Ending.returned v ∧ (v = .bool (decide (m.body.size ≤ 60) && decide (m.queue.size ≤ 60)) ∧ L' = L) ∧ St w0 L' w' ∧ Below w.heap.size w w' := fun b w' M e hs => ⟨_, _, rfl, ⟨by rw [e], rfl⟩, hw.below_step hs.below, hs.below⟩
  repeat ((with_reducible refine K.seq ?_))
  refine K.reg ?_
  refine KO.box rfl rfl (by exact rfl) rfl ?_; intro b1
  refine KO.as rfl rfl ?_
  refine KO.nil ?_
  repeat (first | (with_reducible refine K.seq ?_) | (with_reducible refine KQ.next ?_))
  by_cases h : ((m.body.size : Nat) : Int) ≤ 60
  · refine K.reg ?_
    refine KO.fo0 (off := 2) rfl Tryd.runUnderlying50 rfl rfl Tryd.sizeOf9 rfl ?_
    refine KO.ld rfl rfl Tryd.isAgg9 (by with_reducible (repeat (exact Pick.head))) (by exact rfl) rfl ?_
    refine KO.lenS rfl Tryd.underlying9 rfl ?_
    refine KO.leq rfl rfl rfl ?_
    refine KO.mv rfl rfl ?_
    (refine KO.on rfl rfl ?_ ?_; (focus (simp only [decide_eq_true_eq, decide_eq_false_iff_not, Bool.not_eq_true, Bool.not_true, Bool.not_false, ne_eq]; omega)); (refine KO.fo0 (off := 3) rfl Tryd.runUnderlying50 rfl rfl Tryd.sizeOf9 rfl ?_))
    (refine KO.on rfl rfl ?_ ?_; (focus (simp only [decide_eq_true_eq, decide_eq_false_iff_not, Bool.not_eq_true, Bool.not_true, Bool.not_false, ne_eq]; omega)); (refine KO.ld rfl rfl Tryd.isAgg9 (by with_reducible (repeat (exact Pick.head))) (by exact rfl) rfl ?_))
    (refine KO.on rfl rfl ?_ ?_; (focus (simp only [decide_eq_true_eq, decide_eq_false_iff_not, Bool.not_eq_true, Bool.not_true, Bool.not_false, ne_eq]; omega)); (refine KO.lenS rfl Tryd.underlying9 rfl ?_))
    (refine KO.on rfl rfl ?_ ?_; (focus (simp only [decide_eq_true_eq, decide_eq_false_iff_not, Bool.not_eq_true, Bool.not_true, Bool.not_false, ne_eq]; omega)); (refine KO.leq rfl rfl rfl ?_))
    (refine KO.pickT rfl ?_ rfl rfl ?_; (focus (simp only [decide_eq_true_eq, decide_eq_false_iff_not, Bool.not_eq_true, Bool.not_true, Bool.not_false, ne_eq]; omega)))
    refine KO.as rfl rfl ?_
    refine KO.nil ?_
    repeat (first | (with_reducible refine KQ.next ?_) | (with_reducible refine K.ret ?_))
    refine KQ.ret1 rfl rfl (fun w' hs => fin _ w' _ ?_ hs)
    have h1 : m.body.size ≤ 60 := by omega
    simp only [h1, decide_true, Bool.true_and]
    exact decide_eq_decide.2 (by omega)
  · refine K.reg ?_
    refine KO.fo0 (off := 2) rfl Tryd.runUnderlying50 rfl rfl Tryd.sizeOf9 rfl ?_
    refine KO.ld rfl rfl Tryd.isAgg9 (by with_reducible (repeat (exact Pick.head))) (by exact rfl) rfl ?_
    refine KO.lenS rfl Tryd.underlying9 rfl ?_
    refine KO.leq rfl rfl rfl ?_
    refine KO.mv rfl rfl ?_
    (refine KO.no rfl rfl ?_ rfl ?_; (focus (simp only [decide_eq_true_eq, decide_eq_false_iff_not, Bool.not_eq_true, Bool.not_true, Bool.not_false, ne_eq]; omega)))
    (refine KO.no rfl rfl ?_ rfl ?_; (focus (simp only [decide_eq_true_eq, decide_eq_false_iff_not, Bool.not_eq_true, Bool.not_true, Bool.not_false, ne_eq]; omega)))
    (refine KO.no rfl rfl ?_ rfl ?_; (focus (simp only [decide_eq_true_eq, decide_eq_false_iff_not, Bool.not_eq_true, Bool.not_true, Bool.not_false, ne_eq]; omega)))
    (refine KO.no rfl rfl ?_ rfl ?_; (focus (simp only [decide_eq_true_eq, decide_eq_false_iff_not, Bool.not_eq_true, Bool.not_true, Bool.not_false, ne_eq]; omega)))
    (refine KO.pickF rfl ?_ rfl rfl ?_; (focus (simp only [decide_eq_true_eq, decide_eq_false_iff_not, Bool.not_eq_true, Bool.not_true, Bool.not_false, ne_eq]; omega)))
    refine KO.as rfl rfl ?_
    refine KO.nil ?_
    repeat (first | (with_reducible refine KQ.next ?_) | (with_reducible refine K.ret ?_))
    refine KQ.ret1 rfl rfl (fun w' hs => fin _ w' _ ?_ hs)
    have h1 : ¬ m.body.size ≤ 60 := by omega
    simp [h1]
end Go.Proofs.YtjhogocabcdjbaaDoor
/- plain.Place, waybilllaw.is at an At. -/
namespace Go.Proofs.YtjhogocabcdjbaaDoor
open Go Go.RowKit WB
abbrev atB (b : Nat) (k p : Int) : HP := blk b (.cells [Value.int .i64 k, .int .i64 p].toArray 108 (0, 0))
def atV (b : Nat) : Value := .iface 107 (.pointer (some ⟨b, 0, none⟩))
theorem place_at (w0 : World) (L R : List HP) (b : Nat) (k p : Int) (hp : Pick L (atB b k p) R) (hg : ErrType w0) : KE Tryd.prog 61 #[atV b] w0 L (fun u M => u = .tuple #[.int .i64 k, .int .i64 p] ∧ M = L) := by
  refine KE.mk (n := 38) Tryd.func61 rfl Tryd.ntmps61 (by simp) ?_
  intro w hw
  have hgw : ErrType w := (Ext.of_below hw.below).cell hg
  have hlk := (hw.lookP hp).2
  have c0 : w.cell? ⟨b, 0, none⟩ = some (.int .i64 k) := by rw [World.cell?, hlk]; rfl
  have c1 : w.cell? ⟨b, 1, none⟩ = some (.int .i64 p) := by rw [World.cell?, hlk]; rfl
  have htell : KE Tryd.prog 13 #[atV b] w [] (fun u M => u = .int .i64 k ∧ M = []) := KE.of_below fun w' hw' => tell_at k _ w' ((Ext.of_below hw'.below).cell c0) ((Ext.of_below hw'.below).cell hgw)
  unfold atV at *
  repeat ((with_reducible refine K.seq ?_))
  refine K.reg ?_
  refine KO.as rfl rfl ?_
  refine KO.as rfl rfl ?_
  refine KO.nil ?_
  repeat (first | (with_reducible refine K.seq ?_) | (with_reducible refine KQ.next ?_))
  refine K.reg ?_
  refine KO.mv rfl rfl ?_
  refine KO.ce (cp := []) rfl rfl rfl Tryd.call13 rfl htell ?_; rintro v' L' ⟨rfl, rfl⟩
  refine KO.as rfl rfl ?_
  refine KO.nil ?_
  repeat (first | (with_reducible refine K.seq ?_) | (with_reducible refine KQ.next ?_) | (with_reducible refine K.block ?_))
  refine K.loop (fun _ : Unit => [(0, .iface 107 (.pointer (some ⟨b, 0, none⟩))), (4, .int .i64 k)]) (fun _ => []) (fun _ => True) (fun _ => 0) () trivial ⟨rfl, rfl, trivial⟩ (fun _ h => h) ?_
  rintro _ _
  repeat ((with_reducible refine K.seq ?_))
  refine K.reg ?_
  refine KO.mv rfl rfl ?_
  refine KO.neIf rfl (by kernel_rfl) rfl ?_
  refine KO.nil ?_
  repeat ((with_reducible refine KQ.next ?_))
  refine K.condT rfl rfl ?_
  repeat (first | (with_reducible refine K.seq ?_) | (with_reducible refine KQ.next ?_) | (with_reducible refine K.skip ?_) | (with_reducible refine K.block ?_))
  refine K.reg ?_
  refine KO.mv rfl rfl ?_
  refine KO.taY rfl (by kernel_rfl) rfl ?_
  refine KO.mv rfl rfl ?_
  refine KO.extrL rfl (by exact rfl) rfl ?_
  refine KO.extrL rfl (by exact rfl) rfl ?_
  refine KO.as rfl rfl ?_
  refine KO.as rfl rfl ?_
  refine KO.nil ?_
  repeat (first | (with_reducible refine K.seq ?_) | (with_reducible refine KQ.next ?_))
  refine K.reg ?_
  refine KO.mv rfl rfl ?_
  refine KO.mv rfl rfl ?_
  (refine KO.on rfl rfl ?_ ?_; (focus rfl); (refine KO.mv rfl rfl ?_))
  (refine KO.on rfl rfl ?_ ?_; (focus rfl); (refine KO.nePn rfl Tryd.underlying107 rfl ?_))
  (refine KO.pickT rfl ?_ rfl rfl ?_; (focus rfl))
  refine KO.nil ?_
  repeat ((with_reducible refine KQ.next ?_))
  refine K.condT rfl rfl ?_
  repeat ((with_reducible refine K.seq ?_))
  refine K.draw [.pure, .pure, .pure, .pure, .read, .pure, .pure] [0, 1, 2, 3, 4, 5, 6] (by kernel_rfl) (by kernel_rfl) ?_
  refine KO.mv rfl rfl ?_
  refine KO.mv rfl rfl ?_
  refine KO.nc rfl rfl ?_
  refine KO.fo0 (off := 1) rfl Tryd.runUnderlying108 rfl rfl Tryd.sizeOf3 rfl ?_
  refine KO.ld0 rfl rfl Tryd.isAgg3 c1 rfl ?_
  refine KO.as rfl rfl ?_
  refine KO.as rfl rfl ?_
  refine KO.nil ?_
  repeat (first | (with_reducible refine KQ.next ?_) | (with_reducible refine KQ.then_ret ?_) | (with_reducible refine KQ.blk_ret ?_) | (with_reducible refine K.ret ?_))
  refine KQ.ret2 rfl rfl rfl (fun w' hs => ⟨_, _, rfl, ⟨rfl, rfl⟩, hw.below_step hs.below, hs.below⟩)
theorem is_at (w0 : World) (L R : List HP) (b : Nat) (k p e q : Int) (hp : Pick L (atB b k p) R) (hg : ErrType w0) : KE Tryd.prog 27 #[atV b, .agg [Value.int .i64 e, .int .i64 q].toArray] w0 L (fun u M => u = .bool (decide (k = e) && decide (p = q)) ∧ M = L) := by
  refine KE.mk (n := 22) Tryd.func27 rfl Tryd.ntmps27 (by simp) ?_
  intro w hw
  have hpl := fun L2 => (place_at w0 L R b k p hp hg).rebase (L' := L2) hw
  repeat ((with_reducible refine K.seq ?_))
  refine K.reg ?_
  refine KO.box rfl rfl (by exact rfl) rfl ?_; intro b3
  refine KO.as rfl rfl ?_
  refine KO.nil ?_
  repeat (first | (with_reducible refine K.seq ?_) | (with_reducible refine KQ.next ?_))
  refine K.reg ?_
  refine KO.mv rfl rfl ?_
  refine KO.ce (cp := []) rfl rfl rfl Tryd.call61 rfl (hpl _) ?_; rintro v' L' ⟨rfl, rfl⟩
  refine KO.mv rfl rfl ?_
  refine KO.extrL rfl (by exact rfl) rfl ?_
  refine KO.extrL rfl (by exact rfl) rfl ?_
  refine KO.as rfl rfl ?_
  refine KO.as rfl rfl ?_
  refine KO.nil ?_
  repeat (first | (with_reducible refine K.seq ?_) | (with_reducible refine KQ.next ?_))
  by_cases h : k = e
  · refine K.reg ?_
    refine KO.mv rfl rfl ?_
    refine KO.fo0 (off := 0) rfl Tryd.runUnderlying63 rfl rfl Tryd.sizeOf37 rfl ?_
    refine KO.ld rfl rfl Tryd.isAgg37 (by with_reducible (repeat (exact Pick.head))) (by exact rfl) rfl ?_
    refine KO.eqI rfl rfl rfl ?_
    refine KO.mv rfl rfl ?_
    (refine KO.on rfl rfl ?_ ?_; (focus (simp only [decide_eq_true_eq, decide_eq_false_iff_not, Bool.not_eq_true, Bool.not_true, Bool.not_false, ne_eq]; omega)); (refine KO.mv rfl rfl ?_))
    (refine KO.on rfl rfl ?_ ?_; (focus (simp only [decide_eq_true_eq, decide_eq_false_iff_not, Bool.not_eq_true, Bool.not_true, Bool.not_false, ne_eq]; omega)); (refine KO.fo0 (off := 1) rfl Tryd.runUnderlying63 rfl rfl Tryd.sizeOf3 rfl ?_))
    (refine KO.on rfl rfl ?_ ?_; (focus (simp only [decide_eq_true_eq, decide_eq_false_iff_not, Bool.not_eq_true, Bool.not_true, Bool.not_false, ne_eq]; omega)); (refine KO.ld rfl rfl Tryd.isAgg3 (by with_reducible (repeat (exact Pick.head))) (by exact rfl) rfl ?_))
    (refine KO.on rfl rfl ?_ ?_; (focus (simp only [decide_eq_true_eq, decide_eq_false_iff_not, Bool.not_eq_true, Bool.not_true, Bool.not_false, ne_eq]; omega)); (refine KO.eqI rfl rfl rfl ?_))
    (refine KO.pickT rfl ?_ rfl rfl ?_; (focus (simp only [decide_eq_true_eq, decide_eq_false_iff_not, Bool.not_eq_true, Bool.not_true, Bool.not_false, ne_eq]; omega)))
    refine KO.as rfl rfl ?_
    refine KO.nil ?_
    repeat (first | (with_reducible refine KQ.next ?_) | (with_reducible refine K.ret ?_))
    refine KQ.ret1 rfl rfl (fun w' hs => ⟨_, _, rfl, ⟨by simp [h], rfl⟩, hw.below_step hs.below, hs.below⟩)
  · refine K.reg ?_
    refine KO.mv rfl rfl ?_
    refine KO.fo0 (off := 0) rfl Tryd.runUnderlying63 rfl rfl Tryd.sizeOf37 rfl ?_
    refine KO.ld rfl rfl Tryd.isAgg37 (by with_reducible (repeat (exact Pick.head))) (by exact rfl) rfl ?_
    refine KO.eqI rfl rfl rfl ?_
    refine KO.mv rfl rfl ?_
    (refine KO.no rfl rfl ?_ rfl ?_; (focus (simp only [decide_eq_true_eq, decide_eq_false_iff_not, Bool.not_eq_true, Bool.not_true, Bool.not_false, ne_eq]; omega)))
    (refine KO.no rfl rfl ?_ rfl ?_; (focus (simp only [decide_eq_true_eq, decide_eq_false_iff_not, Bool.not_eq_true, Bool.not_true, Bool.not_false, ne_eq]; omega)))
    (refine KO.no rfl rfl ?_ rfl ?_; (focus (simp only [decide_eq_true_eq, decide_eq_false_iff_not, Bool.not_eq_true, Bool.not_true, Bool.not_false, ne_eq]; omega)))
    (refine KO.no rfl rfl ?_ rfl ?_; (focus (simp only [decide_eq_true_eq, decide_eq_false_iff_not, Bool.not_eq_true, Bool.not_true, Bool.not_false, ne_eq]; omega)))
    (refine KO.pickF rfl ?_ rfl rfl ?_; (focus (simp only [decide_eq_true_eq, decide_eq_false_iff_not, Bool.not_eq_true, Bool.not_true, Bool.not_false, ne_eq]; omega)))
    refine KO.as rfl rfl ?_
    refine KO.nil ?_
    repeat (first | (with_reducible refine KQ.next ?_) | (with_reducible refine K.ret ?_))
    refine KQ.ret1 rfl rfl (fun w' hs => ⟨_, _, rfl, ⟨by simp [h], rfl⟩, hw.below_step hs.below, hs.below⟩)
end Go.Proofs.YtjhogocabcdjbaaDoor
/- messages' text: plain -/
namespace WB
open Go
def itoaS (n : Int) : ByteArray := ⟨(Lib.itoa n).toArray⟩
def joinS (xs : List ByteArray) (sep : ByteArray) : ByteArray := ⟨(Lib.join (xs.map (·.data.toList)) sep.data.toList).toArray⟩
def intB (n : Int) : Prop := -9223372036854775808 ≤ n ∧ n ≤ 9223372036854775807
def sp : ByteArray := ⟨#[32]⟩
def msgS (m : Ms) : ByteArray := itoaS m.id ++ sp ++ itoaS m.pri ++ sp ++ m.body ++ sp ++ m.queue ++ sp ++ itoaS m.house
def plus : ByteArray := ⟨#[43]⟩
def writeS (xs : List Ms) : ByteArray := joinS (xs.map msgS) plus
theorem ba_size (s : ByteArray) : s.size = s.data.toList.length := rfl
theorem itoaS_size {n : Int} (h : intB n) : (itoaS n).size ≤ 21 := by
  have := Lib.itoa_length_le n h.1 h.2
  simpa [itoaS, ByteArray.size] using this
theorem join_cons2 (x y : List UInt8) (r : List (List UInt8)) (sep : List UInt8) : Lib.join (x :: y :: r) sep = x ++ sep ++ Lib.join (y :: r) sep := by
  simp [Lib.join_cons, Lib.joinTail]
theorem join_snoc (l : List (List UInt8)) (x sep : List UInt8) (h : l ≠ []) : Lib.join (l ++ [x]) sep = Lib.join l sep ++ sep ++ x := by
  cases l with
  | nil => exact absurd rfl h
  | cons a r => rw [List.cons_append, Lib.join_cons, Lib.join_cons]; simp [Lib.joinTail]
theorem joinS_snoc (l : List ByteArray) (x sep : ByteArray) (h : l ≠ []) : joinS (l ++ [x]) sep = joinS l sep ++ sep ++ x := by
  unfold joinS
  rw [List.map_append, List.map_cons, List.map_nil, join_snoc _ _ _ (by simpa using h)]
  apply ByteArray.ext
  apply Array.ext'
  simp
theorem joinS_one (x sep : ByteArray) : joinS [x] sep = x := by
  unfold joinS
  rw [List.map_cons, List.map_nil, Lib.join_one]
theorem joinS_nil (sep : ByteArray) : joinS [] sep = ⟨#[]⟩ := rfl
theorem joinS_two (x y sep : ByteArray) : joinS [x, y] sep = x ++ sep ++ y := by
  have := joinS_snoc [x] y sep (by simp)
  rw [joinS_one] at this; exact this
theorem joinS_cons2 (x y : ByteArray) (r : List ByteArray) (sep : ByteArray) : joinS (x :: y :: r) sep = x ++ sep ++ joinS (y :: r) sep := by
  unfold joinS
  rw [List.map_cons, List.map_cons, join_cons2]
  apply ByteArray.ext
  apply Array.ext'
  simp
theorem joinS_size (sep : ByteArray) (c : Nat) : ∀ (l : List ByteArray), (∀ x ∈ l, x.size ≤ c) → (joinS l sep).size ≤ l.length * (c + sep.size)
  | [], _ => by rw [joinS_nil]; exact Nat.zero_le _
  | [x], h => by
    have := h x (by simp)
    rw [joinS_one]; simp; omega
  | x :: y :: r, h => by
    have h1 := joinS_size sep c (y :: r) fun z hz => h z (List.mem_cons_of_mem _ hz)
    have h2 := h x (by simp)
    rw [joinS_cons2, ByteArray.size_append, ByteArray.size_append, List.length_cons, Nat.succ_mul]; omega
theorem join_len (l : List ByteArray) (sep : ByteArray) : (Lib.join (l.map (·.data.toList)) sep.data.toList).length = (joinS l sep).size := by simp [joinS, ByteArray.size]
theorem cat_assoc (a b c : ByteArray) : a ++ b ++ c = a ++ (b ++ c) := ByteArray.append_assoc
theorem cat_nil (a : ByteArray) : (⟨#[]⟩ : ByteArray) ++ a = a := ByteArray.empty_append
theorem writeS_snoc (l : List Ms) (m : Ms) : writeS (l ++ [m]) = (if l = [] then msgS m else writeS l ++ plus ++ msgS m) := by
  unfold writeS
  rw [List.map_append, List.map_cons, List.map_nil]
  by_cases h : l = []
  · subst h; rw [if_pos rfl, List.map_nil, List.nil_append, joinS_one]
  · rw [if_neg h, joinS_snoc _ _ _ (by simpa using h)]
theorem msgS_size {m : Ms} (h : msRight m = true) : (msgS m).size ≤ 100 := by
  obtain ⟨h1, h2, h3, h4, h5, h6, h7, h8⟩ := msRight_parts h
  have a1 := itoaS_size (n := m.id) ⟨by omega, by omega⟩
  have a2 := itoaS_size (n := m.pri) ⟨by omega, by omega⟩
  have a3 := itoaS_size (n := m.house) ⟨by omega, by omega⟩
  have a4 : m.body.size ≤ 12 := by unfold bodyB lettersB at h5; simp at h5; omega
  have a5 : m.queue.size ≤ 8 := by unfold wordB lettersB at h6; simp at h6; omega
  have a6 : sp.size = 1 := rfl
  unfold msgS
  simp only [ByteArray.size_append, a6]
  omega
theorem writeS_size {l : List Ms} (h : ∀ m ∈ l, msRight m = true) : (writeS l).size ≤ l.length * 101 := by
  unfold writeS
  have := joinS_size plus 100 (l.map msgS) (fun x hx => by obtain ⟨m, hm, rfl⟩ := List.mem_map.1 hx; exact msgS_size (h m hm))
  rw [List.length_map] at this
  exact this
/-- the first that may not be -/
def badI (xs : List Ms) : Option Nat := xs.findIdx? fun m => !msRight m
def writeE (xs : List Ms) : Int := match badI xs with | none => 0 | some _ => 1
def writeP (xs : List Ms) : Int := match badI xs with | none => -1 | some k => (k : Int)
def writeT (xs : List Ms) : ByteArray := match badI xs with | none => writeS xs | some _ => ⟨#[]⟩
theorem badI_none {xs : List Ms} (h : ∀ (j : Nat) m, xs[j]? = some m → msRight m = true) : badI xs = none := by
  unfold badI
  rw [List.findIdx?_eq_none_iff]
  intro m hm
  obtain ⟨j, hj, rfl⟩ := List.getElem_of_mem hm
  simp [h j _ (List.getElem?_eq_getElem hj)]
theorem badI_some {xs : List Ms} {k : Nat} {m : Ms} (hk : xs[k]? = some m) (hm : msRight m = false) (h : ∀ (j : Nat) m, j < k → xs[j]? = some m → msRight m = true) : badI xs = some k := by
  unfold badI
  rw [List.findIdx?_eq_some_iff_getElem]
  obtain ⟨hlt, he⟩ := List.getElem?_eq_some_iff.1 hk
  refine ⟨hlt, by rw [he, hm]; rfl, fun j hj => ?_⟩
  have := h j xs[j] hj (List.getElem?_eq_getElem _)
  simp [this]
theorem badI_all {xs : List Ms} (h : badI xs = none) : ∀ m ∈ xs, msRight m = true := by
  unfold badI at h
  intro m hm
  simpa using List.findIdx?_eq_none_iff.1 h m hm
end WB
/- what a law's row wants beside its walk: arguments opened, read again, a witness -/
namespace WB
open Go Go.RowKit Go.ChangeShapes Go.WideShapes Go.Deep
section
variable {H : Type} {enc : TypeId × Value → H}
theorem witness_row_sh {C : Checked} {os : Os} {f : FuncId} {fn : Func} {s : OpenSpec} {conds : List PathCond} {apart : Bool} {laid : List (String × DataW Unit)} (modest : Bool) (w0 : World) (args : Array Value) (hos : w0.os = os)
    (hsh : (w0.forCall (fun _ _ => 0) ⟨#[], args, []⟩).Shaped C.prog)
    (hok : Input.okWideB C.prog (w0.forCall (fun _ _ => 0) ⟨#[], args, []⟩) f ⟨#[], args, []⟩ = true)
    (hrow : s.preRow enc C.prog fn conds apart laid (w0.forCall (fun _ _ => 0) ⟨#[], args, []⟩).memory args) :
    ∃ (w : World) (tape : Tape) (i : Input), w.os = os ∧ (w.forCall tape i).Shaped C.prog ∧ i.vars = [] ∧ Input.okWide C.prog (w.forCall tape i) .any w.heap.size f i ∧
      s.preRow enc C.prog fn conds apart laid (w.forCall tape i).memory i.args ∧ ({ modest := modest } : Assume).holds C.prog (lone (Frame.enter C.prog f i.args .normal) [] (w.forCall tape i)) :=
  ⟨w0, fun _ _ => 0, ⟨#[], args, []⟩, hos, hsh, (Input.okWide_of_okWideB (base := 0) hok).1, (Input.okWide_of_okWideB hok).2, hrow, by
    simp only [Assume.holds]
    exact ⟨by simp, by simp, fun _ => Modest.zero, by simp, by simp⟩⟩
variable {P : Program}
/-- the arguments read again as they did -/
theorem law_args (hl : laidOutB P = true) {W W' : World} (hb : Below W.heap.size W W') : ∀ {ts : List TypeId} {vs : List Value} {ds : List (DataW H)} {ps : List MemPlace}, (ts.all fun t => P.readableRec t && decide (t < P.types.size)) = true →
    DataW.TrodAll enc P W 0 (fun _ => true) true ts vs ds ps → (∀ x ∈ ps, x.block < W.heap.size) → DataW.TrodAll enc P W' 0 (fun b => decide (b < W.heap.size)) true ts vs ds ps
  | [], [], [], _, _, h, _ => h
  | t :: ts, v :: vs, d :: ds, ps, hr, ⟨p, q, h1, h2, e⟩, hlt => by
    simp only [List.all_cons, Bool.and_eq_true, decide_eq_true_eq] at hr
    exact ⟨p, q, Below.trod hl hr.1.1 hr.1.2 h1 hb (fun x hx => hlt x (by rw [e]; exact List.mem_append_left _ hx)), law_args hl hb (by simpa using hr.2) h2 (fun x hx => hlt x (by rw [e]; exact List.mem_append_right _ hx)), e⟩
theorem list_of_each {α : Type} {p : Nat → α → Prop} : ∀ (n : Nat), (∀ i, i < n → ∃ x, p i x) → ∃ l : List α, l.length = n ∧ ∀ (i : Nat) (x : α), l[i]? = some x → p i x
  | 0, _ => ⟨[], rfl, fun i x h => by simp at h⟩
  | n + 1, h => by
    obtain ⟨l, hl, hp⟩ := list_of_each n fun i hi => h i (by omega)
    obtain ⟨x, hx⟩ := h n (by omega)
    refine ⟨l ++ [x], by simp [hl], fun i y hy => ?_⟩
    by_cases hi : i < l.length
    · rw [List.getElem?_append_left hi] at hy; exact hp i y hy
    · rw [List.getElem?_append_right (by omega)] at hy
      have : i - l.length = 0 := by
        rcases Nat.eq_zero_or_pos (i - l.length) with h0 | h0
        · exact h0
        · rw [List.getElem?_eq_none (by simp; omega)] at hy; simp at hy
      rw [this] at hy
      simp only [List.getElem?_cons_zero, Option.some.injEq] at hy
      rw [← hy, show i = n by omega]; exact hx
/-- a slice that came in -/
def RdA {α : Type} (W : World) (sz : Nat) (cf : α → List Value) (v : Value) (xs : List α) : Prop :=
  ∃ a cap, v = .slice a xs.length cap ∧ ∀ (i : Nat) (x : α), xs[i]? = some x → ∃ ad, a = some ad ∧ HasCells W (ad.add (i * sz)) (cf x)
theorem open_sl {α : Type} {φ : α → Prop} {cf : α → List Value} {W : World} {t e : TypeId} {v : Value} {d : DataW H} {p : List MemPlace} {r : Reach} {base sz : Nat} (ht : P.underlying t = some (.slice e)) (hv : Value.okWide P W r base t v)
    (h : DataW.Trod enc P W 0 (fun _ => true) true t v d p) (hsz : P.cellsOf e = sz) (rd : ∀ n cs y, DataW.trod enc P W 0 (fun _ => true) true n e cs = some y → ∃ x : α, φ x ∧ cs = cf x) :
    ∃ xs : List α, RdA W sz cf v xs ∧ ∀ x ∈ xs, φ x := by
  obtain ⟨a, len, cap, rfl⟩ := okWide_slice ht hv
  obtain ⟨fuel, hf⟩ := h
  rcases open_slice ht hf with ⟨hcs, _⟩ | ⟨a', len', cap', m, n, D, Pl, hcs, _, hl, _, hm, _, hi⟩
  · simp [Value.cells] at hcs
    obtain ⟨rfl, rfl, rfl⟩ := hcs
    exact ⟨[], ⟨none, 0, rfl, fun i x h => by simp at h⟩, fun x hx => by simp at hx⟩
  · simp [Value.cells] at hcs
    obtain ⟨rfl, rfl, rfl⟩ := hcs
    have key : ∀ i, i < len → ∃ x : α, φ x ∧ HasCells W (a'.add (i * sz)) (cf x) := fun i hlt => by
      obtain ⟨cs', hc, htr⟩ := hi i (by rw [hm]; simp; omega)
      obtain ⟨x, hx, rfl⟩ := rd n cs' _ htr
      obtain ⟨_, hlen, hcell⟩ := World.cells?_some hc
      refine ⟨x, hx, fun j c hj => ?_⟩
      have hlt2 := (List.getElem?_eq_some_iff.1 hj).1
      rw [← hsz]
      rw [hcell j (by omega)]; exact hj
    obtain ⟨l, hll, hp⟩ := list_of_each len key
    refine ⟨l, ⟨some a', cap, by rw [hll], fun i x hx => ⟨a', rfl, (hp i x hx).2⟩⟩, fun x hx => ?_⟩
    obtain ⟨i, hi, rfl⟩ := List.getElem_of_mem hx
    exact (hp i _ (List.getElem?_eq_getElem hi)).1
end
end WB
namespace WB
open Go Go.RowKit Go.ChangeShapes Go.WideShapes Go.Deep
section
variable {H : Type} {enc : TypeId × Value → H} {P : Program} {W : World} {base : Nat} {spare : Nat → Bool} {held : Bool}
theorem trod_len {t : TypeId} {fs : Array Field} {n : Nat} {cs : List Value} {y : DataW H × List MemPlace} (hu : P.underlying t = some (.struct fs)) (h : DataW.trod enc P W base spare held n t cs = some y) {k : Nat} (hk : P.cellsOf t = k) : cs.length = k := by
  obtain ⟨_, _, _, _, hl, _⟩ := DataW.trod_struct hu h
  rw [hl, hk]
theorem trod_field {t : TypeId} {fs : Array Field} {n : Nat} {cs : List Value} {y : DataW H × List MemPlace} (hu : P.underlying t = some (.struct fs)) (h : DataW.trod enc P W base spare held n t cs = some y) (i off : Nat) (ty : TypeId) (sz : Nat)
    (hf : (fs[i]?).map (fun f => (f.offset, f.type)) = some (off, ty)) (hc : P.cellsOf ty = sz) : ∃ m y', DataW.trod enc P W base spare held m ty ((cs.drop off).take sz) = some y' := by
  obtain ⟨xs, m, _, _, _, hx, hall⟩ := DataW.trod_struct hu h
  cases hfi : fs[i]? with
  | none => rw [hfi] at hf; simp at hf
  | some f =>
    rw [hfi] at hf
    simp only [Option.map_some, Option.some.injEq, Prod.mk.injEq] at hf
    obtain ⟨rfl, rfl⟩ := hf
    have h1 := hall i f hfi
    have hlt : i < xs.length := by rw [hx]; exact (Array.getElem?_eq_some_iff.1 hfi).1
    rw [List.getElem?_eq_getElem hlt, hc] at h1
    exact ⟨m, _, h1⟩
theorem trod_str {t : TypeId} {fs : Array Field} {n : Nat} {cs : List Value} {y : DataW H × List MemPlace} (hu : P.underlying t = some (.struct fs)) (h : DataW.trod enc P W base spare held n t cs = some y) (i off : Nat) (ty : TypeId)
    (hf : (fs[i]?).map (fun f => (f.offset, f.type)) = some (off, ty)) (hc : P.cellsOf ty = 1) (hty : P.underlying ty = some .string) : ∃ s : ByteArray, cs[off]? = some (.string s) ∧ s.size ≤ maxLen := by
  obtain ⟨m, y', h1⟩ := trod_field hu h i off ty 1 hf hc
  obtain ⟨s, e, _, hs⟩ := DataW.trod_string hty h1
  refine ⟨s, ?_, hs⟩
  have := congrArg (fun l => l[0]?) e
  simpa using this
theorem trod_i {t : TypeId} {fs : Array Field} {n : Nat} {cs : List Value} {y : DataW H × List MemPlace} (hu : P.underlying t = some (.struct fs)) (h : DataW.trod enc P W base spare held n t cs = some y) (i off : Nat) (ty : TypeId) {k : IntKind}
    (hf : (fs[i]?).map (fun f => (f.offset, f.type)) = some (off, ty)) (hc : P.cellsOf ty = 1) (hty : P.underlying ty = some (.int k)) : ∃ z : Int, cs[off]? = some (.int k z) ∧ (Lit.int k z).wf = true := by
  obtain ⟨m, y', h1⟩ := trod_field hu h i off ty 1 hf hc
  obtain ⟨z, e, _, hz⟩ := DataW.trod_int hty h1
  refine ⟨z, ?_, hz⟩
  have := congrArg (fun l => l[0]?) e
  simpa using this
theorem trod_b {t : TypeId} {fs : Array Field} {n : Nat} {cs : List Value} {y : DataW H × List MemPlace} (hu : P.underlying t = some (.struct fs)) (h : DataW.trod enc P W base spare held n t cs = some y) (i off : Nat) (ty : TypeId)
    (hf : (fs[i]?).map (fun f => (f.offset, f.type)) = some (off, ty)) (hc : P.cellsOf ty = 1) (hty : P.underlying ty = some .bool) : ∃ z : Bool, cs[off]? = some (.bool z) := by
  obtain ⟨m, y', h1⟩ := trod_field hu h i off ty 1 hf hc
  obtain ⟨z, e, _⟩ := DataW.trod_bool hty h1
  refine ⟨z, ?_⟩
  have := congrArg (fun l => l[0]?) e
  simpa using this
end
end WB
namespace WB
open Go Go.RowKit
theorem laidVars_mem {P : Program} {W : World} : ∀ {l : List (String × DataW Unit)} {ps : List MemPlace}, DataW.LaidVars P W l ps → ∀ x ∈ l, ∃ g t cs fuel p, P.globalNamed x.1 = some g ∧ (P.globals[g]?).map (·.type) = some t ∧ W.var? P x.1 = some cs ∧ DataW.trod (fun _ => ()) P W 0 (fun _ => true) false fuel t cs.toList = some (x.2, p)
  | [], _, _, x, hx => by cases hx
  | (n, d) :: r, ps, h, x, hx => by
    obtain ⟨g, t, cs, fuel, p, q, h1, h2, h3, h4, h5, _⟩ := h
    rcases List.mem_cons.1 hx with rfl | hx
    · exact ⟨g, t, cs, fuel, p, h1, h2, h3, h4⟩
    · exact laidVars_mem h5 x hx
theorem tab_of_laid {P : Program} {W : World} {name : String} {k : IntKind} {zs : List Int} {l : List (String × DataW Unit)} {g : Nat} {t e : TypeId} {n : Nat}
    (h : laidMet P l W) (hm : (name, Lib.tabData k zs) ∈ l) (hg : P.globalNamed name = some g) (hty : (P.globals[g]?).map (·.type) = some t) (ht : P.underlying t = some (.array n e)) (he : P.underlying e = some (.int k)) (hce : P.cellsOf e = 1) (hct : P.cellsOf t = n) : Lib.TabIs P W name k zs := by
  obtain ⟨ps, hv, _⟩ := h
  obtain ⟨g', t', cs, fuel, p, h1, h2, h3, h4⟩ := laidVars_mem hv _ hm
  obtain rfl := Option.some.inj (hg.symm.trans h1)
  obtain rfl := Option.some.inj (hty.symm.trans h2)
  unfold Lib.TabIs
  rw [h3, ← Lib.cells_of_tab ht he hce hct h4]
end WB
namespace WB
open Go Go.RowKit Go.ChangeShapes Go.WideShapes Go.Deep
theorem trodAll_five {H : Type} {enc : TypeId × Value → H} {P : Program} {w : World} {base : Nat} {spare : Nat → Bool} {held : Bool} {t0 t1 t2 t3 t4 : TypeId} {args : Array Value} {ds : List (DataW H)} {ps : List MemPlace} (h : DataW.TrodAll enc P w base spare held [t0, t1, t2, t3, t4] args.toList ds ps) :
    ∃ v0 v1 v2 v3 v4 d0 d1 d2 d3 d4 p0 p1 p2 p3 p4, args = #[v0, v1, v2, v3, v4] ∧ ds = [d0, d1, d2, d3, d4] ∧ ps = p0 ++ p1 ++ p2 ++ p3 ++ p4 ∧ DataW.Trod enc P w base spare held t0 v0 d0 p0 ∧ DataW.Trod enc P w base spare held t1 v1 d1 p1 ∧ DataW.Trod enc P w base spare held t2 v2 d2 p2 ∧ DataW.Trod enc P w base spare held t3 v3 d3 p3 ∧ DataW.Trod enc P w base spare held t4 v4 d4 p4 := by
  obtain ⟨v0, vs0, d0, ds0, p0, q0, hargs, rfl, rfl, h0, hr0⟩ := trodAll_cons h
  obtain ⟨v1, vs1, d1, ds1, p1, q1, rfl, rfl, rfl, h1, hr1⟩ := trodAll_cons hr0
  obtain ⟨v2, vs2, d2, ds2, p2, q2, rfl, rfl, rfl, h2, hr2⟩ := trodAll_cons hr1
  obtain ⟨v3, vs3, d3, ds3, p3, q3, rfl, rfl, rfl, h3, hr3⟩ := trodAll_cons hr2
  obtain ⟨v4, vs4, d4, ds4, p4, q4, rfl, rfl, rfl, h4, hr4⟩ := trodAll_cons hr3
  obtain ⟨rfl, rfl, rfl⟩ := trodAll_nil hr4
  exact ⟨v0, v1, v2, v3, v4, d0, d1, d2, d3, d4, p0, p1, p2, p3, p4, by cases args; simp_all, rfl, by simp, h0, h1, h2, h3, h4⟩
end WB
/- messages' text: Itoa, Join, the document's Words and Write, the program's Write. -/
namespace Go.Proofs.YtjhogocabcdjbaaDoor
open Go Go.RowKit WB
def Tab (w : World) : Prop := Lib.TabIs Tryd.prog w "internal/strconv.uint64pow10" .u64 Lib.pow10Tab
theorem Tab.ext {w w' : World} (h : Tab w) (e : Ext w w') : Tab w' := by
  unfold Tab Lib.TabIs World.var? at *
  cases hg : Tryd.prog.globalNamed "internal/strconv.uint64pow10" with
  | none => rw [hg] at h; simp at h
  | some g =>
    rw [hg] at h
    simp only [Option.bind_some] at h ⊢
    cases hb : w.heap[g]? with
    | none => rw [hb] at h; simp at h
    | some o => rw [e.2 g (Array.getElem?_eq_some_iff.1 hb).1, hb]; rw [hb] at h; exact h
theorem itoa_e (w0 : World) (L : List HP) (n : Int) (hT : Tab w0) (hn : intB n) : KE Tryd.prog 59 #[.int .i64 n] w0 L (fun u M => u = .string (itoaS n) ∧ M = L) := KE.of_below fun w hw => by
  refine (Tryd.strconv_Itoa n hn.1 hn.2 w (hT.ext (Ext.of_below hw.below))).mono ?_
  rintro e w' ⟨rfl, k, os, rfl⟩
  exact ⟨rfl, Lib.below_grow _ _ (Nat.le_refl _) _ _⟩
theorem rdA_extM {W W' : World} {v : Value} {xs : List Ms} (h : RdA W 5 msC v xs) (e : Ext W W') : RdA W' 5 msC v xs := by
  obtain ⟨a, cap, rfl, hc⟩ := h
  exact ⟨a, cap, rfl, fun i x hx => by obtain ⟨ad, rfl, hh⟩ := hc i x hx; exact ⟨ad, rfl, hh.ext e⟩⟩
def strC (s : ByteArray) : List Value := [.string s]
abbrev strS (v : Value) (xs : List ByteArray) : HP := SL 9 1 strC v xs
theorem str_info : (Tryd.prog.info? 9).map (fun i => (i.zero, i.size, i.bytes)) = some (some (Value.string ⟨#[]⟩), 1, 16) := by kernel_rfl
theorem join_e (w0 : World) (L R : List HP) (v : Value) (xs : List ByteArray) (sep : ByteArray) (hp : Pick L (strS v xs) R) (hn : xs.length ≤ 1000000) (hs : (joinS xs sep).size ≤ 1000000000) : KE Tryd.prog 60 #[v, .string sep] w0 L (fun u M => u = .string (joinS xs sep) ∧ M = L) := KE.of_below fun w hw => by
  rcases (hw.pick hp).osl_cases with ⟨h1, h2, _⟩ | ⟨g, cap, cur, h1, h2, h3, h4, h5, h6, h7⟩
  · have hx : xs = [] := List.eq_nil_of_length_eq_zero h2
    subst hx; subst h1
    refine (Tryd.strings_Join_none none 0 sep w).mono ?_
    rintro e w' ⟨rfl, rfl⟩
    exact ⟨rfl, Below.refl _ _⟩
  · subst h1
    have hc : ∀ (j : Nat) x, xs[j]? = some x → w.cell? ⟨g, 0 + j, none⟩ = some (.string x) := fun j x hx => by
      have := SL_cells (cf := strC) (sz := 1) (fun _ => rfl) (hw.pick hp) hx 0 (by decide)
      rw [Nat.zero_add]
      simpa [strC] using this
    refine (Tryd.strings_Join g 0 cap xs sep w hc h7.lt (by omega) h2 (by rw [join_len]; omega)).mono ?_
    rintro e w' ⟨rfl, hb⟩
    exact ⟨rfl, hb⟩
def inC (n : Int) : List Value := [.int .i64 n]
theorem rdA_blk {w0 w : World} {L R : List HP} {b cap : Nat} {xs : List Int} {vs : List Value} {E : TypeId} {fz : Nat × Nat} (hp : Pick L (blk b (.cells vs.toArray E fz)) R) (hvs : vs = xs.map (Value.int .i64)) (hw : St w0 L w) : RdA w 1 inC (.slice (some ⟨b, 0, none⟩) xs.length cap) xs :=
  ⟨_, _, rfl, fun i x hx => ⟨_, rfl, fun j c hj => by
    cases j with
    | succ j => simp [inC] at hj
    | zero =>
      simp [inC] at hj; subst hj
      rw [Addr.add_lit, Addr.add_lit, World.cell?, (hw.lookP hp).2, hvs]
      simp [hx]⟩⟩
theorem words_e (w0 : World) (L : List HP) (v : Value) (xs : List Int) (hr : ∀ w, St w0 L w → RdA w 1 inC v xs) (hT : Tab w0) (hn : ∀ n ∈ xs, intB n) (hl : xs.length ≤ 1000) : KE Tryd.prog 55 #[v] w0 L (fun u M => u = .string (joinS (xs.map itoaS) sp) ∧ M = L) := by
  refine KE.mk (n := 20) Tryd.func55 rfl Tryd.ntmps55 (by simp) ?_
  intro w hw
  have hTw := hT.ext (Ext.of_below hw.below)
  obtain ⟨sa, cap, rfl, hc⟩ := hr w hw
  repeat ((with_reducible refine K.seq ?_))
  refine K.reg ?_
  refine KO.as rfl rfl ?_
  refine KO.nil ?_
  repeat (first | (with_reducible refine K.seq ?_) | (with_reducible refine KQ.next ?_))
  refine K.reg ?_
  refine KO.as rfl rfl ?_
  refine KO.nil ?_
  repeat (first | (with_reducible refine K.seq ?_) | (with_reducible refine KQ.next ?_))
  refine K.reg ?_
  refine KO.mv rfl rfl ?_
  refine KO.len rfl Tryd.underlying144 rfl ?_
  refine KO.mv rfl rfl ?_
  refine KO.nil ?_
  repeat (first | (with_reducible refine KQ.next ?_) | (with_reducible refine K.block ?_))
  refine K.loop (fun s : Nat × Value => [(3, s.2), (6, .slice sa xs.length cap), (7, .int .i64 (xs.length : Nat)), (8, .int .i64 (s.1 : Nat))]) (fun s => [strS s.2 ((xs.take s.1).map itoaS)]) (fun s => s.1 ≤ xs.length) (fun s => xs.length - s.1) (0, .slice none 0 0)
    (Nat.zero_le _) ⟨rfl, rfl, rfl, rfl, trivial⟩ (fun _ h => SL_nil h) ?_
  rintro ⟨k, vo⟩ hk
  dsimp only at hk ⊢
  repeat ((with_reducible refine K.seq ?_))
  refine K.reg ?_
  refine KO.lss rfl rfl rfl ?_
  refine KO.nil ?_
  repeat (first | (with_reducible refine K.seq ?_) | (with_reducible refine KQ.next ?_))
  refine K.condD rfl (fun h => ?_) (fun h => ?_)
  · obtain ⟨n, hnk⟩ : ∃ e, xs[k]? = some e := ⟨xs[k], List.getElem?_eq_getElem (by omega)⟩
    obtain ⟨ad, rfl, hh⟩ := hc k n hnk
    have hcell : w.cell? (ad.add (k * 1)) = some (.int .i64 n) := by have := hh 0 _ rfl; rwa [Addr.add_zero'] at this
    have hlen : ((xs.take k).map itoaS).length < 1000000 := by simp; omega
    have hin := hn n (List.mem_of_getElem? hnk)
    repeat (first | (with_reducible refine K.seq ?_) | (with_reducible refine KQ.next ?_) | (with_reducible refine K.skip ?_) | (with_reducible refine K.block ?_))
    refine K.reg ?_
    refine KO.idxH rfl rfl Tryd.runUnderlying144 Tryd.sizeOf3 (by exact rfl) (by omega) rfl ?_
    refine KO.ld0 rfl rfl Tryd.isAgg3 hcell rfl ?_
    refine KO.as rfl rfl ?_
    refine KO.nil ?_
    repeat ((with_reducible refine KQ.next ?_))
    refine K.reg ?_
    refine KO.mv rfl rfl ?_
    refine KO.mv rfl rfl ?_
    refine KO.ce (cp := []) rfl rfl rfl Tryd.call59 rfl (itoa_e w _ n hTw hin) ?_; rintro v' L' ⟨rfl, rfl⟩
    refine KO.bs1 (z := (Value.string ⟨#[]⟩)) (sz := 1) (by' := 16) rfl rfl Tryd.underlying24 (by kernel_rfl) (by exact rfl) (by exact rfl) (by decide) (by decide) rfl ?_; intro b15
    refine KO.app (z := Value.string ⟨#[]⟩) (sz := 1) (by' := 16) rfl rfl rfl (by with_reducible (repeat (first | exact Pick.head | apply Pick.tail))) (by with_reducible (repeat (exact Pick.head))) Tryd.underlying24 str_info rfl (itoaS n) (by exact rfl) (by exact rfl) (by exact rfl) (by omega) (by decide) rfl ?_; intro v'
    refine KO.as rfl rfl ?_
    refine KO.nil ?_
    repeat (first | (with_reducible refine KQ.next ?_) | (with_reducible refine KQ.blk_normal ?_))
    refine K.reg ?_
    refine KO.add rfl rfl rfl (by omega) rfl ?_
    refine KO.mv rfl rfl ?_
    refine KO.nil ?_
    refine KQ.round (k + 1, v') (by dsimp only; omega) (by dsimp only; omega) ⟨rfl, rfl, rfl, rfl, trivial⟩ (fun _ h => ?_)
    dsimp only
    rw [take_succ_some hnk, List.map_append]
    exact h
  · have hkl : k = xs.length := by omega
    rw [hkl, List.take_length]
    have hsz := joinS_size sp 21 (xs.map itoaS) (fun x hx => by obtain ⟨n, hn1, rfl⟩ := List.mem_map.1 hx; exact itoaS_size (hn n hn1))
    rw [List.length_map, show sp.size = 1 from rfl] at hsz
    repeat (first | (with_reducible refine K.seq ?_) | (with_reducible refine KQ.next ?_) | (with_reducible refine KQ.then_exit ?_) | (with_reducible refine KQ.blk_exit ?_) | (with_reducible refine K.exit ?_))
    refine K.reg ?_
    refine KO.mv rfl rfl ?_
    refine KO.ce (cp := []) rfl rfl rfl Tryd.call60 rfl (join_e w _ _ vo (xs.map itoaS) sp (by with_reducible (repeat (exact Pick.head))) (by simp; omega) (by omega)) ?_; rintro v' L' ⟨rfl, rfl⟩
    refine KO.as rfl rfl ?_
    refine KO.nil ?_
    repeat (first | (with_reducible refine KQ.next ?_) | (with_reducible refine K.ret ?_))
    refine KQ.ret1 rfl rfl (fun w' hs => ⟨_, _, rfl, ⟨rfl, rfl⟩, hw.below_step hs.below, hs.below⟩)
set_option maxRecDepth 100000 in
theorem rwrite_e (w0 : World) (L : List HP) (v : Value) (xs : List Ms) (hr : ∀ w, St w0 L w → RdA w 5 msC v xs) (hT : Tab w0) (hsz : ∀ m ∈ xs, m.body.size ≤ maxLen ∧ m.queue.size ≤ maxLen) (hl : xs.length ≤ 100000) :
    KE Tryd.prog 25 #[v] w0 L (fun u M => u = .tuple #[.string (writeT xs), .agg [Value.int .i64 (writeE xs), .int .i64 (writeP xs)].toArray] ∧ M = L) := by
  refine KE.mk (n := 48) Tryd.func25 rfl Tryd.ntmps25 (by simp) ?_
  intro w hw
  have hTw := hT.ext (Ext.of_below hw.below)
  obtain ⟨sa, cap, rfl, hc⟩ := hr w hw
  repeat ((with_reducible refine K.seq ?_))
  refine K.reg ?_
  refine KO.as rfl rfl ?_
  refine KO.alloc rfl Tryd.zeroValue63 (by exact rfl) rfl ?_; intro b3
  refine KO.nil ?_
  repeat (first | (with_reducible refine K.seq ?_) | (with_reducible refine KQ.next ?_))
  refine K.reg ?_
  refine KO.as rfl rfl ?_
  refine KO.nil ?_
  repeat (first | (with_reducible refine K.seq ?_) | (with_reducible refine KQ.next ?_))
  refine K.reg ?_
  refine KO.mv rfl rfl ?_
  refine KO.len rfl Tryd.underlying57 rfl ?_
  refine KO.mv rfl rfl ?_
  refine KO.nil ?_
  repeat (first | (with_reducible refine KQ.next ?_) | (with_reducible refine K.block ?_))
  refine K.loop (fun k : Nat => [(3, .pointer (some ⟨b3, 0, none⟩)), (4, .string (writeS (xs.take k))), (7, .slice sa xs.length cap), (8, .int .i64 (xs.length : Nat)), (9, .int .i64 (k : Nat))]) (fun _ => [blk b3 (.cells [Value.int .i64 0, .int .i64 0].toArray 63 (0, 0))]) (fun k => k ≤ xs.length ∧ ∀ (j : Nat) m, j < k → xs[j]? = some m → msRight m = true) (fun k => xs.length - k) 0
    ⟨Nat.zero_le _, fun j m h => by omega⟩ ⟨rfl, rfl, rfl, rfl, rfl, trivial⟩ (fun _ h => h.all (by with_reducible repeat (exact PAll.refl))) ?_
  rintro k ⟨hk, hall⟩
  repeat ((with_reducible refine K.seq ?_))
  refine K.reg ?_
  refine KO.lss rfl rfl rfl ?_
  refine KO.nil ?_
  repeat (first | (with_reducible refine K.seq ?_) | (with_reducible refine KQ.next ?_))
  refine K.condD rfl (fun h => ?_) (fun h => ?_)
  · obtain ⟨m, hm⟩ : ∃ e, xs[k]? = some e := ⟨xs[k], List.getElem?_eq_getElem (by omega)⟩
    obtain ⟨ad, rfl, hh⟩ := hc k m hm
    obtain ⟨hsb, hsq⟩ := hsz m (List.mem_of_getElem? hm)
    repeat (first | (with_reducible refine K.seq ?_) | (with_reducible refine KQ.next ?_) | (with_reducible refine K.skip ?_) | (with_reducible refine K.block ?_))
    refine K.reg ?_
    refine KO.mv rfl rfl ?_
    refine KO.idxH rfl rfl Tryd.runUnderlying57 Tryd.sizeOf50 (by exact rfl) (by omega) rfl ?_
    refine KO.ldN0 (cs := (msC m).toArray) rfl rfl Tryd.isAgg50 Tryd.sizeOf50 rfl hh rfl ?_
    refine KO.alloc rfl Tryd.zeroValue50 (by exact rfl) rfl ?_; intro b6
    refine KO.as rfl rfl ?_
    refine KO.sto0 rfl rfl rfl (by exact rfl) (by exact Tryd.sizeOf50) (by exact rfl) (by with_reducible (repeat (exact Pick.head))) (by exact rfl) ?_
    refine KO.nil ?_
    repeat (first | (with_reducible refine K.seq ?_) | (with_reducible refine KQ.next ?_))
    refine K.reg ?_
    refine KO.ldB0 rfl rfl Tryd.isAgg50 Tryd.sizeOf50 (by with_reducible (repeat (exact Pick.head))) (by exact rfl) rfl ?_
    refine KO.ce (cp := []) rfl rfl rfl Tryd.call29 rfl (rright_e w _ m hsb hsq) ?_; rintro v' L' ⟨rfl, rfl⟩
    refine KO.not rfl rfl ?_
    refine KO.nil ?_
    repeat ((with_reducible refine KQ.next ?_))
    refine K.cond rfl (fun h5 => ?_) (fun h5 => ?_)
    · have h6 : msRight m = false := by simpa using h5
      have hbad := badI_some hm h6 hall
      repeat ((with_reducible refine K.seq ?_))
      refine K.reg ?_
      refine KO.mv rfl rfl ?_
      refine KO.bldS (pl := [(0, 1), (1, 1)]) [.int .i64 1, .int .i64 (k : Nat)] rfl Tryd.zeroValue63 Tryd.runUnderlying63 (by intro w; simp [Tryd.sizeOf3, Tryd.sizeOf37]) rfl rfl ?_
      refine KO.as rfl rfl ?_
      refine KO.sto0 rfl rfl rfl (by exact rfl) (by exact Tryd.sizeOf63) (by exact rfl) (by with_reducible (repeat (first | exact Pick.head | apply Pick.tail))) (by exact rfl) ?_
      refine KO.nil ?_
      repeat (first | (with_reducible refine KQ.next ?_) | (with_reducible refine KQ.then_ret ?_) | (with_reducible refine KQ.blk_ret ?_) | (with_reducible refine K.ret ?_))
      refine KQ.retTC rfl rfl Tryd.isAgg63 (by with_reducible (repeat (exact Pick.head))) (by exact Tryd.sizeOf63) rfl (fun w' hs => ⟨_, _, rfl, ⟨?_, rfl⟩, hw.below_step hs.below, hs.below⟩)
      simp only [writeT, writeE, writeP, hbad]
    · have h6 : msRight m = true := by simpa using h5
      have hrp := msRight_parts h6
      have hms := msgS_size h6
      have htk : ∀ m ∈ xs.take k, msRight m = true := fun m hm => by
        obtain ⟨j, hj, rfl⟩ := List.getElem_of_mem hm
        rw [List.length_take] at hj
        exact hall j _ (by omega) (by rw [List.getElem?_eq_getElem (by omega), List.getElem_take])
      have hwz := writeS_size htk
      rw [List.length_take, Nat.min_eq_left hk] at hwz
      repeat (first | (with_reducible refine K.seq ?_) | (with_reducible refine KQ.next ?_) | (with_reducible refine K.skip ?_))
      refine K.reg ?_
      refine KO.mv rfl rfl ?_
      refine KO.gtr rfl rfl rfl ?_
      refine KO.nil ?_
      repeat ((with_reducible refine KQ.next ?_))
      refine K.cut (fun _ : Unit => [(4, .string (if k = 0 then ⟨#[]⟩ else writeS (xs.take k) ++ plus)), (5, .int .i64 (k : Nat)), (6, .pointer (some ⟨b6, 0, none⟩)), (3, .pointer (some ⟨b3, 0, none⟩)), (7, .slice (some ad) xs.length cap), (8, .int .i64 (xs.length : Nat)), (9, .int .i64 (k : Nat))]) (fun _ => [blk b6 (.cells (msC m).toArray 50 (0, 0)), blk b3 (.cells [Value.int .i64 0, .int .i64 0].toArray 63 (0, 0))]) (fun _ => True) ?_ ?_
      · refine K.condD rfl (fun h7 => ?_) (fun h7 => ?_)
        · (skip)
          refine K.reg ?_
          refine KO.mv rfl rfl ?_
          refine KO.cat rfl rfl (by rw [show (⟨#[43]⟩ : ByteArray).size = 1 from rfl]; omega) rfl ?_
          refine KO.as rfl rfl ?_
          refine KO.nil ?_
          exact KQ.mid () trivial ⟨by rw [if_neg (by omega)]; rfl, rfl, rfl, rfl, rfl, rfl, rfl, trivial⟩ (fun _ h => h.all (by with_reducible repeat (exact PAll.refl)))
        · repeat ((with_reducible refine K.skip ?_))
          have hk0 : k = 0 := by omega
          exact KQ.mid () trivial ⟨by rw [if_pos hk0, hk0]; rfl, rfl, rfl, rfl, rfl, rfl, rfl, trivial⟩ (fun _ h => h.all (by with_reducible repeat (exact PAll.refl)))
      rintro _ _
      generalize hS : (if k = 0 then (⟨#[]⟩ : ByteArray) else writeS (xs.take k) ++ plus) = S
      have hSz : S.size ≤ k * 101 + 1 := by
        rw [← hS]; split
        · exact Nat.zero_le _
        · rw [ByteArray.size_append, show plus.size = 1 from rfl]; omega
      have i1 : intB m.id := ⟨by omega, by omega⟩
      have i2 : intB m.pri := ⟨by omega, by omega⟩
      have i3 : intB m.house := ⟨by omega, by omega⟩
      have hW2 : joinS ([m.id, m.pri].map itoaS) sp = itoaS m.id ++ sp ++ itoaS m.pri := joinS_two _ _ _
      have hW1 : joinS ([m.house].map itoaS) sp = itoaS m.house := joinS_one _ _
      have z1 := itoaS_size i1
      have z2 := itoaS_size i2
      have z3 := itoaS_size i3
      have z4 : m.body.size ≤ 12 := by have := hrp.2.2.2.2.1; unfold bodyB lettersB at this; simp at this; omega
      have z5 : m.queue.size ≤ 8 := by have := hrp.2.2.2.2.2.1; unfold wordB lettersB at this; simp at this; omega
      have z6 : (⟨#[32]⟩ : ByteArray).size = 1 := rfl
      have z7 : sp.size = 1 := rfl
      have hfin : writeS (xs.take (k + 1)) = S ++ msgS m := by
        rw [take_succ_some hm, writeS_snoc, ← hS]
        by_cases h0 : k = 0
        · subst h0; rw [List.take_zero, if_pos rfl, if_pos rfl, cat_nil]
        · rw [if_neg h0, if_neg (fun e => h0 (by have := congrArg List.length e; rw [List.length_take, Nat.min_eq_left hk] at this; simpa using this))]
      refine K.drawX [.pure, .pure, .read, .pure, .read, .keep, .keep, .pure, .pure, .read, .pure, .pure, .pure, .read, .pure, .pure, .pure, .read, .keep, .keep, .pure, .pure, .pure] [(5, 18), (6, 18)] [[0, 1, 2, 3, 4, 8, 9, 12, 13, 16, 17, 5, 6, 7, 10, 11, 14, 15, 18, 19, 20, 21, 22], [0, 1, 2, 3, 4, 8, 9, 12, 13, 16, 17, 5, 18, 6, 7, 10, 11, 14, 15, 19, 20, 21, 22], [0, 1, 2, 3, 4, 8, 9, 12, 13, 16, 17, 18, 5, 6, 7, 10, 11, 14, 15, 19, 20, 21, 22]] (by kernel_rfl) (by kernel_rfl) (by kernel_rfl) ⟨?_, ?_, ?_, trivial⟩
      focus
        show KO _ _ _ _ _ _ _ _ _ _
        refine KO.mv rfl rfl ?_
        refine KO.fo0 (off := 0) rfl Tryd.runUnderlying50 rfl rfl Tryd.sizeOf3 rfl ?_
        refine KO.ld rfl rfl Tryd.isAgg3 (by with_reducible (repeat (exact Pick.head))) (by exact rfl) rfl ?_
        refine KO.fo0 (off := 1) rfl Tryd.runUnderlying50 rfl rfl Tryd.sizeOf3 rfl ?_
        refine KO.ld rfl rfl Tryd.isAgg3 (by with_reducible (repeat (exact Pick.head))) (by exact rfl) rfl ?_
        refine KO.fo0 (off := 2) rfl Tryd.runUnderlying50 rfl rfl Tryd.sizeOf9 rfl ?_
        refine KO.ld rfl rfl Tryd.isAgg9 (by with_reducible (repeat (exact Pick.head))) (by exact rfl) rfl ?_
        refine KO.fo0 (off := 3) rfl Tryd.runUnderlying50 rfl rfl Tryd.sizeOf9 rfl ?_
        refine KO.ld rfl rfl Tryd.isAgg9 (by with_reducible (repeat (exact Pick.head))) (by exact rfl) rfl ?_
        refine KO.fo0 (off := 4) rfl Tryd.runUnderlying50 rfl rfl Tryd.sizeOf3 rfl ?_
        refine KO.ld rfl rfl Tryd.isAgg3 (by with_reducible (repeat (exact Pick.head))) (by exact rfl) rfl ?_
        refine KO.bsF (z := (Value.int .i64 0)) (by' := 8) rfl [.tmp 25, .tmp 27] rfl rfl Tryd.underlying144 (by kernel_rfl) (by exact rfl) (by exact rfl) (by decide) (by decide) (by exact rfl) rfl ?_; intro b28
        refine KO.ce (cp := []) rfl rfl rfl Tryd.call55 rfl (words_e w _ _ [m.id, m.pri] (fun w' hw' => rdA_blk (vs := [.int .i64 m.id, .int .i64 m.pri]) (xs := [m.id, m.pri]) (by with_reducible (repeat (exact Pick.head))) rfl hw') hTw (by intro n hn; simp at hn; rcases hn with rfl | rfl <;> assumption) (by simp)) ?_; rintro v' L' ⟨rfl, rfl⟩; rw [hW2]
        refine KO.cat rfl rfl (by simp only [ByteArray.size_append, z6, z7]; omega) rfl ?_
        refine KO.cat rfl rfl (by simp only [ByteArray.size_append, z6, z7]; omega) rfl ?_
        refine KO.cat rfl rfl (by simp only [ByteArray.size_append, z6, z7]; omega) rfl ?_
        refine KO.cat rfl rfl (by simp only [ByteArray.size_append, z6, z7]; omega) rfl ?_
        refine KO.cat rfl rfl (by simp only [ByteArray.size_append, z6, z7]; omega) rfl ?_
        refine KO.bs1 (z := (Value.int .i64 0)) (sz := 1) (by' := 8) rfl rfl Tryd.underlying144 (by kernel_rfl) (by exact rfl) (by exact rfl) (by decide) (by decide) rfl ?_; intro b41
        refine KO.ce (cp := []) rfl rfl rfl Tryd.call55 rfl (words_e w _ _ [m.house] (fun w' hw' => rdA_blk (vs := [.int .i64 m.house]) (xs := [m.house]) (by with_reducible (repeat (exact Pick.head))) rfl hw') hTw (by intro n hn; simp at hn; subst hn; assumption) (by simp)) ?_; rintro v' L' ⟨rfl, rfl⟩; rw [hW1]
        refine KO.cat rfl rfl (by simp only [ByteArray.size_append, z6, z7]; omega) rfl ?_
        refine KO.cat rfl rfl (by simp only [ByteArray.size_append, z6, z7]; omega) rfl ?_
        refine KO.as rfl rfl ?_
        refine KO.nil ?_
        repeat (first | (with_reducible refine KQ.next ?_) | (with_reducible refine KQ.blk_normal ?_))
      rotate_left
      focus
        show KO _ _ _ _ _ _ _ _ _ _
        refine KO.mv rfl rfl ?_
        refine KO.fo0 (off := 0) rfl Tryd.runUnderlying50 rfl rfl Tryd.sizeOf3 rfl ?_
        refine KO.ld rfl rfl Tryd.isAgg3 (by with_reducible (repeat (exact Pick.head))) (by exact rfl) rfl ?_
        refine KO.fo0 (off := 1) rfl Tryd.runUnderlying50 rfl rfl Tryd.sizeOf3 rfl ?_
        refine KO.ld rfl rfl Tryd.isAgg3 (by with_reducible (repeat (exact Pick.head))) (by exact rfl) rfl ?_
        refine KO.fo0 (off := 2) rfl Tryd.runUnderlying50 rfl rfl Tryd.sizeOf9 rfl ?_
        refine KO.ld rfl rfl Tryd.isAgg9 (by with_reducible (repeat (exact Pick.head))) (by exact rfl) rfl ?_
        refine KO.fo0 (off := 3) rfl Tryd.runUnderlying50 rfl rfl Tryd.sizeOf9 rfl ?_
        refine KO.ld rfl rfl Tryd.isAgg9 (by with_reducible (repeat (exact Pick.head))) (by exact rfl) rfl ?_
        refine KO.fo0 (off := 4) rfl Tryd.runUnderlying50 rfl rfl Tryd.sizeOf3 rfl ?_
        refine KO.ld rfl rfl Tryd.isAgg3 (by with_reducible (repeat (exact Pick.head))) (by exact rfl) rfl ?_
        refine KO.bsF (z := (Value.int .i64 0)) (by' := 8) rfl [.tmp 25, .tmp 27] rfl rfl Tryd.underlying144 (by kernel_rfl) (by exact rfl) (by exact rfl) (by decide) (by decide) (by exact rfl) rfl ?_; intro b28
        refine KO.bs1 (z := (Value.int .i64 0)) (sz := 1) (by' := 8) rfl rfl Tryd.underlying144 (by kernel_rfl) (by exact rfl) (by exact rfl) (by decide) (by decide) rfl ?_; intro b41
        refine KO.ce (cp := []) rfl rfl rfl Tryd.call55 rfl (words_e w _ _ [m.id, m.pri] (fun w' hw' => rdA_blk (vs := [.int .i64 m.id, .int .i64 m.pri]) (xs := [m.id, m.pri]) (by with_reducible (repeat (first | exact Pick.head | apply Pick.tail))) rfl hw') hTw (by intro n hn; simp at hn; rcases hn with rfl | rfl <;> assumption) (by simp)) ?_; rintro v' L' ⟨rfl, rfl⟩; rw [hW2]
        refine KO.cat rfl rfl (by simp only [ByteArray.size_append, z6, z7]; omega) rfl ?_
        refine KO.cat rfl rfl (by simp only [ByteArray.size_append, z6, z7]; omega) rfl ?_
        refine KO.cat rfl rfl (by simp only [ByteArray.size_append, z6, z7]; omega) rfl ?_
        refine KO.cat rfl rfl (by simp only [ByteArray.size_append, z6, z7]; omega) rfl ?_
        refine KO.cat rfl rfl (by simp only [ByteArray.size_append, z6, z7]; omega) rfl ?_
        refine KO.ce (cp := []) rfl rfl rfl Tryd.call55 rfl (words_e w _ _ [m.house] (fun w' hw' => rdA_blk (vs := [.int .i64 m.house]) (xs := [m.house]) (by with_reducible (repeat (exact Pick.head))) rfl hw') hTw (by intro n hn; simp at hn; subst hn; assumption) (by simp)) ?_; rintro v' L' ⟨rfl, rfl⟩; rw [hW1]
        refine KO.cat rfl rfl (by simp only [ByteArray.size_append, z6, z7]; omega) rfl ?_
        refine KO.cat rfl rfl (by simp only [ByteArray.size_append, z6, z7]; omega) rfl ?_
        refine KO.as rfl rfl ?_
        refine KO.nil ?_
        repeat (first | (with_reducible refine KQ.next ?_) | (with_reducible refine KQ.blk_normal ?_))
      rotate_left
      focus
        show KO _ _ _ _ _ _ _ _ _ _
        refine KO.mv rfl rfl ?_
        refine KO.fo0 (off := 0) rfl Tryd.runUnderlying50 rfl rfl Tryd.sizeOf3 rfl ?_
        refine KO.ld rfl rfl Tryd.isAgg3 (by with_reducible (repeat (exact Pick.head))) (by exact rfl) rfl ?_
        refine KO.fo0 (off := 1) rfl Tryd.runUnderlying50 rfl rfl Tryd.sizeOf3 rfl ?_
        refine KO.ld rfl rfl Tryd.isAgg3 (by with_reducible (repeat (exact Pick.head))) (by exact rfl) rfl ?_
        refine KO.fo0 (off := 2) rfl Tryd.runUnderlying50 rfl rfl Tryd.sizeOf9 rfl ?_
        refine KO.ld rfl rfl Tryd.isAgg9 (by with_reducible (repeat (exact Pick.head))) (by exact rfl) rfl ?_
        refine KO.fo0 (off := 3) rfl Tryd.runUnderlying50 rfl rfl Tryd.sizeOf9 rfl ?_
        refine KO.ld rfl rfl Tryd.isAgg9 (by with_reducible (repeat (exact Pick.head))) (by exact rfl) rfl ?_
        refine KO.fo0 (off := 4) rfl Tryd.runUnderlying50 rfl rfl Tryd.sizeOf3 rfl ?_
        refine KO.ld rfl rfl Tryd.isAgg3 (by with_reducible (repeat (exact Pick.head))) (by exact rfl) rfl ?_
        refine KO.bs1 (z := (Value.int .i64 0)) (sz := 1) (by' := 8) rfl rfl Tryd.underlying144 (by kernel_rfl) (by exact rfl) (by exact rfl) (by decide) (by decide) rfl ?_; intro b41
        refine KO.bsF (z := (Value.int .i64 0)) (by' := 8) rfl [.tmp 25, .tmp 27] rfl rfl Tryd.underlying144 (by kernel_rfl) (by exact rfl) (by exact rfl) (by decide) (by decide) (by exact rfl) rfl ?_; intro b28
        refine KO.ce (cp := []) rfl rfl rfl Tryd.call55 rfl (words_e w _ _ [m.id, m.pri] (fun w' hw' => rdA_blk (vs := [.int .i64 m.id, .int .i64 m.pri]) (xs := [m.id, m.pri]) (by with_reducible (repeat (exact Pick.head))) rfl hw') hTw (by intro n hn; simp at hn; rcases hn with rfl | rfl <;> assumption) (by simp)) ?_; rintro v' L' ⟨rfl, rfl⟩; rw [hW2]
        refine KO.cat rfl rfl (by simp only [ByteArray.size_append, z6, z7]; omega) rfl ?_
        refine KO.cat rfl rfl (by simp only [ByteArray.size_append, z6, z7]; omega) rfl ?_
        refine KO.cat rfl rfl (by simp only [ByteArray.size_append, z6, z7]; omega) rfl ?_
        refine KO.cat rfl rfl (by simp only [ByteArray.size_append, z6, z7]; omega) rfl ?_
        refine KO.cat rfl rfl (by simp only [ByteArray.size_append, z6, z7]; omega) rfl ?_
        refine KO.ce (cp := []) rfl rfl rfl Tryd.call55 rfl (words_e w _ _ [m.house] (fun w' hw' => rdA_blk (vs := [.int .i64 m.house]) (xs := [m.house]) (by with_reducible (repeat (first | exact Pick.head | apply Pick.tail))) rfl hw') hTw (by intro n hn; simp at hn; subst hn; assumption) (by simp)) ?_; rintro v' L' ⟨rfl, rfl⟩; rw [hW1]
        refine KO.cat rfl rfl (by simp only [ByteArray.size_append, z6, z7]; omega) rfl ?_
        refine KO.cat rfl rfl (by simp only [ByteArray.size_append, z6, z7]; omega) rfl ?_
        refine KO.as rfl rfl ?_
        refine KO.nil ?_
        repeat (first | (with_reducible refine KQ.next ?_) | (with_reducible refine KQ.blk_normal ?_))
      rotate_left
      all_goals (
        refine K.reg ?_
        refine KO.add rfl rfl rfl (by omega) rfl ?_
        refine KO.mv rfl rfl ?_
        refine KO.nil ?_
        refine KQ.round (k + 1) ⟨by omega, fun j m' hj hm' => ?_⟩ (by omega) ⟨rfl, by rw [hfin]; rfl, rfl, rfl, rfl, trivial⟩ (fun _ h => h.all (by with_reducible repeat (first | exact PAll.nil | refine PAll.cons (by with_reducible repeat (first | exact Pick.head | apply Pick.tail)) ?_)))
        by_cases hjk : j = k
        · subst hjk; rw [hm] at hm'; cases hm'; exact h6
        · exact hall j m' (by omega) hm')
  · have hkl : k = xs.length := by omega
    have hbad : badI xs = none := badI_none fun j m hm => hall j m (by have := (List.getElem?_eq_some_iff.1 hm).1; omega) hm
    repeat (first | (with_reducible refine K.seq ?_) | (with_reducible refine KQ.next ?_) | (with_reducible refine KQ.then_exit ?_) | (with_reducible refine KQ.blk_exit ?_) | (with_reducible refine K.exit ?_))
    refine K.reg ?_
    refine KO.mv rfl rfl ?_
    refine KO.ce (cp := []) rfl rfl rfl Tryd.call56 rfl (bare_e w _ 0) ?_; rintro v' L' ⟨rfl, rfl⟩
    refine KO.as rfl rfl ?_
    refine KO.sto0 rfl rfl rfl (by exact rfl) (by exact Tryd.sizeOf63) (by exact rfl) (by with_reducible (repeat (exact Pick.head))) (by exact rfl) ?_
    refine KO.nil ?_
    repeat (first | (with_reducible refine KQ.next ?_) | (with_reducible refine K.ret ?_))
    refine KQ.retTC rfl rfl Tryd.isAgg63 (by with_reducible (repeat (exact Pick.head))) (by exact Tryd.sizeOf63) rfl (fun w' hs => ⟨_, _, rfl, ⟨?_, rfl⟩, hw.below_step hs.below, hs.below⟩)
    simp only [writeT, writeE, writeP, hbad]
    rw [hkl, List.take_length]
theorem mwrite1_e (w0 : World) (L : List HP) (m : Ms) (hb : m.body.size ≤ maxLen) (hq : m.queue.size ≤ maxLen) : KE Tryd.prog 58 #[.agg (msC m).toArray] w0 L (fun u M => u = .bool (!msRight m) ∧ M = L) := by
  refine KE.mk (n := 6) Tryd.func58 rfl Tryd.ntmps58 (by simp) ?_
  intro w hw
  repeat ((with_reducible refine K.seq ?_))
  refine K.reg ?_
  refine KO.box rfl rfl (by exact rfl) rfl ?_; intro b1
  refine KO.as rfl rfl ?_
  refine KO.nil ?_
  repeat (first | (with_reducible refine K.seq ?_) | (with_reducible refine KQ.next ?_))
  refine K.reg ?_
  refine KO.ldB0 rfl rfl Tryd.isAgg50 Tryd.sizeOf50 (by with_reducible (repeat (exact Pick.head))) (by exact rfl) rfl ?_
  refine KO.ce (cp := []) rfl rfl rfl Tryd.call28 rfl (right_e w _ m hb hq) ?_; rintro v' L' ⟨rfl, rfl⟩
  refine KO.not rfl rfl ?_
  refine KO.as rfl rfl ?_
  refine KO.nil ?_
  repeat (first | (with_reducible refine KQ.next ?_) | (with_reducible refine K.ret ?_))
  refine KQ.ret1 rfl rfl (fun w' hs => ⟨_, _, rfl, ⟨rfl, rfl⟩, hw.below_step hs.below, hs.below⟩)
theorem idxm_e (w0 : World) (L : List HP) (v : Value) (xs : List Ms) (f : FuncId) (cp : List Value) (pf : Ms → Bool) (hr : ∀ w, St w0 L w → RdA w 5 msC v xs) (hlen : xs.length < 1000000) (hcall : ∀ args w, (callFunc f args).run Tryd.prog w = .ok (.enter f args) w)
    (hcl : ∀ e, e ∈ xs → KE Tryd.prog f ([] ++ ([Value.agg (msC e).toArray] ++ cp)).toArray w0 L (fun v L' => v = .bool (pf e) ∧ L' = L)) :
    KE Tryd.prog 57 #[v, .func (.func f) [].toArray cp.toArray] w0 L (fun v L' => v = .int .i64 (fidx pf xs) ∧ L' = L) := by
  refine KE.mk (n := 19) Tryd.func57 rfl Tryd.ntmps57 (by simp) ?_
  intro w hw
  obtain ⟨a, cap, rfl, hc⟩ := hr w hw
  repeat ((with_reducible refine K.seq ?_))
  refine K.reg ?_
  refine KO.as rfl rfl ?_
  refine KO.nil ?_
  repeat (first | (with_reducible refine K.seq ?_) | (with_reducible refine KQ.next ?_))
  refine K.reg ?_
  refine KO.mv rfl rfl ?_
  refine KO.len rfl Tryd.underlying57 rfl ?_
  refine KO.mv rfl rfl ?_
  refine KO.nil ?_
  repeat (first | (with_reducible refine KQ.next ?_) | (with_reducible refine K.block ?_))
  refine K.loop (fun k : Nat => [(0, .slice a xs.length cap), (1, .func (.func f) [].toArray cp.toArray), (7, .int .i64 (xs.length : Nat)), (8, .int .i64 (k : Nat))]) (fun _ => []) (fun k => k ≤ xs.length ∧ ∀ (j : Nat) (u : Ms), j < k → xs[j]? = some u → pf u = false) (fun k => xs.length - k) 0 ⟨by omega, fun j u h => by omega⟩ ⟨rfl, rfl, rfl, rfl, trivial⟩ (fun _ h => h) ?_
  rintro k ⟨hk, hno⟩
  repeat ((with_reducible refine K.seq ?_))
  refine K.reg ?_
  refine KO.lss rfl rfl rfl ?_
  refine KO.nil ?_
  repeat (first | (with_reducible refine K.seq ?_) | (with_reducible refine KQ.next ?_))
  refine K.condD rfl (fun h => ?_) (fun h => ?_)
  · have hlt : k < xs.length := by omega
    obtain ⟨e, he⟩ : ∃ e, xs[k]? = some e := ⟨xs[k], List.getElem?_eq_getElem hlt⟩
    obtain ⟨ad, rfl, hh⟩ := hc k e he
    repeat (first | (with_reducible refine K.seq ?_) | (with_reducible refine KQ.next ?_) | (with_reducible refine K.skip ?_) | (with_reducible refine K.block ?_))
    refine K.reg ?_
    refine KO.mv rfl rfl ?_
    refine KO.as rfl rfl ?_
    refine KO.nil ?_
    repeat (first | (with_reducible refine K.seq ?_) | (with_reducible refine KQ.next ?_))
    refine K.reg ?_
    refine KO.mv rfl rfl ?_
    refine KO.mv rfl rfl ?_
    refine KO.mv rfl rfl ?_
    refine KO.idxH rfl rfl Tryd.runUnderlying57 Tryd.sizeOf50 (by exact rfl) (by omega) rfl ?_
    refine KO.ldN0 (cs := (msC e).toArray) rfl rfl Tryd.isAgg50 Tryd.sizeOf50 rfl hh rfl ?_
    refine KO.ce rfl rfl rfl hcall rfl ((hcl e (List.mem_of_getElem? he)).rebase hw) ?_; rintro v L' ⟨rfl, rfl⟩
    refine KO.nil ?_
    repeat ((with_reducible refine KQ.next ?_))
    refine K.cond rfl (fun h1 => ?_) (fun h1 => ?_)
    · repeat ((with_reducible refine K.seq ?_))
      refine K.reg ?_
      refine KO.mv rfl rfl ?_
      refine KO.as rfl rfl ?_
      refine KO.nil ?_
      repeat (first | (with_reducible refine KQ.next ?_) | (with_reducible refine KQ.then_ret ?_) | (with_reducible refine KQ.blk_ret ?_) | (with_reducible refine K.ret ?_))
      refine KQ.ret1 rfl rfl (fun w' hs => ⟨_, _, rfl, ⟨?_, rfl⟩, hw.below_step hs.below, hs.below⟩)
      rw [fidx_hit he h1 hno]
    · repeat (first | (with_reducible refine KQ.next ?_) | (with_reducible refine KQ.blk_normal ?_) | (with_reducible refine K.skip ?_))
      refine K.reg ?_
      refine KO.add rfl rfl rfl (by omega) rfl ?_
      refine KO.mv rfl rfl ?_
      refine KO.nil ?_
      refine KQ.round (k + 1) ⟨by omega, fun j u hj hu => ?_⟩ (by omega) ⟨rfl, rfl, rfl, rfl, trivial⟩ (fun _ h => h)
      by_cases hjk : j = k
      · subst hjk; rw [he] at hu; simp only [Option.some.injEq] at hu; rw [← hu]; exact h1
      · exact hno j u (by omega) hu
  · repeat (first | (with_reducible refine K.seq ?_) | (with_reducible refine KQ.next ?_) | (with_reducible refine KQ.then_exit ?_) | (with_reducible refine KQ.blk_exit ?_) | (with_reducible refine K.exit ?_))
    refine K.reg ?_
    refine KO.as rfl rfl ?_
    refine KO.nil ?_
    repeat (first | (with_reducible refine KQ.next ?_) | (with_reducible refine K.ret ?_))
    refine KQ.ret1 rfl rfl (fun w' hs => ⟨_, _, rfl, ⟨?_, rfl⟩, hw.below_step hs.below, hs.below⟩)
    rw [fidx_miss fun j u hu => hno j u (by have := (List.getElem?_eq_some_iff.1 hu).1; omega) hu]
/-- what msg.Write answers -/
def MwR (L : List HP) (xs : List Ms) (u : Value) (M : List HP) : Prop :=
  match badI xs with
  | none => u = .tuple #[.string (writeS xs), .nilIface] ∧ M = L
  | some k => ∃ b, u = .tuple #[.string ⟨#[]⟩, atV b] ∧ M = atB b 1 k :: L
set_option maxRecDepth 100000 in
theorem mwrite_e (w0 : World) (L : List HP) (v : Value) (xs : List Ms) (hr : ∀ w, St w0 L w → RdA w 5 msC v xs) (hT : Tab w0) (hsz : ∀ m ∈ xs, m.body.size ≤ maxLen ∧ m.queue.size ≤ maxLen) (hl : xs.length ≤ 100000) :
    KE Tryd.prog 26 #[v] w0 L (MwR L xs) := by
  refine KE.mk (n := 49) Tryd.func26 rfl Tryd.ntmps26 (by simp) ?_
  intro w hw
  have hTw := hT.ext (Ext.of_below hw.below)
  have hrw := hr w hw
  obtain ⟨sa, cap, rfl, hc⟩ := hrw
  repeat ((with_reducible refine K.seq ?_))
  refine K.reg ?_
  refine KO.as rfl rfl ?_
  refine KO.as rfl rfl ?_
  refine KO.nil ?_
  repeat (first | (with_reducible refine K.seq ?_) | (with_reducible refine KQ.next ?_))
  refine K.reg ?_
  refine KO.mv rfl rfl ?_
  refine KO.ce (cp := []) rfl rfl rfl Tryd.call57 rfl (idxm_e w _ _ xs 58 [] (fun m => !msRight m) (fun w' hw' => rdA_extM ⟨sa, cap, rfl, hc⟩ (Ext.of_below hw'.below)) (by omega) Tryd.call58 (fun e he => mwrite1_e w _ e (hsz e he).1 (hsz e he).2)) ?_; rintro v' L' ⟨rfl, rfl⟩
  refine KO.as rfl rfl ?_
  refine KO.nil ?_
  repeat (first | (with_reducible refine K.seq ?_) | (with_reducible refine KQ.next ?_))
  refine K.reg ?_
  refine KO.mv rfl rfl ?_
  refine KO.geq rfl rfl rfl ?_
  refine KO.nil ?_
  repeat ((with_reducible refine KQ.next ?_))
  refine K.condD rfl (fun h => ?_) (fun h => ?_)
  · obtain ⟨k, m, hk, hm, hb, hlt, hfi⟩ := fidx_nonneg h
    have hbad : badI xs = some k := hfi
    rw [hk]
    repeat ((with_reducible refine K.seq ?_))
    refine K.reg ?_
    refine KO.mv rfl rfl ?_
    refine KO.bldS (pl := [(0, 1), (1, 1)]) [.int .i64 1, .int .i64 (k : Nat)] rfl Tryd.zeroValue108 Tryd.runUnderlying108 (by intro w; simp [Tryd.sizeOf3, Tryd.sizeOf37]) rfl rfl ?_
    refine KO.box rfl rfl (by exact rfl) rfl ?_; intro b14
    refine KO.mki rfl (by kernel_rfl) rfl ?_
    refine KO.as rfl rfl ?_
    refine KO.as rfl rfl ?_
    refine KO.nil ?_
    repeat (first | (with_reducible refine KQ.next ?_) | (with_reducible refine KQ.then_ret ?_) | (with_reducible refine K.ret ?_))
    refine KQ.ret2 rfl rfl rfl (fun w' hs => ⟨_, _, rfl, ?_, hw.stack hs, hs.below⟩)
    unfold MwR; rw [hbad]
    exact ⟨_, rfl, rfl⟩
  · have hbad : badI xs = none := fidx_neg (by omega)
    have hall := badI_all hbad
    repeat (first | (with_reducible refine K.seq ?_) | (with_reducible refine KQ.next ?_) | (with_reducible refine K.skip ?_))
    refine K.reg ?_
    refine KO.as rfl rfl ?_
    refine KO.nil ?_
    repeat (first | (with_reducible refine K.seq ?_) | (with_reducible refine KQ.next ?_))
    refine K.reg ?_
    refine KO.mv rfl rfl ?_
    refine KO.len rfl Tryd.underlying57 rfl ?_
    refine KO.mv rfl rfl ?_
    refine KO.nil ?_
    repeat (first | (with_reducible refine KQ.next ?_) | (with_reducible refine K.block ?_))
    refine K.loop (fun s : Nat × Value => [(5, s.2), (16, .slice sa xs.length cap), (17, .int .i64 (xs.length : Nat)), (18, .int .i64 (s.1 : Nat))]) (fun s => [strS s.2 ((xs.take s.1).map msgS)]) (fun s => s.1 ≤ xs.length) (fun s => xs.length - s.1) (0, .slice none 0 0)
      (Nat.zero_le _) ⟨rfl, rfl, rfl, rfl, trivial⟩ (fun _ h => SL_nil h) ?_
    rintro ⟨k, vo⟩ hk
    dsimp only at hk ⊢
    repeat ((with_reducible refine K.seq ?_))
    refine K.reg ?_
    refine KO.lss rfl rfl rfl ?_
    refine KO.nil ?_
    repeat (first | (with_reducible refine K.seq ?_) | (with_reducible refine KQ.next ?_))
    refine K.condD rfl (fun h1 => ?_) (fun h1 => ?_)
    · obtain ⟨m, hm⟩ : ∃ e, xs[k]? = some e := ⟨xs[k], List.getElem?_eq_getElem (by omega)⟩
      obtain ⟨ad, rfl, hh⟩ := hc k m hm
      have h6 := hall m (List.mem_of_getElem? hm)
      have hrp := msRight_parts h6
      have i1 : intB m.id := ⟨by omega, by omega⟩
      have i2 : intB m.pri := ⟨by omega, by omega⟩
      have i3 : intB m.house := ⟨by omega, by omega⟩
      have z1 := itoaS_size i1
      have z2 := itoaS_size i2
      have z3 := itoaS_size i3
      have z4 : m.body.size ≤ 12 := by have := hrp.2.2.2.2.1; unfold bodyB lettersB at this; simp at this; omega
      have z5 : m.queue.size ≤ 8 := by have := hrp.2.2.2.2.2.1; unfold wordB lettersB at this; simp at this; omega
      have z6 : (⟨#[32]⟩ : ByteArray).size = 1 := rfl
      have z7 : sp.size = 1 := rfl
      have hlen : ((xs.take k).map msgS).length < 1000000 := by simp; omega
      repeat (first | (with_reducible refine K.seq ?_) | (with_reducible refine KQ.next ?_) | (with_reducible refine K.skip ?_) | (with_reducible refine K.block ?_))
      refine K.reg ?_
      refine KO.idxH rfl rfl Tryd.runUnderlying57 Tryd.sizeOf50 (by exact rfl) (by omega) rfl ?_
      refine KO.ldN0 (cs := (msC m).toArray) rfl rfl Tryd.isAgg50 Tryd.sizeOf50 rfl hh rfl ?_
      refine KO.alloc rfl Tryd.zeroValue50 (by exact rfl) rfl ?_; intro b7
      refine KO.sto0 rfl rfl rfl (by exact rfl) (by exact Tryd.sizeOf50) (by exact rfl) (by with_reducible (repeat (exact Pick.head))) (by exact rfl) ?_
      refine KO.nil ?_
      repeat ((with_reducible refine KQ.next ?_))
      refine K.draw [.pure, .pure, .read, .keep, .pure, .pure, .read, .keep, .pure, .pure, .pure, .read, .pure, .pure, .pure, .read, .pure, .pure, .pure, .read, .keep, .pure, .keep, .write, .pure] [0, 1, 2, 5, 6, 10, 11, 14, 15, 18, 19, 3, 4, 7, 8, 9, 12, 13, 16, 17, 20, 21, 22, 23, 24] (by kernel_rfl) (by kernel_rfl) ?_
      refine KO.mv rfl rfl ?_
      refine KO.fo0 (off := 0) rfl Tryd.runUnderlying50 rfl rfl Tryd.sizeOf3 rfl ?_
      refine KO.ld rfl rfl Tryd.isAgg3 (by with_reducible (repeat (exact Pick.head))) (by exact rfl) rfl ?_
      refine KO.fo0 (off := 1) rfl Tryd.runUnderlying50 rfl rfl Tryd.sizeOf3 rfl ?_
      refine KO.ld rfl rfl Tryd.isAgg3 (by with_reducible (repeat (exact Pick.head))) (by exact rfl) rfl ?_
      refine KO.fo0 (off := 2) rfl Tryd.runUnderlying50 rfl rfl Tryd.sizeOf9 rfl ?_
      refine KO.ld rfl rfl Tryd.isAgg9 (by with_reducible (repeat (exact Pick.head))) (by exact rfl) rfl ?_
      refine KO.fo0 (off := 3) rfl Tryd.runUnderlying50 rfl rfl Tryd.sizeOf9 rfl ?_
      refine KO.ld rfl rfl Tryd.isAgg9 (by with_reducible (repeat (exact Pick.head))) (by exact rfl) rfl ?_
      refine KO.fo0 (off := 4) rfl Tryd.runUnderlying50 rfl rfl Tryd.sizeOf3 rfl ?_
      refine KO.ld rfl rfl Tryd.isAgg3 (by with_reducible (repeat (exact Pick.head))) (by exact rfl) rfl ?_
      refine KO.ce (cp := []) rfl rfl rfl Tryd.call59 rfl (itoa_e w _ m.id hTw i1) ?_; rintro v' L' ⟨rfl, rfl⟩
      refine KO.cat rfl rfl (by simp only [ByteArray.size_append, z6, z7]; omega) rfl ?_
      refine KO.ce (cp := []) rfl rfl rfl Tryd.call59 rfl (itoa_e w _ m.pri hTw i2) ?_; rintro v' L' ⟨rfl, rfl⟩
      refine KO.cat rfl rfl (by simp only [ByteArray.size_append, z6, z7]; omega) rfl ?_
      refine KO.cat rfl rfl (by simp only [ByteArray.size_append, z6, z7]; omega) rfl ?_
      refine KO.cat rfl rfl (by simp only [ByteArray.size_append, z6, z7]; omega) rfl ?_
      refine KO.cat rfl rfl (by simp only [ByteArray.size_append, z6, z7]; omega) rfl ?_
      refine KO.cat rfl rfl (by simp only [ByteArray.size_append, z6, z7]; omega) rfl ?_
      refine KO.cat rfl rfl (by simp only [ByteArray.size_append, z6, z7]; omega) rfl ?_
      refine KO.ce (cp := []) rfl rfl rfl Tryd.call59 rfl (itoa_e w _ m.house hTw i3) ?_; rintro v' L' ⟨rfl, rfl⟩
      refine KO.cat rfl rfl (by simp only [ByteArray.size_append, z6, z7]; omega) rfl ?_
      refine KO.bs1 (z := (Value.string ⟨#[]⟩)) (sz := 1) (by' := 16) rfl rfl Tryd.underlying24 (by kernel_rfl) (by exact rfl) (by exact rfl) (by decide) (by decide) rfl ?_; intro b44
      refine KO.app (z := Value.string ⟨#[]⟩) (sz := 1) (by' := 16) rfl rfl rfl (by with_reducible (repeat (first | exact Pick.head | apply Pick.tail))) (by with_reducible (repeat (exact Pick.head))) Tryd.underlying24 str_info rfl (msgS m) (by exact rfl) (by exact rfl) (by exact rfl) (by omega) (by decide) rfl ?_; intro v'
      refine KO.as rfl rfl ?_
      refine KO.nil ?_
      repeat (first | (with_reducible refine KQ.next ?_) | (with_reducible refine KQ.blk_normal ?_))
      refine K.reg ?_
      refine KO.add rfl rfl rfl (by omega) rfl ?_
      refine KO.mv rfl rfl ?_
      refine KO.nil ?_
      refine KQ.round (k + 1, v') (by dsimp only; omega) (by dsimp only; omega) ⟨rfl, rfl, rfl, rfl, trivial⟩ (fun _ h => ?_)
      dsimp only
      rw [take_succ_some hm, List.map_append, List.map_cons, List.map_nil]
      exact (h.pick (by with_reducible (repeat (exact Pick.head)))).gc1 (LSub.nil _)
    · have hkl : k = xs.length := by omega
      rw [hkl, List.take_length]
      have hws := writeS_size hall
      repeat (first | (with_reducible refine K.seq ?_) | (with_reducible refine KQ.next ?_) | (with_reducible refine KQ.then_exit ?_) | (with_reducible refine KQ.blk_exit ?_) | (with_reducible refine K.exit ?_))
      refine K.reg ?_
      refine KO.mv rfl rfl ?_
      refine KO.ce (cp := []) rfl rfl rfl Tryd.call60 rfl (join_e w _ _ vo (xs.map msgS) plus (by with_reducible (repeat (exact Pick.head))) (by simp; omega) (by unfold writeS at hws; omega)) ?_; rintro v' L' ⟨rfl, rfl⟩
      refine KO.as rfl rfl ?_
      refine KO.as rfl rfl ?_
      refine KO.nil ?_
      repeat (first | (with_reducible refine KQ.next ?_) | (with_reducible refine K.ret ?_))
      refine KQ.ret2 rfl rfl rfl (fun w' hs => ⟨_, _, rfl, ?_, hw.below_step hs.below, hs.below⟩)
      unfold MwR; rw [hbad]
      exact ⟨rfl, rfl⟩
end Go.Proofs.YtjhogocabcdjbaaDoor
/- waybilllaw.MsgWrites: the walk -/
namespace Go.Proofs.YtjhogocabcdjbaaDoor
open Go Go.RowKit WB
def smallB (m : Ms) : Bool := decide (m.body.size ≤ 60) && decide (m.queue.size ≤ 60)
def smallsB (xs : List Ms) : Bool := decide (xs.length ≤ 60) && xs.all smallB
theorem smalls_e (w0 : World) (L : List HP) (v : Value) (xs : List Ms) (hr : ∀ w, St w0 L w → RdA w 5 msC v xs) : KE Tryd.prog 23 #[v] w0 L (fun u M => u = .bool (smallsB xs) ∧ M = L) := by
  refine KE.mk (n := 19) Tryd.func23 rfl Tryd.ntmps23 (by simp) ?_
  intro w hw
  obtain ⟨sa, cap, rfl, hc⟩ := hr w hw
  have fin : ∀ (b : Bool) (w' : World) (M : List HP), b = smallsB xs → St w M w' → ∃ v L', Ending.returned (.bool b) = Ending.returned v ∧ (v = .bool (smallsB xs) ∧ L' = L) ∧ St w0 L' w' ∧ Below w.heap.size w w' := fun b w' M e hs => ⟨_, _, rfl, ⟨by rw [e], rfl⟩, hw.below_step hs.below, hs.below⟩
  repeat ((with_reducible refine K.seq ?_))
  refine K.reg ?_
  refine KO.as rfl rfl ?_
  refine KO.nil ?_
  repeat (first | (with_reducible refine K.seq ?_) | (with_reducible refine KQ.next ?_))
  refine K.reg ?_
  refine KO.mv rfl rfl ?_
  refine KO.len rfl Tryd.underlying57 rfl ?_
  refine KO.gtr rfl rfl rfl ?_
  refine KO.nil ?_
  repeat ((with_reducible refine KQ.next ?_))
  refine K.condD rfl (fun h => ?_) (fun h => ?_)
  · have h1 : ¬ xs.length ≤ 60 := by omega
    repeat ((with_reducible refine K.seq ?_))
    refine K.reg ?_
    refine KO.as rfl rfl ?_
    refine KO.nil ?_
    repeat (first | (with_reducible refine KQ.next ?_) | (with_reducible refine KQ.then_ret ?_) | (with_reducible refine K.ret ?_))
    exact KQ.ret1 rfl rfl (fun w' hs => fin _ w' _ (by simp [smallsB, h1]) hs)
  have h1 : xs.length ≤ 60 := by omega
  repeat (first | (with_reducible refine K.seq ?_) | (with_reducible refine KQ.next ?_) | (with_reducible refine K.skip ?_))
  refine K.reg ?_
  refine KO.as rfl rfl ?_
  refine KO.nil ?_
  repeat (first | (with_reducible refine KQ.next ?_) | (with_reducible refine K.block ?_))
  refine K.loop (fun k : Nat => [(0, .slice sa xs.length cap), (3, .int .i64 (k : Nat))]) (fun _ => []) (fun k => k ≤ xs.length ∧ ∀ (j : Nat) m, j < k → xs[j]? = some m → smallB m = true) (fun k => xs.length - k) 0
    ⟨Nat.zero_le _, fun j m h => by omega⟩ ⟨rfl, rfl, trivial⟩ (fun _ h => h) ?_
  rintro k ⟨hk, hall⟩
  repeat ((with_reducible refine K.seq ?_))
  refine K.reg ?_
  refine KO.mv rfl rfl ?_
  refine KO.mv rfl rfl ?_
  refine KO.len rfl Tryd.underlying57 rfl ?_
  refine KO.lss rfl rfl rfl ?_
  refine KO.nil ?_
  repeat ((with_reducible refine KQ.next ?_))
  refine K.condD rfl (fun h2 => ?_) (fun h2 => ?_)
  · obtain ⟨m, hm⟩ : ∃ e, xs[k]? = some e := ⟨xs[k], List.getElem?_eq_getElem (by omega)⟩
    obtain ⟨ad, rfl, hh⟩ := hc k m hm
    repeat (first | (with_reducible refine K.seq ?_) | (with_reducible refine KQ.next ?_) | (with_reducible refine K.skip ?_) | (with_reducible refine K.block ?_))
    refine K.reg ?_
    refine KO.mv rfl rfl ?_
    refine KO.mv rfl rfl ?_
    refine KO.idxH rfl rfl Tryd.runUnderlying57 Tryd.sizeOf50 (by exact rfl) (by omega) rfl ?_
    refine KO.ldN0 (cs := (msC m).toArray) rfl rfl Tryd.isAgg50 Tryd.sizeOf50 rfl hh rfl ?_
    refine KO.ce (cp := []) rfl rfl rfl Tryd.call24 rfl (small_e w _ m) ?_; rintro v' L' ⟨rfl, rfl⟩
    refine KO.not rfl rfl ?_
    refine KO.nil ?_
    repeat ((with_reducible refine KQ.next ?_))
    refine K.cond rfl (fun h5 => ?_) (fun h5 => ?_)
    · repeat ((with_reducible refine K.seq ?_))
      refine K.reg ?_
      refine KO.as rfl rfl ?_
      refine KO.nil ?_
      repeat (first | (with_reducible refine KQ.next ?_) | (with_reducible refine KQ.then_ret ?_) | (with_reducible refine KQ.blk_ret ?_) | (with_reducible refine K.ret ?_))
      refine KQ.ret1 rfl rfl (fun w' hs => fin _ w' _ ?_ hs)
      have h6 : smallB m = false := by unfold smallB; simpa only [Bool.not_eq_true'] using h5
      have : xs.all smallB = false := List.all_eq_false.2 ⟨m, List.mem_of_getElem? hm, by simp [h6]⟩
      simp [smallsB, this]
    · have h6 : smallB m = true := by simpa [smallB] using h5
      repeat (first | (with_reducible refine KQ.next ?_) | (with_reducible refine KQ.blk_normal ?_) | (with_reducible refine K.skip ?_))
      refine K.reg ?_
      refine KO.mv rfl rfl ?_
      refine KO.add rfl rfl rfl (by omega) rfl ?_
      refine KO.as rfl rfl ?_
      refine KO.nil ?_
      refine KQ.round (k + 1) ⟨by omega, fun j m' hj hm' => ?_⟩ (by omega) ⟨rfl, rfl, trivial⟩ (fun _ h => h)
      by_cases hjk : j = k
      · subst hjk; rw [hm] at hm'; cases hm'; exact h6
      · exact hall j m' (by omega) hm'
  · repeat (first | (with_reducible refine K.seq ?_) | (with_reducible refine KQ.next ?_) | (with_reducible refine KQ.then_exit ?_) | (with_reducible refine KQ.blk_exit ?_) | (with_reducible refine K.exit ?_))
    refine K.reg ?_
    refine KO.as rfl rfl ?_
    refine KO.nil ?_
    repeat (first | (with_reducible refine KQ.next ?_) | (with_reducible refine K.ret ?_))
    refine KQ.ret1 rfl rfl (fun w' hs => fin _ w' _ ?_ hs)
    have : xs.all smallB = true := List.all_eq_true.2 fun m hm => by
      obtain ⟨j, hj, rfl⟩ := List.getElem_of_mem hm
      exact hall j _ (by omega) (List.getElem?_eq_getElem hj)
    simp [smallsB, this, h1]
def errM (xs : List Ms) (b : Nat) : Value := match badI xs with | none => .nilIface | some _ => atV b
def atP (xs : List Ms) (b : Nat) : HP := match badI xs with | none => emp | some k => atB b 1 k
theorem mwrite2_e (w0 : World) (L : List HP) (v : Value) (xs : List Ms) (hr : ∀ w, St w0 L w → RdA w 5 msC v xs) (hT : Tab w0) (hsz : ∀ m ∈ xs, m.body.size ≤ maxLen ∧ m.queue.size ≤ maxLen) (hl : xs.length ≤ 100000) :
    KE Tryd.prog 26 #[v] w0 L (fun u M => ∃ b, u = .tuple #[.string (writeT xs), errM xs b] ∧ M = atP xs b :: L) := (mwrite_e w0 L v xs hr hT hsz hl).turn fun v M h => by
  unfold MwR at h
  unfold writeT errM atP
  cases hb : badI xs with
  | none => rw [hb] at h; obtain ⟨rfl, rfl⟩ := h; exact ⟨_, ⟨0, rfl, rfl⟩, fun w hw => hw.empi⟩
  | some k => rw [hb] at h; obtain ⟨b, rfl, rfl⟩ := h; exact ⟨_, ⟨b, rfl, rfl⟩, fun w hw => hw⟩
theorem ism_e (w0 : World) (L R : List HP) (xs : List Ms) (b : Nat) (hp : Pick L (atP xs b) R) (hg : ErrType w0) :
    KE Tryd.prog 27 #[errM xs b, .agg [Value.int .i64 (writeE xs), .int .i64 (writeP xs)].toArray] w0 L (fun u M => u = .bool true ∧ M = L) := by
  unfold errM writeE writeP
  unfold atP at hp
  cases hb : badI xs with
  | none => exact is_e w0 L 0 0 (-1) hg
  | some k =>
    rw [hb] at hp
    have := is_at w0 L R b 1 k 1 k hp hg
    simpa using this
set_option maxRecDepth 100000 in
set_option maxHeartbeats 4000000 in
theorem mwlaw_e (w0 : World) (L : List HP) (v : Value) (xs : List Ms) (ma mb : Ms) (x y : Int) (hr0 : ∀ w, St w0 L w → RdA w 5 msC v xs) (hsz : ∀ m ∈ xs, m.body.size ≤ maxLen ∧ m.queue.size ≤ maxLen) (hsa : ma.body.size ≤ maxLen ∧ ma.queue.size ≤ maxLen) (hsb : mb.body.size ≤ maxLen ∧ mb.queue.size ≤ maxLen)
    (hT0 : Tab w0) (hg0 : ErrType w0) :
    KE Tryd.prog 5 #[v, .agg (msC ma).toArray, .agg (msC mb).toArray, .int .i64 x, .int .i64 y] w0 L (fun u M => u = .bool true ∧ M = L) := by
  refine KE.mk (n := 148) Tryd.func5 rfl Tryd.ntmps5 (by simp) ?_
  intro w hw
  have hT := hT0.ext (Ext.of_below hw.below)
  have hg : ErrType w := (Ext.of_below hw.below).cell hg0
  have hr := hr0 w hw
  obtain ⟨ha1, ha2⟩ := hsa
  obtain ⟨hb1, hb2⟩ := hsb
  have fin : ∀ (w' : World) (M : List HP), St w M w' → ∃ v L', Ending.returned (.bool true) = Ending.returned v ∧ (v = .bool true ∧ L' = L) ∧ St w0 L' w' ∧ Below w.heap.size w w' := fun w' M hs => ⟨_, _, rfl, ⟨rfl, rfl⟩, hw.below_step hs.below, hs.below⟩
  repeat ((with_reducible refine K.seq ?_))
  refine K.reg ?_
  refine KO.box rfl rfl (by exact rfl) rfl ?_; intro b6
  refine KO.box rfl rfl (by exact rfl) rfl ?_; intro b7
  refine KO.as rfl rfl ?_
  refine KO.nil ?_
  repeat (first | (with_reducible refine K.seq ?_) | (with_reducible refine KQ.next ?_))
  generalize hc1 : smallsB xs = c1
  generalize hc2 : (decide (ma.body.size ≤ 60) && decide (ma.queue.size ≤ 60)) = c2
  generalize hc3 : (decide (mb.body.size ≤ 60) && decide (mb.queue.size ≤ 60)) = c3
  cases c1
  · refine K.reg ?_
    refine KO.mv rfl rfl ?_
    refine KO.ce (cp := []) rfl rfl rfl Tryd.call23 rfl (smalls_e w _ _ xs (fun w' hw' => rdA_extM hr (Ext.of_below hw'.below))) ?_; rintro v' L' ⟨rfl, rfl⟩; rw [hc1]
    refine KO.not rfl rfl ?_
    refine KO.mv rfl rfl ?_
    (refine KO.no rfl rfl ?_ rfl ?_; (focus rfl))
    (refine KO.no rfl rfl ?_ rfl ?_; (focus rfl))
    (refine KO.no rfl rfl ?_ rfl ?_; (focus rfl))
    (refine KO.pickT rfl ?_ rfl rfl ?_; (focus rfl))
    refine KO.mv rfl rfl ?_
    (refine KO.no rfl rfl ?_ rfl ?_; (focus rfl))
    (refine KO.no rfl rfl ?_ rfl ?_; (focus rfl))
    (refine KO.no rfl rfl ?_ rfl ?_; (focus rfl))
    (refine KO.pickT rfl ?_ rfl rfl ?_; (focus rfl))
    refine KO.nil ?_
    repeat ((with_reducible refine KQ.next ?_))
    refine K.condT rfl rfl ?_
    repeat ((with_reducible refine K.seq ?_))
    refine K.reg ?_
    refine KO.as rfl rfl ?_
    refine KO.nil ?_
    repeat (first | (with_reducible refine KQ.next ?_) | (with_reducible refine KQ.then_ret ?_) | (with_reducible refine K.ret ?_))
    exact KQ.ret1 rfl rfl (fun w' hs => fin w' _ hs)
  cases c2
  · refine K.reg ?_
    refine KO.mv rfl rfl ?_
    refine KO.ce (cp := []) rfl rfl rfl Tryd.call23 rfl (smalls_e w _ _ xs (fun w' hw' => rdA_extM hr (Ext.of_below hw'.below))) ?_; rintro v' L' ⟨rfl, rfl⟩; rw [hc1]
    refine KO.not rfl rfl ?_
    refine KO.mv rfl rfl ?_
    (refine KO.on rfl rfl ?_ ?_; (focus rfl); (refine KO.ldB0 rfl rfl Tryd.isAgg50 Tryd.sizeOf50 (by with_reducible (repeat (first | exact Pick.head | apply Pick.tail))) (by exact rfl) rfl ?_))
    refine KO.on rfl rfl rfl ?_; refine KO.ce (cp := []) rfl rfl rfl Tryd.call24 rfl (small_e w _ ma) ?_; rintro v' L' ⟨rfl, rfl⟩; rw [hc2]
    (refine KO.on rfl rfl ?_ ?_; (focus rfl); (refine KO.not rfl rfl ?_))
    (refine KO.pickF rfl ?_ rfl rfl ?_; (focus rfl))
    refine KO.mv rfl rfl ?_
    (refine KO.no rfl rfl ?_ rfl ?_; (focus rfl))
    (refine KO.no rfl rfl ?_ rfl ?_; (focus rfl))
    (refine KO.no rfl rfl ?_ rfl ?_; (focus rfl))
    (refine KO.pickT rfl ?_ rfl rfl ?_; (focus rfl))
    refine KO.nil ?_
    repeat ((with_reducible refine KQ.next ?_))
    refine K.condT rfl rfl ?_
    repeat ((with_reducible refine K.seq ?_))
    refine K.reg ?_
    refine KO.as rfl rfl ?_
    refine KO.nil ?_
    repeat (first | (with_reducible refine KQ.next ?_) | (with_reducible refine KQ.then_ret ?_) | (with_reducible refine K.ret ?_))
    exact KQ.ret1 rfl rfl (fun w' hs => fin w' _ hs)
  cases c3
  · refine K.reg ?_
    refine KO.mv rfl rfl ?_
    refine KO.ce (cp := []) rfl rfl rfl Tryd.call23 rfl (smalls_e w _ _ xs (fun w' hw' => rdA_extM hr (Ext.of_below hw'.below))) ?_; rintro v' L' ⟨rfl, rfl⟩; rw [hc1]
    refine KO.not rfl rfl ?_
    refine KO.mv rfl rfl ?_
    (refine KO.on rfl rfl ?_ ?_; (focus rfl); (refine KO.ldB0 rfl rfl Tryd.isAgg50 Tryd.sizeOf50 (by with_reducible (repeat (first | exact Pick.head | apply Pick.tail))) (by exact rfl) rfl ?_))
    refine KO.on rfl rfl rfl ?_; refine KO.ce (cp := []) rfl rfl rfl Tryd.call24 rfl (small_e w _ ma) ?_; rintro v' L' ⟨rfl, rfl⟩; rw [hc2]
    (refine KO.on rfl rfl ?_ ?_; (focus rfl); (refine KO.not rfl rfl ?_))
    (refine KO.pickF rfl ?_ rfl rfl ?_; (focus rfl))
    refine KO.mv rfl rfl ?_
    (refine KO.on rfl rfl ?_ ?_; (focus rfl); (refine KO.ldB0 rfl rfl Tryd.isAgg50 Tryd.sizeOf50 (by with_reducible (repeat (exact Pick.head))) (by exact rfl) rfl ?_))
    refine KO.on rfl rfl rfl ?_; refine KO.ce (cp := []) rfl rfl rfl Tryd.call24 rfl (small_e w _ mb) ?_; rintro v' L' ⟨rfl, rfl⟩; rw [hc3]
    (refine KO.on rfl rfl ?_ ?_; (focus rfl); (refine KO.not rfl rfl ?_))
    (refine KO.pickF rfl ?_ rfl rfl ?_; (focus rfl))
    refine KO.nil ?_
    repeat ((with_reducible refine KQ.next ?_))
    refine K.condT rfl rfl ?_
    repeat ((with_reducible refine K.seq ?_))
    refine K.reg ?_
    refine KO.as rfl rfl ?_
    refine KO.nil ?_
    repeat (first | (with_reducible refine KQ.next ?_) | (with_reducible refine KQ.then_ret ?_) | (with_reducible refine K.ret ?_))
    exact KQ.ret1 rfl rfl (fun w' hs => fin w' _ hs)
  have hl60 : xs.length ≤ 60 := by unfold smallsB at hc1; simp at hc1; exact hc1.1
  refine K.reg ?_
  refine KO.mv rfl rfl ?_
  refine KO.ce (cp := []) rfl rfl rfl Tryd.call23 rfl (smalls_e w _ _ xs (fun w' hw' => rdA_extM hr (Ext.of_below hw'.below))) ?_; rintro v' L' ⟨rfl, rfl⟩; rw [hc1]
  refine KO.not rfl rfl ?_
  refine KO.mv rfl rfl ?_
  (refine KO.on rfl rfl ?_ ?_; (focus rfl); (refine KO.ldB0 rfl rfl Tryd.isAgg50 Tryd.sizeOf50 (by with_reducible (repeat (first | exact Pick.head | apply Pick.tail))) (by exact rfl) rfl ?_))
  refine KO.on rfl rfl rfl ?_; refine KO.ce (cp := []) rfl rfl rfl Tryd.call24 rfl (small_e w _ ma) ?_; rintro v' L' ⟨rfl, rfl⟩; rw [hc2]
  (refine KO.on rfl rfl ?_ ?_; (focus rfl); (refine KO.not rfl rfl ?_))
  (refine KO.pickF rfl ?_ rfl rfl ?_; (focus rfl))
  refine KO.mv rfl rfl ?_
  (refine KO.on rfl rfl ?_ ?_; (focus rfl); (refine KO.ldB0 rfl rfl Tryd.isAgg50 Tryd.sizeOf50 (by with_reducible (repeat (exact Pick.head))) (by exact rfl) rfl ?_))
  refine KO.on rfl rfl rfl ?_; refine KO.ce (cp := []) rfl rfl rfl Tryd.call24 rfl (small_e w _ mb) ?_; rintro v' L' ⟨rfl, rfl⟩; rw [hc3]
  (refine KO.on rfl rfl ?_ ?_; (focus rfl); (refine KO.not rfl rfl ?_))
  (refine KO.pickF rfl ?_ rfl rfl ?_; (focus rfl))
  refine KO.nil ?_
  repeat ((with_reducible refine KQ.next ?_))
  refine K.condF rfl rfl ?_
  repeat (first | (with_reducible refine K.seq ?_) | (with_reducible refine KQ.next ?_) | (with_reducible refine K.skip ?_))
  refine K.reg ?_
  refine KO.mv rfl rfl ?_
  refine KO.ce (cp := []) rfl rfl rfl Tryd.call25 rfl (rwrite_e w _ _ xs (fun w' hw' => rdA_extM hr (Ext.of_below hw'.below)) hT hsz (by omega)) ?_; rintro v' L' ⟨rfl, rfl⟩
  refine KO.mv rfl rfl ?_
  refine KO.extrL rfl (by exact rfl) rfl ?_
  refine KO.extrL rfl (by exact rfl) rfl ?_
  refine KO.alloc rfl Tryd.zeroValue63 (by exact rfl) rfl ?_; intro b12
  refine KO.as rfl rfl ?_
  refine KO.sto0 rfl rfl rfl (by exact rfl) (by exact Tryd.sizeOf63) (by exact rfl) (by with_reducible (repeat (exact Pick.head))) (by exact rfl) ?_
  refine KO.nil ?_
  repeat (first | (with_reducible refine K.seq ?_) | (with_reducible refine KQ.next ?_))
  refine K.reg ?_
  refine KO.mv rfl rfl ?_
  refine KO.ce (cp := []) rfl rfl rfl Tryd.call26 rfl (mwrite2_e w _ _ xs (fun w' hw' => rdA_extM hr (Ext.of_below hw'.below)) hT hsz (by omega)) ?_; rintro v' L' ⟨be, rfl, rfl⟩
  refine KO.mv rfl rfl ?_
  refine KO.extrL rfl (by exact rfl) rfl ?_
  refine KO.extrL rfl (by exact rfl) rfl ?_
  refine KO.as rfl rfl ?_
  refine KO.as rfl rfl ?_
  refine KO.nil ?_
  repeat (first | (with_reducible refine K.seq ?_) | (with_reducible refine KQ.next ?_))
  refine K.draw [.pure, .read, .keep, .pure, .pure, .pure, .pure, .pure, .pure, .pure, .read, .keep, .read, .keep, .pure, .pure, .pure, .pure, .read, .keep, .pure, .read, .keep, .pure, .pure, .pure, .pure, .read, .keep, .pure, .read, .keep, .pure, .pure] [0, 1, 2, 3, 4, 5, 6, 7, 8, 9, 10, 12, 11, 13, 14, 15, 16, 17, 18, 20, 21, 19, 22, 23, 24, 25, 26, 27, 29, 30, 28, 31, 32, 33] (by kernel_rfl) (by kernel_rfl) ?_
  refine KO.mv rfl rfl ?_
  refine KO.ldB0 rfl rfl Tryd.isAgg63 Tryd.sizeOf63 (by with_reducible (repeat (first | exact Pick.head | apply Pick.tail))) (by exact rfl) rfl ?_
  refine KO.ce (cp := []) rfl rfl rfl Tryd.call27 rfl (ism_e w _ _ xs be (by with_reducible (repeat (exact Pick.head))) hg) ?_; rintro v' L' ⟨rfl, rfl⟩
  refine KO.not rfl rfl ?_
  refine KO.mv rfl rfl ?_
  (refine KO.on rfl rfl ?_ ?_; (focus rfl); (refine KO.mv rfl rfl ?_))
  (refine KO.on rfl rfl ?_ ?_; (focus rfl); (refine KO.mv rfl rfl ?_))
  (refine KO.on rfl rfl ?_ ?_; (focus rfl); (refine KO.neS rfl rfl rfl ?_))
  (refine KO.pickF rfl ?_ rfl rfl ?_; (focus rfl))
  refine KO.mv rfl rfl ?_
  (refine KO.on rfl rfl ?_ ?_; (focus (simp; done)); (refine KO.ldB0 rfl rfl Tryd.isAgg50 Tryd.sizeOf50 (by with_reducible (repeat (first | exact Pick.head | apply Pick.tail))) (by exact rfl) rfl ?_))
  (refine KO.on rfl rfl ?_ ?_; (focus (simp; done)); (refine KO.ldB0 rfl rfl Tryd.isAgg50 Tryd.sizeOf50 (by with_reducible (repeat (first | exact Pick.head | apply Pick.tail))) (by exact rfl) rfl ?_))
  refine KO.on rfl rfl (by simp) ?_; refine KO.ce (cp := []) rfl rfl rfl Tryd.call28 rfl (right_e w _ ma ha1 ha2) ?_; rintro v' L' ⟨rfl, rfl⟩
  refine KO.on rfl rfl (by simp) ?_; refine KO.ce (cp := []) rfl rfl rfl Tryd.call29 rfl (rright_e w _ ma ha1 ha2) ?_; rintro v' L' ⟨rfl, rfl⟩
  (refine KO.on rfl rfl ?_ ?_; (focus (simp; done)); (refine KO.neB rfl rfl Tryd.underlying4 rfl ?_))
  (refine KO.pickF rfl ?_ rfl rfl ?_; (focus (simp; done)))
  refine KO.mv rfl rfl ?_
  (refine KO.on rfl rfl ?_ ?_; (focus (simp; done)); (refine KO.fo0 (off := 3) rfl Tryd.runUnderlying50 rfl rfl Tryd.sizeOf9 rfl ?_))
  (refine KO.on rfl rfl ?_ ?_; (focus (simp; done)); (refine KO.ld rfl rfl Tryd.isAgg9 (by with_reducible (repeat (first | exact Pick.head | apply Pick.tail))) (by exact rfl) rfl ?_))
  (refine KO.on rfl rfl ?_ ?_; (focus (simp; done)); (refine KO.fo0 (off := 3) rfl Tryd.runUnderlying50 rfl rfl Tryd.sizeOf9 rfl ?_))
  (refine KO.on rfl rfl ?_ ?_; (focus (simp; done)); (refine KO.ld rfl rfl Tryd.isAgg9 (by with_reducible (repeat (first | exact Pick.head | apply Pick.tail))) (by exact rfl) rfl ?_))
  refine KO.on rfl rfl (by simp) ?_; refine KO.ce (cp := []) rfl rfl rfl Tryd.call30 rfl (word_e w _ ma.queue ha2) ?_; rintro v' L' ⟨rfl, rfl⟩
  refine KO.on rfl rfl (by simp) ?_; refine KO.ce (cp := []) rfl rfl rfl Tryd.call31 rfl (rword_e w _ ma.queue ha2) ?_; rintro v' L' ⟨rfl, rfl⟩
  (refine KO.on rfl rfl ?_ ?_; (focus (simp; done)); (refine KO.neB rfl rfl Tryd.underlying4 rfl ?_))
  (refine KO.pickF rfl ?_ rfl rfl ?_; (focus (simp; done)))
  refine KO.mv rfl rfl ?_
  (refine KO.on rfl rfl ?_ ?_; (focus (simp; done)); (refine KO.fo0 (off := 2) rfl Tryd.runUnderlying50 rfl rfl Tryd.sizeOf9 rfl ?_))
  (refine KO.on rfl rfl ?_ ?_; (focus (simp; done)); (refine KO.ld rfl rfl Tryd.isAgg9 (by with_reducible (repeat (first | exact Pick.head | apply Pick.tail))) (by exact rfl) rfl ?_))
  (refine KO.on rfl rfl ?_ ?_; (focus (simp; done)); (refine KO.fo0 (off := 2) rfl Tryd.runUnderlying50 rfl rfl Tryd.sizeOf9 rfl ?_))
  (refine KO.on rfl rfl ?_ ?_; (focus (simp; done)); (refine KO.ld rfl rfl Tryd.isAgg9 (by with_reducible (repeat (first | exact Pick.head | apply Pick.tail))) (by exact rfl) rfl ?_))
  refine KO.on rfl rfl (by simp) ?_; refine KO.ce (cp := []) rfl rfl rfl Tryd.call32 rfl (body_e w _ mb.body hb1) ?_; rintro v' L' ⟨rfl, rfl⟩
  refine KO.on rfl rfl (by simp) ?_; refine KO.ce (cp := []) rfl rfl rfl Tryd.call33 rfl (rbody_e w _ mb.body hb1) ?_; rintro v' L' ⟨rfl, rfl⟩
  (refine KO.on rfl rfl ?_ ?_; (focus (simp; done)); (refine KO.neB rfl rfl Tryd.underlying4 rfl ?_))
  (refine KO.pickF rfl ?_ rfl rfl ?_; (focus (simp; done)))
  refine KO.nil ?_
  repeat ((with_reducible refine KQ.next ?_))
  refine K.condF rfl (by simp) ?_
  repeat (first | (with_reducible refine K.seq ?_) | (with_reducible refine KQ.next ?_) | (with_reducible refine K.skip ?_))
  generalize hca : msRight ma = ca
  generalize hcb : msRight mb = cb
  cases ca
  · refine K.reg ?_
    refine KO.ldB0 rfl rfl Tryd.isAgg50 Tryd.sizeOf50 (by with_reducible (repeat (first | exact Pick.head | apply Pick.tail))) (by exact rfl) rfl ?_
    refine KO.ce (cp := []) rfl rfl rfl Tryd.call29 rfl (rright_e w _ ma ha1 ha2) ?_; rintro v' L' ⟨rfl, rfl⟩; rw [hca]
    refine KO.not rfl rfl ?_
    refine KO.mv rfl rfl ?_
    (refine KO.no rfl rfl ?_ rfl ?_; (focus rfl))
    (refine KO.no rfl rfl ?_ rfl ?_; (focus rfl))
    (refine KO.no rfl rfl ?_ rfl ?_; (focus rfl))
    (refine KO.pickT rfl ?_ rfl rfl ?_; (focus rfl))
    refine KO.mv rfl rfl ?_
    (refine KO.no rfl rfl ?_ rfl ?_; (focus rfl))
    (refine KO.no rfl rfl ?_ rfl ?_; (focus rfl))
    (refine KO.pickT rfl ?_ rfl rfl ?_; (focus rfl))
    refine KO.mv rfl rfl ?_
    (refine KO.no rfl rfl ?_ rfl ?_; (focus rfl))
    (refine KO.no rfl rfl ?_ rfl ?_; (focus rfl))
    (refine KO.pickT rfl ?_ rfl rfl ?_; (focus rfl))
    refine KO.mv rfl rfl ?_
    (refine KO.no rfl rfl ?_ rfl ?_; (focus rfl))
    (refine KO.no rfl rfl ?_ rfl ?_; (focus rfl))
    (refine KO.pickT rfl ?_ rfl rfl ?_; (focus rfl))
    refine KO.mv rfl rfl ?_
    (refine KO.no rfl rfl ?_ rfl ?_; (focus rfl))
    (refine KO.no rfl rfl ?_ rfl ?_; (focus rfl))
    (refine KO.pickT rfl ?_ rfl rfl ?_; (focus rfl))
    refine KO.nil ?_
    repeat ((with_reducible refine KQ.next ?_))
    refine K.condT rfl rfl ?_
    repeat ((with_reducible refine K.seq ?_))
    refine K.reg ?_
    refine KO.as rfl rfl ?_
    refine KO.nil ?_
    repeat (first | (with_reducible refine KQ.next ?_) | (with_reducible refine KQ.then_ret ?_) | (with_reducible refine K.ret ?_))
    exact KQ.ret1 rfl rfl (fun w' hs => fin w' _ hs)
  cases cb
  · refine K.reg ?_
    refine KO.ldB0 rfl rfl Tryd.isAgg50 Tryd.sizeOf50 (by with_reducible (repeat (first | exact Pick.head | apply Pick.tail))) (by exact rfl) rfl ?_
    refine KO.ce (cp := []) rfl rfl rfl Tryd.call29 rfl (rright_e w _ ma ha1 ha2) ?_; rintro v' L' ⟨rfl, rfl⟩; rw [hca]
    refine KO.not rfl rfl ?_
    refine KO.mv rfl rfl ?_
    (refine KO.on rfl rfl ?_ ?_; (focus rfl); (refine KO.ldB0 rfl rfl Tryd.isAgg50 Tryd.sizeOf50 (by with_reducible (repeat (first | exact Pick.head | apply Pick.tail))) (by exact rfl) rfl ?_))
    refine KO.on rfl rfl rfl ?_; refine KO.ce (cp := []) rfl rfl rfl Tryd.call29 rfl (rright_e w _ mb hb1 hb2) ?_; rintro v' L' ⟨rfl, rfl⟩; rw [hcb]
    (refine KO.on rfl rfl ?_ ?_; (focus rfl); (refine KO.not rfl rfl ?_))
    (refine KO.pickF rfl ?_ rfl rfl ?_; (focus rfl))
    refine KO.mv rfl rfl ?_
    (refine KO.no rfl rfl ?_ rfl ?_; (focus rfl))
    (refine KO.no rfl rfl ?_ rfl ?_; (focus rfl))
    (refine KO.pickT rfl ?_ rfl rfl ?_; (focus rfl))
    refine KO.mv rfl rfl ?_
    (refine KO.no rfl rfl ?_ rfl ?_; (focus rfl))
    (refine KO.no rfl rfl ?_ rfl ?_; (focus rfl))
    (refine KO.pickT rfl ?_ rfl rfl ?_; (focus rfl))
    refine KO.mv rfl rfl ?_
    (refine KO.no rfl rfl ?_ rfl ?_; (focus rfl))
    (refine KO.no rfl rfl ?_ rfl ?_; (focus rfl))
    (refine KO.pickT rfl ?_ rfl rfl ?_; (focus rfl))
    refine KO.mv rfl rfl ?_
    (refine KO.no rfl rfl ?_ rfl ?_; (focus rfl))
    (refine KO.no rfl rfl ?_ rfl ?_; (focus rfl))
    (refine KO.pickT rfl ?_ rfl rfl ?_; (focus rfl))
    refine KO.nil ?_
    repeat ((with_reducible refine KQ.next ?_))
    refine K.condT rfl rfl ?_
    repeat ((with_reducible refine K.seq ?_))
    refine K.reg ?_
    refine KO.as rfl rfl ?_
    refine KO.nil ?_
    repeat (first | (with_reducible refine KQ.next ?_) | (with_reducible refine KQ.then_ret ?_) | (with_reducible refine K.ret ?_))
    exact KQ.ret1 rfl rfl (fun w' hs => fin w' _ hs)
  by_cases x1 : x < 0
  · refine K.reg ?_
    refine KO.ldB0 rfl rfl Tryd.isAgg50 Tryd.sizeOf50 (by with_reducible (repeat (first | exact Pick.head | apply Pick.tail))) (by exact rfl) rfl ?_
    refine KO.ce (cp := []) rfl rfl rfl Tryd.call29 rfl (rright_e w _ ma ha1 ha2) ?_; rintro v' L' ⟨rfl, rfl⟩; rw [hca]
    refine KO.not rfl rfl ?_
    refine KO.mv rfl rfl ?_
    (refine KO.on rfl rfl ?_ ?_; (focus rfl); (refine KO.ldB0 rfl rfl Tryd.isAgg50 Tryd.sizeOf50 (by with_reducible (repeat (first | exact Pick.head | apply Pick.tail))) (by exact rfl) rfl ?_))
    refine KO.on rfl rfl rfl ?_; refine KO.ce (cp := []) rfl rfl rfl Tryd.call29 rfl (rright_e w _ mb hb1 hb2) ?_; rintro v' L' ⟨rfl, rfl⟩; rw [hcb]
    (refine KO.on rfl rfl ?_ ?_; (focus rfl); (refine KO.not rfl rfl ?_))
    (refine KO.pickF rfl ?_ rfl rfl ?_; (focus rfl))
    refine KO.mv rfl rfl ?_
    (refine KO.on rfl rfl ?_ ?_; (focus rfl); (refine KO.mv rfl rfl ?_))
    (refine KO.on rfl rfl ?_ ?_; (focus rfl); (refine KO.lss rfl rfl rfl ?_))
    (refine KO.pickF rfl ?_ rfl rfl ?_; (focus rfl))
    refine KO.mv rfl rfl ?_
    (refine KO.no rfl rfl ?_ rfl ?_; (focus (simp only [decide_eq_true_eq, decide_eq_false_iff_not, Bool.not_eq_true, Bool.not_true, Bool.not_false, ne_eq]; omega)))
    (refine KO.no rfl rfl ?_ rfl ?_; (focus (simp only [decide_eq_true_eq, decide_eq_false_iff_not, Bool.not_eq_true, Bool.not_true, Bool.not_false, ne_eq]; omega)))
    (refine KO.pickT rfl ?_ rfl rfl ?_; (focus (simp only [decide_eq_true_eq, decide_eq_false_iff_not, Bool.not_eq_true, Bool.not_true, Bool.not_false, ne_eq]; omega)))
    refine KO.mv rfl rfl ?_
    (refine KO.no rfl rfl ?_ rfl ?_; (focus rfl))
    (refine KO.no rfl rfl ?_ rfl ?_; (focus rfl))
    (refine KO.pickT rfl ?_ rfl rfl ?_; (focus rfl))
    refine KO.mv rfl rfl ?_
    (refine KO.no rfl rfl ?_ rfl ?_; (focus rfl))
    (refine KO.no rfl rfl ?_ rfl ?_; (focus rfl))
    (refine KO.pickT rfl ?_ rfl rfl ?_; (focus rfl))
    refine KO.nil ?_
    repeat ((with_reducible refine KQ.next ?_))
    refine K.condT rfl (by simp [x1]) ?_
    repeat ((with_reducible refine K.seq ?_))
    refine K.reg ?_
    refine KO.as rfl rfl ?_
    refine KO.nil ?_
    repeat (first | (with_reducible refine KQ.next ?_) | (with_reducible refine KQ.then_ret ?_) | (with_reducible refine K.ret ?_))
    exact KQ.ret1 rfl rfl (fun w' hs => fin w' _ hs)
  by_cases x2 : 1099511627776 < x
  · refine K.reg ?_
    refine KO.ldB0 rfl rfl Tryd.isAgg50 Tryd.sizeOf50 (by with_reducible (repeat (first | exact Pick.head | apply Pick.tail))) (by exact rfl) rfl ?_
    refine KO.ce (cp := []) rfl rfl rfl Tryd.call29 rfl (rright_e w _ ma ha1 ha2) ?_; rintro v' L' ⟨rfl, rfl⟩; rw [hca]
    refine KO.not rfl rfl ?_
    refine KO.mv rfl rfl ?_
    (refine KO.on rfl rfl ?_ ?_; (focus rfl); (refine KO.ldB0 rfl rfl Tryd.isAgg50 Tryd.sizeOf50 (by with_reducible (repeat (first | exact Pick.head | apply Pick.tail))) (by exact rfl) rfl ?_))
    refine KO.on rfl rfl rfl ?_; refine KO.ce (cp := []) rfl rfl rfl Tryd.call29 rfl (rright_e w _ mb hb1 hb2) ?_; rintro v' L' ⟨rfl, rfl⟩; rw [hcb]
    (refine KO.on rfl rfl ?_ ?_; (focus rfl); (refine KO.not rfl rfl ?_))
    (refine KO.pickF rfl ?_ rfl rfl ?_; (focus rfl))
    refine KO.mv rfl rfl ?_
    (refine KO.on rfl rfl ?_ ?_; (focus rfl); (refine KO.mv rfl rfl ?_))
    (refine KO.on rfl rfl ?_ ?_; (focus rfl); (refine KO.lss rfl rfl rfl ?_))
    (refine KO.pickF rfl ?_ rfl rfl ?_; (focus rfl))
    refine KO.mv rfl rfl ?_
    (refine KO.on rfl rfl ?_ ?_; (focus (simp only [decide_eq_true_eq, decide_eq_false_iff_not, Bool.not_eq_true, Bool.not_true, Bool.not_false, ne_eq]; omega)); (refine KO.mv rfl rfl ?_))
    (refine KO.on rfl rfl ?_ ?_; (focus (simp only [decide_eq_true_eq, decide_eq_false_iff_not, Bool.not_eq_true, Bool.not_true, Bool.not_false, ne_eq]; omega)); (refine KO.gtr rfl rfl rfl ?_))
    (refine KO.pickF rfl ?_ rfl rfl ?_; (focus (simp only [decide_eq_true_eq, decide_eq_false_iff_not, Bool.not_eq_true, Bool.not_true, Bool.not_false, ne_eq]; omega)))
    refine KO.mv rfl rfl ?_
    (refine KO.no rfl rfl ?_ rfl ?_; (focus (simp only [decide_eq_true_eq, decide_eq_false_iff_not, Bool.not_eq_true, Bool.not_true, Bool.not_false, ne_eq]; omega)))
    (refine KO.no rfl rfl ?_ rfl ?_; (focus (simp only [decide_eq_true_eq, decide_eq_false_iff_not, Bool.not_eq_true, Bool.not_true, Bool.not_false, ne_eq]; omega)))
    (refine KO.pickT rfl ?_ rfl rfl ?_; (focus (simp only [decide_eq_true_eq, decide_eq_false_iff_not, Bool.not_eq_true, Bool.not_true, Bool.not_false, ne_eq]; omega)))
    refine KO.mv rfl rfl ?_
    (refine KO.no rfl rfl ?_ rfl ?_; (focus rfl))
    (refine KO.no rfl rfl ?_ rfl ?_; (focus rfl))
    (refine KO.pickT rfl ?_ rfl rfl ?_; (focus rfl))
    refine KO.nil ?_
    repeat ((with_reducible refine KQ.next ?_))
    refine K.condT rfl (by simp [x2]) ?_
    repeat ((with_reducible refine K.seq ?_))
    refine K.reg ?_
    refine KO.as rfl rfl ?_
    refine KO.nil ?_
    repeat (first | (with_reducible refine KQ.next ?_) | (with_reducible refine KQ.then_ret ?_) | (with_reducible refine K.ret ?_))
    exact KQ.ret1 rfl rfl (fun w' hs => fin w' _ hs)
  by_cases y1 : y < 0
  · refine K.reg ?_
    refine KO.ldB0 rfl rfl Tryd.isAgg50 Tryd.sizeOf50 (by with_reducible (repeat (first | exact Pick.head | apply Pick.tail))) (by exact rfl) rfl ?_
    refine KO.ce (cp := []) rfl rfl rfl Tryd.call29 rfl (rright_e w _ ma ha1 ha2) ?_; rintro v' L' ⟨rfl, rfl⟩; rw [hca]
    refine KO.not rfl rfl ?_
    refine KO.mv rfl rfl ?_
    (refine KO.on rfl rfl ?_ ?_; (focus rfl); (refine KO.ldB0 rfl rfl Tryd.isAgg50 Tryd.sizeOf50 (by with_reducible (repeat (first | exact Pick.head | apply Pick.tail))) (by exact rfl) rfl ?_))
    refine KO.on rfl rfl rfl ?_; refine KO.ce (cp := []) rfl rfl rfl Tryd.call29 rfl (rright_e w _ mb hb1 hb2) ?_; rintro v' L' ⟨rfl, rfl⟩; rw [hcb]
    (refine KO.on rfl rfl ?_ ?_; (focus rfl); (refine KO.not rfl rfl ?_))
    (refine KO.pickF rfl ?_ rfl rfl ?_; (focus rfl))
    refine KO.mv rfl rfl ?_
    (refine KO.on rfl rfl ?_ ?_; (focus rfl); (refine KO.mv rfl rfl ?_))
    (refine KO.on rfl rfl ?_ ?_; (focus rfl); (refine KO.lss rfl rfl rfl ?_))
    (refine KO.pickF rfl ?_ rfl rfl ?_; (focus rfl))
    refine KO.mv rfl rfl ?_
    (refine KO.on rfl rfl ?_ ?_; (focus (simp only [decide_eq_true_eq, decide_eq_false_iff_not, Bool.not_eq_true, Bool.not_true, Bool.not_false, ne_eq]; omega)); (refine KO.mv rfl rfl ?_))
    (refine KO.on rfl rfl ?_ ?_; (focus (simp only [decide_eq_true_eq, decide_eq_false_iff_not, Bool.not_eq_true, Bool.not_true, Bool.not_false, ne_eq]; omega)); (refine KO.gtr rfl rfl rfl ?_))
    (refine KO.pickF rfl ?_ rfl rfl ?_; (focus (simp only [decide_eq_true_eq, decide_eq_false_iff_not, Bool.not_eq_true, Bool.not_true, Bool.not_false, ne_eq]; omega)))
    refine KO.mv rfl rfl ?_
    (refine KO.on rfl rfl ?_ ?_; (focus (simp only [decide_eq_true_eq, decide_eq_false_iff_not, Bool.not_eq_true, Bool.not_true, Bool.not_false, ne_eq]; omega)); (refine KO.mv rfl rfl ?_))
    (refine KO.on rfl rfl ?_ ?_; (focus (simp only [decide_eq_true_eq, decide_eq_false_iff_not, Bool.not_eq_true, Bool.not_true, Bool.not_false, ne_eq]; omega)); (refine KO.lss rfl rfl rfl ?_))
    (refine KO.pickF rfl ?_ rfl rfl ?_; (focus (simp only [decide_eq_true_eq, decide_eq_false_iff_not, Bool.not_eq_true, Bool.not_true, Bool.not_false, ne_eq]; omega)))
    refine KO.mv rfl rfl ?_
    (refine KO.no rfl rfl ?_ rfl ?_; (focus (simp only [decide_eq_true_eq, decide_eq_false_iff_not, Bool.not_eq_true, Bool.not_true, Bool.not_false, ne_eq]; omega)))
    (refine KO.no rfl rfl ?_ rfl ?_; (focus (simp only [decide_eq_true_eq, decide_eq_false_iff_not, Bool.not_eq_true, Bool.not_true, Bool.not_false, ne_eq]; omega)))
    (refine KO.pickT rfl ?_ rfl rfl ?_; (focus (simp only [decide_eq_true_eq, decide_eq_false_iff_not, Bool.not_eq_true, Bool.not_true, Bool.not_false, ne_eq]; omega)))
    refine KO.nil ?_
    repeat ((with_reducible refine KQ.next ?_))
    refine K.condT rfl (by simp [y1]) ?_
    repeat ((with_reducible refine K.seq ?_))
    refine K.reg ?_
    refine KO.as rfl rfl ?_
    refine KO.nil ?_
    repeat (first | (with_reducible refine KQ.next ?_) | (with_reducible refine KQ.then_ret ?_) | (with_reducible refine K.ret ?_))
    exact KQ.ret1 rfl rfl (fun w' hs => fin w' _ hs)
  by_cases y2 : 1099511627776 < y
  · refine K.reg ?_
    refine KO.ldB0 rfl rfl Tryd.isAgg50 Tryd.sizeOf50 (by with_reducible (repeat (first | exact Pick.head | apply Pick.tail))) (by exact rfl) rfl ?_
    refine KO.ce (cp := []) rfl rfl rfl Tryd.call29 rfl (rright_e w _ ma ha1 ha2) ?_; rintro v' L' ⟨rfl, rfl⟩; rw [hca]
    refine KO.not rfl rfl ?_
    refine KO.mv rfl rfl ?_
    (refine KO.on rfl rfl ?_ ?_; (focus rfl); (refine KO.ldB0 rfl rfl Tryd.isAgg50 Tryd.sizeOf50 (by with_reducible (repeat (first | exact Pick.head | apply Pick.tail))) (by exact rfl) rfl ?_))
    refine KO.on rfl rfl rfl ?_; refine KO.ce (cp := []) rfl rfl rfl Tryd.call29 rfl (rright_e w _ mb hb1 hb2) ?_; rintro v' L' ⟨rfl, rfl⟩; rw [hcb]
    (refine KO.on rfl rfl ?_ ?_; (focus rfl); (refine KO.not rfl rfl ?_))
    (refine KO.pickF rfl ?_ rfl rfl ?_; (focus rfl))
    refine KO.mv rfl rfl ?_
    (refine KO.on rfl rfl ?_ ?_; (focus rfl); (refine KO.mv rfl rfl ?_))
    (refine KO.on rfl rfl ?_ ?_; (focus rfl); (refine KO.lss rfl rfl rfl ?_))
    (refine KO.pickF rfl ?_ rfl rfl ?_; (focus rfl))
    refine KO.mv rfl rfl ?_
    (refine KO.on rfl rfl ?_ ?_; (focus (simp only [decide_eq_true_eq, decide_eq_false_iff_not, Bool.not_eq_true, Bool.not_true, Bool.not_false, ne_eq]; omega)); (refine KO.mv rfl rfl ?_))
    (refine KO.on rfl rfl ?_ ?_; (focus (simp only [decide_eq_true_eq, decide_eq_false_iff_not, Bool.not_eq_true, Bool.not_true, Bool.not_false, ne_eq]; omega)); (refine KO.gtr rfl rfl rfl ?_))
    (refine KO.pickF rfl ?_ rfl rfl ?_; (focus (simp only [decide_eq_true_eq, decide_eq_false_iff_not, Bool.not_eq_true, Bool.not_true, Bool.not_false, ne_eq]; omega)))
    refine KO.mv rfl rfl ?_
    (refine KO.on rfl rfl ?_ ?_; (focus (simp only [decide_eq_true_eq, decide_eq_false_iff_not, Bool.not_eq_true, Bool.not_true, Bool.not_false, ne_eq]; omega)); (refine KO.mv rfl rfl ?_))
    (refine KO.on rfl rfl ?_ ?_; (focus (simp only [decide_eq_true_eq, decide_eq_false_iff_not, Bool.not_eq_true, Bool.not_true, Bool.not_false, ne_eq]; omega)); (refine KO.lss rfl rfl rfl ?_))
    (refine KO.pickF rfl ?_ rfl rfl ?_; (focus (simp only [decide_eq_true_eq, decide_eq_false_iff_not, Bool.not_eq_true, Bool.not_true, Bool.not_false, ne_eq]; omega)))
    refine KO.mv rfl rfl ?_
    (refine KO.on rfl rfl ?_ ?_; (focus (simp only [decide_eq_true_eq, decide_eq_false_iff_not, Bool.not_eq_true, Bool.not_true, Bool.not_false, ne_eq]; omega)); (refine KO.mv rfl rfl ?_))
    (refine KO.on rfl rfl ?_ ?_; (focus (simp only [decide_eq_true_eq, decide_eq_false_iff_not, Bool.not_eq_true, Bool.not_true, Bool.not_false, ne_eq]; omega)); (refine KO.gtr rfl rfl rfl ?_))
    (refine KO.pickF rfl ?_ rfl rfl ?_; (focus (simp only [decide_eq_true_eq, decide_eq_false_iff_not, Bool.not_eq_true, Bool.not_true, Bool.not_false, ne_eq]; omega)))
    refine KO.nil ?_
    repeat ((with_reducible refine KQ.next ?_))
    refine K.condT rfl (by simp [y2]) ?_
    repeat ((with_reducible refine K.seq ?_))
    refine K.reg ?_
    refine KO.as rfl rfl ?_
    refine KO.nil ?_
    repeat (first | (with_reducible refine KQ.next ?_) | (with_reducible refine KQ.then_ret ?_) | (with_reducible refine K.ret ?_))
    exact KQ.ret1 rfl rfl (fun w' hs => fin w' _ hs)
  refine K.reg ?_
  refine KO.ldB0 rfl rfl Tryd.isAgg50 Tryd.sizeOf50 (by with_reducible (repeat (first | exact Pick.head | apply Pick.tail))) (by exact rfl) rfl ?_
  refine KO.ce (cp := []) rfl rfl rfl Tryd.call29 rfl (rright_e w _ ma ha1 ha2) ?_; rintro v' L' ⟨rfl, rfl⟩; rw [hca]
  refine KO.not rfl rfl ?_
  refine KO.mv rfl rfl ?_
  (refine KO.on rfl rfl ?_ ?_; (focus rfl); (refine KO.ldB0 rfl rfl Tryd.isAgg50 Tryd.sizeOf50 (by with_reducible (repeat (first | exact Pick.head | apply Pick.tail))) (by exact rfl) rfl ?_))
  refine KO.on rfl rfl rfl ?_; refine KO.ce (cp := []) rfl rfl rfl Tryd.call29 rfl (rright_e w _ mb hb1 hb2) ?_; rintro v' L' ⟨rfl, rfl⟩; rw [hcb]
  (refine KO.on rfl rfl ?_ ?_; (focus rfl); (refine KO.not rfl rfl ?_))
  (refine KO.pickF rfl ?_ rfl rfl ?_; (focus rfl))
  refine KO.mv rfl rfl ?_
  (refine KO.on rfl rfl ?_ ?_; (focus rfl); (refine KO.mv rfl rfl ?_))
  (refine KO.on rfl rfl ?_ ?_; (focus rfl); (refine KO.lss rfl rfl rfl ?_))
  (refine KO.pickF rfl ?_ rfl rfl ?_; (focus rfl))
  refine KO.mv rfl rfl ?_
  (refine KO.on rfl rfl ?_ ?_; (focus (simp only [decide_eq_true_eq, decide_eq_false_iff_not, Bool.not_eq_true, Bool.not_true, Bool.not_false, ne_eq]; omega)); (refine KO.mv rfl rfl ?_))
  (refine KO.on rfl rfl ?_ ?_; (focus (simp only [decide_eq_true_eq, decide_eq_false_iff_not, Bool.not_eq_true, Bool.not_true, Bool.not_false, ne_eq]; omega)); (refine KO.gtr rfl rfl rfl ?_))
  (refine KO.pickF rfl ?_ rfl rfl ?_; (focus (simp only [decide_eq_true_eq, decide_eq_false_iff_not, Bool.not_eq_true, Bool.not_true, Bool.not_false, ne_eq]; omega)))
  refine KO.mv rfl rfl ?_
  (refine KO.on rfl rfl ?_ ?_; (focus (simp only [decide_eq_true_eq, decide_eq_false_iff_not, Bool.not_eq_true, Bool.not_true, Bool.not_false, ne_eq]; omega)); (refine KO.mv rfl rfl ?_))
  (refine KO.on rfl rfl ?_ ?_; (focus (simp only [decide_eq_true_eq, decide_eq_false_iff_not, Bool.not_eq_true, Bool.not_true, Bool.not_false, ne_eq]; omega)); (refine KO.lss rfl rfl rfl ?_))
  (refine KO.pickF rfl ?_ rfl rfl ?_; (focus (simp only [decide_eq_true_eq, decide_eq_false_iff_not, Bool.not_eq_true, Bool.not_true, Bool.not_false, ne_eq]; omega)))
  refine KO.mv rfl rfl ?_
  (refine KO.on rfl rfl ?_ ?_; (focus (simp only [decide_eq_true_eq, decide_eq_false_iff_not, Bool.not_eq_true, Bool.not_true, Bool.not_false, ne_eq]; omega)); (refine KO.mv rfl rfl ?_))
  (refine KO.on rfl rfl ?_ ?_; (focus (simp only [decide_eq_true_eq, decide_eq_false_iff_not, Bool.not_eq_true, Bool.not_true, Bool.not_false, ne_eq]; omega)); (refine KO.gtr rfl rfl rfl ?_))
  (refine KO.pickF rfl ?_ rfl rfl ?_; (focus (simp only [decide_eq_true_eq, decide_eq_false_iff_not, Bool.not_eq_true, Bool.not_true, Bool.not_false, ne_eq]; omega)))
  refine KO.nil ?_
  repeat ((with_reducible refine KQ.next ?_))
  refine K.condF rfl (by simp [y2]) ?_
  have hpa := msRight_parts hca
  have hpb := msRight_parts hcb
  repeat (first | (with_reducible refine K.seq ?_) | (with_reducible refine KQ.next ?_) | (with_reducible refine K.skip ?_))
  refine K.reg ?_
  refine KO.ldB0 rfl rfl Tryd.isAgg50 Tryd.sizeOf50 (by with_reducible (repeat (first | exact Pick.head | apply Pick.tail))) (by exact rfl) rfl ?_
  refine KO.ldB0 rfl rfl Tryd.isAgg50 Tryd.sizeOf50 (by with_reducible (repeat (first | exact Pick.head | apply Pick.tail))) (by exact rfl) rfl ?_
  refine KO.mv rfl rfl ?_
  refine KO.mv rfl rfl ?_
  refine KO.ce (cp := []) rfl rfl rfl Tryd.call34 rfl (cmp_e w _ ma mb x y (by unfold small; omega) (by unfold small; omega) (by unfold small; omega) (by unfold small; omega)) ?_; rintro v' L' ⟨rfl, rfl⟩
  refine KO.as rfl rfl ?_
  refine KO.nil ?_
  repeat (first | (with_reducible refine K.seq ?_) | (with_reducible refine KQ.next ?_))
  have hn : ∀ n : Int, n = compI ma.pri mb.pri x y → (n < 0 ↔ (mb.pri < ma.pri ∨ (ma.pri = mb.pri ∧ x < y))) ∧ (0 < n ↔ (ma.pri < mb.pri ∨ (ma.pri = mb.pri ∧ y < x))) := fun n h => by
    subst h; unfold compI; split <;> constructor <;> omega
  obtain ⟨hn1, hn2⟩ := hn _ rfl
  generalize compI ma.pri mb.pri x y = n at hn1 hn2 ⊢
  by_cases p1 : mb.pri < ma.pri
  · have p2 : ¬ ma.pri < mb.pri := by omega
    have p3 : ¬ ma.pri = mb.pri := by omega
    have q1 : n < 0 := hn1.2 (.inl p1)
    have q2 : ¬ 0 < n := by omega
    refine K.reg ?_
    refine KO.fo0 (off := 1) rfl Tryd.runUnderlying50 rfl rfl Tryd.sizeOf3 rfl ?_
    refine KO.ld rfl rfl Tryd.isAgg3 (by with_reducible (repeat (first | exact Pick.head | apply Pick.tail))) (by exact rfl) rfl ?_
    refine KO.fo0 (off := 1) rfl Tryd.runUnderlying50 rfl rfl Tryd.sizeOf3 rfl ?_
    refine KO.ld rfl rfl Tryd.isAgg3 (by with_reducible (repeat (first | exact Pick.head | apply Pick.tail))) (by exact rfl) rfl ?_
    refine KO.gtr rfl rfl rfl ?_
    refine KO.mv rfl rfl ?_
    (refine KO.no rfl rfl ?_ rfl ?_; (focus (simp only [decide_eq_true_eq, decide_eq_false_iff_not, Bool.not_eq_true, Bool.not_true, Bool.not_false, ne_eq]; omega)))
    (refine KO.no rfl rfl ?_ rfl ?_; (focus (simp only [decide_eq_true_eq, decide_eq_false_iff_not, Bool.not_eq_true, Bool.not_true, Bool.not_false, ne_eq]; omega)))
    (refine KO.no rfl rfl ?_ rfl ?_; (focus (simp only [decide_eq_true_eq, decide_eq_false_iff_not, Bool.not_eq_true, Bool.not_true, Bool.not_false, ne_eq]; omega)))
    (refine KO.no rfl rfl ?_ rfl ?_; (focus (simp only [decide_eq_true_eq, decide_eq_false_iff_not, Bool.not_eq_true, Bool.not_true, Bool.not_false, ne_eq]; omega)))
    (refine KO.no rfl rfl ?_ rfl ?_; (focus (simp only [decide_eq_true_eq, decide_eq_false_iff_not, Bool.not_eq_true, Bool.not_true, Bool.not_false, ne_eq]; omega)))
    (refine KO.no rfl rfl ?_ rfl ?_; (focus (simp only [decide_eq_true_eq, decide_eq_false_iff_not, Bool.not_eq_true, Bool.not_true, Bool.not_false, ne_eq]; omega)))
    refine KO.no2 rfl rfl rfl ?_
    refine KO.no2 rfl rfl rfl ?_
    refine KO.no2 rfl rfl rfl ?_
    (refine KO.no rfl rfl ?_ rfl ?_; (focus (simp only [decide_eq_true_eq, decide_eq_false_iff_not, Bool.not_eq_true, Bool.not_true, Bool.not_false, ne_eq]; omega)))
    (refine KO.pickT rfl ?_ rfl rfl ?_; (focus (simp only [decide_eq_true_eq, decide_eq_false_iff_not, Bool.not_eq_true, Bool.not_true, Bool.not_false, ne_eq]; omega)))
    refine KO.as rfl rfl ?_
    refine KO.nil ?_
    repeat (first | (with_reducible refine K.seq ?_) | (with_reducible refine KQ.next ?_))
    refine K.reg ?_
    refine KO.fo0 (off := 1) rfl Tryd.runUnderlying50 rfl rfl Tryd.sizeOf3 rfl ?_
    refine KO.ld rfl rfl Tryd.isAgg3 (by with_reducible (repeat (first | exact Pick.head | apply Pick.tail))) (by exact rfl) rfl ?_
    refine KO.fo0 (off := 1) rfl Tryd.runUnderlying50 rfl rfl Tryd.sizeOf3 rfl ?_
    refine KO.ld rfl rfl Tryd.isAgg3 (by with_reducible (repeat (first | exact Pick.head | apply Pick.tail))) (by exact rfl) rfl ?_
    refine KO.lss rfl rfl rfl ?_
    refine KO.mv rfl rfl ?_
    (refine KO.on rfl rfl ?_ ?_; (focus (simp only [decide_eq_true_eq, decide_eq_false_iff_not, Bool.not_eq_true, Bool.not_true, Bool.not_false, ne_eq]; omega)); (refine KO.fo0 (off := 1) rfl Tryd.runUnderlying50 rfl rfl Tryd.sizeOf3 rfl ?_))
    (refine KO.on rfl rfl ?_ ?_; (focus (simp only [decide_eq_true_eq, decide_eq_false_iff_not, Bool.not_eq_true, Bool.not_true, Bool.not_false, ne_eq]; omega)); (refine KO.ld rfl rfl Tryd.isAgg3 (by with_reducible (repeat (first | exact Pick.head | apply Pick.tail))) (by exact rfl) rfl ?_))
    (refine KO.on rfl rfl ?_ ?_; (focus (simp only [decide_eq_true_eq, decide_eq_false_iff_not, Bool.not_eq_true, Bool.not_true, Bool.not_false, ne_eq]; omega)); (refine KO.fo0 (off := 1) rfl Tryd.runUnderlying50 rfl rfl Tryd.sizeOf3 rfl ?_))
    (refine KO.on rfl rfl ?_ ?_; (focus (simp only [decide_eq_true_eq, decide_eq_false_iff_not, Bool.not_eq_true, Bool.not_true, Bool.not_false, ne_eq]; omega)); (refine KO.ld rfl rfl Tryd.isAgg3 (by with_reducible (repeat (first | exact Pick.head | apply Pick.tail))) (by exact rfl) rfl ?_))
    (refine KO.on rfl rfl ?_ ?_; (focus (simp only [decide_eq_true_eq, decide_eq_false_iff_not, Bool.not_eq_true, Bool.not_true, Bool.not_false, ne_eq]; omega)); (refine KO.eqI rfl rfl rfl ?_))
    (refine KO.on rfl rfl ?_ ?_; (focus (simp only [decide_eq_true_eq, decide_eq_false_iff_not, Bool.not_eq_true, Bool.not_true, Bool.not_false, ne_eq]; omega)); (refine KO.mv rfl rfl ?_))
    (refine KO.no rfl rfl ?_ rfl ?_; (focus (simp only [decide_eq_true_eq, decide_eq_false_iff_not, Bool.not_eq_true, Bool.not_true, Bool.not_false, ne_eq]; omega)))
    (refine KO.no rfl rfl ?_ rfl ?_; (focus (simp only [decide_eq_true_eq, decide_eq_false_iff_not, Bool.not_eq_true, Bool.not_true, Bool.not_false, ne_eq]; omega)))
    (refine KO.no rfl rfl ?_ rfl ?_; (focus (simp only [decide_eq_true_eq, decide_eq_false_iff_not, Bool.not_eq_true, Bool.not_true, Bool.not_false, ne_eq]; omega)))
    (refine KO.on rfl rfl ?_ ?_; (focus (simp only [decide_eq_true_eq, decide_eq_false_iff_not, Bool.not_eq_true, Bool.not_true, Bool.not_false, ne_eq]; omega)); ((refine KO.pickF rfl ?_ rfl rfl ?_; (focus (simp only [decide_eq_true_eq, decide_eq_false_iff_not, Bool.not_eq_true, Bool.not_true, Bool.not_false, ne_eq]; omega)))))
    (refine KO.pickF rfl ?_ rfl rfl ?_; (focus (simp only [decide_eq_true_eq, decide_eq_false_iff_not, Bool.not_eq_true, Bool.not_true, Bool.not_false, ne_eq]; omega)))
    refine KO.as rfl rfl ?_
    refine KO.nil ?_
    repeat (first | (with_reducible refine K.seq ?_) | (with_reducible refine KQ.next ?_))
    refine K.reg ?_
    refine KO.mv rfl rfl ?_
    refine KO.lss rfl rfl rfl ?_
    refine KO.mv rfl rfl ?_
    refine KO.eqB rfl rfl Tryd.underlying4 rfl ?_
    refine KO.mv rfl rfl ?_
    (refine KO.on rfl rfl ?_ ?_; (focus (simp_all; done)); (refine KO.mv rfl rfl ?_))
    (refine KO.on rfl rfl ?_ ?_; (focus (simp_all; done)); (refine KO.gtr rfl rfl rfl ?_))
    (refine KO.on rfl rfl ?_ ?_; (focus (simp_all; done)); (refine KO.mv rfl rfl ?_))
    (refine KO.on rfl rfl ?_ ?_; (focus (simp_all; done)); (refine KO.eqB rfl rfl Tryd.underlying4 rfl ?_))
    (refine KO.pickT rfl ?_ rfl rfl ?_; (focus (simp_all; done)))
    refine KO.as rfl rfl ?_
    refine KO.nil ?_
    repeat (first | (with_reducible refine KQ.next ?_) | (with_reducible refine K.ret ?_))
    refine KQ.ret1 rfl ?_ (fun w' hs => fin w' _ hs)
    simp [envAt, p1, p2, p3, q1, q2]
  by_cases p2 : ma.pri < mb.pri
  · have p3 : ¬ ma.pri = mb.pri := by omega
    have q2 : 0 < n := hn2.2 (.inl p2)
    have q1 : ¬ n < 0 := by omega
    refine K.reg ?_
    refine KO.fo0 (off := 1) rfl Tryd.runUnderlying50 rfl rfl Tryd.sizeOf3 rfl ?_
    refine KO.ld rfl rfl Tryd.isAgg3 (by with_reducible (repeat (first | exact Pick.head | apply Pick.tail))) (by exact rfl) rfl ?_
    refine KO.fo0 (off := 1) rfl Tryd.runUnderlying50 rfl rfl Tryd.sizeOf3 rfl ?_
    refine KO.ld rfl rfl Tryd.isAgg3 (by with_reducible (repeat (first | exact Pick.head | apply Pick.tail))) (by exact rfl) rfl ?_
    refine KO.gtr rfl rfl rfl ?_
    refine KO.mv rfl rfl ?_
    (refine KO.on rfl rfl ?_ ?_; (focus (simp only [decide_eq_true_eq, decide_eq_false_iff_not, Bool.not_eq_true, Bool.not_true, Bool.not_false, ne_eq]; omega)); (refine KO.fo0 (off := 1) rfl Tryd.runUnderlying50 rfl rfl Tryd.sizeOf3 rfl ?_))
    (refine KO.on rfl rfl ?_ ?_; (focus (simp only [decide_eq_true_eq, decide_eq_false_iff_not, Bool.not_eq_true, Bool.not_true, Bool.not_false, ne_eq]; omega)); (refine KO.ld rfl rfl Tryd.isAgg3 (by with_reducible (repeat (first | exact Pick.head | apply Pick.tail))) (by exact rfl) rfl ?_))
    (refine KO.on rfl rfl ?_ ?_; (focus (simp only [decide_eq_true_eq, decide_eq_false_iff_not, Bool.not_eq_true, Bool.not_true, Bool.not_false, ne_eq]; omega)); (refine KO.fo0 (off := 1) rfl Tryd.runUnderlying50 rfl rfl Tryd.sizeOf3 rfl ?_))
    (refine KO.on rfl rfl ?_ ?_; (focus (simp only [decide_eq_true_eq, decide_eq_false_iff_not, Bool.not_eq_true, Bool.not_true, Bool.not_false, ne_eq]; omega)); (refine KO.ld rfl rfl Tryd.isAgg3 (by with_reducible (repeat (first | exact Pick.head | apply Pick.tail))) (by exact rfl) rfl ?_))
    (refine KO.on rfl rfl ?_ ?_; (focus (simp only [decide_eq_true_eq, decide_eq_false_iff_not, Bool.not_eq_true, Bool.not_true, Bool.not_false, ne_eq]; omega)); (refine KO.eqI rfl rfl rfl ?_))
    (refine KO.on rfl rfl ?_ ?_; (focus (simp only [decide_eq_true_eq, decide_eq_false_iff_not, Bool.not_eq_true, Bool.not_true, Bool.not_false, ne_eq]; omega)); (refine KO.mv rfl rfl ?_))
    (refine KO.no rfl rfl ?_ rfl ?_; (focus (simp only [decide_eq_true_eq, decide_eq_false_iff_not, Bool.not_eq_true, Bool.not_true, Bool.not_false, ne_eq]; omega)))
    (refine KO.no rfl rfl ?_ rfl ?_; (focus (simp only [decide_eq_true_eq, decide_eq_false_iff_not, Bool.not_eq_true, Bool.not_true, Bool.not_false, ne_eq]; omega)))
    (refine KO.no rfl rfl ?_ rfl ?_; (focus (simp only [decide_eq_true_eq, decide_eq_false_iff_not, Bool.not_eq_true, Bool.not_true, Bool.not_false, ne_eq]; omega)))
    (refine KO.on rfl rfl ?_ ?_; (focus (simp only [decide_eq_true_eq, decide_eq_false_iff_not, Bool.not_eq_true, Bool.not_true, Bool.not_false, ne_eq]; omega)); ((refine KO.pickF rfl ?_ rfl rfl ?_; (focus (simp only [decide_eq_true_eq, decide_eq_false_iff_not, Bool.not_eq_true, Bool.not_true, Bool.not_false, ne_eq]; omega)))))
    (refine KO.pickF rfl ?_ rfl rfl ?_; (focus (simp only [decide_eq_true_eq, decide_eq_false_iff_not, Bool.not_eq_true, Bool.not_true, Bool.not_false, ne_eq]; omega)))
    refine KO.as rfl rfl ?_
    refine KO.nil ?_
    repeat (first | (with_reducible refine K.seq ?_) | (with_reducible refine KQ.next ?_))
    refine K.reg ?_
    refine KO.fo0 (off := 1) rfl Tryd.runUnderlying50 rfl rfl Tryd.sizeOf3 rfl ?_
    refine KO.ld rfl rfl Tryd.isAgg3 (by with_reducible (repeat (first | exact Pick.head | apply Pick.tail))) (by exact rfl) rfl ?_
    refine KO.fo0 (off := 1) rfl Tryd.runUnderlying50 rfl rfl Tryd.sizeOf3 rfl ?_
    refine KO.ld rfl rfl Tryd.isAgg3 (by with_reducible (repeat (first | exact Pick.head | apply Pick.tail))) (by exact rfl) rfl ?_
    refine KO.lss rfl rfl rfl ?_
    refine KO.mv rfl rfl ?_
    (refine KO.no rfl rfl ?_ rfl ?_; (focus (simp only [decide_eq_true_eq, decide_eq_false_iff_not, Bool.not_eq_true, Bool.not_true, Bool.not_false, ne_eq]; omega)))
    (refine KO.no rfl rfl ?_ rfl ?_; (focus (simp only [decide_eq_true_eq, decide_eq_false_iff_not, Bool.not_eq_true, Bool.not_true, Bool.not_false, ne_eq]; omega)))
    (refine KO.no rfl rfl ?_ rfl ?_; (focus (simp only [decide_eq_true_eq, decide_eq_false_iff_not, Bool.not_eq_true, Bool.not_true, Bool.not_false, ne_eq]; omega)))
    (refine KO.no rfl rfl ?_ rfl ?_; (focus (simp only [decide_eq_true_eq, decide_eq_false_iff_not, Bool.not_eq_true, Bool.not_true, Bool.not_false, ne_eq]; omega)))
    (refine KO.no rfl rfl ?_ rfl ?_; (focus (simp only [decide_eq_true_eq, decide_eq_false_iff_not, Bool.not_eq_true, Bool.not_true, Bool.not_false, ne_eq]; omega)))
    (refine KO.no rfl rfl ?_ rfl ?_; (focus (simp only [decide_eq_true_eq, decide_eq_false_iff_not, Bool.not_eq_true, Bool.not_true, Bool.not_false, ne_eq]; omega)))
    refine KO.no2 rfl rfl rfl ?_
    refine KO.no2 rfl rfl rfl ?_
    refine KO.no2 rfl rfl rfl ?_
    (refine KO.no rfl rfl ?_ rfl ?_; (focus (simp only [decide_eq_true_eq, decide_eq_false_iff_not, Bool.not_eq_true, Bool.not_true, Bool.not_false, ne_eq]; omega)))
    (refine KO.pickT rfl ?_ rfl rfl ?_; (focus (simp only [decide_eq_true_eq, decide_eq_false_iff_not, Bool.not_eq_true, Bool.not_true, Bool.not_false, ne_eq]; omega)))
    refine KO.as rfl rfl ?_
    refine KO.nil ?_
    repeat (first | (with_reducible refine K.seq ?_) | (with_reducible refine KQ.next ?_))
    refine K.reg ?_
    refine KO.mv rfl rfl ?_
    refine KO.lss rfl rfl rfl ?_
    refine KO.mv rfl rfl ?_
    refine KO.eqB rfl rfl Tryd.underlying4 rfl ?_
    refine KO.mv rfl rfl ?_
    (refine KO.on rfl rfl ?_ ?_; (focus (simp_all; done)); (refine KO.mv rfl rfl ?_))
    (refine KO.on rfl rfl ?_ ?_; (focus (simp_all; done)); (refine KO.gtr rfl rfl rfl ?_))
    (refine KO.on rfl rfl ?_ ?_; (focus (simp_all; done)); (refine KO.mv rfl rfl ?_))
    (refine KO.on rfl rfl ?_ ?_; (focus (simp_all; done)); (refine KO.eqB rfl rfl Tryd.underlying4 rfl ?_))
    (refine KO.pickT rfl ?_ rfl rfl ?_; (focus (simp_all; done)))
    refine KO.as rfl rfl ?_
    refine KO.nil ?_
    repeat (first | (with_reducible refine KQ.next ?_) | (with_reducible refine K.ret ?_))
    refine KQ.ret1 rfl ?_ (fun w' hs => fin w' _ hs)
    simp [envAt, p1, p2, p3, q1, q2]
  have p3 : ma.pri = mb.pri := by omega
  by_cases z1 : x < y
  · have z2 : ¬ y < x := by omega
    have q1 : n < 0 := hn1.2 (.inr ⟨p3, z1⟩)
    have q2 : ¬ 0 < n := by omega
    refine K.reg ?_
    refine KO.fo0 (off := 1) rfl Tryd.runUnderlying50 rfl rfl Tryd.sizeOf3 rfl ?_
    refine KO.ld rfl rfl Tryd.isAgg3 (by with_reducible (repeat (first | exact Pick.head | apply Pick.tail))) (by exact rfl) rfl ?_
    refine KO.fo0 (off := 1) rfl Tryd.runUnderlying50 rfl rfl Tryd.sizeOf3 rfl ?_
    refine KO.ld rfl rfl Tryd.isAgg3 (by with_reducible (repeat (first | exact Pick.head | apply Pick.tail))) (by exact rfl) rfl ?_
    refine KO.gtr rfl rfl rfl ?_
    refine KO.mv rfl rfl ?_
    (refine KO.on rfl rfl ?_ ?_; (focus (simp only [decide_eq_true_eq, decide_eq_false_iff_not, Bool.not_eq_true, Bool.not_true, Bool.not_false, ne_eq]; omega)); (refine KO.fo0 (off := 1) rfl Tryd.runUnderlying50 rfl rfl Tryd.sizeOf3 rfl ?_))
    (refine KO.on rfl rfl ?_ ?_; (focus (simp only [decide_eq_true_eq, decide_eq_false_iff_not, Bool.not_eq_true, Bool.not_true, Bool.not_false, ne_eq]; omega)); (refine KO.ld rfl rfl Tryd.isAgg3 (by with_reducible (repeat (first | exact Pick.head | apply Pick.tail))) (by exact rfl) rfl ?_))
    (refine KO.on rfl rfl ?_ ?_; (focus (simp only [decide_eq_true_eq, decide_eq_false_iff_not, Bool.not_eq_true, Bool.not_true, Bool.not_false, ne_eq]; omega)); (refine KO.fo0 (off := 1) rfl Tryd.runUnderlying50 rfl rfl Tryd.sizeOf3 rfl ?_))
    (refine KO.on rfl rfl ?_ ?_; (focus (simp only [decide_eq_true_eq, decide_eq_false_iff_not, Bool.not_eq_true, Bool.not_true, Bool.not_false, ne_eq]; omega)); (refine KO.ld rfl rfl Tryd.isAgg3 (by with_reducible (repeat (first | exact Pick.head | apply Pick.tail))) (by exact rfl) rfl ?_))
    (refine KO.on rfl rfl ?_ ?_; (focus (simp only [decide_eq_true_eq, decide_eq_false_iff_not, Bool.not_eq_true, Bool.not_true, Bool.not_false, ne_eq]; omega)); (refine KO.eqI rfl rfl rfl ?_))
    (refine KO.on rfl rfl ?_ ?_; (focus (simp only [decide_eq_true_eq, decide_eq_false_iff_not, Bool.not_eq_true, Bool.not_true, Bool.not_false, ne_eq]; omega)); (refine KO.mv rfl rfl ?_))
    (refine KO.on rfl rfl ?_ ?_; (focus (simp only [decide_eq_true_eq, decide_eq_false_iff_not, Bool.not_eq_true, Bool.not_true, Bool.not_false, ne_eq]; omega)); (refine KO.mv rfl rfl ?_))
    (refine KO.on rfl rfl ?_ ?_; (focus (simp only [decide_eq_true_eq, decide_eq_false_iff_not, Bool.not_eq_true, Bool.not_true, Bool.not_false, ne_eq]; omega)); (refine KO.mv rfl rfl ?_))
    (refine KO.on rfl rfl ?_ ?_; (focus (simp only [decide_eq_true_eq, decide_eq_false_iff_not, Bool.not_eq_true, Bool.not_true, Bool.not_false, ne_eq]; omega)); (refine KO.lss rfl rfl rfl ?_))
    (refine KO.on rfl rfl ?_ ?_; (focus (simp only [decide_eq_true_eq, decide_eq_false_iff_not, Bool.not_eq_true, Bool.not_true, Bool.not_false, ne_eq]; omega)); ((refine KO.pickT rfl ?_ rfl rfl ?_; (focus (simp only [decide_eq_true_eq, decide_eq_false_iff_not, Bool.not_eq_true, Bool.not_true, Bool.not_false, ne_eq]; omega)))))
    (refine KO.pickF rfl ?_ rfl rfl ?_; (focus (simp only [decide_eq_true_eq, decide_eq_false_iff_not, Bool.not_eq_true, Bool.not_true, Bool.not_false, ne_eq]; omega)))
    refine KO.as rfl rfl ?_
    refine KO.nil ?_
    repeat (first | (with_reducible refine K.seq ?_) | (with_reducible refine KQ.next ?_))
    refine K.reg ?_
    refine KO.fo0 (off := 1) rfl Tryd.runUnderlying50 rfl rfl Tryd.sizeOf3 rfl ?_
    refine KO.ld rfl rfl Tryd.isAgg3 (by with_reducible (repeat (first | exact Pick.head | apply Pick.tail))) (by exact rfl) rfl ?_
    refine KO.fo0 (off := 1) rfl Tryd.runUnderlying50 rfl rfl Tryd.sizeOf3 rfl ?_
    refine KO.ld rfl rfl Tryd.isAgg3 (by with_reducible (repeat (first | exact Pick.head | apply Pick.tail))) (by exact rfl) rfl ?_
    refine KO.lss rfl rfl rfl ?_
    refine KO.mv rfl rfl ?_
    (refine KO.on rfl rfl ?_ ?_; (focus (simp only [decide_eq_true_eq, decide_eq_false_iff_not, Bool.not_eq_true, Bool.not_true, Bool.not_false, ne_eq]; omega)); (refine KO.fo0 (off := 1) rfl Tryd.runUnderlying50 rfl rfl Tryd.sizeOf3 rfl ?_))
    (refine KO.on rfl rfl ?_ ?_; (focus (simp only [decide_eq_true_eq, decide_eq_false_iff_not, Bool.not_eq_true, Bool.not_true, Bool.not_false, ne_eq]; omega)); (refine KO.ld rfl rfl Tryd.isAgg3 (by with_reducible (repeat (first | exact Pick.head | apply Pick.tail))) (by exact rfl) rfl ?_))
    (refine KO.on rfl rfl ?_ ?_; (focus (simp only [decide_eq_true_eq, decide_eq_false_iff_not, Bool.not_eq_true, Bool.not_true, Bool.not_false, ne_eq]; omega)); (refine KO.fo0 (off := 1) rfl Tryd.runUnderlying50 rfl rfl Tryd.sizeOf3 rfl ?_))
    (refine KO.on rfl rfl ?_ ?_; (focus (simp only [decide_eq_true_eq, decide_eq_false_iff_not, Bool.not_eq_true, Bool.not_true, Bool.not_false, ne_eq]; omega)); (refine KO.ld rfl rfl Tryd.isAgg3 (by with_reducible (repeat (first | exact Pick.head | apply Pick.tail))) (by exact rfl) rfl ?_))
    (refine KO.on rfl rfl ?_ ?_; (focus (simp only [decide_eq_true_eq, decide_eq_false_iff_not, Bool.not_eq_true, Bool.not_true, Bool.not_false, ne_eq]; omega)); (refine KO.eqI rfl rfl rfl ?_))
    (refine KO.on rfl rfl ?_ ?_; (focus (simp only [decide_eq_true_eq, decide_eq_false_iff_not, Bool.not_eq_true, Bool.not_true, Bool.not_false, ne_eq]; omega)); (refine KO.mv rfl rfl ?_))
    (refine KO.on rfl rfl ?_ ?_; (focus (simp only [decide_eq_true_eq, decide_eq_false_iff_not, Bool.not_eq_true, Bool.not_true, Bool.not_false, ne_eq]; omega)); (refine KO.mv rfl rfl ?_))
    (refine KO.on rfl rfl ?_ ?_; (focus (simp only [decide_eq_true_eq, decide_eq_false_iff_not, Bool.not_eq_true, Bool.not_true, Bool.not_false, ne_eq]; omega)); (refine KO.mv rfl rfl ?_))
    (refine KO.on rfl rfl ?_ ?_; (focus (simp only [decide_eq_true_eq, decide_eq_false_iff_not, Bool.not_eq_true, Bool.not_true, Bool.not_false, ne_eq]; omega)); (refine KO.gtr rfl rfl rfl ?_))
    (refine KO.on rfl rfl ?_ ?_; (focus (simp only [decide_eq_true_eq, decide_eq_false_iff_not, Bool.not_eq_true, Bool.not_true, Bool.not_false, ne_eq]; omega)); ((refine KO.pickT rfl ?_ rfl rfl ?_; (focus (simp only [decide_eq_true_eq, decide_eq_false_iff_not, Bool.not_eq_true, Bool.not_true, Bool.not_false, ne_eq]; omega)))))
    (refine KO.pickF rfl ?_ rfl rfl ?_; (focus (simp only [decide_eq_true_eq, decide_eq_false_iff_not, Bool.not_eq_true, Bool.not_true, Bool.not_false, ne_eq]; omega)))
    refine KO.as rfl rfl ?_
    refine KO.nil ?_
    repeat (first | (with_reducible refine K.seq ?_) | (with_reducible refine KQ.next ?_))
    have g1 : (decide (n < 0) == decide (x < y)) = true := by simp [q1, z1]
    refine K.reg ?_
    refine KO.mv rfl rfl ?_
    refine KO.lss rfl rfl rfl ?_
    refine KO.mv rfl rfl ?_
    refine KO.eqB rfl rfl Tryd.underlying4 rfl ?_
    refine KO.mv rfl rfl ?_
    (refine KO.on rfl rfl ?_ ?_; (focus assumption); (refine KO.mv rfl rfl ?_))
    (refine KO.on rfl rfl ?_ ?_; (focus assumption); (refine KO.gtr rfl rfl rfl ?_))
    (refine KO.on rfl rfl ?_ ?_; (focus assumption); (refine KO.mv rfl rfl ?_))
    (refine KO.on rfl rfl ?_ ?_; (focus assumption); (refine KO.eqB rfl rfl Tryd.underlying4 rfl ?_))
    (refine KO.pickT rfl ?_ rfl rfl ?_; (focus assumption))
    refine KO.as rfl rfl ?_
    refine KO.nil ?_
    repeat (first | (with_reducible refine KQ.next ?_) | (with_reducible refine K.ret ?_))
    refine KQ.ret1 rfl ?_ (fun w' hs => fin w' _ hs)
    simp [envAt, p3, z1, z2, q1, q2]
  by_cases z2 : y < x
  · have q2 : 0 < n := hn2.2 (.inr ⟨p3, z2⟩)
    have q1 : ¬ n < 0 := by omega
    refine K.reg ?_
    refine KO.fo0 (off := 1) rfl Tryd.runUnderlying50 rfl rfl Tryd.sizeOf3 rfl ?_
    refine KO.ld rfl rfl Tryd.isAgg3 (by with_reducible (repeat (first | exact Pick.head | apply Pick.tail))) (by exact rfl) rfl ?_
    refine KO.fo0 (off := 1) rfl Tryd.runUnderlying50 rfl rfl Tryd.sizeOf3 rfl ?_
    refine KO.ld rfl rfl Tryd.isAgg3 (by with_reducible (repeat (first | exact Pick.head | apply Pick.tail))) (by exact rfl) rfl ?_
    refine KO.gtr rfl rfl rfl ?_
    refine KO.mv rfl rfl ?_
    (refine KO.on rfl rfl ?_ ?_; (focus (simp only [decide_eq_true_eq, decide_eq_false_iff_not, Bool.not_eq_true, Bool.not_true, Bool.not_false, ne_eq]; omega)); (refine KO.fo0 (off := 1) rfl Tryd.runUnderlying50 rfl rfl Tryd.sizeOf3 rfl ?_))
    (refine KO.on rfl rfl ?_ ?_; (focus (simp only [decide_eq_true_eq, decide_eq_false_iff_not, Bool.not_eq_true, Bool.not_true, Bool.not_false, ne_eq]; omega)); (refine KO.ld rfl rfl Tryd.isAgg3 (by with_reducible (repeat (first | exact Pick.head | apply Pick.tail))) (by exact rfl) rfl ?_))
    (refine KO.on rfl rfl ?_ ?_; (focus (simp only [decide_eq_true_eq, decide_eq_false_iff_not, Bool.not_eq_true, Bool.not_true, Bool.not_false, ne_eq]; omega)); (refine KO.fo0 (off := 1) rfl Tryd.runUnderlying50 rfl rfl Tryd.sizeOf3 rfl ?_))
    (refine KO.on rfl rfl ?_ ?_; (focus (simp only [decide_eq_true_eq, decide_eq_false_iff_not, Bool.not_eq_true, Bool.not_true, Bool.not_false, ne_eq]; omega)); (refine KO.ld rfl rfl Tryd.isAgg3 (by with_reducible (repeat (first | exact Pick.head | apply Pick.tail))) (by exact rfl) rfl ?_))
    (refine KO.on rfl rfl ?_ ?_; (focus (simp only [decide_eq_true_eq, decide_eq_false_iff_not, Bool.not_eq_true, Bool.not_true, Bool.not_false, ne_eq]; omega)); (refine KO.eqI rfl rfl rfl ?_))
    (refine KO.on rfl rfl ?_ ?_; (focus (simp only [decide_eq_true_eq, decide_eq_false_iff_not, Bool.not_eq_true, Bool.not_true, Bool.not_false, ne_eq]; omega)); (refine KO.mv rfl rfl ?_))
    (refine KO.on rfl rfl ?_ ?_; (focus (simp only [decide_eq_true_eq, decide_eq_false_iff_not, Bool.not_eq_true, Bool.not_true, Bool.not_false, ne_eq]; omega)); (refine KO.mv rfl rfl ?_))
    (refine KO.on rfl rfl ?_ ?_; (focus (simp only [decide_eq_true_eq, decide_eq_false_iff_not, Bool.not_eq_true, Bool.not_true, Bool.not_false, ne_eq]; omega)); (refine KO.mv rfl rfl ?_))
    (refine KO.on rfl rfl ?_ ?_; (focus (simp only [decide_eq_true_eq, decide_eq_false_iff_not, Bool.not_eq_true, Bool.not_true, Bool.not_false, ne_eq]; omega)); (refine KO.lss rfl rfl rfl ?_))
    (refine KO.on rfl rfl ?_ ?_; (focus (simp only [decide_eq_true_eq, decide_eq_false_iff_not, Bool.not_eq_true, Bool.not_true, Bool.not_false, ne_eq]; omega)); ((refine KO.pickT rfl ?_ rfl rfl ?_; (focus (simp only [decide_eq_true_eq, decide_eq_false_iff_not, Bool.not_eq_true, Bool.not_true, Bool.not_false, ne_eq]; omega)))))
    (refine KO.pickF rfl ?_ rfl rfl ?_; (focus (simp only [decide_eq_true_eq, decide_eq_false_iff_not, Bool.not_eq_true, Bool.not_true, Bool.not_false, ne_eq]; omega)))
    refine KO.as rfl rfl ?_
    refine KO.nil ?_
    repeat (first | (with_reducible refine K.seq ?_) | (with_reducible refine KQ.next ?_))
    refine K.reg ?_
    refine KO.fo0 (off := 1) rfl Tryd.runUnderlying50 rfl rfl Tryd.sizeOf3 rfl ?_
    refine KO.ld rfl rfl Tryd.isAgg3 (by with_reducible (repeat (first | exact Pick.head | apply Pick.tail))) (by exact rfl) rfl ?_
    refine KO.fo0 (off := 1) rfl Tryd.runUnderlying50 rfl rfl Tryd.sizeOf3 rfl ?_
    refine KO.ld rfl rfl Tryd.isAgg3 (by with_reducible (repeat (first | exact Pick.head | apply Pick.tail))) (by exact rfl) rfl ?_
    refine KO.lss rfl rfl rfl ?_
    refine KO.mv rfl rfl ?_
    (refine KO.on rfl rfl ?_ ?_; (focus (simp only [decide_eq_true_eq, decide_eq_false_iff_not, Bool.not_eq_true, Bool.not_true, Bool.not_false, ne_eq]; omega)); (refine KO.fo0 (off := 1) rfl Tryd.runUnderlying50 rfl rfl Tryd.sizeOf3 rfl ?_))
    (refine KO.on rfl rfl ?_ ?_; (focus (simp only [decide_eq_true_eq, decide_eq_false_iff_not, Bool.not_eq_true, Bool.not_true, Bool.not_false, ne_eq]; omega)); (refine KO.ld rfl rfl Tryd.isAgg3 (by with_reducible (repeat (first | exact Pick.head | apply Pick.tail))) (by exact rfl) rfl ?_))
    (refine KO.on rfl rfl ?_ ?_; (focus (simp only [decide_eq_true_eq, decide_eq_false_iff_not, Bool.not_eq_true, Bool.not_true, Bool.not_false, ne_eq]; omega)); (refine KO.fo0 (off := 1) rfl Tryd.runUnderlying50 rfl rfl Tryd.sizeOf3 rfl ?_))
    (refine KO.on rfl rfl ?_ ?_; (focus (simp only [decide_eq_true_eq, decide_eq_false_iff_not, Bool.not_eq_true, Bool.not_true, Bool.not_false, ne_eq]; omega)); (refine KO.ld rfl rfl Tryd.isAgg3 (by with_reducible (repeat (first | exact Pick.head | apply Pick.tail))) (by exact rfl) rfl ?_))
    (refine KO.on rfl rfl ?_ ?_; (focus (simp only [decide_eq_true_eq, decide_eq_false_iff_not, Bool.not_eq_true, Bool.not_true, Bool.not_false, ne_eq]; omega)); (refine KO.eqI rfl rfl rfl ?_))
    (refine KO.on rfl rfl ?_ ?_; (focus (simp only [decide_eq_true_eq, decide_eq_false_iff_not, Bool.not_eq_true, Bool.not_true, Bool.not_false, ne_eq]; omega)); (refine KO.mv rfl rfl ?_))
    (refine KO.on rfl rfl ?_ ?_; (focus (simp only [decide_eq_true_eq, decide_eq_false_iff_not, Bool.not_eq_true, Bool.not_true, Bool.not_false, ne_eq]; omega)); (refine KO.mv rfl rfl ?_))
    (refine KO.on rfl rfl ?_ ?_; (focus (simp only [decide_eq_true_eq, decide_eq_false_iff_not, Bool.not_eq_true, Bool.not_true, Bool.not_false, ne_eq]; omega)); (refine KO.mv rfl rfl ?_))
    (refine KO.on rfl rfl ?_ ?_; (focus (simp only [decide_eq_true_eq, decide_eq_false_iff_not, Bool.not_eq_true, Bool.not_true, Bool.not_false, ne_eq]; omega)); (refine KO.gtr rfl rfl rfl ?_))
    (refine KO.on rfl rfl ?_ ?_; (focus (simp only [decide_eq_true_eq, decide_eq_false_iff_not, Bool.not_eq_true, Bool.not_true, Bool.not_false, ne_eq]; omega)); ((refine KO.pickT rfl ?_ rfl rfl ?_; (focus (simp only [decide_eq_true_eq, decide_eq_false_iff_not, Bool.not_eq_true, Bool.not_true, Bool.not_false, ne_eq]; omega)))))
    (refine KO.pickF rfl ?_ rfl rfl ?_; (focus (simp only [decide_eq_true_eq, decide_eq_false_iff_not, Bool.not_eq_true, Bool.not_true, Bool.not_false, ne_eq]; omega)))
    refine KO.as rfl rfl ?_
    refine KO.nil ?_
    repeat (first | (with_reducible refine K.seq ?_) | (with_reducible refine KQ.next ?_))
    have g1 : (decide (n < 0) == decide (x < y)) = true := by simp [q1, z1]
    refine K.reg ?_
    refine KO.mv rfl rfl ?_
    refine KO.lss rfl rfl rfl ?_
    refine KO.mv rfl rfl ?_
    refine KO.eqB rfl rfl Tryd.underlying4 rfl ?_
    refine KO.mv rfl rfl ?_
    (refine KO.on rfl rfl ?_ ?_; (focus assumption); (refine KO.mv rfl rfl ?_))
    (refine KO.on rfl rfl ?_ ?_; (focus assumption); (refine KO.gtr rfl rfl rfl ?_))
    (refine KO.on rfl rfl ?_ ?_; (focus assumption); (refine KO.mv rfl rfl ?_))
    (refine KO.on rfl rfl ?_ ?_; (focus assumption); (refine KO.eqB rfl rfl Tryd.underlying4 rfl ?_))
    (refine KO.pickT rfl ?_ rfl rfl ?_; (focus assumption))
    refine KO.as rfl rfl ?_
    refine KO.nil ?_
    repeat (first | (with_reducible refine KQ.next ?_) | (with_reducible refine K.ret ?_))
    refine KQ.ret1 rfl ?_ (fun w' hs => fin w' _ hs)
    simp [envAt, p3, z1, z2, q1, q2]
  · have q1 : ¬ n < 0 := fun h => by have := hn1.1 h; omega
    have q2 : ¬ 0 < n := fun h => by have := hn2.1 h; omega
    refine K.reg ?_
    refine KO.fo0 (off := 1) rfl Tryd.runUnderlying50 rfl rfl Tryd.sizeOf3 rfl ?_
    refine KO.ld rfl rfl Tryd.isAgg3 (by with_reducible (repeat (first | exact Pick.head | apply Pick.tail))) (by exact rfl) rfl ?_
    refine KO.fo0 (off := 1) rfl Tryd.runUnderlying50 rfl rfl Tryd.sizeOf3 rfl ?_
    refine KO.ld rfl rfl Tryd.isAgg3 (by with_reducible (repeat (first | exact Pick.head | apply Pick.tail))) (by exact rfl) rfl ?_
    refine KO.gtr rfl rfl rfl ?_
    refine KO.mv rfl rfl ?_
    (refine KO.on rfl rfl ?_ ?_; (focus (simp only [decide_eq_true_eq, decide_eq_false_iff_not, Bool.not_eq_true, Bool.not_true, Bool.not_false, ne_eq]; omega)); (refine KO.fo0 (off := 1) rfl Tryd.runUnderlying50 rfl rfl Tryd.sizeOf3 rfl ?_))
    (refine KO.on rfl rfl ?_ ?_; (focus (simp only [decide_eq_true_eq, decide_eq_false_iff_not, Bool.not_eq_true, Bool.not_true, Bool.not_false, ne_eq]; omega)); (refine KO.ld rfl rfl Tryd.isAgg3 (by with_reducible (repeat (first | exact Pick.head | apply Pick.tail))) (by exact rfl) rfl ?_))
    (refine KO.on rfl rfl ?_ ?_; (focus (simp only [decide_eq_true_eq, decide_eq_false_iff_not, Bool.not_eq_true, Bool.not_true, Bool.not_false, ne_eq]; omega)); (refine KO.fo0 (off := 1) rfl Tryd.runUnderlying50 rfl rfl Tryd.sizeOf3 rfl ?_))
    (refine KO.on rfl rfl ?_ ?_; (focus (simp only [decide_eq_true_eq, decide_eq_false_iff_not, Bool.not_eq_true, Bool.not_true, Bool.not_false, ne_eq]; omega)); (refine KO.ld rfl rfl Tryd.isAgg3 (by with_reducible (repeat (first | exact Pick.head | apply Pick.tail))) (by exact rfl) rfl ?_))
    (refine KO.on rfl rfl ?_ ?_; (focus (simp only [decide_eq_true_eq, decide_eq_false_iff_not, Bool.not_eq_true, Bool.not_true, Bool.not_false, ne_eq]; omega)); (refine KO.eqI rfl rfl rfl ?_))
    (refine KO.on rfl rfl ?_ ?_; (focus (simp only [decide_eq_true_eq, decide_eq_false_iff_not, Bool.not_eq_true, Bool.not_true, Bool.not_false, ne_eq]; omega)); (refine KO.mv rfl rfl ?_))
    (refine KO.on rfl rfl ?_ ?_; (focus (simp only [decide_eq_true_eq, decide_eq_false_iff_not, Bool.not_eq_true, Bool.not_true, Bool.not_false, ne_eq]; omega)); (refine KO.mv rfl rfl ?_))
    (refine KO.on rfl rfl ?_ ?_; (focus (simp only [decide_eq_true_eq, decide_eq_false_iff_not, Bool.not_eq_true, Bool.not_true, Bool.not_false, ne_eq]; omega)); (refine KO.mv rfl rfl ?_))
    (refine KO.on rfl rfl ?_ ?_; (focus (simp only [decide_eq_true_eq, decide_eq_false_iff_not, Bool.not_eq_true, Bool.not_true, Bool.not_false, ne_eq]; omega)); (refine KO.lss rfl rfl rfl ?_))
    (refine KO.on rfl rfl ?_ ?_; (focus (simp only [decide_eq_true_eq, decide_eq_false_iff_not, Bool.not_eq_true, Bool.not_true, Bool.not_false, ne_eq]; omega)); ((refine KO.pickT rfl ?_ rfl rfl ?_; (focus (simp only [decide_eq_true_eq, decide_eq_false_iff_not, Bool.not_eq_true, Bool.not_true, Bool.not_false, ne_eq]; omega)))))
    (refine KO.pickF rfl ?_ rfl rfl ?_; (focus (simp only [decide_eq_true_eq, decide_eq_false_iff_not, Bool.not_eq_true, Bool.not_true, Bool.not_false, ne_eq]; omega)))
    refine KO.as rfl rfl ?_
    refine KO.nil ?_
    repeat (first | (with_reducible refine K.seq ?_) | (with_reducible refine KQ.next ?_))
    refine K.reg ?_
    refine KO.fo0 (off := 1) rfl Tryd.runUnderlying50 rfl rfl Tryd.sizeOf3 rfl ?_
    refine KO.ld rfl rfl Tryd.isAgg3 (by with_reducible (repeat (first | exact Pick.head | apply Pick.tail))) (by exact rfl) rfl ?_
    refine KO.fo0 (off := 1) rfl Tryd.runUnderlying50 rfl rfl Tryd.sizeOf3 rfl ?_
    refine KO.ld rfl rfl Tryd.isAgg3 (by with_reducible (repeat (first | exact Pick.head | apply Pick.tail))) (by exact rfl) rfl ?_
    refine KO.lss rfl rfl rfl ?_
    refine KO.mv rfl rfl ?_
    (refine KO.on rfl rfl ?_ ?_; (focus (simp only [decide_eq_true_eq, decide_eq_false_iff_not, Bool.not_eq_true, Bool.not_true, Bool.not_false, ne_eq]; omega)); (refine KO.fo0 (off := 1) rfl Tryd.runUnderlying50 rfl rfl Tryd.sizeOf3 rfl ?_))
    (refine KO.on rfl rfl ?_ ?_; (focus (simp only [decide_eq_true_eq, decide_eq_false_iff_not, Bool.not_eq_true, Bool.not_true, Bool.not_false, ne_eq]; omega)); (refine KO.ld rfl rfl Tryd.isAgg3 (by with_reducible (repeat (first | exact Pick.head | apply Pick.tail))) (by exact rfl) rfl ?_))
    (refine KO.on rfl rfl ?_ ?_; (focus (simp only [decide_eq_true_eq, decide_eq_false_iff_not, Bool.not_eq_true, Bool.not_true, Bool.not_false, ne_eq]; omega)); (refine KO.fo0 (off := 1) rfl Tryd.runUnderlying50 rfl rfl Tryd.sizeOf3 rfl ?_))
    (refine KO.on rfl rfl ?_ ?_; (focus (simp only [decide_eq_true_eq, decide_eq_false_iff_not, Bool.not_eq_true, Bool.not_true, Bool.not_false, ne_eq]; omega)); (refine KO.ld rfl rfl Tryd.isAgg3 (by with_reducible (repeat (first | exact Pick.head | apply Pick.tail))) (by exact rfl) rfl ?_))
    (refine KO.on rfl rfl ?_ ?_; (focus (simp only [decide_eq_true_eq, decide_eq_false_iff_not, Bool.not_eq_true, Bool.not_true, Bool.not_false, ne_eq]; omega)); (refine KO.eqI rfl rfl rfl ?_))
    (refine KO.on rfl rfl ?_ ?_; (focus (simp only [decide_eq_true_eq, decide_eq_false_iff_not, Bool.not_eq_true, Bool.not_true, Bool.not_false, ne_eq]; omega)); (refine KO.mv rfl rfl ?_))
    (refine KO.on rfl rfl ?_ ?_; (focus (simp only [decide_eq_true_eq, decide_eq_false_iff_not, Bool.not_eq_true, Bool.not_true, Bool.not_false, ne_eq]; omega)); (refine KO.mv rfl rfl ?_))
    (refine KO.on rfl rfl ?_ ?_; (focus (simp only [decide_eq_true_eq, decide_eq_false_iff_not, Bool.not_eq_true, Bool.not_true, Bool.not_false, ne_eq]; omega)); (refine KO.mv rfl rfl ?_))
    (refine KO.on rfl rfl ?_ ?_; (focus (simp only [decide_eq_true_eq, decide_eq_false_iff_not, Bool.not_eq_true, Bool.not_true, Bool.not_false, ne_eq]; omega)); (refine KO.gtr rfl rfl rfl ?_))
    (refine KO.on rfl rfl ?_ ?_; (focus (simp only [decide_eq_true_eq, decide_eq_false_iff_not, Bool.not_eq_true, Bool.not_true, Bool.not_false, ne_eq]; omega)); ((refine KO.pickT rfl ?_ rfl rfl ?_; (focus (simp only [decide_eq_true_eq, decide_eq_false_iff_not, Bool.not_eq_true, Bool.not_true, Bool.not_false, ne_eq]; omega)))))
    (refine KO.pickF rfl ?_ rfl rfl ?_; (focus (simp only [decide_eq_true_eq, decide_eq_false_iff_not, Bool.not_eq_true, Bool.not_true, Bool.not_false, ne_eq]; omega)))
    refine KO.as rfl rfl ?_
    refine KO.nil ?_
    repeat (first | (with_reducible refine K.seq ?_) | (with_reducible refine KQ.next ?_))
    have g1 : (decide (n < 0) == decide (x < y)) = true := by simp [q1, z1]
    refine K.reg ?_
    refine KO.mv rfl rfl ?_
    refine KO.lss rfl rfl rfl ?_
    refine KO.mv rfl rfl ?_
    refine KO.eqB rfl rfl Tryd.underlying4 rfl ?_
    refine KO.mv rfl rfl ?_
    (refine KO.on rfl rfl ?_ ?_; (focus assumption); (refine KO.mv rfl rfl ?_))
    (refine KO.on rfl rfl ?_ ?_; (focus assumption); (refine KO.gtr rfl rfl rfl ?_))
    (refine KO.on rfl rfl ?_ ?_; (focus assumption); (refine KO.mv rfl rfl ?_))
    (refine KO.on rfl rfl ?_ ?_; (focus assumption); (refine KO.eqB rfl rfl Tryd.underlying4 rfl ?_))
    (refine KO.pickT rfl ?_ rfl rfl ?_; (focus assumption))
    refine KO.as rfl rfl ?_
    refine KO.nil ?_
    repeat (first | (with_reducible refine KQ.next ?_) | (with_reducible refine K.ret ?_))
    refine KQ.ret1 rfl ?_ (fun w' hs => fin w' _ hs)
    simp [envAt, p3, z1, z2, q1, q2]
end Go.Proofs.YtjhogocabcdjbaaDoor
/- frames' text: plain -/
namespace WB
open Go
structure Fr where
  frm : Int
  num : Int
  ack : Bool
def frC (f : Fr) (v : Value) : List Value := [.int .i64 f.frm, .int .i64 f.num, .bool f.ack, v]
def colon : ByteArray := ⟨#[58]⟩
def kindS (a : Bool) : ByteArray := if a then ⟨#[97]⟩ else ⟨#[98]⟩
def frS (f : Fr) (xs : List Ms) : ByteArray := joinS [kindS f.ack, itoaS f.frm, itoaS f.num, writeS xs] colon
def okF (f : Fr) (xs : List Ms) : Prop := 0 ≤ f.frm ∧ f.frm ≤ 3 ∧ 0 ≤ f.num ∧ f.num ≤ 1099511627776 ∧ f.ack = decide (xs.length = 0) ∧ xs.length ≤ 3 ∧ badI xs = none
instance (f : Fr) (xs : List Ms) : Decidable (okF f xs) := by unfold okF; infer_instance
def fwE (f : Fr) (xs : List Ms) : Int := if okF f xs then 0 else 1
def fwT (f : Fr) (xs : List Ms) : ByteArray := if okF f xs then frS f xs else ⟨#[]⟩
theorem joinS_four (a b c d s : ByteArray) : joinS [a, b, c, d] s = a ++ s ++ b ++ s ++ c ++ s ++ d := by
  rw [joinS_cons2, joinS_cons2, joinS_two]
  simp only [cat_assoc]
theorem fw_bad {f : Fr} {xs : List Ms} (h : ¬ okF f xs) : fwE f xs = 1 ∧ fwT f xs = ⟨#[]⟩ := ⟨if_neg h, if_neg h⟩
theorem fw_ok {f : Fr} {xs : List Ms} (h : okF f xs) : fwE f xs = 0 ∧ fwT f xs = frS f xs := ⟨if_pos h, if_pos h⟩
theorem writeT_ok {xs : List Ms} (h : badI xs = none) : writeT xs = writeS xs ∧ writeE xs = 0 := by unfold writeT writeE; rw [h]; exact ⟨rfl, rfl⟩
theorem writeE_bad {xs : List Ms} (h : badI xs ≠ none) : writeE xs = 1 := by
  unfold writeE
  cases hb : badI xs with
  | none => exact absurd hb h
  | some k => rfl
end WB
