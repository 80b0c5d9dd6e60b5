import Derived.Stop.Asserts
import Derived.Maps.OwnOps
import Derived.Test.YtjhogocabcdjbaaGreatDoorB1
set_option linter.unusedSimpArgs false
set_option linter.unusedVariables false
/- what the laws ask: pick, plain.Same, api.Tell; lined. -/
namespace Go.Proofs.YtjhogocabcdjbaaGreatDoor
open Go Go.RowKit WB
theorem tell_e (w0 : World) (L : List HP) (k : Int) (hg : ErrType w0) : KE Tryz.prog 177 #[errV 39 k] w0 L (fun u L' => u = .int .i64 k ∧ L' = L) := KE.of_below fun w hw => by
  unfold errV
  split
  · next h => subst h; exact tell_nil w
  · exact tell_errno k w ((Ext.of_below hw.below).cell hg)
theorem ms_eq (a b : Ms) (w : World) : (Op.equalIn 10000 31 (.agg (msC a).toArray) (.agg (msC b).toArray)).run Tryz.prog w = .ok (decide (a = b)) w := by
  rw [run_equalIn_agg w 9999 31 _ _ (by kernel_rfl) (by kernel_rfl), ← ms_bools]
  simp only [Program.fieldsOf, Tryz.underlying31]
  refine eqF_int (by decide) Tryz.underlying3 (Tryz.isAgg3 w) rfl rfl (eqF_int (by decide) Tryz.underlying3 (Tryz.isAgg3 w) rfl rfl (eqF_str (by decide) Tryz.underlying9 (Tryz.isAgg9 w) rfl rfl (eqF_str (by decide) Tryz.underlying9 (Tryz.isAgg9 w) rfl rfl (eqF_int (by decide) Tryz.underlying3 (Tryz.isAgg3 w) rfl rfl eqF_nil))))
theorem same_e (w0 : World) (L : List HP) (v1 v2 : Value) (xs ys : List Ms) (h1 : ∀ w, St w0 L w → RdS w 5 msC v1 xs) (h2 : ∀ w, St w0 L w → RdS w 5 msC v2 ys) (hx : xs.length < 1000000) (hy : ys.length < 1000000) :
    KE Tryz.prog 22 #[v1, v2] w0 L (fun u M => u = .bool (decide (xs = ys)) ∧ M = L) := by
  refine KE.mk (n := 26) Tryz.func22 rfl Tryz.ntmps22 (by simp) ?_
  intro w hw
  obtain ⟨a1, c1, rfl, ha1, hc1⟩ := h1 w hw
  obtain ⟨a2, c2, rfl, ha2, hc2⟩ := h2 w hw
  have fin : ∀ (b : Bool) (w' : World) (M : List HP), b = decide (xs = ys) → St w M w' → ∃ v L', Ending.returned (.bool b) = Ending.returned v ∧ (v = .bool (decide (xs = ys)) ∧ L' = L) ∧ St w0 L' w' ∧ Below w.heap.size w w' := fun b w' M e hs => ⟨_, _, rfl, ⟨by rw [e], rfl⟩, hw.below_step hs.below, hs.below⟩
  repeat ((with_reducible refine K.seq ?_))
  refine K.reg ?_
  refine KO.as rfl rfl ?_
  refine KO.nil ?_
  repeat (first | (with_reducible refine K.seq ?_) | (with_reducible refine KQ.next ?_))
  refine K.reg ?_
  refine KO.mv rfl rfl ?_
  refine KO.len rfl Tryz.underlying50 rfl ?_
  refine KO.mv rfl rfl ?_
  refine KO.len rfl Tryz.underlying50 rfl ?_
  refine KO.neI rfl rfl rfl ?_
  refine KO.nil ?_
  repeat ((with_reducible refine KQ.next ?_))
  refine K.condD rfl (fun h => ?_) (fun h => ?_)
  · repeat ((with_reducible refine K.seq ?_))
    refine K.reg ?_
    refine KO.as rfl rfl ?_
    refine KO.nil ?_
    repeat (first | (with_reducible refine KQ.next ?_) | (with_reducible refine KQ.then_ret ?_) | (with_reducible refine K.ret ?_))
    refine KQ.ret1 rfl rfl (fun w' hs => fin _ w' _ (by rw [eq_comm, decide_eq_false_iff_not]; rintro rfl; exact h rfl) hs)
  · have hlen : xs.length = ys.length := by omega
    repeat (first | (with_reducible refine K.seq ?_) | (with_reducible refine KQ.next ?_) | (with_reducible refine K.skip ?_))
    refine K.reg ?_
    refine KO.mv rfl rfl ?_
    refine KO.len rfl Tryz.underlying50 rfl ?_
    refine KO.mv rfl rfl ?_
    refine KO.nil ?_
    repeat (first | (with_reducible refine KQ.next ?_) | (with_reducible refine K.block ?_))
    refine K.loop (fun k : Nat => [(0, .slice a1 xs.length c1), (1, .slice a2 ys.length c2), (4, .bool false), (12, .int .i64 (xs.length : Nat)), (13, .int .i64 (k : Nat))]) (fun _ => []) (fun k => k ≤ xs.length ∧ xs.take k = ys.take k) (fun k => xs.length - k) 0
      ⟨Nat.zero_le _, rfl⟩ ⟨rfl, rfl, rfl, rfl, rfl, trivial⟩ (fun _ h => h) ?_
    rintro k ⟨hk, hkk⟩
    repeat ((with_reducible refine K.seq ?_))
    refine K.reg ?_
    refine KO.lss rfl rfl rfl ?_
    refine KO.nil ?_
    repeat (first | (with_reducible refine K.seq ?_) | (with_reducible refine KQ.next ?_))
    refine K.condD rfl (fun h3 => ?_) (fun h3 => ?_)
    · obtain ⟨g1, rfl⟩ := ha1 (by omega)
      obtain ⟨g2, rfl⟩ := ha2 (by omega)
      obtain ⟨e1, he1⟩ : ∃ e, xs[k]? = some e := ⟨xs[k], List.getElem?_eq_getElem (by omega)⟩
      obtain ⟨e2, he2⟩ : ∃ e, ys[k]? = some e := ⟨ys[k], List.getElem?_eq_getElem (by omega)⟩
      repeat (first | (with_reducible refine K.seq ?_) | (with_reducible refine KQ.next ?_) | (with_reducible refine K.skip ?_) | (with_reducible refine K.block ?_))
      refine K.reg ?_
      refine KO.mv rfl rfl ?_
      refine KO.as rfl rfl ?_
      refine KO.nil ?_
      repeat (first | (with_reducible refine K.seq ?_) | (with_reducible refine KQ.next ?_))
      refine K.draw [.pure, .pure, .pure, .read, .pure, .pure, .pure, .read, .pure] [0, 1, 2, 3, 4, 5, 6, 7, 8] (by kernel_rfl) (by kernel_rfl) ?_
      refine KO.mv rfl rfl ?_
      refine KO.mv rfl rfl ?_
      refine KO.idx0 rfl rfl Tryz.runUnderlying50 Tryz.sizeOf31 (by exact rfl) (by omega) rfl ?_
      refine KO.ldN0 (cs := (msC e1).toArray) rfl rfl Tryz.isAgg31 Tryz.sizeOf31 rfl (hc1 g1 rfl k e1 he1) rfl ?_
      refine KO.mv rfl rfl ?_
      refine KO.mv rfl rfl ?_
      refine KO.idx0 rfl rfl Tryz.runUnderlying50 Tryz.sizeOf31 (by exact rfl) (by omega) rfl ?_
      refine KO.ldN0 (cs := (msC e2).toArray) rfl rfl Tryz.isAgg31 Tryz.sizeOf31 rfl (hc2 g2 rfl k e2 he2) rfl ?_
      refine KO.neA rfl rfl (by kernel_rfl) (ms_eq e1 e2) rfl ?_
      refine KO.nil ?_
      repeat ((with_reducible refine KQ.next ?_))
      refine K.cond rfl (fun h4 => ?_) (fun h4 => ?_)
      · repeat ((with_reducible refine K.seq ?_))
        refine K.reg ?_
        refine KO.as rfl rfl ?_
        refine KO.nil ?_
        repeat (first | (with_reducible refine KQ.next ?_) | (with_reducible refine KQ.then_ret ?_) | (with_reducible refine KQ.blk_ret ?_) | (with_reducible refine K.ret ?_))
        refine KQ.ret1 rfl rfl (fun w' hs => fin _ w' _ ?_ hs)
        rw [eq_comm, decide_eq_false_iff_not]
        rintro rfl
        rw [he1] at he2
        simp only [Option.some.injEq] at he2
        simp [he2] at h4
      · have e12 : e1 = e2 := by simpa using h4
        repeat (first | (with_reducible refine KQ.next ?_) | (with_reducible refine KQ.blk_normal ?_) | (with_reducible refine K.skip ?_))
        refine K.reg ?_
        refine KO.add rfl rfl rfl (by omega) rfl ?_
        refine KO.mv rfl rfl ?_
        refine KO.nil ?_
        refine KQ.round (k + 1) ⟨by omega, by rw [take_succ_some he1, take_succ_some he2, hkk, e12]⟩ (by omega) ⟨rfl, rfl, rfl, rfl, rfl, trivial⟩ (fun _ hs => hs)
    · have hkl : k = xs.length := by omega
      repeat (first | (with_reducible refine K.seq ?_) | (with_reducible refine KQ.next ?_) | (with_reducible refine KQ.then_exit ?_) | (with_reducible refine KQ.blk_exit ?_) | (with_reducible refine K.exit ?_))
      refine K.reg ?_
      refine KO.as rfl rfl ?_
      refine KO.nil ?_
      repeat (first | (with_reducible refine KQ.next ?_) | (with_reducible refine K.ret ?_))
      refine KQ.ret1 rfl rfl (fun w' hs => fin _ w' _ ?_ hs)
      rw [eq_comm, decide_eq_true_eq]
      rw [hkl, List.take_length, hlen, List.take_length] at hkk
      exact hkk
end Go.Proofs.YtjhogocabcdjbaaGreatDoor
/- a region that draws its order, where some pairs of operations may come either way: each way is walked -/
namespace WB
open Go Go.RowKit
variable {P : Program} {ops : Array Oper} {Q : Exit → Act → World → Prop}
def via (anc : List (List Nat)) (x i : Nat) (q : Nat × Nat) : Bool := (q.1 == x || (anc.getD q.1 []).contains x) && (q.2 == i || (anc.getD i []).contains q.2)
theorem via_sound {anc : List (List Nat)} (hb : onlyBack ops = true) (ha : ancOk ops anc = true) {l : List Nat} (hv : Valid ops l) {q : Nat × Nat} (hE : ∀ p s, l = p ++ q.2 :: s → q.1 ∈ p) {x i : Nat} (h : via anc x i q = true) : ∀ p s, l = p ++ i :: s → x ∈ p := by
  intro p s hl
  unfold via at h
  simp only [Bool.and_eq_true, Bool.or_eq_true, beq_iff_eq] at h
  have lt : ∀ y, y ∈ l → y < ops.size := fun y hy => (hv.2.1 y).1 hy
  have h1 : q.1 ∈ p := by
    rcases h.2 with e | e
    · exact hE p s (by rw [e]; exact hl)
    · have := anc_sound hb ha hv i i (Nat.le_refl _) (lt i (by rw [hl]; simp)) p s hl q.2 (List.contains_iff_mem.1 e)
      obtain ⟨p1, p2, rfl⟩ := List.append_of_mem this
      have := hE p1 (p2 ++ i :: s) (by rw [hl]; simp)
      simp [this]
  rcases h.1 with e | e
  · rw [← e]; exact h1
  · obtain ⟨p1, p2, rfl⟩ := List.append_of_mem h1
    have := anc_sound hb ha hv q.1 q.1 (Nat.le_refl _) (lt q.1 (by rw [hl]; simp)) p1 (p2 ++ i :: s) (by rw [hl]; simp) x (List.contains_iff_mem.1 e)
    simp [this]
theorem main_stepE {E : List (Nat × Nat)} {ks : List Kd} {anc : List (List Nat)} (hb : onlyBack ops = true) (ha : ancOk ops anc = true) {l : List Nat} (hv : Valid ops l) (hE : ∀ q ∈ E, ∀ p s, l = p ++ q.2 :: s → q.1 ∈ p) :
    ∀ (s p rem : List Nat), l = p ++ s → (∀ x, x ∈ rem ↔ x ∈ s) →
      pairsOk (fun x i => !(x == i) && ((anc.getD i []).contains x || (lightFree ops ks x i || E.any (via anc x i)))) rem = true →
      ∀ a w, vcL P ops Q (rem.map (item ops ks)) a w → wpOps P ops Q s a w
  | [], p, rem, hl, hm, hp, a, w, h => by
    have : rem = [] := List.eq_nil_iff_forall_not_mem.2 fun x hx => by simpa using (hm x).1 hx
    subst this; exact h
  | i :: s, p, rem, hl, hm, hp, a, w, h => by
    have hi : i < ops.size := (hv.2.1 i).1 (by rw [hl]; simp)
    have hnd := hv.1
    rw [hl] at hnd
    have hnp : ∀ x ∈ i :: s, x ∉ p := fun x hx hxp => (List.nodup_append.1 hnd).2.2 x hxp x hx rfl
    have hns : i ∉ s := (List.nodup_cons.1 (List.nodup_append.1 hnd).2.1).1
    obtain ⟨pre, post, rfl⟩ := List.append_of_mem ((hm i).2 List.mem_cons_self)
    obtain ⟨h1, h2, h3⟩ := pairsOk_split pre hp
    have hpre : ∀ x ∈ pre, lightFree ops ks x i = true := fun x hx => by
      have hf := h1 x hx
      simp only [Bool.and_eq_true, Bool.or_eq_true] at hf
      rcases hf.2 with hc | hc | hc
      · have hxp := anc_sound hb ha hv i i (Nat.le_refl _) hi p s hl x (List.contains_iff_mem.1 hc)
        exact absurd hxp (hnp x ((hm x).1 (by simp [hx])))
      · exact hc
      · obtain ⟨q, hq, hqv⟩ := List.any_eq_true.1 hc
        have hxp := via_sound hb ha hv (hE q hq) hqv p s hl
        exact absurd hxp (hnp x ((hm x).1 (by simp [hx])))
    have hbub := bubble pre hpre a w h
    have hm' : ∀ x, x ∈ pre ++ post ↔ x ∈ s := fun x => by
      have hx := hm x
      constructor
      · intro hxx
        have hx2 : x ∈ pre ++ i :: post := by
          rcases List.mem_append.1 hxx with e | e <;> simp [e]
        rcases List.mem_cons.1 (hx.1 hx2) with rfl | e
        · exfalso
          rcases List.mem_append.1 hxx with e | e
          · have := h1 x e; simp at this
          · have := h3 x e; simp at this
        · exact e
      · intro hxs
        have := hx.2 (List.mem_cons_of_mem _ hxs)
        rcases List.mem_append.1 this with e | e
        · simp [e]
        · rcases List.mem_cons.1 e with rfl | e
          · exact absurd hxs hns
          · simp [e]
    have IH := main_stepE hb ha hv hE s (p ++ [i]) (pre ++ post) (by rw [hl]; simp) hm' h2
    have hget : ops[i]? = some (item ops ks i).2 := by simp [item, hi]
    simp only [List.map_cons] at hbub
    simp only [wpOps, hget]
    cases hw : Region.wanted (item ops ks i).2 (yielded ops a.tmps) with
    | false =>
      simp only [Bool.false_eq_true, if_false]
      rw [show item ops ks i = ((item ops ks i).1, (item ops ks i).2) from rfl, vcL_no hw] at hbub
      exact IH _ _ hbub
    | true =>
      simp only [if_true]
      left
      rw [show item ops ks i = ((item ops ks i).1, (item ops ks i).2) from rfl] at hbub
      by_cases hlt : (item ops ks i).1.light = true
      · rw [vcL_light hlt hw] at hbub
        obtain ⟨v, hv', hr⟩ := hbub
        have hst : stays (item ops ks i).1 w w := by
          cases (item ops ks i).1 <;> first | trivial | exact Ext.refl w | rfl
        unfold Oper.wp
        rcases hv' w hst with hg | ⟨f, args, hg, hcall⟩
        · rw [hg]; exact IH _ _ hr
        · rw [hg]
          refine hcall.mono ?_
          rintro e w' ⟨rfl, rfl⟩
          exact IH _ _ hr
      · generalize hk : (item ops ks i).1 = k at hbub hlt
        cases k with
        | keep => rw [vcL_keep hw] at hbub; exact wp_mono_F (fun a w hh => IH _ _ hh.2) hbub
        | write => rw [vcL_write hw] at hbub; exact wp_mono_F (fun a w hh => IH _ _ hh) hbub
        | _ => exact absurd rfl hlt

/-- for each of these pairs, which comes first -/
def ways : List (Nat × Nat) → List (List (Nat × Nat))
  | [] => [[]]
  | q :: r => (ways r).map (q :: ·) ++ (ways r).map ((q.2, q.1) :: ·)
theorem ways_some {l : List Nat} (hn : l.Nodup) : ∀ (X : List (Nat × Nat)), (∀ q ∈ X, q.1 ∈ l ∧ q.2 ∈ l ∧ q.1 ≠ q.2) → ∃ E ∈ ways X, (∀ q ∈ E, ∀ p s, l = p ++ q.2 :: s → q.1 ∈ p) ∧ ∀ q ∈ E, q.2 ∈ l
  | [], _ => ⟨[], by simp [ways], (fun _ h => by cases h), fun _ h => by cases h⟩
  | q :: X, h => by
    obtain ⟨E, hE, hall, hmem⟩ := ways_some hn X fun q hq => h q (List.mem_cons_of_mem _ hq)
    obtain ⟨h1, h2, h3⟩ := h q List.mem_cons_self
    obtain ⟨p1, s1, hl⟩ := List.append_of_mem h2
    have uniq : ∀ {y : Nat} {p s p' s' : List Nat}, l = p ++ y :: s → l = p' ++ y :: s' → p = p' := by
      intro y p s p' s' e1 e2
      have : ∀ (p p' s s' : List Nat), (p ++ y :: s).Nodup → p ++ y :: s = p' ++ y :: s' → p = p' := by
        intro p
        induction p with
        | nil =>
          intro p' s s' hn e
          cases p' with
          | nil => rfl
          | cons x p' =>
            simp only [List.nil_append, List.cons_append, List.cons.injEq] at e
            obtain ⟨rfl, e⟩ := e
            simp only [List.nil_append, List.nodup_cons] at hn
            exact absurd (by rw [e]; simp) hn.1
        | cons x p ih =>
          intro p' s s' hn e
          cases p' with
          | nil =>
            simp only [List.nil_append, List.cons_append, List.cons.injEq] at e
            obtain ⟨rfl, e⟩ := e
            simp only [List.cons_append, List.nodup_cons] at hn
            exact absurd (by simp) hn.1
          | cons x' p' =>
            simp only [List.cons_append, List.cons.injEq] at e
            simp only [List.cons_append, List.nodup_cons] at hn
            rw [e.1, ih p' s s' hn.2 e.2]
      exact this p p' s s' (e1 ▸ hn) (e1.symm.trans e2)
    by_cases hin : q.1 ∈ p1
    · refine ⟨q :: E, by simp only [ways, List.mem_append, List.mem_map]; exact .inl ⟨E, hE, rfl⟩, fun q' hq' p s e => ?_, fun q' hq' => (List.mem_cons.1 hq').elim (fun e => e ▸ h2) (hmem q')⟩
      rcases List.mem_cons.1 hq' with rfl | hq'
      · rw [← uniq hl e]; exact hin
      · exact hall q' hq' p s e
    · refine ⟨(q.2, q.1) :: E, by simp only [ways, List.mem_append, List.mem_map]; exact .inr ⟨E, hE, rfl⟩, fun q' hq' p s e => ?_, fun q' hq' => (List.mem_cons.1 hq').elim (fun e => e ▸ h1) (hmem q')⟩
      rcases List.mem_cons.1 hq' with rfl | hq'
      · dsimp only at e ⊢
        have h4 : q.1 ∈ s1 := by
          have := h1; rw [hl] at this
          simp only [List.mem_append, List.mem_cons] at this
          rcases this with a | a | a
          · exact absurd a hin
          · exact absurd a h3
          · exact a
        obtain ⟨p2, s2, rfl⟩ := List.append_of_mem h4
        have e2 : l = (p1 ++ q.2 :: p2) ++ q.1 :: s2 := by rw [hl]; simp
        rw [← uniq e2 e]; simp
      · exact hall q' hq' p s e
def okRE (ops : Array Oper) (ks : List Kd) (E : List (Nat × Nat)) (ord : List Nat) : Bool :=
  let anc := mkAnc ops.toList []
  onlyBack ops && (ancOk ops anc && ((List.range ops.size).all (fun i => ord.contains i) && (ord.all (fun i => Nat.blt i ops.size) &&
    pairsOk (fun x i => !(x == i) && ((anc.getD i []).contains x || (lightFree ops ks x i || E.any (via anc x i)))) ord)))
/-- no schedule goes so -/
def badE (ops : Array Oper) (E : List (Nat × Nat)) : Bool :=
  let anc := mkAnc ops.toList []
  ancOk ops anc && E.any fun q => E.any (via anc q.2 q.1)
theorem badE_sound {E : List (Nat × Nat)} (hb : onlyBack ops = true) {l : List Nat} (hv : Valid ops l) (hE : ∀ q ∈ E, ∀ p s, l = p ++ q.2 :: s → q.1 ∈ p) (hm : ∀ q ∈ E, q.2 ∈ l) (h : badE ops E = true) : False := by
  simp only [badE, Bool.and_eq_true] at h
  obtain ⟨ha, h⟩ := h
  obtain ⟨q, hq, h⟩ := List.any_eq_true.1 h
  obtain ⟨q', hq', h⟩ := List.any_eq_true.1 h
  obtain ⟨p1, s1, hl⟩ := List.append_of_mem (hm q hq)
  obtain ⟨a, b, rfl⟩ := List.append_of_mem (hE q hq p1 s1 hl)
  have := via_sound hb ha hv (hE q' hq') h a (b ++ q.2 :: s1) (by rw [hl]; simp)
  have hn := hv.1
  rw [hl] at hn
  simp only [List.append_assoc, List.cons_append] at hn
  exact (List.nodup_append.1 hn).2.2 q.2 this q.2 (by simp) rfl
def okX (ops : Array Oper) (ks : List Kd) : List (List (Nat × Nat)) → List (List Nat) → Bool
  | [], [] => true
  | E :: r, O => if badE ops E then okX ops ks r O else match O with | o :: s => okRE ops ks E o && okX ops ks r s | [] => false
  | _, _ => false
@[reducible] def allD (f : List Nat → Prop) : List (List Nat) → Prop
  | [] => True
  | o :: r => f o ∧ allD f r
theorem okX_some {ks : List Kd} {f : List Nat → Prop} {E : List (Nat × Nat)} : ∀ {W : List (List (Nat × Nat))} {O : List (List Nat)}, okX ops ks W O = true → allD f O → E ∈ W → badE ops E = true ∨ ∃ o, okRE ops ks E o = true ∧ f o
  | [], _, _, _, h => by cases h
  | F :: r, O, h, hf, hE => by
    cases hB : badE ops F with
    | true =>
      have h2 : okX ops ks r O = true := by unfold okX at h; rw [hB] at h; simpa using h
      rcases List.mem_cons.1 hE with rfl | hE
      · exact .inl hB
      · exact okX_some h2 hf hE
    | false =>
      unfold okX at h
      rw [hB] at h
      cases O with
      | nil => simp at h
      | cons o s =>
        simp only [Bool.false_eq_true, if_false, Bool.and_eq_true] at h
        rcases List.mem_cons.1 hE with rfl | hE
        · exact .inr ⟨o, h.1, hf.1⟩
        · exact okX_some h.2 hf.2 hE
theorem wp_region_ways {id : Nat} {a : Act} {w : World} (ks : List Kd) (X : List (Nat × Nat)) (O : List (List Nat)) (hmix : P.follows .mixedOrders = true) (hX : (onlyBack ops && X.all fun q => Nat.blt q.1 ops.size && (Nat.blt q.2 ops.size && !(q.1 == q.2))) = true) (hok : okX ops ks (ways X) O = true)
    (h : allD (fun ord => vcL P ops Q (ord.map (item ops ks)) a w.drew) O) : (Code.region id ops true).wp P Q a w := by
  rw [Bool.and_eq_true] at hX
  obtain ⟨hb, hX⟩ := hX
  refine wp_region_draw fun t => ?_
  have hv : Valid ops (Region.schedule (P.follows .mixedOrders) ops t) := schedule_valid _ hmix _ _ fun i o ho d hd => by
    have hi : i < ops.size := (Array.getElem?_eq_some_iff.1 ho).1
    have h1 := List.all_eq_true.1 (List.all_eq_true.1 hb i (List.mem_range.2 hi)) d (by
      have : ops.toList.getD i default = o := by
        simp [Array.getElem?_eq_getElem hi] at ho ⊢
        simp [ho]
      rw [this]; exact hd)
    simpa [Nat.blt_eq] using h1
  generalize Region.schedule (P.follows .mixedOrders) ops t = l at hv ⊢
  obtain ⟨E, hE, hEl, hEm⟩ := ways_some hv.1 X fun q hq => by
    have := List.all_eq_true.1 hX q hq
    simp only [Bool.and_eq_true, Nat.blt_eq, Bool.not_eq_true', beq_eq_false_iff_ne] at this
    exact ⟨(hv.2.1 _).2 this.1, (hv.2.1 _).2 this.2.1, this.2.2⟩
  rcases okX_some hok h hE with hbad | ⟨ord, hok, h⟩
  · exact (badE_sound hb hv hEl hEm hbad).elim
  simp only [okRE, Bool.and_eq_true] at hok
  obtain ⟨hb, ha, hall, hlt, hp⟩ := hok
  refine main_stepE hb ha hv hEl l [] ord rfl (fun x => ?_) hp a _ h
  rw [hv.2.1 x]
  constructor
  · intro hx; simpa [Nat.blt_eq] using List.all_eq_true.1 hlt x hx
  · intro hx; exact List.contains_iff_mem.1 (List.all_eq_true.1 hall x (List.mem_range.2 hx))
theorem allD_mono {f g : List Nat → Prop} (h : ∀ o, f o → g o) : ∀ {O : List (List Nat)}, allD f O → allD g O
  | [], _ => trivial
  | _ :: _, hf => ⟨h _ hf.1, allD_mono h hf.2⟩
theorem K.drawX {n : Nat} {D : List Deferred} {w0 : World} {G : Env} {L : List HP} {id : Nat} (ks : List Kd) (X : List (Nat × Nat)) (O : List (List Nat)) (hmix : P.follows .mixedOrders = true) (hX : (onlyBack ops && X.all fun q => Nat.blt q.1 ops.size && (Nat.blt q.2 ops.size && !(q.1 == q.2))) = true) (hok : okX ops ks (ways X) O = true)
    (h : allD (fun ord => KO P ops true Q n D w0 G L (ord.map (item ops ks))) O) : K P (.region id ops true) Q n D w0 G L := fun a _ ha hw =>
  wp_region_ways ks X O hmix hX hok (allD_mono (fun _ hh => hh a _ ha hw.drew) h)
end WB
/- the steps of the calculus: empty slices, slices appended to slices -/
namespace WB
open Go Go.RowKit
/-- a slice, wherever it lies, that reads so -/
def Src {α : Type} (w : World) (cf : α → List Value) (v : Value) (xs : List α) : Prop :=
  ∃ a cap, v = .slice a xs.length cap ∧ (a = none → xs = []) ∧ ∀ ad, a = some ad → HasCells w ad (xs.flatMap cf)
section
variable {w0 w : World} {L R : List HP} {E : TypeId} {α : Type} {cf : α → List Value} {sz : Nat} {xs ys : List α} {v : Value}
theorem flatC_len (hsz : ∀ e, (cf e).length = sz) : ∀ xs : List α, (xs.flatMap cf).length = xs.length * sz
  | [] => by simp
  | a :: l => by simp [flatC_len hsz l, hsz, Nat.succ_mul]; omega
theorem HasCells.take {ad : Addr} {cs ds : List Value} (h : HasCells w ad (cs ++ ds)) : HasCells w ad cs := fun j c hj => h j c (by rw [List.getElem?_append_left (List.getElem?_eq_some_iff.1 hj).1]; exact hj)
theorem Src.of (hp : Pick L (SL E sz cf v xs) R) (w : World) (hw : St w0 L w) : Src w cf v xs := by
  rcases (hw.pick hp).osl_cases with ⟨h1, h2, h3, _⟩ | ⟨g, cap, cur, h1, h2, h3, h4, h5, h6, h7⟩
  · have : xs = [] := List.eq_nil_of_length_eq_zero h2
    exact ⟨none, 0, by rw [h1, this]; rfl, fun _ => this, fun ad h => (by cases h)⟩
  · refine ⟨some ⟨g, 0, none⟩, cap, h1, (fun h => by cases h), fun ad h => ?_⟩
    cases h
    have hl := h7.look.2
    intro j c hj
    rw [Addr.add_lit, World.cell?, hl]
    rw [← h5, List.getElem?_take] at hj
    split at hj
    · simpa using hj
    · simp at hj
theorem Src.take {a : Option Addr} {len cap : Nat} (h : Src w cf (.slice a len cap) xs) (k : Nat) (hk : k ≤ xs.length) : Src w cf (.slice a k cap) (xs.take k) := by
  obtain ⟨b, c, e, h1, h2⟩ := h
  simp only [Value.slice.injEq] at e
  obtain ⟨rfl, rfl, rfl⟩ := e
  refine ⟨a, cap, by rw [List.length_take, Nat.min_eq_left hk], fun e => by rw [h1 e]; simp, fun ad e => ?_⟩
  have := h2 ad e
  rw [← List.take_append_drop k xs, List.flatMap_append] at this
  exact this.take
theorem Src.cut (hsz : ∀ e, (cf e).length = sz) {g len cap : Nat} (h : Src w cf (.slice (some ⟨g, 0, none⟩) len cap) xs) (k : Nat) (hk : k ≤ xs.length) (hc : xs.length ≤ cap) : Src w cf (.slice (some (cutAt g k sz cap)) (xs.length - k) (cap - k)) (xs.drop k) := by
  obtain ⟨b, c, e, h1, h2⟩ := h
  simp only [Value.slice.injEq] at e
  obtain ⟨rfl, rfl, rfl⟩ := e
  refine ⟨_, _, by rw [List.length_drop], (fun e => by cases e), fun ad e => ?_⟩
  cases e
  unfold cutAt
  by_cases hck : cap = k
  · have : xs.drop k = [] := List.drop_eq_nil_of_le (by omega)
    rw [this]; exact fun j c hj => by simp at hj
  · rw [if_neg hck]
    have := h2 _ rfl
    rw [← List.take_append_drop k xs, List.flatMap_append] at this
    intro j c hj
    have h3 := this (k * sz + j) c (by
      rw [List.getElem?_append_right (by rw [flatC_len hsz, List.length_take]; have := Nat.mul_le_mul_right sz (Nat.min_le_left k xs.length); omega)]
      rw [flatC_len hsz, List.length_take, Nat.min_eq_left hk]
      simpa using hj)
    rw [Addr.add_lit] at h3 ⊢
    simpa using h3
theorem Src.ext {w' : World} (h : Src w cf v xs) (e : Ext w w') : Src w' cf v xs := by
  obtain ⟨a, cap, h1, h2, h3⟩ := h
  exact ⟨a, cap, h1, h2, fun ad ha => (h3 ad ha).ext e⟩
theorem SL_cap {g n cap : Nat} (hw : St w0 (SL E sz cf (.slice (some ⟨g, 0, none⟩) n cap) xs :: R) w) : n = xs.length ∧ n ≤ cap := by
  obtain ⟨h1, h2, _⟩ := SL_open hw
  exact ⟨h1, h2⟩
end
section
variable {P : Program} {ops : Array Oper} {d : Bool} {Q : Exit → Act → World → Prop} {n : Nat} {D : List Deferred} {w0 : World} {G : Env} {L R R' N : List HP} {l : List (Kd × Oper)} {k : Kd}
  {t : Nat} {op : Op} {ty T T' E E' : TypeId} {pos : String} {af : Array Edge} {x y : Operand} {v u z : Value} {i j : Nat} {a c r : Int} {α : Type} {cf : α → List Value} {sz by' : Nat} {xs ys : List α} {e e' : α}
theorem run_buildSlice0 (w : World) (t e : TypeId) (sz : Nat) (hu : P.underlying t = some (.slice e)) (hs : (Go.sizeOf e).run P w = .ok sz w) :
    (Instr.buildSlice t 0 #[]).run P w = .ok (.slice (some ⟨w.heap.size, 0, none⟩) 0 0) (w.alloc (.cells #[] e)) := by
  simp [Instr.buildSlice, run_underlying hu, hs, Instr.fill, newRow]
  rw [show Array.range 0 = #[] from rfl, Array.map_empty]
/-- []T{} -/
theorem KO.bs0 (cf : α → List Value) (hk : (!d || (k == .keep || k == .write)) = true) (hT : P.underlying T = some (.slice E)) (hs : ∀ w, (Go.sizeOf E).run P w = .ok sz w) (ht : Nat.blt t n = true)
    (h : ∀ bb, KO P ops d Q n D w0 ((t, .slice (some ⟨bb, 0, none⟩) 0 0) :: G) (SL E sz cf (.slice (some ⟨bb, 0, none⟩) 0 0) [] :: L) l) : KO P ops d Q n D w0 G L ((k, ⟨some t, .buildSlice T 0 #[], ty, pos, af, none⟩) :: l) := by
  refine KO.keepRun hk (F := fun bb => .slice (some ⟨bb, 0, none⟩) 0 0) (N := fun bb => SL E sz cf (.slice (some ⟨bb, 0, none⟩) 0 0) [] :: L) (fun a w ha hw => ⟨w.heap.size, w.alloc (.cells #[] E), ?_, Ext.alloc w _, ?_⟩) ht h
  · have hr := run_buildSlice0 (P := P) w T E sz hT (hs w)
    simp [execOp, hr]
  · exact (hw.alloc (.cells #[] E)).osl_mk (n := 0) (cap := 0) (Nat.le_refl _) (by unfold maxLen; omega) (by simp) (by simp)
theorem run_append_none (w : World) (t ty e : TypeId) (b : Option Addr) (m cap c s : Nat) (hu : P.underlying t = some (.slice e)) (hs : (Go.sizeOf e).run P w = .ok s w) (h : m ≤ cap) :
    (Builtin.append_ #[t, t] ty #[.slice b m cap, .slice none 0 c]).run P w = .ok (.slice b m cap) w := by
  cases b <;> simp [Builtin.append_, run_underlying hu, hs, Builtin.lenOf, Builtin.firstCells, h, storeCells]
/-- append(x, y...) -/
theorem KO.appS (hk : (!d || k == .write) = true) (hx : ev G x = some v) (hy : ev G y = some u) (hp : Pick L (SL E sz cf v xs) R) (hs : ∀ w, St w0 L w → Src w cf u ys)
    (hT : P.underlying T = some (.slice E)) (hi : (P.info? E).map (fun i => (i.zero, i.size, i.bytes)) = some (some z, sz, by')) (hzs : z.cells.size = sz) (hsz : ∀ e, (cf e).length = sz) (h1 : ∀ e, (cf e).all Value.oneCell' = true) (hb : xs.length + ys.length < 1000000000) (hby : by' ≤ 10000) (ht : Nat.blt t n = true)
    (h : ∀ v', KO P ops d Q n D w0 ((t, v') :: G) (SL E sz cf v' (xs ++ ys) :: R) l) : KO P ops d Q n D w0 G L ((k, ⟨some t, .call ⟨.builtin .append, #[x, y], #[T, T]⟩, ty, pos, af, none⟩) :: l) := by
  obtain ⟨i0, hi1, hz0, hz1, hz2⟩ := info_parts hi
  refine KO.wvE hk (F := fun v' => SL E sz cf v' (xs ++ ys) :: R) (fun a w ha hw => ?_) ht h
  have hw2 := hw.pick hp
  obtain ⟨sa, cap, rfl, hn, hc⟩ := hs w hw
  cases sa with
  | none =>
    obtain rfl := hn rfl
    obtain ⟨b, c2, rfl, hb2⟩ : ∃ b c2, v = .slice b xs.length c2 ∧ xs.length ≤ c2 := by
      rcases hw2.osl_cases with ⟨h1, h2, _⟩ | ⟨g, cap, cur, h1, h2, _⟩
      · exact ⟨none, 0, by rw [h1, h2], by omega⟩
      · exact ⟨_, cap, h1, h2⟩
    refine ⟨.slice b xs.length c2, w, exec_append2 x y T T rfl _ _ (ha.eval hx) (ha.eval hy) (run_append_none (P := P) w T ty E b _ c2 cap sz hT (by simp [Go.sizeOf, typeInfo, hi1, hz1]) hb2), ?_⟩
    rw [List.append_nil]; exact hw2
  | some ad =>
    have hcells := hc ad rfl
    have hbb : (xs.length + ys.length) * by' ≤ 140737488355328 := by
      have := Nat.mul_le_mul (show xs.length + ys.length ≤ 1000000000 by omega) hby; omega
    obtain ⟨v', w', hr, hst⟩ := append_st (P := P) T ty E i0 z sz by' hT hi1 hz0 hz1 hz2 hzs hw2 ad ys.length cap (ys.flatMap cf) (flatC_len hsz ys) hcells (flat_one (fun e u hu => List.all_eq_true.1 (h1 e) u hu) ys) (by unfold maxLen; omega) hbb
    refine ⟨v', w', exec_append2 x y T T rfl v _ (ha.eval hx) (ha.eval hy) hr, ?_⟩
    show St w0 (osl E sz v' (xs ++ ys).length ((xs ++ ys).flatMap cf) :: R) w'
    rw [List.length_append, List.flatMap_append]
    exact hst
/-- a byte of a string -/
theorem KO.idxStr {s : ByteArray} {b : UInt8} (hx : ev G x = some (.string s)) (hy : ev G y = some (.int .i64 a)) (hT : P.underlying T = some .string) (ha : a = (i : Int)) (hc : s[i]? = some b) (ht : Nat.blt t n = true)
    (h : KO P ops d Q n D w0 ((t, .int .u8 (b.toNat : Nat)) :: G) L l) : KO P ops d Q n D w0 G L ((k, ⟨some t, .index T x y, ty, pos, af, none⟩) :: l) :=
  KO.val (fun a' w ha' => by
    subst ha
    simp [execOp, ha'.eval hx, ha'.eval hy, Instr.index, asIntOf, run_underlying hT, hc]) ht h
/-- x.(I), ok: it has not all of I's methods -/
theorem KO.taN {T0 : TypeId} {want : Array (String × TypeId)} (hx : ev G x = some (.iface T0 v)) (hu : P.underlying T' = some (.interface want)) (hl : (P.info? T0).map (fun i => (lacking want i.methods).isEmpty) = some false) (hz : (P.info? T').map (·.zero) = some (some z)) (ht : Nat.blt t n = true)
    (h : KO P ops d Q n D w0 ((t, .tuple #[z, .bool false]) :: G) L l) : KO P ops d Q n D w0 G L ((k, ⟨some t, .typeAssert x T T' true, ty, pos, af, none⟩) :: l) :=
  KO.val (fun a' w ha' => by
    simp [execOp, ha'.eval hx, run_typeAssert_lacksB hu hl hz v T w]) ht h
def noIface (u : Option TypeDesc) : Bool := match u with | some (.interface _) => false | none => false | some _ => true
theorem KO.taC {T0 : TypeId} (hx : ev G x = some (.iface T0 v)) (hu : noIface (P.underlying T') = true) (hne : Nat.beq T0 T' = false) (hz : ∀ w, (zeroValue T').run P w = .ok z w) (ht : Nat.blt t n = true)
    (h : KO P ops d Q n D w0 ((t, .tuple #[z, .bool false]) :: G) L l) : KO P ops d Q n D w0 G L ((k, ⟨some t, .typeAssert x T T' true, ty, pos, af, none⟩) :: l) :=
  KO.val (fun a' w ha' => by
    have hn : ¬ T0 = T' := fun e => by rw [e, Nat.beq_refl] at hne; cases hne
    cases hd : P.underlying T' with
    | none => rw [hd] at hu; cases hu
    | some dd =>
      rw [hd] at hu
      simp only [execOp, ha'.eval hx, Instr.typeAssert, run_underlying hd, Sem.run_bind, Result.andThen_ok]
      cases dd <;> first | (cases hu; done) | simp [hn, hz w]) ht h
theorem KO.taY (hx : ev G x = some (.iface T' v)) (hu : noIface (P.underlying T') = true) (ht : Nat.blt t n = true)
    (h : KO P ops d Q n D w0 ((t, .tuple #[v, .bool true]) :: G) L l) : KO P ops d Q n D w0 G L ((k, ⟨some t, .typeAssert x T T' true, ty, pos, af, none⟩) :: l) :=
  KO.val (fun a' w ha' => by
    cases hd : P.underlying T' with
    | none => rw [hd] at hu; cases hu
    | some dd =>
      rw [hd] at hu
      simp only [execOp, ha'.eval hx, Instr.typeAssert, run_underlying hd, Sem.run_bind, Result.andThen_ok]
      cases dd <;> first | (cases hu; done) | simp) ht h
end
end WB
/- the document's words: what may be; errors held beside it. -/
namespace Go.Proofs.YtjhogocabcdjbaaGreatDoor
open Go Go.RowKit WB
theorem in_e (w0 : World) (L : List HP) (n a b : Int) : KE Tryz.prog 62 #[.int .i64 n, .int .i64 a, .int .i64 b] w0 L (fun u M => u = .bool (decide (a ≤ n) && decide (n ≤ b)) ∧ M = L) := by
  refine KE.mk (n := 15) Tryz.func62 rfl Tryz.ntmps62 (by simp) ?_
  intro w hw
  repeat ((with_reducible refine K.seq ?_))
  refine K.reg ?_
  refine KO.as rfl rfl ?_
  refine KO.nil ?_
  repeat (first | (with_reducible refine K.seq ?_) | (with_reducible refine KQ.next ?_))
  by_cases h : a ≤ n
  · refine K.reg ?_
    refine KO.mv rfl rfl ?_
    refine KO.mv rfl rfl ?_
    refine KO.leq rfl rfl rfl ?_
    refine KO.mv rfl rfl ?_
    (refine KO.on rfl rfl ?_ ?_; (focus (simp only [decide_eq_true_eq, decide_eq_false_iff_not, Bool.not_eq_true, Bool.not_true, Bool.not_false, ne_eq]; omega)); (refine KO.mv rfl rfl ?_))
    (refine KO.on rfl rfl ?_ ?_; (focus (simp only [decide_eq_true_eq, decide_eq_false_iff_not, Bool.not_eq_true, Bool.not_true, Bool.not_false, ne_eq]; omega)); (refine KO.mv rfl rfl ?_))
    (refine KO.on rfl rfl ?_ ?_; (focus (simp only [decide_eq_true_eq, decide_eq_false_iff_not, Bool.not_eq_true, Bool.not_true, Bool.not_false, ne_eq]; omega)); (refine KO.leq rfl rfl rfl ?_))
    (refine KO.pickT rfl ?_ rfl rfl ?_; (focus (simp only [decide_eq_true_eq, decide_eq_false_iff_not, Bool.not_eq_true, Bool.not_true, Bool.not_false, ne_eq]; omega)))
    refine KO.as rfl rfl ?_
    refine KO.nil ?_
    repeat (first | (with_reducible refine KQ.next ?_) | (with_reducible refine K.ret ?_))
    refine KQ.ret1 rfl rfl (fun w' hs => ⟨_, _, rfl, ⟨by simp [h], rfl⟩, hw.below_step hs.below, hs.below⟩)
  · refine K.reg ?_
    refine KO.mv rfl rfl ?_
    refine KO.mv rfl rfl ?_
    refine KO.leq rfl rfl rfl ?_
    refine KO.mv rfl rfl ?_
    (refine KO.no rfl rfl ?_ rfl ?_; (focus (simp only [decide_eq_true_eq, decide_eq_false_iff_not, Bool.not_eq_true, Bool.not_true, Bool.not_false, ne_eq]; omega)))
    (refine KO.no rfl rfl ?_ rfl ?_; (focus (simp only [decide_eq_true_eq, decide_eq_false_iff_not, Bool.not_eq_true, Bool.not_true, Bool.not_false, ne_eq]; omega)))
    (refine KO.no rfl rfl ?_ rfl ?_; (focus (simp only [decide_eq_true_eq, decide_eq_false_iff_not, Bool.not_eq_true, Bool.not_true, Bool.not_false, ne_eq]; omega)))
    (refine KO.pickF rfl ?_ rfl rfl ?_; (focus (simp only [decide_eq_true_eq, decide_eq_false_iff_not, Bool.not_eq_true, Bool.not_true, Bool.not_false, ne_eq]; omega)))
    refine KO.as rfl rfl ?_
    refine KO.nil ?_
    repeat (first | (with_reducible refine KQ.next ?_) | (with_reducible refine K.ret ?_))
    refine KQ.ret1 rfl rfl (fun w' hs => ⟨_, _, rfl, ⟨by simp [h], rfl⟩, hw.below_step hs.below, hs.below⟩)
theorem isLet_of (c : UInt8) : isLet c = ((decide ((97 : Int) ≤ (c.toNat : Nat)) && decide (((c.toNat : Nat) : Int) ≤ 122)) || (decide ((48 : Int) ≤ (c.toNat : Nat)) && decide (((c.toNat : Nat) : Int) ≤ 57))) := by
  unfold isLet
  have e : ∀ n : Fin 256, ((97 : UInt8) ≤ UInt8.ofNat n.val ↔ (97 : Int) ≤ (n.val : Nat)) ∧ (UInt8.ofNat n.val ≤ (122 : UInt8) ↔ ((n.val : Nat) : Int) ≤ 122) ∧ ((48 : UInt8) ≤ UInt8.ofNat n.val ↔ (48 : Int) ≤ (n.val : Nat)) ∧ (UInt8.ofNat n.val ≤ (57 : UInt8) ↔ ((n.val : Nat) : Int) ≤ 57) := by decide +kernel
  have h := e ⟨c.toNat, c.toNat_lt⟩
  simp only [UInt8.ofNat_toNat] at h
  simp only [h.1, h.2.1, h.2.2.1, h.2.2.2]
theorem rletters_e (w0 : World) (L : List HP) (s : ByteArray) (m : Nat) (hs : s.size ≤ maxLen) : KE Tryz.prog 103 #[.string s, .int .i64 (m : Nat)] w0 L (fun u M => u = .bool (lettersB s m) ∧ M = L) := by
  refine KE.mk (n := 35) Tryz.func103 rfl Tryz.ntmps103 (by simp) ?_
  intro w hw
  have hs9 : s.size ≤ 9223372036854775807 := by unfold maxLen at hs; exact hs
  repeat ((with_reducible refine K.seq ?_))
  refine K.reg ?_
  refine KO.as rfl rfl ?_
  refine KO.nil ?_
  repeat (first | (with_reducible refine K.seq ?_) | (with_reducible refine KQ.next ?_))
  refine K.reg ?_
  refine KO.mv rfl rfl ?_
  refine KO.lenS rfl Tryz.underlying9 rfl ?_
  refine KO.mv rfl rfl ?_
  refine KO.nil ?_
  repeat (first | (with_reducible refine KQ.next ?_) | (with_reducible refine K.block ?_))
  refine K.loop (fun k : Nat => [(0, .string s), (1, .int .i64 (m : Nat)), (8, .int .i64 (s.size : Nat)), (9, .int .i64 (k : Nat))]) (fun _ => []) (fun k => k ≤ s.size ∧ ∀ j c, j < k → s[j]? = some c → isLet c = true) (fun k => s.size - k) 0
    ⟨Nat.zero_le _, fun j c h => by omega⟩ ⟨rfl, rfl, rfl, rfl, trivial⟩ (fun _ h => h) ?_
  rintro k ⟨hk, hall⟩
  repeat ((with_reducible refine K.seq ?_))
  refine K.reg ?_
  refine KO.lss rfl rfl rfl ?_
  refine KO.nil ?_
  repeat (first | (with_reducible refine K.seq ?_) | (with_reducible refine KQ.next ?_))
  refine K.condD rfl (fun h => ?_) (fun h => ?_)
  · obtain ⟨c, hc⟩ : ∃ c, s[k]? = some c := ⟨s[k]'(by omega), getElem?_eq_some_iff.2 ⟨by omega, rfl⟩⟩
    have hl := isLet_of c
    repeat (first | (with_reducible refine K.seq ?_) | (with_reducible refine KQ.next ?_) | (with_reducible refine K.skip ?_) | (with_reducible refine K.block ?_))
    refine K.reg ?_
    refine KO.mv rfl rfl ?_
    refine KO.as rfl rfl ?_
    refine KO.nil ?_
    repeat (first | (with_reducible refine K.seq ?_) | (with_reducible refine KQ.next ?_))
    refine K.reg ?_
    refine KO.mv rfl rfl ?_
    refine KO.mv rfl rfl ?_
    refine KO.idxStr rfl rfl Tryz.underlying9 (by exact rfl) (by assumption) rfl ?_
    refine KO.as rfl rfl ?_
    refine KO.nil ?_
    repeat (first | (with_reducible refine K.seq ?_) | (with_reducible refine KQ.next ?_))
    refine K.cut (fun b : Bool => [(29, .bool (!b)), (0, .string s), (1, .int .i64 (m : Nat)), (8, .int .i64 (s.size : Nat)), (9, .int .i64 (k : Nat))]) (fun _ => []) (fun b => b = isLet c) ?_ ?_
    · by_cases h1 : (97 : Int) ≤ (c.toNat : Nat)
      all_goals by_cases h2 : ((c.toNat : Nat) : Int) ≤ 122
      all_goals by_cases h3 : (48 : Int) ≤ (c.toNat : Nat)
      all_goals by_cases h4 : ((c.toNat : Nat) : Int) ≤ 57
      all_goals first | (exfalso; omega) | skip
      all_goals (simp only [h1, h2, h3, h4, decide_true, decide_false, Bool.and_true, Bool.and_false, Bool.or_true, Bool.or_false, Bool.true_or, Bool.false_or] at hl)
      all_goals (
        refine K.reg ?_
        refine KO.mv rfl rfl ?_
        refine KO.geq rfl rfl rfl ?_
        refine KO.mv rfl rfl ?_
        first | (refine KO.on rfl rfl ?_ ?_; (focus (simp only [decide_eq_true_eq, decide_eq_false_iff_not, Bool.not_eq_true, Bool.not_true, Bool.not_false, ne_eq]; omega)); (refine KO.mv rfl rfl ?_)) | (refine KO.no rfl rfl ?_ rfl ?_; (focus (simp only [decide_eq_true_eq, decide_eq_false_iff_not, Bool.not_eq_true, Bool.not_true, Bool.not_false, ne_eq]; omega)))
        first | (refine KO.on rfl rfl ?_ ?_; (focus (simp only [decide_eq_true_eq, decide_eq_false_iff_not, Bool.not_eq_true, Bool.not_true, Bool.not_false, ne_eq]; omega)); (refine KO.leq rfl rfl rfl ?_)) | (refine KO.no rfl rfl ?_ rfl ?_; (focus (simp only [decide_eq_true_eq, decide_eq_false_iff_not, Bool.not_eq_true, Bool.not_true, Bool.not_false, ne_eq]; omega)))
        first | (refine KO.pickT rfl ?_ rfl rfl ?_; (focus (simp only [decide_eq_true_eq, decide_eq_false_iff_not, Bool.not_eq_true, Bool.not_true, Bool.not_false, ne_eq]; omega))) | (refine KO.pickF rfl ?_ rfl rfl ?_; (focus (simp only [decide_eq_true_eq, decide_eq_false_iff_not, Bool.not_eq_true, Bool.not_true, Bool.not_false, ne_eq]; omega)))
        refine KO.mv rfl rfl ?_
        first | (refine KO.on rfl rfl ?_ ?_; (focus first | rfl | (simp only [decide_eq_true_eq, decide_eq_false_iff_not, Bool.not_eq_true, Bool.not_true, Bool.not_false, ne_eq]; omega)); (refine KO.mv rfl rfl ?_)) | (refine KO.no rfl rfl ?_ rfl ?_; (focus (simp only [decide_eq_true_eq, decide_eq_false_iff_not, Bool.not_eq_true, Bool.not_true, Bool.not_false, ne_eq]; omega)))
        first | (refine KO.on rfl rfl ?_ ?_; (focus first | rfl | (simp only [decide_eq_true_eq, decide_eq_false_iff_not, Bool.not_eq_true, Bool.not_true, Bool.not_false, ne_eq]; omega)); (refine KO.geq rfl rfl rfl ?_)) | (refine KO.no rfl rfl ?_ rfl ?_; (focus (simp only [decide_eq_true_eq, decide_eq_false_iff_not, Bool.not_eq_true, Bool.not_true, Bool.not_false, ne_eq]; omega)))
        first | (refine KO.on rfl rfl ?_ ?_; (focus first | rfl | (simp only [decide_eq_true_eq, decide_eq_false_iff_not, Bool.not_eq_true, Bool.not_true, Bool.not_false, ne_eq]; omega)); (refine KO.mv rfl rfl ?_)) | (refine KO.no rfl rfl ?_ rfl ?_; (focus (simp only [decide_eq_true_eq, decide_eq_false_iff_not, Bool.not_eq_true, Bool.not_true, Bool.not_false, ne_eq]; omega)))
        first | (refine KO.on rfl rfl ?_ ?_; (focus (simp only [decide_eq_true_eq, decide_eq_false_iff_not, Bool.not_eq_true, Bool.not_true, Bool.not_false, ne_eq]; omega)); (refine KO.mv rfl rfl ?_)) | (refine KO.no rfl rfl ?_ rfl ?_; (focus (simp only [decide_eq_true_eq, decide_eq_false_iff_not, Bool.not_eq_true, Bool.not_true, Bool.not_false, ne_eq]; omega))) | refine KO.no2 rfl rfl rfl ?_
        first | (refine KO.on rfl rfl ?_ ?_; (focus (simp only [decide_eq_true_eq, decide_eq_false_iff_not, Bool.not_eq_true, Bool.not_true, Bool.not_false, ne_eq]; omega)); (refine KO.leq rfl rfl rfl ?_)) | (refine KO.no rfl rfl ?_ rfl ?_; (focus (simp only [decide_eq_true_eq, decide_eq_false_iff_not, Bool.not_eq_true, Bool.not_true, Bool.not_false, ne_eq]; omega))) | refine KO.no2 rfl rfl rfl ?_
        first | (refine KO.on rfl rfl ?_ ?_; (focus first | rfl | (simp only [decide_eq_true_eq, decide_eq_false_iff_not, Bool.not_eq_true, Bool.not_true, Bool.not_false, ne_eq]; omega)); (first | (refine KO.pickT rfl ?_ rfl rfl ?_; (focus (simp only [decide_eq_true_eq, decide_eq_false_iff_not, Bool.not_eq_true, Bool.not_true, Bool.not_false, ne_eq]; omega))) | (refine KO.pickF rfl ?_ rfl rfl ?_; (focus (simp only [decide_eq_true_eq, decide_eq_false_iff_not, Bool.not_eq_true, Bool.not_true, Bool.not_false, ne_eq]; omega))))) | (refine KO.no rfl rfl ?_ rfl ?_; (focus (simp only [decide_eq_true_eq, decide_eq_false_iff_not, Bool.not_eq_true, Bool.not_true, Bool.not_false, ne_eq]; omega)))
        first | (refine KO.pickT rfl ?_ rfl rfl ?_; (focus (simp only [decide_eq_true_eq, decide_eq_false_iff_not, Bool.not_eq_true, Bool.not_true, Bool.not_false, ne_eq]; omega))) | (refine KO.pickF rfl ?_ rfl rfl ?_; (focus first | rfl | (simp only [decide_eq_true_eq, decide_eq_false_iff_not, Bool.not_eq_true, Bool.not_true, Bool.not_false, ne_eq]; omega)))
        refine KO.not rfl rfl ?_
        refine KO.nil ?_
        exact KQ.mid (isLet c) rfl ⟨by rw [hl]; first | rfl | simp [envAt, h1, h2, h3, h4], rfl, rfl, rfl, rfl, trivial⟩ (fun _ h => h))
    rintro b rfl
    refine K.cond rfl (fun h5 => ?_) (fun h5 => ?_)
    · repeat ((with_reducible refine K.seq ?_))
      refine K.reg ?_
      refine KO.as rfl rfl ?_
      refine KO.nil ?_
      repeat (first | (with_reducible refine KQ.next ?_) | (with_reducible refine KQ.then_ret ?_) | (with_reducible refine KQ.blk_ret ?_) | (with_reducible refine K.ret ?_))
      refine KQ.ret1 rfl rfl (fun w' hs' => ⟨_, _, rfl, ⟨?_, rfl⟩, hw.below_step hs'.below, hs'.below⟩)
      have : allLet s = false := by
        unfold allLet
        rw [List.all_eq_false]
        obtain ⟨hlt, rfl⟩ := getElem?_eq_some_iff.1 hc
        exact ⟨s[k], Array.mem_toList_iff.2 (Array.getElem_mem (xs := s.data) hlt), by simpa using h5⟩
      simp [lettersB, this]
    · repeat (first | (with_reducible refine KQ.next ?_) | (with_reducible refine KQ.blk_normal ?_) | (with_reducible refine K.skip ?_))
      refine K.reg ?_
      refine KO.add rfl rfl rfl (by omega) rfl ?_
      refine KO.mv rfl rfl ?_
      refine KO.nil ?_
      refine KQ.round (k + 1) ⟨by omega, fun j d hj hd => ?_⟩ (by omega) ⟨rfl, rfl, rfl, rfl, trivial⟩ (fun _ h => h)
      by_cases hjk : j = k
      · subst hjk; rw [hc] at hd; cases hd; simpa using h5
      · exact hall j d (by omega) hd
  · have hall2 : allLet s = true := by
      unfold allLet
      rw [List.all_eq_true]
      intro c hc
      obtain ⟨j, hj, rfl⟩ := List.getElem_of_mem hc
      have hj2 : j < s.size := by simpa using hj
      exact hall j _ (by omega) (getElem?_eq_some_iff.2 ⟨hj2, rfl⟩)
    repeat (first | (with_reducible refine K.seq ?_) | (with_reducible refine KQ.next ?_) | (with_reducible refine KQ.then_exit ?_) | (with_reducible refine KQ.blk_exit ?_) | (with_reducible refine K.exit ?_))
    refine K.reg ?_
    refine KO.mv rfl rfl ?_
    refine KO.lenS rfl Tryz.underlying9 rfl ?_
    refine KO.mv rfl rfl ?_
    refine KO.ce (cp := []) rfl rfl rfl Tryz.call62 rfl (in_e w _ _ _ _) ?_; rintro v' L' ⟨rfl, rfl⟩
    refine KO.as rfl rfl ?_
    refine KO.nil ?_
    repeat (first | (with_reducible refine KQ.next ?_) | (with_reducible refine K.ret ?_))
    refine KQ.ret1 rfl rfl (fun w' hs' => ⟨_, _, rfl, ⟨?_, rfl⟩, hw.below_step hs'.below, hs'.below⟩)
    simp only [lettersB, hall2, Bool.and_true]
    congr 2
    · exact decide_eq_decide.2 (by omega)
    · exact decide_eq_decide.2 (by omega)
theorem rword_e (w0 : World) (L : List HP) (s : ByteArray) (hs : s.size ≤ maxLen) : KE Tryz.prog 64 #[.string s] w0 L (fun u M => u = .bool (wordB s) ∧ M = L) := by
  refine KE.mk (n := 5) Tryz.func64 rfl Tryz.ntmps64 (by simp) ?_
  intro w hw
  repeat ((with_reducible refine K.seq ?_))
  refine K.reg ?_
  refine KO.as rfl rfl ?_
  refine KO.nil ?_
  repeat (first | (with_reducible refine K.seq ?_) | (with_reducible refine KQ.next ?_))
  refine K.reg ?_
  refine KO.mv rfl rfl ?_
  refine KO.ce (cp := []) rfl rfl rfl Tryz.call103 rfl (rletters_e w _ s 8 hs) ?_; rintro v' L' ⟨rfl, rfl⟩
  refine KO.as rfl rfl ?_
  refine KO.nil ?_
  repeat (first | (with_reducible refine KQ.next ?_) | (with_reducible refine K.ret ?_))
  refine KQ.ret1 rfl rfl (fun w' hs' => ⟨_, _, rfl, ⟨rfl, rfl⟩, hw.below_step hs'.below, hs'.below⟩)
theorem rbody_e (w0 : World) (L : List HP) (s : ByteArray) (hs : s.size ≤ maxLen) : KE Tryz.prog 63 #[.string s] w0 L (fun u M => u = .bool (bodyB s) ∧ M = L) := by
  refine KE.mk (n := 5) Tryz.func63 rfl Tryz.ntmps63 (by simp) ?_
  intro w hw
  repeat ((with_reducible refine K.seq ?_))
  refine K.reg ?_
  refine KO.as rfl rfl ?_
  refine KO.nil ?_
  repeat (first | (with_reducible refine K.seq ?_) | (with_reducible refine KQ.next ?_))
  refine K.reg ?_
  refine KO.mv rfl rfl ?_
  refine KO.ce (cp := []) rfl rfl rfl Tryz.call103 rfl (rletters_e w _ s 12 hs) ?_; rintro v' L' ⟨rfl, rfl⟩
  refine KO.as rfl rfl ?_
  refine KO.nil ?_
  repeat (first | (with_reducible refine KQ.next ?_) | (with_reducible refine K.ret ?_))
  refine KQ.ret1 rfl rfl (fun w' hs' => ⟨_, _, rfl, ⟨rfl, rfl⟩, hw.below_step hs'.below, hs'.below⟩)
theorem rright_e (w0 : World) (L : List HP) (m : Ms) (hb : m.body.size ≤ maxLen) (hq : m.queue.size ≤ maxLen) : KE Tryz.prog 19 #[.agg (msC m).toArray] w0 L (fun u M => u = .bool (msRight m) ∧ M = L) := by
  refine KE.mk (n := 26) Tryz.func19 rfl Tryz.ntmps19 (by simp) ?_
  intro w hw
  have fin : ∀ (b : Bool) (w' : World) (M : List HP), b = msRight m → St w M w' → ∃ v L', Ending.returned (.bool b) = Ending.returned v ∧ (v = .bool (msRight m) ∧ L' = L) ∧ St w0 L' w' ∧ Below w.heap.size w w' := fun b w' M e hs => ⟨_, _, rfl, ⟨by rw [e], rfl⟩, hw.below_step hs.below, hs.below⟩
  have hd : msRight m = ((decide (0 ≤ m.id) && decide (m.id ≤ 1099511627776)) && ((decide (0 ≤ m.pri) && decide (m.pri ≤ 9)) && (bodyB m.body && (wordB m.queue && (decide (0 ≤ m.house) && decide (m.house ≤ 3)))))) := by
    unfold msRight
    rw [show decide (m.house < 4) = decide (m.house ≤ 3) from decide_eq_decide.2 (by omega)]
    simp only [Bool.and_assoc]
  repeat ((with_reducible refine K.seq ?_))
  refine K.reg ?_
  refine KO.box rfl rfl (by exact rfl) rfl ?_; intro b1
  refine KO.as rfl rfl ?_
  refine KO.nil ?_
  repeat (first | (with_reducible refine K.seq ?_) | (with_reducible refine KQ.next ?_))
  generalize hc1 : (decide (0 ≤ m.id) && decide (m.id ≤ 1099511627776)) = c1 at hd
  generalize hc2 : (decide (0 ≤ m.pri) && decide (m.pri ≤ 9)) = c2 at hd
  generalize hc3 : bodyB m.body = c3 at hd
  generalize hc4 : wordB m.queue = c4 at hd
  generalize hc5 : (decide (0 ≤ m.house) && decide (m.house ≤ 3)) = c5 at hd
  cases c1
  · refine K.reg ?_
    refine KO.fo0 (off := 0) rfl Tryz.runUnderlying31 rfl rfl Tryz.sizeOf3 rfl ?_
    refine KO.ld rfl rfl Tryz.isAgg3 (by with_reducible (repeat (exact Pick.head))) (by exact rfl) rfl ?_
    refine KO.ce (cp := []) rfl rfl rfl Tryz.call62 rfl (in_e w _ _ _ _) ?_; rintro v' L' ⟨rfl, rfl⟩; rw [hc1]
    refine KO.mv rfl rfl ?_
    (refine KO.no rfl rfl ?_ rfl ?_; (focus rfl))
    (refine KO.no rfl rfl ?_ rfl ?_; (focus rfl))
    (refine KO.no rfl rfl ?_ rfl ?_; (focus rfl))
    (refine KO.pickF rfl ?_ rfl rfl ?_; (focus rfl))
    refine KO.mv rfl rfl ?_
    (refine KO.no rfl rfl ?_ rfl ?_; (focus rfl))
    (refine KO.no rfl rfl ?_ rfl ?_; (focus rfl))
    (refine KO.no rfl rfl ?_ rfl ?_; (focus rfl))
    (refine KO.pickF rfl ?_ rfl rfl ?_; (focus rfl))
    refine KO.mv rfl rfl ?_
    (refine KO.no rfl rfl ?_ rfl ?_; (focus rfl))
    (refine KO.no rfl rfl ?_ rfl ?_; (focus rfl))
    (refine KO.no rfl rfl ?_ rfl ?_; (focus rfl))
    (refine KO.pickF rfl ?_ rfl rfl ?_; (focus rfl))
    refine KO.mv rfl rfl ?_
    (refine KO.no rfl rfl ?_ rfl ?_; (focus rfl))
    (refine KO.no rfl rfl ?_ rfl ?_; (focus rfl))
    (refine KO.no rfl rfl ?_ rfl ?_; (focus rfl))
    (refine KO.pickF rfl ?_ rfl rfl ?_; (focus rfl))
    refine KO.as rfl rfl ?_
    refine KO.nil ?_
    repeat (first | (with_reducible refine KQ.next ?_) | (with_reducible refine K.ret ?_))
    exact KQ.ret1 rfl rfl (fun w' hs => fin _ w' _ (by simp [hd]) hs)
  cases c2
  · refine K.reg ?_
    refine KO.fo0 (off := 0) rfl Tryz.runUnderlying31 rfl rfl Tryz.sizeOf3 rfl ?_
    refine KO.ld rfl rfl Tryz.isAgg3 (by with_reducible (repeat (exact Pick.head))) (by exact rfl) rfl ?_
    refine KO.ce (cp := []) rfl rfl rfl Tryz.call62 rfl (in_e w _ _ _ _) ?_; rintro v' L' ⟨rfl, rfl⟩; rw [hc1]
    refine KO.mv rfl rfl ?_
    (refine KO.on rfl rfl ?_ ?_; (focus rfl); (refine KO.fo0 (off := 1) rfl Tryz.runUnderlying31 rfl rfl Tryz.sizeOf3 rfl ?_))
    (refine KO.on rfl rfl ?_ ?_; (focus rfl); (refine KO.ld rfl rfl Tryz.isAgg3 (by with_reducible (repeat (exact Pick.head))) (by exact rfl) rfl ?_))
    refine KO.on rfl rfl rfl ?_; refine KO.ce (cp := []) rfl rfl rfl Tryz.call62 rfl (in_e w _ _ _ _) ?_; rintro v' L' ⟨rfl, rfl⟩; rw [hc2]
    (refine KO.pickT rfl ?_ rfl rfl ?_; (focus rfl))
    refine KO.mv rfl rfl ?_
    (refine KO.no rfl rfl ?_ rfl ?_; (focus rfl))
    (refine KO.no rfl rfl ?_ rfl ?_; (focus rfl))
    (refine KO.no rfl rfl ?_ rfl ?_; (focus rfl))
    (refine KO.pickF rfl ?_ rfl rfl ?_; (focus rfl))
    refine KO.mv rfl rfl ?_
    (refine KO.no rfl rfl ?_ rfl ?_; (focus rfl))
    (refine KO.no rfl rfl ?_ rfl ?_; (focus rfl))
    (refine KO.no rfl rfl ?_ rfl ?_; (focus rfl))
    (refine KO.pickF rfl ?_ rfl rfl ?_; (focus rfl))
    refine KO.mv rfl rfl ?_
    (refine KO.no rfl rfl ?_ rfl ?_; (focus rfl))
    (refine KO.no rfl rfl ?_ rfl ?_; (focus rfl))
    (refine KO.no rfl rfl ?_ rfl ?_; (focus rfl))
    (refine KO.pickF rfl ?_ rfl rfl ?_; (focus rfl))
    refine KO.as rfl rfl ?_
    refine KO.nil ?_
    repeat (first | (with_reducible refine KQ.next ?_) | (with_reducible refine K.ret ?_))
    exact KQ.ret1 rfl rfl (fun w' hs => fin _ w' _ (by simp [hd]) hs)
  cases c3
  · refine K.reg ?_
    refine KO.fo0 (off := 0) rfl Tryz.runUnderlying31 rfl rfl Tryz.sizeOf3 rfl ?_
    refine KO.ld rfl rfl Tryz.isAgg3 (by with_reducible (repeat (exact Pick.head))) (by exact rfl) rfl ?_
    refine KO.ce (cp := []) rfl rfl rfl Tryz.call62 rfl (in_e w _ _ _ _) ?_; rintro v' L' ⟨rfl, rfl⟩; rw [hc1]
    refine KO.mv rfl rfl ?_
    (refine KO.on rfl rfl ?_ ?_; (focus rfl); (refine KO.fo0 (off := 1) rfl Tryz.runUnderlying31 rfl rfl Tryz.sizeOf3 rfl ?_))
    (refine KO.on rfl rfl ?_ ?_; (focus rfl); (refine KO.ld rfl rfl Tryz.isAgg3 (by with_reducible (repeat (exact Pick.head))) (by exact rfl) rfl ?_))
    refine KO.on rfl rfl rfl ?_; refine KO.ce (cp := []) rfl rfl rfl Tryz.call62 rfl (in_e w _ _ _ _) ?_; rintro v' L' ⟨rfl, rfl⟩; rw [hc2]
    (refine KO.pickT rfl ?_ rfl rfl ?_; (focus rfl))
    refine KO.mv rfl rfl ?_
    (refine KO.on rfl rfl ?_ ?_; (focus rfl); (refine KO.fo0 (off := 2) rfl Tryz.runUnderlying31 rfl rfl Tryz.sizeOf9 rfl ?_))
    (refine KO.on rfl rfl ?_ ?_; (focus rfl); (refine KO.ld rfl rfl Tryz.isAgg9 (by with_reducible (repeat (exact Pick.head))) (by exact rfl) rfl ?_))
    refine KO.on rfl rfl rfl ?_; refine KO.ce (cp := []) rfl rfl rfl Tryz.call63 rfl (rbody_e w _ _ hb) ?_; rintro v' L' ⟨rfl, rfl⟩; rw [hc3]
    (refine KO.pickT rfl ?_ rfl rfl ?_; (focus rfl))
    refine KO.mv rfl rfl ?_
    (refine KO.no rfl rfl ?_ rfl ?_; (focus rfl))
    (refine KO.no rfl rfl ?_ rfl ?_; (focus rfl))
    (refine KO.no rfl rfl ?_ rfl ?_; (focus rfl))
    (refine KO.pickF rfl ?_ rfl rfl ?_; (focus rfl))
    refine KO.mv rfl rfl ?_
    (refine KO.no rfl rfl ?_ rfl ?_; (focus rfl))
    (refine KO.no rfl rfl ?_ rfl ?_; (focus rfl))
    (refine KO.no rfl rfl ?_ rfl ?_; (focus rfl))
    (refine KO.pickF rfl ?_ rfl rfl ?_; (focus rfl))
    refine KO.as rfl rfl ?_
    refine KO.nil ?_
    repeat (first | (with_reducible refine KQ.next ?_) | (with_reducible refine K.ret ?_))
    exact KQ.ret1 rfl rfl (fun w' hs => fin _ w' _ (by simp [hd]) hs)
  cases c4
  · refine K.reg ?_
    refine KO.fo0 (off := 0) rfl Tryz.runUnderlying31 rfl rfl Tryz.sizeOf3 rfl ?_
    refine KO.ld rfl rfl Tryz.isAgg3 (by with_reducible (repeat (exact Pick.head))) (by exact rfl) rfl ?_
    refine KO.ce (cp := []) rfl rfl rfl Tryz.call62 rfl (in_e w _ _ _ _) ?_; rintro v' L' ⟨rfl, rfl⟩; rw [hc1]
    refine KO.mv rfl rfl ?_
    (refine KO.on rfl rfl ?_ ?_; (focus rfl); (refine KO.fo0 (off := 1) rfl Tryz.runUnderlying31 rfl rfl Tryz.sizeOf3 rfl ?_))
    (refine KO.on rfl rfl ?_ ?_; (focus rfl); (refine KO.ld rfl rfl Tryz.isAgg3 (by with_reducible (repeat (exact Pick.head))) (by exact rfl) rfl ?_))
    refine KO.on rfl rfl rfl ?_; refine KO.ce (cp := []) rfl rfl rfl Tryz.call62 rfl (in_e w _ _ _ _) ?_; rintro v' L' ⟨rfl, rfl⟩; rw [hc2]
    (refine KO.pickT rfl ?_ rfl rfl ?_; (focus rfl))
    refine KO.mv rfl rfl ?_
    (refine KO.on rfl rfl ?_ ?_; (focus rfl); (refine KO.fo0 (off := 2) rfl Tryz.runUnderlying31 rfl rfl Tryz.sizeOf9 rfl ?_))
    (refine KO.on rfl rfl ?_ ?_; (focus rfl); (refine KO.ld rfl rfl Tryz.isAgg9 (by with_reducible (repeat (exact Pick.head))) (by exact rfl) rfl ?_))
    refine KO.on rfl rfl rfl ?_; refine KO.ce (cp := []) rfl rfl rfl Tryz.call63 rfl (rbody_e w _ _ hb) ?_; rintro v' L' ⟨rfl, rfl⟩; rw [hc3]
    (refine KO.pickT rfl ?_ rfl rfl ?_; (focus rfl))
    refine KO.mv rfl rfl ?_
    (refine KO.on rfl rfl ?_ ?_; (focus rfl); (refine KO.fo0 (off := 3) rfl Tryz.runUnderlying31 rfl rfl Tryz.sizeOf9 rfl ?_))
    (refine KO.on rfl rfl ?_ ?_; (focus rfl); (refine KO.ld rfl rfl Tryz.isAgg9 (by with_reducible (repeat (exact Pick.head))) (by exact rfl) rfl ?_))
    refine KO.on rfl rfl rfl ?_; refine KO.ce (cp := []) rfl rfl rfl Tryz.call64 rfl (rword_e w _ _ hq) ?_; rintro v' L' ⟨rfl, rfl⟩; rw [hc4]
    (refine KO.pickT rfl ?_ rfl rfl ?_; (focus rfl))
    refine KO.mv rfl rfl ?_
    (refine KO.no rfl rfl ?_ rfl ?_; (focus rfl))
    (refine KO.no rfl rfl ?_ rfl ?_; (focus rfl))
    (refine KO.no rfl rfl ?_ rfl ?_; (focus rfl))
    (refine KO.pickF rfl ?_ rfl rfl ?_; (focus rfl))
    refine KO.as rfl rfl ?_
    refine KO.nil ?_
    repeat (first | (with_reducible refine KQ.next ?_) | (with_reducible refine K.ret ?_))
    exact KQ.ret1 rfl rfl (fun w' hs => fin _ w' _ (by simp [hd]) hs)
  · refine K.reg ?_
    refine KO.fo0 (off := 0) rfl Tryz.runUnderlying31 rfl rfl Tryz.sizeOf3 rfl ?_
    refine KO.ld rfl rfl Tryz.isAgg3 (by with_reducible (repeat (exact Pick.head))) (by exact rfl) rfl ?_
    refine KO.ce (cp := []) rfl rfl rfl Tryz.call62 rfl (in_e w _ _ _ _) ?_; rintro v' L' ⟨rfl, rfl⟩; rw [hc1]
    refine KO.mv rfl rfl ?_
    (refine KO.on rfl rfl ?_ ?_; (focus rfl); (refine KO.fo0 (off := 1) rfl Tryz.runUnderlying31 rfl rfl Tryz.sizeOf3 rfl ?_))
    (refine KO.on rfl rfl ?_ ?_; (focus rfl); (refine KO.ld rfl rfl Tryz.isAgg3 (by with_reducible (repeat (exact Pick.head))) (by exact rfl) rfl ?_))
    refine KO.on rfl rfl rfl ?_; refine KO.ce (cp := []) rfl rfl rfl Tryz.call62 rfl (in_e w _ _ _ _) ?_; rintro v' L' ⟨rfl, rfl⟩; rw [hc2]
    (refine KO.pickT rfl ?_ rfl rfl ?_; (focus rfl))
    refine KO.mv rfl rfl ?_
    (refine KO.on rfl rfl ?_ ?_; (focus rfl); (refine KO.fo0 (off := 2) rfl Tryz.runUnderlying31 rfl rfl Tryz.sizeOf9 rfl ?_))
    (refine KO.on rfl rfl ?_ ?_; (focus rfl); (refine KO.ld rfl rfl Tryz.isAgg9 (by with_reducible (repeat (exact Pick.head))) (by exact rfl) rfl ?_))
    refine KO.on rfl rfl rfl ?_; refine KO.ce (cp := []) rfl rfl rfl Tryz.call63 rfl (rbody_e w _ _ hb) ?_; rintro v' L' ⟨rfl, rfl⟩; rw [hc3]
    (refine KO.pickT rfl ?_ rfl rfl ?_; (focus rfl))
    refine KO.mv rfl rfl ?_
    (refine KO.on rfl rfl ?_ ?_; (focus rfl); (refine KO.fo0 (off := 3) rfl Tryz.runUnderlying31 rfl rfl Tryz.sizeOf9 rfl ?_))
    (refine KO.on rfl rfl ?_ ?_; (focus rfl); (refine KO.ld rfl rfl Tryz.isAgg9 (by with_reducible (repeat (exact Pick.head))) (by exact rfl) rfl ?_))
    refine KO.on rfl rfl rfl ?_; refine KO.ce (cp := []) rfl rfl rfl Tryz.call64 rfl (rword_e w _ _ hq) ?_; rintro v' L' ⟨rfl, rfl⟩; rw [hc4]
    (refine KO.pickT rfl ?_ rfl rfl ?_; (focus rfl))
    refine KO.mv rfl rfl ?_
    (refine KO.on rfl rfl ?_ ?_; (focus rfl); (refine KO.fo0 (off := 4) rfl Tryz.runUnderlying31 rfl rfl Tryz.sizeOf3 rfl ?_))
    (refine KO.on rfl rfl ?_ ?_; (focus rfl); (refine KO.ld rfl rfl Tryz.isAgg3 (by with_reducible (repeat (exact Pick.head))) (by exact rfl) rfl ?_))
    refine KO.on rfl rfl rfl ?_; refine KO.ce (cp := []) rfl rfl rfl Tryz.call62 rfl (in_e w _ _ _ _) ?_; rintro v' L' ⟨rfl, rfl⟩; rw [hc5]
    (refine KO.pickT rfl ?_ rfl rfl ?_; (focus rfl))
    refine KO.as rfl rfl ?_
    refine KO.nil ?_
    repeat (first | (with_reducible refine KQ.next ?_) | (with_reducible refine K.ret ?_))
    exact KQ.ret1 rfl rfl (fun w' hs => fin _ w' _ (by simp [hd]) hs)
theorem bare_e (w0 : World) (L : List HP) (k : Int) : KE Tryz.prog 51 #[.int .i64 k] w0 L (fun u M => u = .agg [Value.int .i64 k, .int .i64 (-1)].toArray ∧ M = L) := by
  refine KE.mk (n := 5) Tryz.func51 rfl Tryz.ntmps51 (by simp) ?_
  intro w hw
  repeat ((with_reducible refine K.seq ?_))
  refine K.reg ?_
  refine KO.alloc rfl Tryz.zeroValue97 (by exact rfl) rfl ?_; intro b2
  refine KO.nil ?_
  repeat (first | (with_reducible refine K.seq ?_) | (with_reducible refine KQ.next ?_))
  refine K.reg ?_
  refine KO.mv rfl rfl ?_
  refine KO.bldS (pl := [(0, 1), (1, 1)]) [.int .i64 k, .int .i64 (-1)] rfl Tryz.zeroValue97 Tryz.runUnderlying97 (by intro w; simp [Tryz.sizeOf3, Tryz.sizeOf39]) rfl rfl ?_
  refine KO.sto0 rfl rfl rfl (by exact rfl) (by exact Tryz.sizeOf97) (by exact rfl) (by with_reducible (repeat (exact Pick.head))) (by exact rfl) ?_
  refine KO.nil ?_
  repeat (first | (with_reducible refine KQ.next ?_) | (with_reducible refine K.ret ?_))
  refine KQ.retC rfl rfl Tryz.isAgg97 (by with_reducible (repeat (exact Pick.head))) (by exact Tryz.sizeOf97) (fun w' hs => ⟨_, _, rfl, ⟨rfl, rfl⟩, hw.below_step hs.below, hs.below⟩)
theorem place_e (w0 : World) (L : List HP) (k : Int) (hg : ErrType w0) : KE Tryz.prog 101 #[errV 39 k] w0 L (fun u M => u = .tuple #[.int .i64 k, .int .i64 (-1)] ∧ M = L) := by
  refine KE.mk (n := 38) Tryz.func101 rfl Tryz.ntmps101 (by simp) ?_
  intro w hw
  have hgw : ErrType w := (Ext.of_below hw.below).cell hg
  repeat ((with_reducible refine K.seq ?_))
  refine K.reg ?_
  refine KO.as rfl rfl ?_
  refine KO.as rfl rfl ?_
  refine KO.nil ?_
  repeat (first | (with_reducible refine K.seq ?_) | (with_reducible refine KQ.next ?_))
  refine K.reg ?_
  refine KO.mv rfl rfl ?_
  refine KO.ce (cp := []) rfl rfl rfl Tryz.call177 rfl (tell_e w _ k hgw) ?_; rintro v' L' ⟨rfl, rfl⟩
  refine KO.as rfl rfl ?_
  refine KO.nil ?_
  repeat (first | (with_reducible refine K.seq ?_) | (with_reducible refine KQ.next ?_) | (with_reducible refine K.block ?_))
  refine K.loop (fun _ : Unit => [(0, errV 39 k), (4, .int .i64 k)]) (fun _ => []) (fun _ => True) (fun _ => 0) () trivial ⟨rfl, rfl, trivial⟩ (fun _ h => h) ?_
  rintro _ _
  repeat ((with_reducible refine K.seq ?_))
  refine K.reg ?_
  refine KO.mv rfl rfl ?_
  refine KO.neN rfl (by kernel_rfl) rfl ?_
  refine KO.nil ?_
  repeat ((with_reducible refine KQ.next ?_))
  refine K.condD rfl (fun h => ?_) (fun h => ?_)
  · rw [show errV 39 k = .iface 39 (.int .i64 k) from if_neg h]
    repeat (first | (with_reducible refine K.seq ?_) | (with_reducible refine KQ.next ?_) | (with_reducible refine K.skip ?_) | (with_reducible refine K.block ?_))
    refine K.reg ?_
    refine KO.mv rfl rfl ?_
    refine KO.taC rfl (by kernel_rfl) (by exact rfl) Tryz.zeroValue259 rfl ?_
    refine KO.mv rfl rfl ?_
    refine KO.extrL rfl (by exact rfl) rfl ?_
    refine KO.extrL rfl (by exact rfl) rfl ?_
    refine KO.as rfl rfl ?_
    refine KO.as rfl rfl ?_
    refine KO.nil ?_
    repeat (first | (with_reducible refine K.seq ?_) | (with_reducible refine KQ.next ?_))
    refine K.reg ?_
    refine KO.mv rfl rfl ?_
    refine KO.mv rfl rfl ?_
    (refine KO.no rfl rfl ?_ rfl ?_; (focus rfl))
    (refine KO.no rfl rfl ?_ rfl ?_; (focus rfl))
    (refine KO.pickF rfl ?_ rfl rfl ?_; (focus rfl))
    refine KO.nil ?_
    repeat ((with_reducible refine KQ.next ?_))
    refine K.condF rfl rfl ?_
    repeat (first | (with_reducible refine K.seq ?_) | (with_reducible refine KQ.next ?_) | (with_reducible refine K.skip ?_))
    refine K.reg ?_
    refine KO.mv rfl rfl ?_
    refine KO.taN (z := Value.nilIface) rfl Tryz.underlying263 (by kernel_rfl) (by kernel_rfl) rfl ?_
    refine KO.mv rfl rfl ?_
    refine KO.extrL rfl (by exact rfl) rfl ?_
    refine KO.extrL rfl (by exact rfl) rfl ?_
    refine KO.as rfl rfl ?_
    refine KO.as rfl rfl ?_
    refine KO.nil ?_
    repeat (first | (with_reducible refine K.seq ?_) | (with_reducible refine KQ.next ?_))
    refine K.reg ?_
    refine KO.mv rfl rfl ?_
    refine KO.not rfl rfl ?_
    refine KO.nil ?_
    repeat ((with_reducible refine KQ.next ?_))
    refine K.condT rfl rfl ?_
    repeat (first | (with_reducible refine K.seq ?_) | (with_reducible refine KQ.next ?_) | (with_reducible refine KQ.then_exit ?_) | (with_reducible refine KQ.blk_exit ?_) | (refine KQ.blk_pass rfl ?_) | (with_reducible refine K.exit ?_))
    refine K.reg ?_
    refine KO.mv rfl rfl ?_
    refine KO.as rfl rfl ?_
    refine KO.as rfl rfl ?_
    refine KO.nil ?_
    repeat (first | (with_reducible refine KQ.next ?_) | (with_reducible refine K.ret ?_))
    refine KQ.ret2 rfl rfl rfl (fun w' hs => ⟨_, _, rfl, ⟨rfl, rfl⟩, hw.below_step hs.below, hs.below⟩)
  · repeat (first | (with_reducible refine K.seq ?_) | (with_reducible refine KQ.next ?_) | (with_reducible refine KQ.then_exit ?_) | (with_reducible refine KQ.blk_exit ?_) | (with_reducible refine K.exit ?_))
    refine K.reg ?_
    refine KO.mv rfl rfl ?_
    refine KO.as rfl rfl ?_
    refine KO.as rfl rfl ?_
    refine KO.nil ?_
    repeat (first | (with_reducible refine KQ.next ?_) | (with_reducible refine K.ret ?_))
    refine KQ.ret2 rfl rfl rfl (fun w' hs => ⟨_, _, rfl, ⟨rfl, rfl⟩, hw.below_step hs.below, hs.below⟩)
theorem is_e (w0 : World) (L : List HP) (k e p : Int) (hg : ErrType w0) : KE Tryz.prog 50 #[errV 39 k, .agg [Value.int .i64 e, .int .i64 p].toArray] w0 L (fun u M => u = .bool (decide (k = e) && decide (-1 = p)) ∧ M = L) := by
  refine KE.mk (n := 22) Tryz.func50 rfl Tryz.ntmps50 (by simp) ?_
  intro w hw
  have hgw : ErrType w := (Ext.of_below hw.below).cell hg
  repeat ((with_reducible refine K.seq ?_))
  refine K.reg ?_
  refine KO.box rfl rfl (by exact rfl) rfl ?_; intro b3
  refine KO.as rfl rfl ?_
  refine KO.nil ?_
  repeat (first | (with_reducible refine K.seq ?_) | (with_reducible refine KQ.next ?_))
  refine K.reg ?_
  refine KO.mv rfl rfl ?_
  refine KO.ce (cp := []) rfl rfl rfl Tryz.call101 rfl (place_e w _ k hgw) ?_; rintro v' L' ⟨rfl, rfl⟩
  refine KO.mv rfl rfl ?_
  refine KO.extrL rfl (by exact rfl) rfl ?_
  refine KO.extrL rfl (by exact rfl) rfl ?_
  refine KO.as rfl rfl ?_
  refine KO.as rfl rfl ?_
  refine KO.nil ?_
  repeat (first | (with_reducible refine K.seq ?_) | (with_reducible refine KQ.next ?_))
  by_cases h : k = e
  · refine K.reg ?_
    refine KO.mv rfl rfl ?_
    refine KO.fo0 (off := 0) rfl Tryz.runUnderlying97 rfl rfl Tryz.sizeOf39 rfl ?_
    refine KO.ld rfl rfl Tryz.isAgg39 (by with_reducible (repeat (exact Pick.head))) (by exact rfl) rfl ?_
    refine KO.eqI rfl rfl rfl ?_
    refine KO.mv rfl rfl ?_
    (refine KO.on rfl rfl ?_ ?_; (focus (simp only [decide_eq_true_eq, decide_eq_false_iff_not, Bool.not_eq_true, Bool.not_true, Bool.not_false, ne_eq]; omega)); (refine KO.mv rfl rfl ?_))
    (refine KO.on rfl rfl ?_ ?_; (focus (simp only [decide_eq_true_eq, decide_eq_false_iff_not, Bool.not_eq_true, Bool.not_true, Bool.not_false, ne_eq]; omega)); (refine KO.fo0 (off := 1) rfl Tryz.runUnderlying97 rfl rfl Tryz.sizeOf3 rfl ?_))
    (refine KO.on rfl rfl ?_ ?_; (focus (simp only [decide_eq_true_eq, decide_eq_false_iff_not, Bool.not_eq_true, Bool.not_true, Bool.not_false, ne_eq]; omega)); (refine KO.ld rfl rfl Tryz.isAgg3 (by with_reducible (repeat (exact Pick.head))) (by exact rfl) rfl ?_))
    (refine KO.on rfl rfl ?_ ?_; (focus (simp only [decide_eq_true_eq, decide_eq_false_iff_not, Bool.not_eq_true, Bool.not_true, Bool.not_false, ne_eq]; omega)); (refine KO.eqI rfl rfl rfl ?_))
    (refine KO.pickT rfl ?_ rfl rfl ?_; (focus (simp only [decide_eq_true_eq, decide_eq_false_iff_not, Bool.not_eq_true, Bool.not_true, Bool.not_false, ne_eq]; omega)))
    refine KO.as rfl rfl ?_
    refine KO.nil ?_
    repeat (first | (with_reducible refine KQ.next ?_) | (with_reducible refine K.ret ?_))
    refine KQ.ret1 rfl rfl (fun w' hs => ⟨_, _, rfl, ⟨by simp [h], rfl⟩, hw.below_step hs.below, hs.below⟩)
  · refine K.reg ?_
    refine KO.mv rfl rfl ?_
    refine KO.fo0 (off := 0) rfl Tryz.runUnderlying97 rfl rfl Tryz.sizeOf39 rfl ?_
    refine KO.ld rfl rfl Tryz.isAgg39 (by with_reducible (repeat (exact Pick.head))) (by exact rfl) rfl ?_
    refine KO.eqI rfl rfl rfl ?_
    refine KO.mv rfl rfl ?_
    (refine KO.no rfl rfl ?_ rfl ?_; (focus (simp only [decide_eq_true_eq, decide_eq_false_iff_not, Bool.not_eq_true, Bool.not_true, Bool.not_false, ne_eq]; omega)))
    (refine KO.no rfl rfl ?_ rfl ?_; (focus (simp only [decide_eq_true_eq, decide_eq_false_iff_not, Bool.not_eq_true, Bool.not_true, Bool.not_false, ne_eq]; omega)))
    (refine KO.no rfl rfl ?_ rfl ?_; (focus (simp only [decide_eq_true_eq, decide_eq_false_iff_not, Bool.not_eq_true, Bool.not_true, Bool.not_false, ne_eq]; omega)))
    (refine KO.no rfl rfl ?_ rfl ?_; (focus (simp only [decide_eq_true_eq, decide_eq_false_iff_not, Bool.not_eq_true, Bool.not_true, Bool.not_false, ne_eq]; omega)))
    (refine KO.pickF rfl ?_ rfl rfl ?_; (focus (simp only [decide_eq_true_eq, decide_eq_false_iff_not, Bool.not_eq_true, Bool.not_true, Bool.not_false, ne_eq]; omega)))
    refine KO.as rfl rfl ?_
    refine KO.nil ?_
    repeat (first | (with_reducible refine KQ.next ?_) | (with_reducible refine K.ret ?_))
    refine KQ.ret1 rfl rfl (fun w' hs => ⟨_, _, rfl, ⟨by simp [h], rfl⟩, hw.below_step hs.below, hs.below⟩)
theorem lbare_e (w0 : World) (L : List HP) (k e : Int) (hg : ErrType w0) : KE Tryz.prog 10 #[errV 39 k, .int .i64 e] w0 L (fun u M => u = .bool (decide (k = e)) ∧ M = L) := by
  refine KE.mk (n := 9) Tryz.func10 rfl Tryz.ntmps10 (by simp) ?_
  intro w hw
  have hgw : ErrType w := (Ext.of_below hw.below).cell hg
  repeat ((with_reducible refine K.seq ?_))
  refine K.reg ?_
  refine KO.as rfl rfl ?_
  refine KO.nil ?_
  repeat (first | (with_reducible refine K.seq ?_) | (with_reducible refine KQ.next ?_))
  refine K.reg ?_
  refine KO.mv rfl rfl ?_
  refine KO.mv rfl rfl ?_
  refine KO.ce (cp := []) rfl rfl rfl Tryz.call51 rfl (bare_e w _ e) ?_; rintro v' L' ⟨rfl, rfl⟩
  refine KO.ce (cp := []) rfl rfl rfl Tryz.call50 rfl (is_e w _ k e (-1) hgw) ?_; rintro v' L' ⟨rfl, rfl⟩
  refine KO.as rfl rfl ?_
  refine KO.nil ?_
  repeat (first | (with_reducible refine KQ.next ?_) | (with_reducible refine K.ret ?_))
  refine KQ.ret1 rfl rfl (fun w' hs => ⟨_, _, rfl, ⟨by simp, rfl⟩, hw.below_step hs.below, hs.below⟩)
theorem small_e (w0 : World) (L : List HP) (m : Ms) : KE Tryz.prog 9 #[.agg (msC m).toArray] w0 L (fun u M => u = .bool (decide (m.body.size ≤ 60) && decide (m.queue.size ≤ 60)) ∧ M = L) := by
  refine KE.mk (n := 13) Tryz.func9 rfl Tryz.ntmps9 (by simp) ?_
  intro w hw
  have fin : ∀ (b : Bool) (w' : World) (M : List HP), b = (decide (m.body.size ≤ 60) && decide (m.queue.size ≤ 60)) → St w M w' → ∃ v L', Ending.returned (.bool b) = Ending.returned v ∧ (v = .bool (decide (m.body.size ≤ 60) && decide (m.queue.size ≤ 60)) ∧ L' = L) ∧ St w0 L' w' ∧ Below w.heap.size w w' := fun b w' M e hs => ⟨_, _, rfl, ⟨by rw [e], rfl⟩, hw.below_step hs.below, hs.below⟩
  repeat ((with_reducible refine K.seq ?_))
  refine K.reg ?_
  refine KO.box rfl rfl (by exact rfl) rfl ?_; intro b1
  refine KO.as rfl rfl ?_
  refine KO.nil ?_
  repeat (first | (with_reducible refine K.seq ?_) | (with_reducible refine KQ.next ?_))
  by_cases h : ((m.body.size : Nat) : Int) ≤ 60
  · refine K.reg ?_
    refine KO.fo0 (off := 2) rfl Tryz.runUnderlying31 rfl rfl Tryz.sizeOf9 rfl ?_
    refine KO.ld rfl rfl Tryz.isAgg9 (by with_reducible (repeat (exact Pick.head))) (by exact rfl) rfl ?_
    refine KO.lenS rfl Tryz.underlying9 rfl ?_
    refine KO.leq rfl rfl rfl ?_
    refine KO.mv rfl rfl ?_
    (refine KO.on rfl rfl ?_ ?_; (focus (simp only [decide_eq_true_eq, decide_eq_false_iff_not, Bool.not_eq_true, Bool.not_true, Bool.not_false, ne_eq]; omega)); (refine KO.fo0 (off := 3) rfl Tryz.runUnderlying31 rfl rfl Tryz.sizeOf9 rfl ?_))
    (refine KO.on rfl rfl ?_ ?_; (focus (simp only [decide_eq_true_eq, decide_eq_false_iff_not, Bool.not_eq_true, Bool.not_true, Bool.not_false, ne_eq]; omega)); (refine KO.ld rfl rfl Tryz.isAgg9 (by with_reducible (repeat (exact Pick.head))) (by exact rfl) rfl ?_))
    (refine KO.on rfl rfl ?_ ?_; (focus (simp only [decide_eq_true_eq, decide_eq_false_iff_not, Bool.not_eq_true, Bool.not_true, Bool.not_false, ne_eq]; omega)); (refine KO.lenS rfl Tryz.underlying9 rfl ?_))
    (refine KO.on rfl rfl ?_ ?_; (focus (simp only [decide_eq_true_eq, decide_eq_false_iff_not, Bool.not_eq_true, Bool.not_true, Bool.not_false, ne_eq]; omega)); (refine KO.leq rfl rfl rfl ?_))
    (refine KO.pickT rfl ?_ rfl rfl ?_; (focus (simp only [decide_eq_true_eq, decide_eq_false_iff_not, Bool.not_eq_true, Bool.not_true, Bool.not_false, ne_eq]; omega)))
    refine KO.as rfl rfl ?_
    refine KO.nil ?_
    repeat (first | (with_reducible refine KQ.next ?_) | (with_reducible refine K.ret ?_))
    refine KQ.ret1 rfl rfl (fun w' hs => fin _ w' _ ?_ hs)
    have h1 : m.body.size ≤ 60 := by omega
    simp only [h1, decide_true, Bool.true_and]
    exact decide_eq_decide.2 (by omega)
  · refine K.reg ?_
    refine KO.fo0 (off := 2) rfl Tryz.runUnderlying31 rfl rfl Tryz.sizeOf9 rfl ?_
    refine KO.ld rfl rfl Tryz.isAgg9 (by with_reducible (repeat (exact Pick.head))) (by exact rfl) rfl ?_
    refine KO.lenS rfl Tryz.underlying9 rfl ?_
    refine KO.leq rfl rfl rfl ?_
    refine KO.mv rfl rfl ?_
    (refine KO.no rfl rfl ?_ rfl ?_; (focus (simp only [decide_eq_true_eq, decide_eq_false_iff_not, Bool.not_eq_true, Bool.not_true, Bool.not_false, ne_eq]; omega)))
    (refine KO.no rfl rfl ?_ rfl ?_; (focus (simp only [decide_eq_true_eq, decide_eq_false_iff_not, Bool.not_eq_true, Bool.not_true, Bool.not_false, ne_eq]; omega)))
    (refine KO.no rfl rfl ?_ rfl ?_; (focus (simp only [decide_eq_true_eq, decide_eq_false_iff_not, Bool.not_eq_true, Bool.not_true, Bool.not_false, ne_eq]; omega)))
    (refine KO.no rfl rfl ?_ rfl ?_; (focus (simp only [decide_eq_true_eq, decide_eq_false_iff_not, Bool.not_eq_true, Bool.not_true, Bool.not_false, ne_eq]; omega)))
    (refine KO.pickF rfl ?_ rfl rfl ?_; (focus (simp only [decide_eq_true_eq, decide_eq_false_iff_not, Bool.not_eq_true, Bool.not_true, Bool.not_false, ne_eq]; omega)))
    refine KO.as rfl rfl ?_
    refine KO.nil ?_
    repeat (first | (with_reducible refine KQ.next ?_) | (with_reducible refine K.ret ?_))
    refine KQ.ret1 rfl rfl (fun w' hs => fin _ w' _ ?_ hs)
    have h1 : ¬ m.body.size ≤ 60 := by omega
    simp [h1]
end Go.Proofs.YtjhogocabcdjbaaGreatDoor
/- maps that the call has made, keyed by texts or by numbers -/
namespace WB
open Go Go.RowKit Go.ChangeMaps Go.MapKept
structure KeyLaw {κ : Type} (d : TypeDesc) (kv : κ → Value) : Prop where
  isKey : ∀ k, IsKey d (kv k)
  inj : ∀ a b, kv a = kv b → a = b
theorem strKey : KeyLaw (κ := ByteArray) .string Value.string := ⟨fun _ => ⟨⟩, fun _ _ h => by cases h; rfl⟩
theorem intKey : KeyLaw (κ := Int) (.int .i64) (Value.int .i64) := ⟨fun _ => rfl, fun _ _ h => by cases h; rfl⟩
section
variable {κ : Type} [DecidableEq κ]
def getK {β : Type} (m : List (κ × β)) (k : κ) : Option β := match m with
  | [] => none
  | x :: r => if x.1 = k then some x.2 else getK r k
def putK {β : Type} (m : List (κ × β)) (k : κ) (v : β) : List (κ × β) := match m with
  | [] => [(k, v)]
  | x :: r => if x.1 = k then (x.1, v) :: r else x :: putK r k v
def delK {β : Type} (m : List (κ × β)) (k : κ) : List (κ × β) := match m with
  | [] => []
  | x :: r => if x.1 = k then r else x :: delK r k
theorem getK_putK {β : Type} (s t : κ) (v : β) : ∀ m : List (κ × β), getK (putK m s v) t = if s = t then some v else getK m t
  | [] => rfl
  | x :: r => by
    unfold putK
    by_cases h : x.1 = s
    · rw [if_pos h, getK, getK, h]; by_cases h2 : s = t <;> simp [h2]
    · rw [if_neg h, getK, getK, getK_putK s t v r]
      by_cases h2 : x.1 = t
      · have : ¬ s = t := fun e => h (h2.trans e.symm)
        simp [h2, this]
      · simp [h2]
variable {d : TypeDesc} {kv : κ → Value}
def esK (kv : κ → Value) (es : List MapEntry) (m : List (κ × Value)) : Prop := es.map (fun e => (e.key, e.val)) = m.map (fun x => (kv x.1, x.2))
def omapK (kv : κ → Value) (b : Nat) (m : List (κ × Value)) : HP := ex fun es : Array MapEntry => ex fun clk : Nat => sep (pur (esK kv es.toList m)) (blk b (.map es clk))
theorem findK (K : KeyLaw d kv) (s : κ) : ∀ (es : List MapEntry) (m : List (κ × Value)) (i : Nat), esK kv es m →
    (getK m s = none ∧ Instr.findNow d (kv s) es i = some none ∧ (∀ v clk, esK kv (es ++ [{ key := kv s, val := v, born := clk }]) (putK m s v)) ∧ delK m s = m) ∨
    ∃ j e, getK m s = some e.val ∧ es[j]? = some e ∧ e.key = kv s ∧ Instr.findNow d (kv s) es i = some (some (i + j, e.val)) ∧
      (∀ v, esK kv (es.modify j fun e => { e with key := kv s, val := v }) (putK m s v)) ∧ esK kv (es.eraseIdx j) (delK m s)
  | [], [], i, _ => Or.inl ⟨rfl, rfl, fun v clk => rfl, rfl⟩
  | [], _ :: _, _, h => by simp [esK] at h
  | _ :: _, [], _, h => by simp [esK] at h
  | e :: es, x :: m, i, h => by
    unfold esK at h
    simp only [List.map_cons, List.cons.injEq, Prod.mk.injEq] at h
    obtain ⟨⟨hk, hv⟩, hr⟩ := h
    obtain ⟨r, hr1, hr2⟩ := sameNow_of_keys (K.isKey s) (show IsKey d e.key by rw [hk]; exact K.isKey x.1)
    by_cases hx : x.1 = s
    · have hrt : r = true := hr2.2 (by rw [hk, hx])
      refine Or.inr ⟨0, e, by simp [getK, hx, hv], rfl, by rw [hk, hx], ?_, fun v => ?_, ?_⟩
      · unfold Instr.findNow
        rw [hr1, hrt]; rfl
      · unfold esK
        simp [putK, hx]
        exact hr
      · unfold esK
        simp [delK, hx]
        exact hr
    · have hrf : r = false := by
        cases r with
        | false => rfl
        | true => exact absurd (K.inj _ _ ((hr2.1 rfl).trans hk)) (fun e => hx e.symm)
      have hf : Instr.findNow d (kv s) (e :: es) i = Instr.findNow d (kv s) es (i + 1) := by
        conv => lhs; unfold Instr.findNow
        rw [hr1, hrf]
      rcases findK K s es m (i + 1) hr with ⟨h1, h2, h3, h4⟩ | ⟨j, e0, h1, h2, h3, h4, h5, h6⟩
      · refine Or.inl ⟨by simp [getK, hx, h1], by rw [hf, h2], fun v clk => ?_, by simp [delK, hx, h4]⟩
        have := h3 v clk
        unfold esK at this ⊢
        simp [putK, hx, hk, hv] at this ⊢
        exact this
      · refine Or.inr ⟨j + 1, e0, by simp [getK, hx, h1], by simpa using h2, h3, by rw [hf, h4]; simp; omega, fun v => ?_, ?_⟩
        · have := h5 v
          unfold esK at this ⊢
          simp [putK, hx, hk, hv] at this ⊢
          exact this
        · unfold esK at h6 ⊢
          simp [delK, hx, hk, hv] at h6 ⊢
          exact h6
variable {w0 w : World} {L : List HP} {P : Program} {b : Nat} {m : List (κ × Value)}
omit [DecidableEq κ] in
theorem omapK_make (h : St w0 L w) : St w0 (omapK kv w.heap.size [] :: L) (w.alloc (.map #[] 0)) :=
  St.exi #[] (St.exi 0 (St.join (St.puri (p := esK kv (#[] : Array MapEntry).toList []) rfl (h.alloc (.map #[] 0)))))
theorem omapK_look (K : KeyLaw d kv) (h : St w0 (omapK kv b m :: L) w) {w1 : World} (he : Ext w w1) {t k E : TypeId} (ht : P.underlying t = some (.map k E)) (hk : P.underlying k = some d) {z : Value} (hz : (zeroValue E).run P w1 = .ok z w1) (s : κ) (ok : Bool) :
    (Instr.lookup t (.map (some b)) (kv s) ok).run P w1 = .ok (if ok then .tuple #[(getK m s).getD z, .bool (getK m s).isSome] else (getK m s).getD z) w1 := by
  obtain ⟨es, h⟩ := h.exs
  obtain ⟨clk, h⟩ := h.exs
  obtain ⟨hr, h⟩ := h.split.purs
  have hlt := h.lt
  obtain ⟨_, hb⟩ := h.look
  have hb : w1.heap[b]? = some (.map es clk) := by rw [he.2 b hlt]; exact hb
  rcases findK K s _ m 0 hr with ⟨h2, h3, _, _⟩ | ⟨j, e, h2, h3, h4, h5, _, _⟩
  · cases ok <;> simp [Instr.lookup, run_underlying ht, run_getObj_map hb, run_checkKey hk (K.isKey s), run_findKey hk h3, Result.andThen, h2, hz]
  · cases ok <;> simp [Instr.lookup, run_underlying ht, run_getObj_map hb, run_checkKey hk (K.isKey s), run_findKey hk h5, Result.andThen, h2]
theorem omapK_put (K : KeyLaw d kv) (h : St w0 (omapK kv b m :: L) w) {t k E : TypeId} (ht : P.underlying t = some (.map k E)) (hk : P.underlying k = some d) (s : κ) (v : Value) :
    ∃ w', (Instr.mapUpdate t (.map (some b)) (kv s) v).run P w = .ok () w' ∧ St w0 (omapK kv b (putK m s v) :: L) w' := by
  obtain ⟨es, h⟩ := h.exs
  obtain ⟨clk, h⟩ := h.exs
  obtain ⟨hr, h⟩ := h.split.purs
  obtain ⟨_, hb⟩ := h.look
  have up : ∀ (o : Obj), St w0 (blk b o :: L) { w with heap := w.heap.setIfInBounds b o } := fun o =>
    h.upd rfl rfl rfl (by simp) (by have := h.lt; simp [this]) (fun k hk => by simp [Array.getElem?_setIfInBounds, Ne.symm hk])
  rcases findK K s _ m 0 hr with ⟨_, h3, h4, _⟩ | ⟨j, e, _, h3, h4, h5, h6, _⟩
  · refine ⟨_, ?_, St.exi (es.push { key := kv s, val := v, born := clk }) (St.exi (clk + 1) (St.join (St.puri (p := esK kv (es.push { key := kv s, val := v, born := clk }).toList (putK m s v)) ?_ (up (.map (es.push { key := kv s, val := v, born := clk }) (clk + 1))))))⟩
    · simp [Instr.mapUpdate, run_underlying ht, run_getObj_map hb, run_checkKey hk (K.isKey s), run_findKey hk h3, run_setObj_map _ hb, Result.andThen]
    · simpa using h4 v clk
  · have hj : es[j]? = some e := by simpa using h3
    refine ⟨_, ?_, St.exi (es.modify j fun e => { e with key := kv s, val := v }) (St.exi clk (St.join (St.puri (p := esK kv (es.modify j fun e => { e with key := kv s, val := v }).toList (putK m s v)) ?_ (up (.map (es.modify j fun e => { e with key := kv s, val := v }) clk)))))⟩
    · simp [Instr.mapUpdate, run_underlying ht, run_getObj_map hb, run_checkKey hk (K.isKey s), run_findKey hk h5, hj, h4, run_keyThatStays (K.isKey s), run_setObj_map _ hb, Result.andThen]
    · simpa using h6 v
omit [DecidableEq κ] in
theorem omapK_len (h : St w0 (omapK kv b m :: L) w) {w1 : World} (he : Ext w w1) {t k E ty : TypeId} (ht : P.underlying t = some (.map k E)) :
    (Builtin.len_ #[t] ty #[.map (some b)]).run P w1 = .ok (goInt m.length) w1 := by
  obtain ⟨es, h⟩ := h.exs
  obtain ⟨clk, h⟩ := h.exs
  obtain ⟨hr, h⟩ := h.split.purs
  have hlt := h.lt
  obtain ⟨_, hb⟩ := h.look
  have hb : w1.heap[b]? = some (.map es clk) := by rw [he.2 b hlt]; exact hb
  have hl : es.size = m.length := by have := congrArg List.length hr; simpa using this
  simp [Builtin.len_, run_underlying ht, run_getObj_map hb, hl]
end
section
variable {κ : Type} [DecidableEq κ] {kd : TypeDesc} {kv : κ → Value}
variable {P : Program} {ops : Array Oper} {d : Bool} {Q : Exit → Act → World → Prop} {n : Nat} {D : List Deferred} {w0 : World} {G : Env} {L R : List HP} {l : List (Kd × Oper)} {k : Kd}
  {t : Nat} {ty T KT E : TypeId} {pos : String} {af : Array Edge} {x y u : Operand} {v z : Value} {b : Nat} {m : List (κ × Value)}
omit [DecidableEq κ] in
theorem KO.mkm (kv : κ → Value) (hk : (!d || (k == .keep || k == .write)) = true) (ht : Nat.blt t n = true) (h : ∀ bb, KO P ops d Q n D w0 ((t, .map (some bb)) :: G) (omapK kv bb [] :: L) l) :
    KO P ops d Q n D w0 G L ((k, ⟨some t, .makeMap T none, ty, pos, af, none⟩) :: l) :=
  KO.keepRun hk (F := fun bb => .map (some bb)) (N := fun bb => omapK kv bb [] :: L) (fun a w ha hw => ⟨w.heap.size, w.alloc (.map #[] 0), by simp [execOp, run_makeMap], Ext.alloc w _, omapK_make hw⟩) ht h
theorem KO.lkm (K : KeyLaw kd kv) (s : κ) (hk : (!d || k != .pure) = true) (hx : ev G x = some (.map (some b))) (hy : ev G y = some (kv s)) (hT : P.underlying T = some (.map KT E)) (hK : P.underlying KT = some kd) (hz : ∀ w, (zeroValue E).run P w = .ok z w) (hp : Pick L (omapK kv b m) R) (ht : Nat.blt t n = true)
    (h : KO P ops d Q n D w0 ((t, (getK m s).getD z) :: G) L l) : KO P ops d Q n D w0 G L ((k, ⟨some t, .lookup T x y false, ty, pos, af, none⟩) :: l) :=
  KO.rd hk (fun a w w' ha hw e => by
    have := omapK_look (P := P) K (hw.pick hp) e hT hK (hz w') s false
    simp [execOp, ha.eval hx, ha.eval hy, this]) ht h
theorem KO.lkmOk (K : KeyLaw kd kv) (s : κ) (hk : (!d || k != .pure) = true) (hx : ev G x = some (.map (some b))) (hy : ev G y = some (kv s)) (hT : P.underlying T = some (.map KT E)) (hK : P.underlying KT = some kd) (hz : ∀ w, (zeroValue E).run P w = .ok z w) (hp : Pick L (omapK kv b m) R) (ht : Nat.blt t n = true)
    (h : KO P ops d Q n D w0 ((t, .tuple #[(getK m s).getD z, .bool (getK m s).isSome]) :: G) L l) : KO P ops d Q n D w0 G L ((k, ⟨some t, .lookup T x y true, ty, pos, af, none⟩) :: l) :=
  KO.rd hk (fun a w w' ha hw e => by
    have := omapK_look (P := P) K (hw.pick hp) e hT hK (hz w') s true
    simp [execOp, ha.eval hx, ha.eval hy, this]) ht h
theorem KO.upm (K : KeyLaw kd kv) (s : κ) (hk : (!d || k == .write) = true) (hx : ev G x = some (.map (some b))) (hy : ev G y = some (kv s)) (hu : ev G u = some v) (hT : P.underlying T = some (.map KT E)) (hK : P.underlying KT = some kd) (hp : Pick L (omapK kv b m) R)
    (h : KO P ops d Q n D w0 G (omapK kv b (putK m s v) :: R) l) : KO P ops d Q n D w0 G L ((k, ⟨none, .mapUpdate T x y u, ty, pos, af, none⟩) :: l) :=
  KO.wrRun hk (fun a w ha hw => by
    obtain ⟨w', hr, hs⟩ := omapK_put (P := P) K (hw.pick hp) hT hK s v
    exact ⟨w', by simp [execOp, ha.eval hx, ha.eval hy, ha.eval hu, hr], hs⟩) h
omit [DecidableEq κ] in
theorem KO.lenM (hk : (!d || k != .pure) = true) (hx : ev G x = some (.map (some b))) (hT : P.underlying T = some (.map KT E)) (hp : Pick L (omapK kv b m) R) (ht : Nat.blt t n = true) (h : KO P ops d Q n D w0 ((t, .int .i64 (m.length : Nat)) :: G) L l) :
    KO P ops d Q n D w0 G L ((k, ⟨some t, .call ⟨.builtin .len, #[x], #[T]⟩, ty, pos, af, none⟩) :: l) :=
  KO.rd hk (fun a w w' ha hw e => by
    have := omapK_len (P := P) (ty := ty) (hw.pick hp) e hT
    simp [execOp, resolve, invoke, builtin, ha.eval hx, this, goInt]) ht h
end
end WB
/- queues, plain: what is seen of one beside another that has not what one unit did -/
namespace WB
/-- an item without its place in the line -/
def strip (e : It) : It := { e with line := 0 }
theorem strip_avail (e : It) : availB (strip e) = availB e := rfl
theorem strip_end (u : Int) (b : Bool) (e : It) : endB u b (strip e) = endB u b e := rfl
theorem strip_free (u : Int) (e : It) : freeIt u (strip e) = strip (freeIt u e) := rfl
theorem map_filter_strip (p : It → Bool) (hp : ∀ e, p (strip e) = p e) (l : List It) : (l.filter p).map strip = (l.map strip).filter p := by
  rw [List.filter_map]; congr 1; exact List.filter_congr fun e _ => (hp e).symm
/-! what each does to the items without their places -/
def ins3 (t : It) (l : List It) : List It := l.filter (fun e => decide (t.m.pri ≤ e.m.pri)) ++ t :: l.filter (fun e => !decide (t.m.pri ≤ e.m.pri))
def get3 (v : Int) : List It → List It
  | [] => []
  | e :: l => if availB e = true then { e with got := v } :: l else e :: get3 v l
def del3 : List It → List It
  | [] => []
  | e :: l => if availB e = true then l else e :: del3 l
def ends3 (u : Int) (back : Bool) (l : List It) : List It := (l.filter fun e => !endB u back e).map (freeIt u)
def ml (e : It) : Ms × Int := (e.m, e.line)
def Ord (x y : It) : Prop := x.m.id ≠ y.m.id ∧ (y.m.pri < x.m.pri ∨ (x.m.pri = y.m.pri ∧ x.m.id < y.m.id))
theorem Ord.pri {x y : It} (h : Ord x y) : y.m.pri ≤ x.m.pri := by unfold Ord at h; omega
/-- a queue as the law has it -/
structure QIn (n : Int) (q : Qu) : Prop where
  ord : q.l.Pairwise Ord
  ids : ∀ e ∈ q.l, 0 ≤ e.m.id ∧ e.m.id < n
  pris : ∀ e ∈ q.l, 0 ≤ e.m.pri ∧ e.m.pri ≤ 9
  lines : ∀ e ∈ q.l, 0 ≤ e.line ∧ e.line < q.next
  len : q.l.length ≤ 20
  next : 0 ≤ q.next ∧ q.next ≤ n
theorem take_while_filter {p : It → Bool} {l : List It} (h : l.Pairwise fun x y => p y = true → p x = true) : l.takeWhile p = l.filter p ∧ l.dropWhile p = l.filter fun e => !p e := by
  induction l with
  | nil => exact ⟨rfl, rfl⟩
  | cons a l ih =>
    obtain ⟨h1, h2⟩ := List.pairwise_cons.1 h
    obtain ⟨i1, i2⟩ := ih h2
    by_cases ha : p a = true
    · simp [ha, i1, i2]
    · have hall : ∀ e ∈ l, p e = false := fun e he => by
        by_cases hp : p e = true
        · exact absurd (h1 e he hp) ha
        · simpa using hp
      have e1 : l.filter p = [] := List.filter_eq_nil_iff.2 fun e he => by simp [hall e he]
      have e2 : (l.filter fun e => !p e) = l := List.filter_eq_self.2 fun e he => by simp [hall e he]
      simp [ha, e1, e2]
theorem take_len_while {α : Type} (p : α → Bool) : ∀ l : List α, l.take (l.takeWhile p).length = l.takeWhile p ∧ l.drop (l.takeWhile p).length = l.dropWhile p
  | [] => ⟨rfl, rfl⟩
  | a :: l => by
    by_cases h : p a = true
    · simp [h, take_len_while p l]
    · simp [h]
section
variable {n : Int} {q : Qu} {m : Ms} {u : Int}
theorem QIn.cmp (h : QIn n q) (m : Ms) (u : Int) {e : It} (he : e ∈ q.l) : cmpIt e (qitem q m u) < 0 ↔ m.pri ≤ e.m.pri := by
  have := h.lines e he
  unfold cmpIt compI qitem
  dsimp only
  split <;> omega
theorem QIn.ok (h : QIn n q) (hn : n < 1000000) : QuOk q := by
  refine ⟨by have := h.len; omega, fun e he => ?_, ⟨h.next.1, by have := h.next; omega⟩, fun m u i j a b hij ha hb hlt => ?_⟩
  · have h1 := h.pris e he; have h2 := h.lines e he; have h3 := h.next
    unfold smallIt small; omega
  · have ma := List.mem_of_getElem? ha
    have mb := List.mem_of_getElem? hb
    rw [h.cmp m u ma]
    rw [h.cmp m u mb] at hlt
    rcases Nat.lt_or_ge i j with hlt2 | hge
    · obtain ⟨hi, rfl⟩ := List.getElem?_eq_some_iff.1 ha
      obtain ⟨hj, rfl⟩ := List.getElem?_eq_some_iff.1 hb
      have := (List.pairwise_iff_getElem.1 h.ord i j hi hj hlt2).pri
      omega
    · obtain rfl : i = j := by omega
      rw [ha] at hb; cases hb; exact hlt
theorem QIn.push (h : QIn n q) (m : Ms) (u : Int) : (qpush q m u).l = q.l.filter (fun e => decide (m.pri ≤ e.m.pri)) ++ qitem q m u :: q.l.filter (fun e => !decide (m.pri ≤ e.m.pri)) := by
  have hc : (q.l.takeWhile fun e => decide (cmpIt e (qitem q m u) < 0)) = q.l.takeWhile fun e => decide (m.pri ≤ e.m.pri) := by
    have : ∀ l : List It, (∀ e ∈ l, e ∈ q.l) → (l.takeWhile fun e => decide (cmpIt e (qitem q m u) < 0)) = l.takeWhile fun e => decide (m.pri ≤ e.m.pri) := by
      intro l
      induction l with
      | nil => intro _; rfl
      | cons a l ih =>
        intro hl
        have e1 : decide (cmpIt a (qitem q m u) < 0) = decide (m.pri ≤ a.m.pri) := decide_eq_decide.2 (h.cmp m u (hl a (by simp)))
        simp only [List.takeWhile_cons, e1, ih fun e he => hl e (by simp [he])]
    exact this q.l fun _ h => h
  obtain ⟨t1, t2⟩ := take_len_while (fun e : It => decide (m.pri ≤ e.m.pri)) q.l
  obtain ⟨f1, f2⟩ := take_while_filter (p := fun e : It => decide (m.pri ≤ e.m.pri)) (l := q.l) (h.ord.imp fun {x y} hxy hy => by
    have := hxy.pri; simp at hy ⊢; omega)
  unfold qpush srchIt
  dsimp only
  rw [hc, t1, t2, f1, f2]
theorem push_strip (h : QIn n q) (m : Ms) (u : Int) : (qpush q m u).l.map strip = ins3 ⟨m, 0, max u (-1), -1⟩ (q.l.map strip) := by
  rw [h.push]
  unfold ins3
  rw [List.map_append, List.map_cons, map_filter_strip _ (fun _ => rfl), map_filter_strip _ (fun _ => rfl)]
  rfl
theorem QIn.pushed (h : QIn n q) (hm : m.id = n) (h0 : 0 ≤ n) (hp : 0 ≤ m.pri ∧ m.pri ≤ 9) (hl : q.l.length < 20) (u : Int) : QIn (n + 1) (qpush q m u) := by
  have hl2 : ∀ e ∈ (qpush q m u).l, e = qitem q m u ∨ e ∈ q.l := fun e he => by
    rw [h.push] at he
    simp only [List.mem_append, List.mem_cons, List.mem_filter] at he
    rcases he with ⟨a, _⟩ | a | ⟨a, _⟩
    · exact .inr a
    · exact .inl a
    · exact .inr a
  have hnx : (qpush q m u).next = q.next + 1 := rfl
  refine ⟨?_, fun e he => ?_, fun e he => ?_, fun e he => ?_, ?_, by have := h.next; rw [hnx]; omega⟩
  · rw [h.push, List.pairwise_append, List.pairwise_cons]
    refine ⟨h.ord.sublist List.filter_sublist, ⟨fun e he => ?_, h.ord.sublist List.filter_sublist⟩, fun a ha b hb => ?_⟩
    · obtain ⟨h1, h2⟩ := List.mem_filter.1 he
      have := h.ids e h1
      simp at h2
      refine ⟨?_, .inl (by unfold qitem; dsimp only; omega)⟩
      unfold qitem; dsimp only; omega
    · obtain ⟨h1, h2⟩ := List.mem_filter.1 ha
      have i1 := h.ids a h1
      simp at h2
      rcases List.mem_cons.1 hb with rfl | hb
      · unfold Ord qitem; dsimp only; omega
      · obtain ⟨h3, h4⟩ := List.mem_filter.1 hb
        simp at h4
        refine ⟨?_, .inl (by omega)⟩
        intro e
        obtain ⟨i, hi, rfl⟩ := List.getElem_of_mem h1
        obtain ⟨j, hj, rfl⟩ := List.getElem_of_mem h3
        rcases Nat.lt_trichotomy i j with hlt | rfl | hlt
        · exact (List.pairwise_iff_getElem.1 h.ord i j hi hj hlt).1 e
        · omega
        · exact (List.pairwise_iff_getElem.1 h.ord j i hj hi hlt).1 e.symm
  · rcases hl2 e he with rfl | h1
    · unfold qitem; dsimp only; omega
    · have := h.ids e h1; omega
  · rcases hl2 e he with rfl | h1
    · exact hp
    · exact h.pris e h1
  · rw [hnx]
    rcases hl2 e he with rfl | h1
    · have := h.next; unfold qitem; dsimp only; omega
    · have := h.lines e h1; omega
  · unfold qpush
    simp; omega
theorem QIn.le (h : QIn n q) {k : Int} (hk : n ≤ k) : QIn k q := ⟨h.ord, fun e he => by have := h.ids e he; omega, h.pris, h.lines, h.len, by have := h.next; omega⟩
/-- one that has some of its items, changed in nothing that counts -/
theorem QIn.part (h : QIn n q) {l : List It} (hs : (l.map ml).Sublist (q.l.map ml)) : QIn n ⟨l, q.next⟩ := by
  have hm : ∀ e ∈ l, ∃ e' ∈ q.l, e'.m = e.m ∧ e'.line = e.line := fun e he => by
    obtain ⟨e', h1, h2⟩ := List.mem_map.1 (hs.subset (List.mem_map_of_mem (f := ml) he))
    exact ⟨e', h1, by simpa [ml] using h2⟩
  refine ⟨?_, fun e he => ?_, fun e he => ?_, fun e he => ?_, ?_, h.next⟩
  · have h1 : (q.l.map ml).Pairwise fun x y => x.1.id ≠ y.1.id ∧ (y.1.pri < x.1.pri ∨ (x.1.pri = y.1.pri ∧ x.1.id < y.1.id)) := List.pairwise_map.2 h.ord
    have h2 := h1.sublist hs
    rw [List.pairwise_map] at h2
    exact h2
  · obtain ⟨e', h1, h2, _⟩ := hm e he; rw [← h2]; exact h.ids e' h1
  · obtain ⟨e', h1, h2, _⟩ := hm e he; rw [← h2]; exact h.pris e' h1
  · obtain ⟨e', h1, _, h2⟩ := hm e he; rw [← h2]; exact h.lines e' h1
  · have := hs.length_le; have := h.len; simp at *; omega
end
/-! the items without their places -/
def getL (v : Int) (l : List It) : Option Nat → List It
  | none => l
  | some k => l.set k { itAt l k with got := v }
theorem getL_strip (v : Int) : ∀ l : List It, (getL v l (l.findIdx? availB)).map strip = get3 v (l.map strip) ∧ (getL v l (l.findIdx? availB)).map ml = l.map ml
  | [] => ⟨rfl, rfl⟩
  | a :: l => by
    obtain ⟨i1, i2⟩ := getL_strip v l
    rw [List.findIdx?_cons, List.map_cons, get3, strip_avail]
    by_cases ha : availB a = true
    · rw [if_pos ha, if_pos ha]; exact ⟨rfl, rfl⟩
    · rw [if_neg ha, if_neg ha, ← i1]
      cases hf : l.findIdx? availB with
      | none => exact ⟨rfl, rfl⟩
      | some k =>
        rw [hf] at i2
        exact ⟨rfl, congrArg (ml a :: ·) i2⟩
theorem get_strip (q : Qu) (v : Int) (hv : 0 ≤ v) : (qget q v).l.map strip = get3 v (q.l.map strip) ∧ (qget q v).next = q.next ∧ ((qget q v).l.map ml) = q.l.map ml := by
  obtain ⟨h1, h2⟩ := getL_strip v q.l
  have e : qget q v = ⟨getL v q.l (q.l.findIdx? availB), q.next⟩ := by
    unfold qget qgetI
    cases q.l.findIdx? availB with
    | none => rfl
    | some k => dsimp only; rw [if_neg (by omega)]; rfl
  rw [e]; exact ⟨h1, rfl, h2⟩
theorem getM_strip (q : Qu) : qgetM q = (match (q.l.map strip).find? availB with | none => zeroMs | some e => e.m) ∧ (qgetE q = match (q.l.map strip).find? availB with | none => 8 | some _ => 0) := by
  obtain ⟨l, nx⟩ := q
  unfold qgetM qgetE qgetI
  dsimp only
  induction l with
  | nil => exact ⟨rfl, rfl⟩
  | cons a l ih =>
    by_cases ha : availB a = true
    · rw [List.findIdx?_cons, List.map_cons, List.find?_cons, strip_avail, if_pos ha, ha]; exact ⟨rfl, rfl⟩
    · obtain ⟨i1, i2⟩ := ih
      cases hf : l.findIdx? availB with
      | none =>
        rw [hf] at i1 i2
        simp only [List.findIdx?_cons, ha, hf, Option.map_none, List.map_cons, List.find?_cons, strip_avail] at i1 i2 ⊢
        exact ⟨i1, i2⟩
      | some k =>
        rw [hf] at i1 i2
        simp only [List.findIdx?_cons, ha, hf, Option.map_some, List.map_cons, List.find?_cons, strip_avail, itAt, List.getD_cons_succ] at i1 i2 ⊢
        exact ⟨i1, i2⟩
theorem ends_strip (q : Qu) (u : Int) (b : Bool) (hu : 0 ≤ u) : (qends q u b).l.map strip = ends3 u b (q.l.map strip) := by
  unfold qends ends3
  rw [if_neg (by omega)]
  dsimp only
  rw [← map_filter_strip _ (fun _ => rfl), List.map_map, List.map_map]
  rfl
theorem QIn.ends {n : Int} {q : Qu} (h : QIn n q) (u : Int) (b : Bool) : QIn n (qends q u b) := by
  unfold qends
  split
  · exact h
  · refine h.part ?_
    rw [List.map_map]
    exact (List.filter_sublist).map _
theorem QIn.got {n : Int} {q : Qu} (h : QIn n q) (v : Int) (hv : 0 ≤ v) : QIn n (qget q v) := by
  obtain ⟨_, h2, h3⟩ := get_strip q v hv
  have := h.part (l := (qget q v).l) (by rw [h3]; exact .refl _)
  rw [← h2] at this
  exact this
/-! beside a queue without what one unit did -/
def oth (u : Int) (l : List It) : List It := l.filter fun e => !decide (e.put = u)
theorem oth_ins (u : Int) (t : It) (l : List It) : oth u (ins3 t l) = if t.put = u then oth u l |> fun r => r.filter (fun e => decide (t.m.pri ≤ e.m.pri)) ++ r.filter (fun e => !decide (t.m.pri ≤ e.m.pri)) else ins3 t (oth u l) := by
  unfold ins3 oth
  rw [List.filter_append]
  have c : ∀ p : It → Bool, (l.filter p).filter (fun e => !decide (e.put = u)) = (l.filter fun e => !decide (e.put = u)).filter p := fun p => by
    rw [List.filter_filter, List.filter_filter]; exact List.filter_congr fun e _ => Bool.and_comm _ _
  by_cases h : t.put = u
  · simp only [h, if_true, List.filter_cons, decide_true, Bool.not_true, Bool.false_eq_true, if_false, c]
  · simp only [h, if_false, List.filter_cons, decide_false, Bool.not_false, if_true, c]
theorem oth_get (u v : Int) (hu : 0 ≤ u) : ∀ l : List It, oth u (get3 v l) = get3 v (oth u l)
  | [] => rfl
  | e :: l => by
    have ih := oth_get u v hu l
    unfold oth at *
    by_cases ha : availB e = true
    · have hp : ¬ e.put = u := by unfold availB at ha; simp at ha; omega
      simp [get3, ha, List.filter_cons, hp]
    · by_cases hp : e.put = u
      · simp only [get3, ha, List.filter_cons, hp, decide_true, Bool.not_true, Bool.false_eq_true, if_false]; exact ih
      · simp only [get3, ha, List.filter_cons, hp, decide_false, Bool.not_false, Bool.false_eq_true, if_true, if_false]; rw [ih]
theorem oth_find (u : Int) (hu : 0 ≤ u) (l : List It) : (oth u l).find? availB = l.find? availB := by
  unfold oth
  rw [List.find?_filter]
  congr 1
  funext e
  by_cases ha : availB e = true
  · have hp : ¬ e.put = u := by unfold availB at ha; simp at ha; omega
    simp [ha, hp]
  · simp [ha]
theorem oth_ends (u v : Int) (b : Bool) (hu : 0 ≤ u) (hv : 0 ≤ v) (hne : v ≠ u) (l : List It) : oth u (ends3 v b l) = ends3 v b (oth u l) := by
  unfold oth ends3
  rw [List.filter_map, List.filter_filter, List.filter_filter]
  congr 1
  refine List.filter_congr fun e _ => ?_
  have : decide ((freeIt v e).put = u) = decide (e.put = u) := by
    refine decide_eq_decide.2 ?_
    unfold freeIt; dsimp only
    split <;> omega
  simp only [Function.comp, this, Bool.and_comm]
theorem oth_there (u : Int) (hu : 0 ≤ u) (l : List It) : (oth u l).filter availB = l.filter availB := by
  unfold oth
  rw [List.filter_filter]
  refine List.filter_congr fun e _ => ?_
  by_cases ha : availB e = true
  · have hp : ¬ e.put = u := by unfold availB at ha; simp at ha; omega
    simp [ha, hp]
  · simp [ha]
theorem there_strip (q : Qu) : qthere q = ((q.l.map strip).filter availB).map (·.m) := by
  unfold qthere
  rw [← map_filter_strip _ (fun _ => rfl), List.map_map]; rfl
theorem kept_strip (q : Qu) : qkept q = ((q.l.map strip).filter fun e => decide (e.put < 0)).map (·.m) := by
  unfold qkept
  rw [← map_filter_strip _ (fun _ => rfl), List.map_map]; rfl
/-- the two beside each other -/
structure QTwo (u n : Int) (a b : Qu) : Prop where
  ha : QIn n a
  hb : QIn n b
  rel : b.l.map strip = oth u (a.l.map strip)
  got : ∀ e ∈ a.l, e.got ≠ u
section
variable {u n : Int} {a b : Qu}
theorem QTwo.blen (h : QTwo u n a b) : b.l.length ≤ a.l.length := by
  have := congrArg List.length h.rel
  have h2 : (oth u (a.l.map strip)).length ≤ (a.l.map strip).length := List.length_filter_le _ _
  simp at this h2; omega
theorem QTwo.there (h : QTwo u n a b) (hu : 0 ≤ u) : qthere a = qthere b := by
  rw [there_strip, there_strip, h.rel, oth_there u hu]
theorem QTwo.le (h : QTwo u n a b) {k : Int} (hk : n ≤ k) : QTwo u k a b := ⟨h.ha.le hk, h.hb.le hk, h.rel, h.got⟩
theorem msRight_law {m : Ms} (h1 : 0 ≤ m.id ∧ m.id ≤ 1000) (h2 : 0 ≤ m.pri ∧ m.pri ≤ 9) (h3 : bodyB m.body = true) (h4 : wordB m.queue = true) (h5 : m.house = 0) : msRight m = true := by
  unfold msRight; rw [h3, h4, h5]; simp; omega
theorem QIn.putE {q : Qu} (h : QIn n q) {m : Ms} (hm : m.id = n) (hr : msRight m = true) (hl : q.l.length < 20) : qputE q m = 0 := by
  have hh : qhas q m.id = false := by
    unfold qhas
    rw [List.any_eq_false]
    intro e he
    have := h.ids e he
    unfold idB; simp; omega
  unfold qputE
  rw [hr, hh]
  simp; omega
theorem QTwo.putA (h : QTwo u n a b) {m : Ms} (hm : m.id = n) (h0 : 0 ≤ n) (hu : 0 ≤ u) (hp : 0 ≤ m.pri ∧ m.pri ≤ 9) (hl : a.l.length < 20) : QTwo u (n + 1) (qpush a m u) b := by
  refine ⟨h.ha.pushed hm h0 hp hl u, h.hb.le (by omega), ?_, fun e he => ?_⟩
  · rw [push_strip h.ha, oth_ins, if_pos (by dsimp only; omega), h.rel, ← h.rel]
    dsimp only
    have hb := (take_while_filter (p := fun e : It => decide (m.pri ≤ e.m.pri)) (l := b.l.map strip) (List.pairwise_map.2 (h.hb.ord.imp fun {x y} hxy hy => by
      have h1 := hxy.pri; have h2 : m.pri ≤ y.m.pri := of_decide_eq_true hy; exact decide_eq_true (show m.pri ≤ x.m.pri by omega))))
    rw [← hb.1, ← hb.2, List.takeWhile_append_dropWhile]
  · rw [h.ha.push] at he
    simp only [List.mem_append, List.mem_cons, List.mem_filter] at he
    rcases he with ⟨a, _⟩ | rfl | ⟨a, _⟩
    · exact h.got e a
    · unfold qitem; dsimp only; omega
    · exact h.got e a
theorem QTwo.putB (h : QTwo u n a b) {m : Ms} {v : Int} (hm : m.id = n) (h0 : 0 ≤ n) (hu : 0 ≤ u) (hv : 0 ≤ v) (hne : v ≠ u) (hp : 0 ≤ m.pri ∧ m.pri ≤ 9) (hl : a.l.length < 20) : QTwo u (n + 1) (qpush a m v) (qpush b m v) := by
  have hbl := h.blen
  refine ⟨h.ha.pushed hm h0 hp hl v, h.hb.pushed hm h0 hp (by omega) v, ?_, fun e he => ?_⟩
  · rw [push_strip h.ha, push_strip h.hb, oth_ins, if_neg (by dsimp only; omega), h.rel]
  · rw [h.ha.push] at he
    simp only [List.mem_append, List.mem_cons, List.mem_filter] at he
    rcases he with ⟨a, _⟩ | rfl | ⟨a, _⟩
    · exact h.got e a
    · unfold qitem; dsimp only; omega
    · exact h.got e a
theorem QTwo.getE (h : QTwo u n a b) (hu : 0 ≤ u) : qgetM a = qgetM b ∧ qgetE a = qgetE b := by
  have ha := getM_strip a
  have hb := getM_strip b
  rw [h.rel, oth_find u hu] at hb
  exact ⟨ha.1.trans hb.1.symm, ha.2.trans hb.2.symm⟩
theorem got_get (q : Qu) (v : Int) (hv : 0 ≤ v) (hne : v ≠ u) (h : ∀ e ∈ q.l, e.got ≠ u) : ∀ e ∈ (qget q v).l, e.got ≠ u := by
  unfold qget
  split
  · exact h
  · next k _ =>
    rw [if_neg (by omega)]
    intro e he
    rcases List.mem_or_eq_of_mem_set he with h1 | rfl
    · exact h e h1
    · exact hne
theorem QTwo.get (h : QTwo u n a b) {v : Int} (hu : 0 ≤ u) (hv : 0 ≤ v) (hne : v ≠ u) : QTwo u n (qget a v) (qget b v) :=
  ⟨h.ha.got v hv, h.hb.got v hv, by rw [(get_strip a v hv).1, (get_strip b v hv).1, h.rel, oth_get u v hu], got_get a v hv hne h.got⟩
theorem QTwo.ends (h : QTwo u n a b) {v : Int} (back : Bool) (hu : 0 ≤ u) (hv : 0 ≤ v) (hne : v ≠ u) : QTwo u n (qends a v back) (qends b v back) :=
  ⟨h.ha.ends v back, h.hb.ends v back, by rw [ends_strip a v back hv, ends_strip b v back hv, h.rel, oth_ends u v back hu hv hne], by
    unfold qends
    rw [if_neg (by omega)]
    intro e he
    obtain ⟨e', h1, rfl⟩ := List.mem_map.1 he
    have := h.got e' (List.mem_filter.1 h1).1
    unfold freeIt; dsimp only
    split <;> omega⟩
/-- at last -/
theorem QTwo.last (h : QTwo u n a b) (hu : 0 ≤ u) : qthere (qends a u true) = qthere b ∧ qkept (qends a u true) = qkept b ∧ (qends a u true).l.length = b.l.length := by
  have e : (qends a u true).l.map strip = b.l.map strip := by
    rw [ends_strip a u true hu, h.rel]
    unfold ends3 oth
    have h1 : (a.l.map strip).filter (fun e => !endB u true e) = (a.l.map strip).filter fun e => !decide (e.put = u) := List.filter_congr fun e _ => by unfold endB; simp
    rw [h1]
    have h2 : ∀ l : List It, (∀ e ∈ l, e.got ≠ u ∧ e.put ≠ u) → l.map (freeIt u) = l := fun l hl => by
      refine (List.map_congr_left fun e he => ?_).trans (List.map_id l)
      have := hl e he
      unfold freeIt; simp [this]
    refine h2 _ fun e he => ?_
    obtain ⟨h3, h4⟩ := List.mem_filter.1 he
    obtain ⟨e', h5, rfl⟩ := List.mem_map.1 h3
    refine ⟨h.got e' h5, by simpa using h4⟩
  refine ⟨by rw [there_strip, there_strip, e], by rw [kept_strip, kept_strip, e], ?_⟩
  have := congrArg List.length e
  simpa using this
end
end WB
namespace WB
/-! the last: each is got once, those of one priority as they came -/
structure QTail (l : List It) (g : List (Int × Go.Value)) (ls : List Int) : Prop where
  ord : l.Pairwise Ord
  ids : ∀ e ∈ l, 0 ≤ e.m.id ∧ e.m.id < 1000
  pris : ∀ e ∈ l, 0 ≤ e.m.pri ∧ e.m.pri ≤ 9
  len : ls.length = 10
  fresh : ∀ e ∈ l, availB e = true → getK g e.m.id = none ∧ ls.getD e.m.pri.toNat 0 ≤ e.m.id
theorem mem_erase_later {l : List It} {k : Nat} (h : l.findIdx? availB = some k) {e : It} (he : e ∈ l.eraseIdx k) (ha : availB e = true) : ∃ j, k < j ∧ l[j]? = some e := by
  obtain ⟨i, hne, hi⟩ := List.mem_eraseIdx_iff_getElem?.1 he
  refine ⟨i, ?_, hi⟩
  rcases Nat.lt_trichotomy i k with hlt | rfl | hlt
  · obtain ⟨hk, _, h3⟩ := List.findIdx?_eq_some_iff_getElem.1 h
    obtain ⟨hil, rfl⟩ := List.getElem?_eq_some_iff.1 hi
    have := h3 i hlt
    simp [ha] at this
  · exact absurd rfl hne
  · exact hlt
theorem QTail.step {l : List It} {g : List (Int × Go.Value)} {ls : List Int} (h : QTail l g ls) {k : Nat} {e0 : It} (hk : l.findIdx? availB = some k) (he : l[k]? = some e0) (v : Go.Value) :
    QTail (l.eraseIdx k) (putK g e0.m.id v) (ls.set e0.m.pri.toNat (e0.m.id + 1)) := by
  have hs : (l.eraseIdx k).Sublist l := List.eraseIdx_sublist l k
  have h0 := h.pris e0 (List.mem_of_getElem? he)
  refine ⟨h.ord.sublist hs, fun e h1 => h.ids e (hs.subset h1), fun e h1 => h.pris e (hs.subset h1), by simp [h.len], fun e h1 ha => ?_⟩
  obtain ⟨j, hj, hje⟩ := mem_erase_later hk h1 ha
  obtain ⟨hk1, rfl⟩ := List.getElem?_eq_some_iff.1 he
  obtain ⟨hj1, rfl⟩ := List.getElem?_eq_some_iff.1 hje
  have ho := List.pairwise_iff_getElem.1 h.ord k j hk1 hj1 hj
  obtain ⟨f1, f2⟩ := h.fresh _ (hs.subset h1) ha
  have hp := h.pris _ (hs.subset h1)
  refine ⟨by rw [getK_putK, if_neg ho.1]; exact f1, ?_⟩
  rw [List.getD_eq_getElem?_getD, List.getElem?_set]
  by_cases hpe : l[k].m.pri = l[j].m.pri
  · have hlt : l[k].m.id < l[j].m.id := by have := ho.2; omega
    rw [hpe, if_pos rfl, if_pos (by rw [h.len]; omega)]
    simp; omega
  · rw [if_neg (by omega), ← List.getD_eq_getElem?_getD]
    exact f2
theorem QTail.start {n : Int} {q : Qu} (h : QIn n q) (hn : n ≤ 1000) : QTail q.l [] (List.replicate 10 0) := by
  refine ⟨h.ord, fun e he => by have := h.ids e he; omega, h.pris, rfl, fun e he _ => ⟨rfl, ?_⟩⟩
  have h1 := h.ids e he
  have h2 := h.pris e he
  rw [List.getD_eq_getElem?_getD, List.getElem?_replicate, if_pos (by omega)]
  simp; omega
end WB
/- the document's queue: plain data -/
namespace WB
open Go Go.RowKit
structure Ri where
  m : Ms
  put : Int
  got : Int
instance : Inhabited Ri := ⟨⟨default, 0, 0⟩⟩
def riC (x : Ri) : List Value := [.int .i64 x.m.id, .int .i64 x.m.pri, .string x.m.body, .string x.m.queue, .int .i64 x.m.house, .int .i64 x.put, .int .i64 x.got]
def ridB (id : Int) (e : Ri) : Bool := decide (e.m.id = id)
def rfind (l : List Ri) (id : Int) : Int := fidx (ridB id) l
def rneg (u : Int) : Int := if u < 0 then -1 else u
def rpush (l : List Ri) (m : Ms) (u : Int) : List Ri := l ++ [⟨m, rneg u, -1⟩]
def rputE (l : List Ri) (m : Ms) : Int := if msRight m = false then 1 else if 0 ≤ rfind l m.id then 9 else if 20 ≤ l.length then 12 else 0
def rput (l : List Ri) (m : Ms) (u : Int) : List Ri := if rputE l m = 0 then rpush l m u else l
def ravail (e : Ri) : Bool := decide (e.put < 0) && decide (e.got < 0)
/-- the places in order -/
def rordP (l : List Ri) (p : Nat) : List Nat := (List.range l.length).filter fun i => decide ((l.getD i default).m.pri = (p : Int))
def rordN (l : List Ri) : Nat → List Nat
  | 0 => []
  | n + 1 => rordP l n ++ rordN l n
def rord (l : List Ri) : List Nat := rordN l 10
def rAt (l : List Ri) (i : Nat) : Ri := l.getD i default
def rgetI (l : List Ri) : Option Nat := (rord l).find? fun i => ravail (rAt l i)
def rget (l : List Ri) (u : Int) : List Ri := match rgetI l with | none => l | some i => if 0 ≤ u then l.set i { rAt l i with got := u } else l.eraseIdx i
def rgetM (l : List Ri) : Ms := match rgetI l with | none => zeroMs | some i => (rAt l i).m
def rgetE (l : List Ri) : Int := match rgetI l with | none => 8 | some _ => 0
def rtakeI (l : List Ri) (id : Int) : Option Nat := l.findIdx? (ridB id)
def rtake (l : List Ri) (id : Int) : List Ri := match rtakeI l id with | none => l | some i => l.eraseIdx i
def rtakeM (l : List Ri) (id : Int) : Ms := match rtakeI l id with | none => zeroMs | some i => (rAt l i).m
def rtakeE (l : List Ri) (id : Int) : Int := match rtakeI l id with | none => 7 | some _ => 0
def rendB (u : Int) (back : Bool) (x : Ri) : Bool := (decide (x.put = u) && back) || (decide (x.got = u) && !back)
def rfree (u : Int) (x : Ri) : Ri := { x with put := if x.put = u then -1 else x.put, got := if x.got = u then -1 else x.got }
def rends (l : List Ri) (u : Int) (back : Bool) : List Ri := if u < 0 then l else (l.filter fun e => !rendB u back e).map (rfree u)
def rthere (l : List Ri) : List Ms := ((rord l).filter fun i => ravail (rAt l i)).map fun i => (rAt l i).m
def rkept (l : List Ri) : List Ms := ((rord l).filter fun i => decide ((rAt l i).put < 0)).map fun i => (rAt l i).m
theorem rAt_of {l : List Ri} {k : Nat} {e : Ri} (h : l[k]? = some e) : rAt l k = e := by simp [rAt, List.getD_eq_getElem?_getD, h]
end WB
namespace WB
open Go Go.RowKit
def niC (i : Nat) : List Value := [.int .i64 (i : Nat)]
theorem rordP_mem {l : List Ri} {p i : Nat} (h : i ∈ rordP l p) : i < l.length ∧ (rAt l i).m.pri = p := by
  unfold rordP at h
  obtain ⟨h1, h2⟩ := List.mem_filter.1 h
  exact ⟨List.mem_range.1 h1, by simpa [rAt] using h2⟩
theorem rordN_mem {l : List Ri} : ∀ {n i : Nat}, i ∈ rordN l n → i < l.length ∧ (rAt l i).m.pri < n
  | 0, _, h => by simp [rordN] at h
  | n + 1, i, h => by
    rcases List.mem_append.1 h with h | h
    · have := rordP_mem h; omega
    · have := rordN_mem h; omega
theorem rordN_len (l : List Ri) : ∀ n, (rordN l n).length ≤ n * l.length
  | 0 => by simp [rordN]
  | n + 1 => by
    have h1 := rordN_len l n
    have h2 : (rordP l n).length ≤ l.length := by have := List.length_filter_le (fun i => decide ((l.getD i default).m.pri = (n : Int))) (List.range l.length); simpa [rordP] using this
    rw [rordN, List.length_append, Nat.succ_mul]; omega
theorem rord_len (l : List Ri) : (rord l).length ≤ 10 * l.length := rordN_len l 10
theorem rord_lt {l : List Ri} {k i : Nat} (h : (rord l)[k]? = some i) : i < l.length := (rordN_mem (List.mem_of_getElem? h)).1
theorem range_filter_step (p : Nat → Bool) (k : Nat) : (List.range (k + 1)).filter p = (List.range k).filter p ++ (if p k = true then [k] else []) := by
  rw [List.range_succ, List.filter_append]
  by_cases h : p k = true <;> simp [h]
theorem filt_step {β : Type} (p : Nat → Bool) (f : Nat → β) {l : List Nat} {k i : Nat} (h : l[k]? = some i) : ((l.take (k + 1)).filter p).map f = ((l.take k).filter p).map f ++ (if p i = true then [f i] else []) := by
  rw [take_succ_some h, List.filter_append, List.map_append]
  by_cases hp : p i = true <;> simp [hp]
end WB
/- the document's queue: find, Push, drop, Put, Has. -/
namespace Go.Proofs.YtjhogocabcdjbaaGreatDoor
open Go Go.RowKit WB
abbrev riS (v : Value) (xs : List Ri) : HP := SL 47 7 riC v xs
abbrev rqB (b : Nat) (v : Value) : HP := blk b (.cells [v].toArray 29 (0, 0))
def rqP (b : Nat) (l : List Ri) : HP := ex fun v => sep (rqB b v) (riS v l)
theorem rqP_open {w0 w : World} {b : Nat} {l : List Ri} {L : List HP} (h : St w0 (rqP b l :: L) w) : ∃ v, St w0 (rqB b v :: riS v l :: L) w := by
  obtain ⟨v, h⟩ := h.exs
  exact ⟨v, h.split⟩
theorem rqP_mk {w0 w : World} {b : Nat} {l : List Ri} {v : Value} {L : List HP} (h : St w0 (rqB b v :: riS v l :: L) w) : St w0 (rqP b l :: L) w := St.exi (F := fun v => sep (rqB b v) (riS v l)) v h.join
theorem ri_info : (Tryz.prog.info? 47).map (fun i => (i.zero, i.size, i.bytes)) = some (some (Value.agg #[.int .i64 0, .int .i64 0, .string ⟨#[]⟩, .string ⟨#[]⟩, .int .i64 0, .int .i64 0, .int .i64 0]), 7, 72) := by kernel_rfl
theorem rfind_e (w0 : World) (L R : List HP) (b : Nat) (l : List Ri) (id : Int) (hp : Pick L (rqP b l) R) (hq : l.length < 900000) :
    KE Tryz.prog 53 #[.pointer (some ⟨b, 0, none⟩), .int .i64 id] w0 L (fun u L' => u = .int .i64 (rfind l id) ∧ L' = L) := by
  refine KE.mk (n := 24) Tryz.func53 rfl Tryz.ntmps53 (by simp) ?_
  intro w hw0
  obtain ⟨v, hw⟩ := rqP_open (hw0.pick hp)
  obtain ⟨sa, cap, rfl, hsa, hc⟩ := RdS.of (E := 47) (sz := 7) (cf := riC) (fun _ => rfl) Pick.head w hw.drop
  repeat ((with_reducible refine K.seq ?_))
  refine K.reg ?_
  refine KO.as rfl rfl ?_
  refine KO.nil ?_
  repeat (first | (with_reducible refine K.seq ?_) | (with_reducible refine KQ.next ?_))
  refine K.reg ?_
  refine KO.mv rfl rfl ?_
  refine KO.nc rfl rfl ?_
  refine KO.fo0 (off := 0) rfl Tryz.runUnderlying29 rfl rfl Tryz.sizeOf27 rfl ?_
  refine KO.ldb hw rfl rfl Tryz.isAgg27 (by with_reducible (repeat (exact Pick.head))) (by exact rfl) rfl ?_
  refine KO.len rfl Tryz.underlying27 rfl ?_
  refine KO.mv rfl rfl ?_
  refine KO.nil ?_
  repeat (first | (with_reducible refine KQ.next ?_) | (with_reducible refine K.block ?_))
  refine K.loop (fun k : Nat => [(0, .pointer (some ⟨b, 0, none⟩)), (1, .int .i64 id), (10, .slice sa l.length cap), (11, .int .i64 (l.length : Nat)), (12, .int .i64 (k : Nat))]) (fun _ => []) (fun k => k ≤ l.length ∧ ∀ j u, j < k → l[j]? = some u → ridB id u = false) (fun k => l.length - k) 0
    ⟨Nat.zero_le _, fun j u h => by omega⟩ ⟨rfl, rfl, rfl, rfl, rfl, trivial⟩ (fun _ h => h) ?_
  rintro k ⟨hk, hall⟩
  repeat ((with_reducible refine K.seq ?_))
  refine K.reg ?_
  refine KO.lss rfl rfl rfl ?_
  refine KO.nil ?_
  repeat (first | (with_reducible refine K.seq ?_) | (with_reducible refine KQ.next ?_))
  refine K.condD rfl (fun h => ?_) (fun h => ?_)
  · obtain ⟨g, rfl⟩ := hsa (by omega)
    obtain ⟨e, he⟩ : ∃ e, l[k]? = some e := ⟨l[k], List.getElem?_eq_getElem (by omega)⟩
    repeat (first | (with_reducible refine K.seq ?_) | (with_reducible refine KQ.next ?_) | (with_reducible refine K.skip ?_) | (with_reducible refine K.block ?_))
    refine K.reg ?_
    refine KO.mv rfl rfl ?_
    refine KO.idx0 rfl rfl Tryz.runUnderlying27 Tryz.sizeOf47 (by exact rfl) (by omega) rfl ?_
    refine KO.ldN0 (cs := (riC e).toArray) rfl rfl Tryz.isAgg47 Tryz.sizeOf47 rfl (hc g rfl k e he) rfl ?_
    refine KO.alloc rfl Tryz.zeroValue47 (by exact rfl) rfl ?_; intro b6
    refine KO.as rfl rfl ?_
    refine KO.sto0 rfl rfl rfl (by exact rfl) (by exact Tryz.sizeOf47) (by exact rfl) (by with_reducible (repeat (exact Pick.head))) (by exact rfl) ?_
    refine KO.nil ?_
    repeat (first | (with_reducible refine K.seq ?_) | (with_reducible refine KQ.next ?_))
    refine K.reg ?_
    refine KO.fo0 (off := 0) rfl Tryz.runUnderlying47 rfl rfl Tryz.sizeOf31 rfl ?_
    refine KO.fo0 (off := 0) rfl Tryz.runUnderlying31 rfl rfl Tryz.sizeOf3 rfl ?_
    refine KO.ld rfl rfl Tryz.isAgg3 (by with_reducible (repeat (exact Pick.head))) (by exact rfl) rfl ?_
    refine KO.mv rfl rfl ?_
    refine KO.eqI rfl rfl rfl ?_
    refine KO.nil ?_
    repeat ((with_reducible refine KQ.next ?_))
    refine K.condD rfl (fun h5 => ?_) (fun h5 => ?_)
    · repeat ((with_reducible refine K.seq ?_))
      refine K.reg ?_
      refine KO.mv rfl rfl ?_
      refine KO.as rfl rfl ?_
      refine KO.nil ?_
      repeat (first | (with_reducible refine KQ.next ?_) | (with_reducible refine KQ.then_ret ?_) | (with_reducible refine KQ.blk_ret ?_) | (with_reducible refine K.ret ?_))
      refine KQ.ret1 rfl rfl (fun w' hs => ⟨_, _, rfl, ⟨?_, rfl⟩, hw0.below_step hs.below, hs.below⟩)
      rw [rfind, fidx_hit he (by simp [ridB, h5]) hall]
    · repeat (first | (with_reducible refine KQ.next ?_) | (with_reducible refine KQ.blk_normal ?_) | (with_reducible refine K.skip ?_))
      refine K.reg ?_
      refine KO.add rfl rfl rfl (by omega) rfl ?_
      refine KO.mv rfl rfl ?_
      refine KO.nil ?_
      refine KQ.round (k + 1) ⟨by omega, fun j u hj hu => ?_⟩ (by omega) ⟨rfl, rfl, rfl, rfl, rfl, trivial⟩ (fun _ h => h.all (by with_reducible repeat (exact PAll.nil)))
      by_cases hjk : j = k
      · subst hjk; rw [he] at hu; cases hu; simp [ridB, h5]
      · exact hall j u (by omega) hu
  · repeat (first | (with_reducible refine K.seq ?_) | (with_reducible refine KQ.next ?_) | (with_reducible refine KQ.then_exit ?_) | (with_reducible refine KQ.blk_exit ?_) | (with_reducible refine K.exit ?_))
    refine K.reg ?_
    refine KO.as rfl rfl ?_
    refine KO.nil ?_
    repeat (first | (with_reducible refine KQ.next ?_) | (with_reducible refine K.ret ?_))
    refine KQ.ret1 rfl rfl (fun w' hs => ⟨_, _, rfl, ⟨?_, rfl⟩, hw0.below_step hs.below, hs.below⟩)
    rw [rfind, fidx_miss fun j u hu => hall j u (by have := (List.getElem?_eq_some_iff.1 hu).1; omega) hu]
theorem rhas_e (w0 : World) (L R : List HP) (b : Nat) (l : List Ri) (id : Int) (hp : Pick L (rqP b l) R) (hq : l.length < 900000) :
    KE Tryz.prog 29 #[.pointer (some ⟨b, 0, none⟩), .int .i64 id] w0 L (fun u L' => u = .bool (decide (0 ≤ rfind l id)) ∧ L' = L) := by
  refine KE.mk (n := 9) Tryz.func29 rfl Tryz.ntmps29 (by simp) ?_
  intro w hw0
  repeat ((with_reducible refine K.seq ?_))
  refine K.reg ?_
  refine KO.as rfl rfl ?_
  refine KO.nil ?_
  repeat (first | (with_reducible refine K.seq ?_) | (with_reducible refine KQ.next ?_))
  refine K.reg ?_
  refine KO.mv rfl rfl ?_
  refine KO.mv rfl rfl ?_
  refine KO.ce (cp := []) rfl rfl rfl Tryz.call53 rfl ((rfind_e w0 L R b l id hp hq).rebase hw0) ?_; rintro v' L' ⟨rfl, rfl⟩
  refine KO.geq rfl rfl rfl ?_
  refine KO.as rfl rfl ?_
  refine KO.nil ?_
  repeat (first | (with_reducible refine KQ.next ?_) | (with_reducible refine K.ret ?_))
  refine KQ.ret1 rfl rfl (fun w' hs => ⟨_, _, rfl, ⟨rfl, rfl⟩, hw0.below_step hs.below, hs.below⟩)
set_option maxRecDepth 100000 in
theorem rpush_c (w0 : World) (L : List HP) (b : Nat) (l : List Ri) (m : Ms) (u : Int) (hq : l.length < 900000) :
    KC Tryz.prog 21 #[.pointer (some ⟨b, 0, none⟩), .agg (msC m).toArray, .int .i64 u] w0 (rqP b l :: L) (fun v L' => v = .tuple #[] ∧ L' = rqP b (rpush l m u) :: L) := by
  refine KC.mk (n := 22) Tryz.func21 rfl Tryz.ntmps21 (by simp) ?_
  repeat ((with_reducible refine K.seq ?_))
  refine K.open' (fun _ h => rqP_open h) fun v => ?_
  refine K.reg ?_
  refine KO.box rfl rfl (by exact rfl) rfl ?_; intro b4
  refine KO.nil ?_
  repeat (first | (with_reducible refine K.seq ?_) | (with_reducible refine KQ.next ?_))
  refine K.reg ?_
  refine KO.mv rfl rfl ?_
  refine KO.lss rfl rfl rfl ?_
  refine KO.nil ?_
  repeat ((with_reducible refine KQ.next ?_))
  refine K.cut (fun _ : Unit => [(0, .pointer (some ⟨b, 0, none⟩)), (2, .int .i64 (rneg u)), (4, .pointer (some ⟨b4, 0, none⟩))]) (fun _ => [blk b4 (.cells (msC m).toArray 31 (0, 0)), rqB b v, riS v l] ++ L) (fun _ => True) ?_ ?_
  · refine K.condD rfl (fun h => ?_) (fun h => ?_)
    · refine K.reg ?_
      refine KO.as rfl rfl ?_
      refine KO.nil ?_
      exact KQ.mid () trivial ⟨rfl, by simp [envAt, rneg, h], rfl, trivial⟩ (fun _ h => h)
    · refine K.skip ?_
      exact KQ.mid () trivial ⟨rfl, by simp [rneg, h, argEnv, envAt], rfl, trivial⟩ (fun _ h => h)
  rintro _ _
  show K _ _ _ _ _ _ _ (blk b4 (.cells (msC m).toArray 31 (0, 0)) :: rqB b v :: riS v l :: L)
  refine K.drawX [.pure, .keep, .pure, .pure, .pure, .read, .write, .read, .pure, .pure, .keep, .write, .pure, .pure, .write] [(6, 7), (6, 10), (1, 10)] [[0, 2, 3, 4, 5, 8, 1, 6, 7, 9, 10, 11, 12, 13, 14], [0, 2, 3, 4, 5, 7, 8, 9, 1, 6, 10, 11, 12, 13, 14], [0, 2, 3, 4, 5, 7, 8, 9, 1, 10, 6, 11, 12, 13, 14], [0, 2, 3, 4, 5, 7, 8, 9, 10, 1, 6, 11, 12, 13, 14]] (by kernel_rfl) (by kernel_rfl) (by kernel_rfl) ⟨?_, ?_, ?_, ?_, trivial⟩
  focus
    show KO _ _ _ _ _ _ _ _ _ _
    refine KO.mv rfl rfl ?_
    refine KO.mv rfl rfl ?_
    refine KO.nc rfl rfl ?_
    refine KO.fo0 (off := 0) rfl Tryz.runUnderlying29 rfl rfl Tryz.sizeOf27 rfl ?_
    refine KO.ld rfl rfl Tryz.isAgg27 (by with_reducible (repeat (first | exact Pick.head | apply Pick.tail))) (by exact rfl) rfl ?_
    refine KO.mv rfl rfl ?_
    refine KO.bs0 riC rfl Tryz.underlying27 Tryz.sizeOf47 rfl ?_; intro b9
    refine KO.appS (cf := riC) (E := 47) (z := Value.agg #[.int .i64 0, .int .i64 0, .string ⟨#[]⟩, .string ⟨#[]⟩, .int .i64 0, .int .i64 0, .int .i64 0]) (sz := 7) (by' := 72) (xs := []) (ys := l) rfl rfl rfl (by with_reducible (repeat (exact Pick.head))) (fun w hw => Src.of (by with_reducible (repeat (first | exact Pick.head | apply Pick.tail))) w hw) Tryz.underlying27 ri_info rfl (fun _ => rfl) (fun _ => rfl) (by simp; omega) (by decide) rfl ?_; intro v6; rw [List.nil_append]; refine KO.fact (fun _ hs => SL_form hs) ?_; rintro ⟨a6, c6, rfl, -⟩
    refine KO.ldB0 rfl rfl Tryz.isAgg31 Tryz.sizeOf31 (by with_reducible (repeat (first | exact Pick.head | apply Pick.tail))) (by exact rfl) rfl ?_
    refine KO.bldS (pl := [(0, 5), (5, 1), (6, 1)]) (riC ⟨m, rneg u, -1⟩) rfl Tryz.zeroValue47 Tryz.runUnderlying47 (by intro w; simp [Tryz.sizeOf3, Tryz.sizeOf31]) rfl rfl ?_
    refine KO.bs1 (z := (Value.agg #[.int .i64 0, .int .i64 0, .string ⟨#[]⟩, .string ⟨#[]⟩, .int .i64 0, .int .i64 0, .int .i64 0])) (sz := 7) (by' := 72) rfl rfl Tryz.underlying27 (by kernel_rfl) (by exact rfl) (by exact rfl) (by decide) (by decide) rfl ?_; intro b18
    refine KO.app (z := Value.agg #[.int .i64 0, .int .i64 0, .string ⟨#[]⟩, .string ⟨#[]⟩, .int .i64 0, .int .i64 0, .int .i64 0]) (sz := 7) (by' := 72) rfl rfl rfl (by with_reducible (repeat (first | exact Pick.head | apply Pick.tail))) (by with_reducible (repeat (exact Pick.head))) Tryz.underlying27 ri_info rfl (⟨m, rneg u, -1⟩ : Ri) (by exact rfl) (by exact rfl) (by exact rfl) (by omega) (by decide) rfl ?_; intro v'; refine KO.fact (fun _ hs => SL_form hs) ?_; rintro ⟨a', c', rfl, -⟩
    refine KO.nc rfl rfl ?_
    refine KO.fo0 (off := 0) rfl Tryz.runUnderlying29 rfl rfl Tryz.sizeOf27 rfl ?_
    refine KO.sto0 rfl rfl rfl (by exact rfl) (by exact Tryz.sizeOf27) (by exact rfl) (by with_reducible (repeat (first | exact Pick.head | apply Pick.tail))) (by exact rfl) ?_
    refine KO.nil ?_
  rotate_left
  focus
    show KO _ _ _ _ _ _ _ _ _ _
    refine KO.mv rfl rfl ?_
    refine KO.mv rfl rfl ?_
    refine KO.nc rfl rfl ?_
    refine KO.fo0 (off := 0) rfl Tryz.runUnderlying29 rfl rfl Tryz.sizeOf27 rfl ?_
    refine KO.ld rfl rfl Tryz.isAgg27 (by with_reducible (repeat (first | exact Pick.head | apply Pick.tail))) (by exact rfl) rfl ?_
    refine KO.ldB0 rfl rfl Tryz.isAgg31 Tryz.sizeOf31 (by with_reducible (repeat (exact Pick.head))) (by exact rfl) rfl ?_
    refine KO.mv rfl rfl ?_
    refine KO.bldS (pl := [(0, 5), (5, 1), (6, 1)]) (riC ⟨m, rneg u, -1⟩) rfl Tryz.zeroValue47 Tryz.runUnderlying47 (by intro w; simp [Tryz.sizeOf3, Tryz.sizeOf31]) rfl rfl ?_
    refine KO.bs0 riC rfl Tryz.underlying27 Tryz.sizeOf47 rfl ?_; intro b9
    refine KO.appS (cf := riC) (E := 47) (z := Value.agg #[.int .i64 0, .int .i64 0, .string ⟨#[]⟩, .string ⟨#[]⟩, .int .i64 0, .int .i64 0, .int .i64 0]) (sz := 7) (by' := 72) (xs := []) (ys := l) rfl rfl rfl (by with_reducible (repeat (exact Pick.head))) (fun w hw => Src.of (by with_reducible (repeat (first | exact Pick.head | apply Pick.tail))) w hw) Tryz.underlying27 ri_info rfl (fun _ => rfl) (fun _ => rfl) (by simp; omega) (by decide) rfl ?_; intro v6; rw [List.nil_append]; refine KO.fact (fun _ hs => SL_form hs) ?_; rintro ⟨a6, c6, rfl, -⟩
    refine KO.bs1 (z := (Value.agg #[.int .i64 0, .int .i64 0, .string ⟨#[]⟩, .string ⟨#[]⟩, .int .i64 0, .int .i64 0, .int .i64 0])) (sz := 7) (by' := 72) rfl rfl Tryz.underlying27 (by kernel_rfl) (by exact rfl) (by exact rfl) (by decide) (by decide) rfl ?_; intro b18
    refine KO.app (z := Value.agg #[.int .i64 0, .int .i64 0, .string ⟨#[]⟩, .string ⟨#[]⟩, .int .i64 0, .int .i64 0, .int .i64 0]) (sz := 7) (by' := 72) rfl rfl rfl (by with_reducible (repeat (first | exact Pick.head | apply Pick.tail))) (by with_reducible (repeat (exact Pick.head))) Tryz.underlying27 ri_info rfl (⟨m, rneg u, -1⟩ : Ri) (by exact rfl) (by exact rfl) (by exact rfl) (by omega) (by decide) rfl ?_; intro v'; refine KO.fact (fun _ hs => SL_form hs) ?_; rintro ⟨a', c', rfl, -⟩
    refine KO.nc rfl rfl ?_
    refine KO.fo0 (off := 0) rfl Tryz.runUnderlying29 rfl rfl Tryz.sizeOf27 rfl ?_
    refine KO.sto0 rfl rfl rfl (by exact rfl) (by exact Tryz.sizeOf27) (by exact rfl) (by with_reducible (repeat (first | exact Pick.head | apply Pick.tail))) (by exact rfl) ?_
    refine KO.nil ?_
  rotate_left
  focus
    show KO _ _ _ _ _ _ _ _ _ _
    refine KO.mv rfl rfl ?_
    refine KO.mv rfl rfl ?_
    refine KO.nc rfl rfl ?_
    refine KO.fo0 (off := 0) rfl Tryz.runUnderlying29 rfl rfl Tryz.sizeOf27 rfl ?_
    refine KO.ld rfl rfl Tryz.isAgg27 (by with_reducible (repeat (first | exact Pick.head | apply Pick.tail))) (by exact rfl) rfl ?_
    refine KO.ldB0 rfl rfl Tryz.isAgg31 Tryz.sizeOf31 (by with_reducible (repeat (exact Pick.head))) (by exact rfl) rfl ?_
    refine KO.mv rfl rfl ?_
    refine KO.bldS (pl := [(0, 5), (5, 1), (6, 1)]) (riC ⟨m, rneg u, -1⟩) rfl Tryz.zeroValue47 Tryz.runUnderlying47 (by intro w; simp [Tryz.sizeOf3, Tryz.sizeOf31]) rfl rfl ?_
    refine KO.bs0 riC rfl Tryz.underlying27 Tryz.sizeOf47 rfl ?_; intro b9
    refine KO.bs1 (z := (Value.agg #[.int .i64 0, .int .i64 0, .string ⟨#[]⟩, .string ⟨#[]⟩, .int .i64 0, .int .i64 0, .int .i64 0])) (sz := 7) (by' := 72) rfl rfl Tryz.underlying27 (by kernel_rfl) (by exact rfl) (by exact rfl) (by decide) (by decide) rfl ?_; intro b18
    refine KO.appS (cf := riC) (E := 47) (z := Value.agg #[.int .i64 0, .int .i64 0, .string ⟨#[]⟩, .string ⟨#[]⟩, .int .i64 0, .int .i64 0, .int .i64 0]) (sz := 7) (by' := 72) (xs := []) (ys := l) rfl rfl rfl (by with_reducible (repeat (first | exact Pick.head | apply Pick.tail))) (fun w hw => Src.of (by with_reducible (repeat (first | exact Pick.head | apply Pick.tail))) w hw) Tryz.underlying27 ri_info rfl (fun _ => rfl) (fun _ => rfl) (by simp; omega) (by decide) rfl ?_; intro v6; rw [List.nil_append]; refine KO.fact (fun _ hs => SL_form hs) ?_; rintro ⟨a6, c6, rfl, -⟩
    refine KO.app (z := Value.agg #[.int .i64 0, .int .i64 0, .string ⟨#[]⟩, .string ⟨#[]⟩, .int .i64 0, .int .i64 0, .int .i64 0]) (sz := 7) (by' := 72) rfl rfl rfl (by with_reducible (repeat (exact Pick.head))) (by with_reducible (repeat (exact Pick.head))) Tryz.underlying27 ri_info rfl (⟨m, rneg u, -1⟩ : Ri) (by exact rfl) (by exact rfl) (by exact rfl) (by omega) (by decide) rfl ?_; intro v'; refine KO.fact (fun _ hs => SL_form hs) ?_; rintro ⟨a', c', rfl, -⟩
    refine KO.nc rfl rfl ?_
    refine KO.fo0 (off := 0) rfl Tryz.runUnderlying29 rfl rfl Tryz.sizeOf27 rfl ?_
    refine KO.sto0 rfl rfl rfl (by exact rfl) (by exact Tryz.sizeOf27) (by exact rfl) (by with_reducible (repeat (first | exact Pick.head | apply Pick.tail))) (by exact rfl) ?_
    refine KO.nil ?_
  rotate_left
  focus
    show KO _ _ _ _ _ _ _ _ _ _
    refine KO.mv rfl rfl ?_
    refine KO.mv rfl rfl ?_
    refine KO.nc rfl rfl ?_
    refine KO.fo0 (off := 0) rfl Tryz.runUnderlying29 rfl rfl Tryz.sizeOf27 rfl ?_
    refine KO.ld rfl rfl Tryz.isAgg27 (by with_reducible (repeat (first | exact Pick.head | apply Pick.tail))) (by exact rfl) rfl ?_
    refine KO.ldB0 rfl rfl Tryz.isAgg31 Tryz.sizeOf31 (by with_reducible (repeat (exact Pick.head))) (by exact rfl) rfl ?_
    refine KO.mv rfl rfl ?_
    refine KO.bldS (pl := [(0, 5), (5, 1), (6, 1)]) (riC ⟨m, rneg u, -1⟩) rfl Tryz.zeroValue47 Tryz.runUnderlying47 (by intro w; simp [Tryz.sizeOf3, Tryz.sizeOf31]) rfl rfl ?_
    refine KO.bs1 (z := (Value.agg #[.int .i64 0, .int .i64 0, .string ⟨#[]⟩, .string ⟨#[]⟩, .int .i64 0, .int .i64 0, .int .i64 0])) (sz := 7) (by' := 72) rfl rfl Tryz.underlying27 (by kernel_rfl) (by exact rfl) (by exact rfl) (by decide) (by decide) rfl ?_; intro b18
    refine KO.bs0 riC rfl Tryz.underlying27 Tryz.sizeOf47 rfl ?_; intro b9
    refine KO.appS (cf := riC) (E := 47) (z := Value.agg #[.int .i64 0, .int .i64 0, .string ⟨#[]⟩, .string ⟨#[]⟩, .int .i64 0, .int .i64 0, .int .i64 0]) (sz := 7) (by' := 72) (xs := []) (ys := l) rfl rfl rfl (by with_reducible (repeat (exact Pick.head))) (fun w hw => Src.of (by with_reducible (repeat (first | exact Pick.head | apply Pick.tail))) w hw) Tryz.underlying27 ri_info rfl (fun _ => rfl) (fun _ => rfl) (by simp; omega) (by decide) rfl ?_; intro v6; rw [List.nil_append]; refine KO.fact (fun _ hs => SL_form hs) ?_; rintro ⟨a6, c6, rfl, -⟩
    refine KO.app (z := Value.agg #[.int .i64 0, .int .i64 0, .string ⟨#[]⟩, .string ⟨#[]⟩, .int .i64 0, .int .i64 0, .int .i64 0]) (sz := 7) (by' := 72) rfl rfl rfl (by with_reducible (repeat (exact Pick.head))) (by with_reducible (repeat (exact Pick.head))) Tryz.underlying27 ri_info rfl (⟨m, rneg u, -1⟩ : Ri) (by exact rfl) (by exact rfl) (by exact rfl) (by omega) (by decide) rfl ?_; intro v'; refine KO.fact (fun _ hs => SL_form hs) ?_; rintro ⟨a', c', rfl, -⟩
    refine KO.nc rfl rfl ?_
    refine KO.fo0 (off := 0) rfl Tryz.runUnderlying29 rfl rfl Tryz.sizeOf27 rfl ?_
    refine KO.sto0 rfl rfl rfl (by exact rfl) (by exact Tryz.sizeOf27) (by exact rfl) (by with_reducible (repeat (first | exact Pick.head | apply Pick.tail))) (by exact rfl) ?_
    refine KO.nil ?_
  rotate_left
  all_goals (
    refine KQ.end0 rfl (fun w' hs => ⟨_, _, rfl, ⟨rfl, rfl⟩, ?_⟩)
    unfold rpush
    exact rqP_mk ((hs.pick2 (by with_reducible (repeat (exact Pick.head))) (by with_reducible (repeat (exact Pick.head)))).gc2 (by with_reducible repeat (first | exact LSub.refl | apply LSub.drop))))
set_option maxRecDepth 100000 in
theorem rdrop_c (w0 : World) (L : List HP) (b : Nat) (l : List Ri) (i : Nat) (hi : i < l.length) (hq : l.length < 900000) :
    KC Tryz.prog 55 #[.pointer (some ⟨b, 0, none⟩), .int .i64 (i : Nat)] w0 (rqP b l :: L) (fun v L' => v = .tuple #[] ∧ L' = rqP b (l.eraseIdx i) :: L) := by
  refine KC.mk (n := 23) Tryz.func55 rfl Tryz.ntmps55 (by simp) ?_
  refine K.open' (fun _ h => rqP_open h) fun v => ?_
  refine K.fact (fun w hw => SL_some (hw.pick (by with_reducible (repeat (first | exact Pick.head | apply Pick.tail)))) hi) ?_
  rintro ⟨g, cap, rfl⟩
  refine K.fact (fun w hw => SL_cap (hw.pick (A := riS (.slice (some ⟨g, 0, none⟩) l.length cap) l) (by with_reducible (repeat (first | exact Pick.head | apply Pick.tail))))) ?_
  rintro ⟨-, hcap⟩
  refine K.drawX [.pure, .keep, .pure, .pure, .pure, .read, .pure, .pure, .write, .pure, .pure, .pure, .read, .pure, .pure, .pure, .write, .pure, .pure, .write] [(8, 12)] [[0, 2, 3, 4, 5, 6, 7, 9, 10, 11, 13, 14, 1, 8, 12, 15, 16, 17, 18, 19], [0, 2, 3, 4, 5, 6, 7, 9, 10, 11, 12, 13, 14, 15, 1, 8, 16, 17, 18, 19]] (by kernel_rfl) (by kernel_rfl) (by kernel_rfl) ⟨?_, ?_, trivial⟩
  focus
    show KO _ _ _ _ _ _ _ _ _ _
    refine KO.mv rfl rfl ?_
    refine KO.mv rfl rfl ?_
    refine KO.nc rfl rfl ?_
    refine KO.fo0 (off := 0) rfl Tryz.runUnderlying29 rfl rfl Tryz.sizeOf27 rfl ?_
    refine KO.ld rfl rfl Tryz.isAgg27 (by with_reducible (repeat (exact Pick.head))) (by exact rfl) rfl ?_
    refine KO.mv rfl rfl ?_
    refine KO.cutTo rfl rfl Tryz.underlying27 Tryz.sizeOf47 (by exact rfl) (by omega) rfl ?_
    refine KO.mv rfl rfl ?_
    refine KO.nc rfl rfl ?_
    refine KO.fo0 (off := 0) rfl Tryz.runUnderlying29 rfl rfl Tryz.sizeOf27 rfl ?_
    refine KO.mv rfl rfl ?_
    refine KO.add rfl rfl rfl (by omega) rfl ?_
    refine KO.bs0 riC rfl Tryz.underlying27 Tryz.sizeOf47 rfl ?_; intro b5
    refine KO.appS (cf := riC) (E := 47) (z := Value.agg #[.int .i64 0, .int .i64 0, .string ⟨#[]⟩, .string ⟨#[]⟩, .int .i64 0, .int .i64 0, .int .i64 0]) (sz := 7) (by' := 72) (xs := []) (ys := l.take i) rfl rfl rfl (by with_reducible (repeat (exact Pick.head))) (fun w hw => (Src.of (E := 47) (sz := 7) (xs := l) (by with_reducible (repeat (first | exact Pick.head | apply Pick.tail))) w hw).take i (by omega)) Tryz.underlying27 ri_info rfl (fun _ => rfl) (fun _ => rfl) (by simp; omega) (by decide) rfl ?_; intro v8; rw [List.nil_append]; refine KO.fact (fun _ hs => SL_form hs) ?_; rintro ⟨a8, c8, rfl, -⟩
    refine KO.ld rfl rfl Tryz.isAgg27 (by with_reducible (repeat (first | exact Pick.head | apply Pick.tail))) (by exact rfl) rfl ?_
    refine KO.cutFrom (lo := i + 1) rfl rfl Tryz.underlying27 Tryz.sizeOf47 (by omega) (by omega) (by omega) rfl ?_
    refine KO.appS (cf := riC) (E := 47) (z := Value.agg #[.int .i64 0, .int .i64 0, .string ⟨#[]⟩, .string ⟨#[]⟩, .int .i64 0, .int .i64 0, .int .i64 0]) (sz := 7) (by' := 72) (xs := l.take i) (ys := l.drop (i + 1)) rfl rfl rfl (by with_reducible (repeat (exact Pick.head))) (fun w hw => Src.cut (cf := riC) (sz := 7) (fun _ => rfl) (Src.of (E := 47) (sz := 7) (cf := riC) (v := .slice (some ⟨g, 0, none⟩) l.length cap) (xs := l) (by with_reducible (repeat (first | exact Pick.head | apply Pick.tail))) w hw) (i + 1) (by omega) hcap) Tryz.underlying27 ri_info rfl (fun _ => rfl) (fun _ => rfl) (by simp; omega) (by decide) rfl ?_; intro v16; refine KO.fact (fun _ hs => SL_form hs) ?_; rintro ⟨a16, c16, rfl, -⟩
    refine KO.nc rfl rfl ?_
    refine KO.fo0 (off := 0) rfl Tryz.runUnderlying29 rfl rfl Tryz.sizeOf27 rfl ?_
    refine KO.sto0 rfl rfl rfl (by exact rfl) (by exact Tryz.sizeOf27) (by exact rfl) (by with_reducible (repeat (first | exact Pick.head | apply Pick.tail))) (by exact rfl) ?_
    refine KO.nil ?_
  rotate_left
  focus
    show KO _ _ _ _ _ _ _ _ _ _
    refine KO.mv rfl rfl ?_
    refine KO.mv rfl rfl ?_
    refine KO.nc rfl rfl ?_
    refine KO.fo0 (off := 0) rfl Tryz.runUnderlying29 rfl rfl Tryz.sizeOf27 rfl ?_
    refine KO.ld rfl rfl Tryz.isAgg27 (by with_reducible (repeat (exact Pick.head))) (by exact rfl) rfl ?_
    refine KO.mv rfl rfl ?_
    refine KO.cutTo rfl rfl Tryz.underlying27 Tryz.sizeOf47 (by exact rfl) (by omega) rfl ?_
    refine KO.mv rfl rfl ?_
    refine KO.nc rfl rfl ?_
    refine KO.fo0 (off := 0) rfl Tryz.runUnderlying29 rfl rfl Tryz.sizeOf27 rfl ?_
    refine KO.ld rfl rfl Tryz.isAgg27 (by with_reducible (repeat (exact Pick.head))) (by exact rfl) rfl ?_
    refine KO.mv rfl rfl ?_
    refine KO.add rfl rfl rfl (by omega) rfl ?_
    refine KO.cutFrom (lo := i + 1) rfl rfl Tryz.underlying27 Tryz.sizeOf47 (by omega) (by omega) (by omega) rfl ?_
    refine KO.bs0 riC rfl Tryz.underlying27 Tryz.sizeOf47 rfl ?_; intro b5
    refine KO.appS (cf := riC) (E := 47) (z := Value.agg #[.int .i64 0, .int .i64 0, .string ⟨#[]⟩, .string ⟨#[]⟩, .int .i64 0, .int .i64 0, .int .i64 0]) (sz := 7) (by' := 72) (xs := []) (ys := l.take i) rfl rfl rfl (by with_reducible (repeat (exact Pick.head))) (fun w hw => (Src.of (E := 47) (sz := 7) (xs := l) (by with_reducible (repeat (first | exact Pick.head | apply Pick.tail))) w hw).take i (by omega)) Tryz.underlying27 ri_info rfl (fun _ => rfl) (fun _ => rfl) (by simp; omega) (by decide) rfl ?_; intro v8; rw [List.nil_append]; refine KO.fact (fun _ hs => SL_form hs) ?_; rintro ⟨a8, c8, rfl, -⟩
    refine KO.appS (cf := riC) (E := 47) (z := Value.agg #[.int .i64 0, .int .i64 0, .string ⟨#[]⟩, .string ⟨#[]⟩, .int .i64 0, .int .i64 0, .int .i64 0]) (sz := 7) (by' := 72) (xs := l.take i) (ys := l.drop (i + 1)) rfl rfl rfl (by with_reducible (repeat (exact Pick.head))) (fun w hw => Src.cut (cf := riC) (sz := 7) (fun _ => rfl) (Src.of (E := 47) (sz := 7) (cf := riC) (v := .slice (some ⟨g, 0, none⟩) l.length cap) (xs := l) (by with_reducible (repeat (first | exact Pick.head | apply Pick.tail))) w hw) (i + 1) (by omega) hcap) Tryz.underlying27 ri_info rfl (fun _ => rfl) (fun _ => rfl) (by simp; omega) (by decide) rfl ?_; intro v16; refine KO.fact (fun _ hs => SL_form hs) ?_; rintro ⟨a16, c16, rfl, -⟩
    refine KO.nc rfl rfl ?_
    refine KO.fo0 (off := 0) rfl Tryz.runUnderlying29 rfl rfl Tryz.sizeOf27 rfl ?_
    refine KO.sto0 rfl rfl rfl (by exact rfl) (by exact Tryz.sizeOf27) (by exact rfl) (by with_reducible (repeat (first | exact Pick.head | apply Pick.tail))) (by exact rfl) ?_
    refine KO.nil ?_
  rotate_left
  all_goals (
    refine KQ.end0 rfl (fun w' hs => ⟨_, _, rfl, ⟨rfl, rfl⟩, ?_⟩)
    rw [List.eraseIdx_eq_take_drop_succ]
    exact rqP_mk ((hs.pick2 (by with_reducible (repeat (exact Pick.head))) (by with_reducible (repeat (exact Pick.head)))).gc2 (by with_reducible repeat (first | exact LSub.refl | apply LSub.drop))))
theorem rput_c (w0 : World) (L : List HP) (b : Nat) (l : List Ri) (m : Ms) (u : Int) (hq : l.length < 900000) (hb : m.body.size ≤ maxLen) (hqs : m.queue.size ≤ maxLen) :
    KC Tryz.prog 12 #[.pointer (some ⟨b, 0, none⟩), .agg (msC m).toArray, .int .i64 u] w0 (rqP b l :: L) (fun v L' => v = .int .i64 (rputE l m) ∧ L' = rqP b (rput l m u) :: L) := by
  refine KC.mk (n := 25) Tryz.func12 rfl Tryz.ntmps12 (by simp) ?_
  repeat ((with_reducible refine K.seq ?_))
  refine K.reg ?_
  refine KO.box rfl rfl (by exact rfl) rfl ?_; intro b4
  refine KO.as rfl rfl ?_
  refine KO.nil ?_
  repeat (first | (with_reducible refine K.seq ?_) | (with_reducible refine KQ.next ?_))
  refine K.reg ?_
  refine KO.ldB0 rfl rfl Tryz.isAgg31 Tryz.sizeOf31 (by with_reducible (repeat (exact Pick.head))) (by exact rfl) rfl ?_
  refine KO.ce (cp := []) rfl rfl rfl Tryz.call19 rfl (rright_e w0 _ m hb hqs) ?_; rintro v' L' ⟨rfl, rfl⟩
  refine KO.not rfl rfl ?_
  refine KO.nil ?_
  repeat ((with_reducible refine KQ.next ?_))
  refine K.cond rfl (fun h => ?_) (fun h => ?_)
  · have h1 : msRight m = false := by simpa using h
    repeat ((with_reducible refine K.seq ?_))
    refine K.reg ?_
    refine KO.as rfl rfl ?_
    refine KO.nil ?_
    repeat (first | (with_reducible refine KQ.next ?_) | (with_reducible refine KQ.then_ret ?_) | (with_reducible refine K.ret ?_))
    refine KQ.ret1 rfl rfl (fun w' hs => ⟨_, _, rfl, ⟨?_, rfl⟩, ?_⟩)
    · simp [rputE, h1]
    · rw [show rput l m u = l by simp [rput, rputE, h1]]
      exact (hs.pick (by with_reducible (repeat (first | exact Pick.head | apply Pick.tail)))).gc1 (by with_reducible repeat (first | exact LSub.refl | apply LSub.drop))
  have h1 : msRight m = true := by simpa using h
  repeat (first | (with_reducible refine K.seq ?_) | (with_reducible refine KQ.next ?_) | (with_reducible refine K.skip ?_))
  refine K.reg ?_
  refine KO.mv rfl rfl ?_
  refine KO.fo0 (off := 0) rfl Tryz.runUnderlying31 rfl rfl Tryz.sizeOf3 rfl ?_
  refine KO.ld rfl rfl Tryz.isAgg3 (by with_reducible (repeat (exact Pick.head))) (by exact rfl) rfl ?_
  refine KO.ce (cp := []) rfl rfl rfl Tryz.call53 rfl (rfind_e w0 _ _ b l m.id (by with_reducible (repeat (first | exact Pick.head | apply Pick.tail))) hq) ?_; rintro v' L' ⟨rfl, rfl⟩
  refine KO.geq rfl rfl rfl ?_
  refine KO.nil ?_
  repeat ((with_reducible refine KQ.next ?_))
  refine K.condD rfl (fun h2 => ?_) (fun h2 => ?_)
  · repeat ((with_reducible refine K.seq ?_))
    refine K.reg ?_
    refine KO.as rfl rfl ?_
    refine KO.nil ?_
    repeat (first | (with_reducible refine KQ.next ?_) | (with_reducible refine KQ.then_ret ?_) | (with_reducible refine K.ret ?_))
    refine KQ.ret1 rfl rfl (fun w' hs => ⟨_, _, rfl, ⟨?_, rfl⟩, ?_⟩)
    · simp [rputE, h1, h2]
    · rw [show rput l m u = l by simp [rput, rputE, h1, h2]]
      exact (hs.pick (by with_reducible (repeat (first | exact Pick.head | apply Pick.tail)))).gc1 (by with_reducible repeat (first | exact LSub.refl | apply LSub.drop))
  repeat (first | (with_reducible refine K.seq ?_) | (with_reducible refine KQ.next ?_) | (with_reducible refine K.skip ?_))
  refine K.conv (fun w hw => hw.pick (A := rqP b l) (by with_reducible (repeat (first | exact Pick.head | apply Pick.tail)))) ?_
  refine K.open' (fun _ h => rqP_open h) fun v => ?_
  refine K.fact (fun w hw => SL_form (hw.pick (A := riS v l) (by with_reducible (repeat (first | exact Pick.head | apply Pick.tail))))) ?_
  rintro ⟨a', c', rfl, -⟩
  refine K.reg ?_
  refine KO.mv rfl rfl ?_
  refine KO.nc rfl rfl ?_
  refine KO.fo0 (off := 0) rfl Tryz.runUnderlying29 rfl rfl Tryz.sizeOf27 rfl ?_
  refine KO.ld rfl rfl Tryz.isAgg27 (by with_reducible (repeat (exact Pick.head))) (by exact rfl) rfl ?_
  refine KO.len rfl Tryz.underlying27 rfl ?_
  refine KO.geq rfl rfl rfl ?_
  refine KO.nil ?_
  repeat ((with_reducible refine KQ.next ?_))
  refine K.conv (L' := rqP b l :: blk b4 (.cells (msC m).toArray 31 (0, 0)) :: L) (fun w hw => rqP_mk hw) ?_
  refine K.condD rfl (fun h3 => ?_) (fun h3 => ?_)
  · repeat ((with_reducible refine K.seq ?_))
    refine K.reg ?_
    refine KO.as rfl rfl ?_
    refine KO.nil ?_
    repeat (first | (with_reducible refine KQ.next ?_) | (with_reducible refine KQ.then_ret ?_) | (with_reducible refine K.ret ?_))
    refine KQ.ret1 rfl rfl (fun w' hs => ⟨_, _, rfl, ⟨?_, rfl⟩, ?_⟩)
    · have : 20 ≤ l.length := by omega
      simp [rputE, h1, h2, this]
    · rw [show rput l m u = l by have : 20 ≤ l.length := by omega
                                 simp [rput, rputE, h1, h2, this]]
      exact (hs.pick (by with_reducible (repeat (exact Pick.head)))).gc1 (by with_reducible repeat (first | exact LSub.refl | apply LSub.drop))
  · have h4 : ¬ 20 ≤ l.length := by omega
    repeat (first | (with_reducible refine K.seq ?_) | (with_reducible refine KQ.next ?_) | (with_reducible refine K.skip ?_))
    refine K.reg ?_
    refine KO.mv rfl rfl ?_
    refine KO.ldB0 rfl rfl Tryz.isAgg31 Tryz.sizeOf31 (by with_reducible (repeat (first | exact Pick.head | apply Pick.tail))) (by exact rfl) rfl ?_
    refine KO.mv rfl rfl ?_
    refine KO.cl (cp := []) rfl rfl rfl Tryz.call21 rfl (rpush_c w0 _ b l m u hq) ?_; rintro v' L' ⟨rfl, rfl⟩
    refine KO.nil ?_
    repeat (first | (with_reducible refine K.seq ?_) | (with_reducible refine KQ.next ?_))
    refine K.reg ?_
    refine KO.as rfl rfl ?_
    refine KO.nil ?_
    repeat (first | (with_reducible refine KQ.next ?_) | (with_reducible refine K.ret ?_))
    refine KQ.ret1 rfl rfl (fun w' hs => ⟨_, _, rfl, ⟨?_, rfl⟩, ?_⟩)
    · simp [rputE, h1, h2, h4]
    · rw [show rput l m u = rpush l m u by simp [rput, rputE, h1, h2, h4]]
      exact (hs.pick (by with_reducible (repeat (exact Pick.head)))).gc1 (by with_reducible repeat (first | exact LSub.refl | apply LSub.drop))
end Go.Proofs.YtjhogocabcdjbaaGreatDoor
/- the document's queue: order, There, Kept. -/
namespace Go.Proofs.YtjhogocabcdjbaaGreatDoor
open Go Go.RowKit WB
abbrev niS (v : Value) (xs : List Nat) : HP := SL 3 1 niC v xs
theorem ni_info : (Tryz.prog.info? 3).map (fun i => (i.zero, i.size, i.bytes)) = some (some (Value.int .i64 0), 1, 8) := by kernel_rfl
theorem order_e (w0 : World) (L R : List HP) (b : Nat) (l : List Ri) (hp : Pick L (rqP b l) R) (hq : l.length ≤ 1000) :
    KE Tryz.prog 54 #[.pointer (some ⟨b, 0, none⟩)] w0 L (fun v L' => L' = niS v (rord l) :: L) := by
  refine KE.mk (n := 32) Tryz.func54 rfl Tryz.ntmps54 (by simp) ?_
  intro w hw0
  obtain ⟨v, hw⟩ := rqP_open (hw0.pick hp)
  obtain ⟨sa, cap, rfl, hsa, hc⟩ := RdS.of (E := 47) (sz := 7) (cf := riC) (fun _ => rfl) Pick.head w hw.drop
  have hrl := rord_len l
  repeat ((with_reducible refine K.seq ?_))
  refine K.reg ?_
  refine KO.as rfl rfl ?_
  refine KO.nil ?_
  repeat (first | (with_reducible refine K.seq ?_) | (with_reducible refine KQ.next ?_))
  refine K.reg ?_
  refine KO.as rfl rfl ?_
  refine KO.nil ?_
  repeat (first | (with_reducible refine K.seq ?_) | (with_reducible refine KQ.next ?_))
  refine K.reg ?_
  refine KO.as rfl rfl ?_
  refine KO.nil ?_
  repeat (first | (with_reducible refine KQ.next ?_) | (with_reducible refine K.block ?_))
  refine K.loop (fun s : Nat × Value × List Nat => [(0, .pointer (some ⟨b, 0, none⟩)), (3, s.2.1), (4, .int .i64 ((s.1 : Nat) - 1 : Int))]) (fun s => [niS s.2.1 s.2.2]) (fun s => s.1 ≤ 10 ∧ s.2.2 ++ rordN l s.1 = rord l) (fun s => s.1) (10, .slice none 0 0, [])
    ⟨Nat.le_refl _, rfl⟩ ⟨rfl, rfl, rfl, trivial⟩ (fun _ h => SL_nil h) ?_
  rintro ⟨n, vo, acc⟩ ⟨hn, hacc⟩
  dsimp only at hn hacc ⊢
  repeat ((with_reducible refine K.seq ?_))
  refine K.reg ?_
  refine KO.mv rfl rfl ?_
  refine KO.geq rfl rfl rfl ?_
  refine KO.nil ?_
  repeat ((with_reducible refine KQ.next ?_))
  refine K.condD rfl (fun h => ?_) (fun h => ?_)
  · obtain ⟨p, rfl⟩ : ∃ p, n = p + 1 := ⟨n - 1, by omega⟩
    have hp1 : ((p + 1 : Nat) : Int) - 1 = (p : Int) := by omega
    rw [hp1]
    have hal : acc.length + (rordP l p).length ≤ 10000 := by
      have := congrArg List.length hacc
      rw [rordN, List.length_append, List.length_append] at this
      omega
    repeat (first | (with_reducible refine K.seq ?_) | (with_reducible refine KQ.next ?_) | (with_reducible refine K.skip ?_) | (with_reducible refine K.block ?_))
    refine K.reg ?_
    refine KO.mv rfl rfl ?_
    refine KO.nc rfl rfl ?_
    refine KO.fo0 (off := 0) rfl Tryz.runUnderlying29 rfl rfl Tryz.sizeOf27 rfl ?_
    refine KO.ldb hw rfl rfl Tryz.isAgg27 (by with_reducible (repeat (exact Pick.head))) (by exact rfl) rfl ?_
    refine KO.len rfl Tryz.underlying27 rfl ?_
    refine KO.mv rfl rfl ?_
    refine KO.nil ?_
    repeat (first | (with_reducible refine KQ.next ?_) | (with_reducible refine K.block ?_))
    refine K.loop (fun s : Nat × Value => [(0, .pointer (some ⟨b, 0, none⟩)), (3, s.2), (4, .int .i64 (p : Int)), (14, .slice sa l.length cap), (15, .int .i64 (l.length : Nat)), (16, .int .i64 (s.1 : Nat))]) (fun s => [niS s.2 (acc ++ (List.range s.1).filter fun i => decide ((l.getD i default).m.pri = (p : Int)))]) (fun s => s.1 ≤ l.length) (fun s => l.length - s.1) (0, vo)
      (Nat.zero_le _) ⟨rfl, rfl, rfl, rfl, rfl, rfl, trivial⟩ (fun _ h => by simpa using h) ?_
    rintro ⟨k, vi⟩ hk
    dsimp only at hk ⊢
    repeat ((with_reducible refine K.seq ?_))
    refine K.reg ?_
    refine KO.lss rfl rfl rfl ?_
    refine KO.nil ?_
    repeat (first | (with_reducible refine K.seq ?_) | (with_reducible refine KQ.next ?_))
    refine K.condD rfl (fun h2 => ?_) (fun h2 => ?_)
    · obtain ⟨g, rfl⟩ := hsa (by omega)
      obtain ⟨e, he⟩ : ∃ e, l[k]? = some e := ⟨l[k], List.getElem?_eq_getElem (by omega)⟩
      have hstep := range_filter_step (fun i => decide ((l.getD i default).m.pri = (p : Int))) k
      have hgd : l.getD k default = e := by simp [List.getD_eq_getElem?_getD, he]
      rw [hgd] at hstep
      have hfl : ((List.range k).filter fun i => decide ((l.getD i default).m.pri = (p : Int))).length ≤ k := by
        have := List.length_filter_le (fun i => decide ((l.getD i default).m.pri = (p : Int))) (List.range k); simpa using this
      repeat (first | (with_reducible refine K.seq ?_) | (with_reducible refine KQ.next ?_) | (with_reducible refine K.skip ?_) | (with_reducible refine K.block ?_))
      refine K.reg ?_
      refine KO.mv rfl rfl ?_
      refine KO.idx0 rfl rfl Tryz.runUnderlying27 Tryz.sizeOf47 (by exact rfl) (by omega) rfl ?_
      refine KO.ldN0 (cs := (riC e).toArray) rfl rfl Tryz.isAgg47 Tryz.sizeOf47 rfl (hc g rfl k e he) rfl ?_
      refine KO.alloc rfl Tryz.zeroValue47 (by exact rfl) rfl ?_; intro b6
      refine KO.as rfl rfl ?_
      refine KO.sto0 rfl rfl rfl (by exact rfl) (by exact Tryz.sizeOf47) (by exact rfl) (by with_reducible (repeat (exact Pick.head))) (by exact rfl) ?_
      refine KO.nil ?_
      repeat (first | (with_reducible refine K.seq ?_) | (with_reducible refine KQ.next ?_))
      refine K.reg ?_
      refine KO.fo0 (off := 0) rfl Tryz.runUnderlying47 rfl rfl Tryz.sizeOf31 rfl ?_
      refine KO.fo0 (off := 1) rfl Tryz.runUnderlying31 rfl rfl Tryz.sizeOf3 rfl ?_
      refine KO.ld rfl rfl Tryz.isAgg3 (by with_reducible (repeat (exact Pick.head))) (by exact rfl) rfl ?_
      refine KO.mv rfl rfl ?_
      refine KO.eqI rfl rfl rfl ?_
      refine KO.nil ?_
      repeat ((with_reducible refine KQ.next ?_))
      refine K.condD rfl (fun h3 => ?_) (fun h3 => ?_)
      · rw [if_pos (by simpa using h3)] at hstep
        refine K.reg ?_
        refine KO.mv rfl rfl ?_
        refine KO.mv rfl rfl ?_
        refine KO.bs1 (z := (Value.int .i64 0)) (sz := 1) (by' := 8) rfl rfl Tryz.underlying101 (by kernel_rfl) (by exact rfl) (by exact rfl) (by decide) (by decide) rfl ?_; intro b28
        refine KO.app (z := Value.int .i64 0) (sz := 1) (by' := 8) rfl rfl rfl (by with_reducible (repeat (first | exact Pick.head | apply Pick.tail))) (by with_reducible (repeat (exact Pick.head))) Tryz.underlying101 ni_info rfl k (by exact rfl) (by exact rfl) (by exact rfl) (by rw [List.length_append]; omega) (by decide) rfl ?_; intro v'
        refine KO.as rfl rfl ?_
        refine KO.nil ?_
        repeat (first | (with_reducible refine KQ.next ?_) | (with_reducible refine KQ.blk_normal ?_))
        refine K.reg ?_
        refine KO.add rfl rfl rfl (by omega) rfl ?_
        refine KO.mv rfl rfl ?_
        refine KO.nil ?_
        refine KQ.round (k + 1, v') (by dsimp only; omega) (by dsimp only; omega) ⟨rfl, rfl, rfl, rfl, rfl, rfl, trivial⟩ (fun _ h => ?_)
        dsimp only
        rw [hstep, ← List.append_assoc]
        exact (h.pick (by with_reducible (repeat (exact Pick.head)))).gc1 (by with_reducible repeat (first | exact LSub.refl | apply LSub.drop))
      · rw [if_neg (by simpa using h3), List.append_nil] at hstep
        repeat (first | (with_reducible refine KQ.next ?_) | (with_reducible refine KQ.blk_normal ?_) | (with_reducible refine K.skip ?_))
        refine K.reg ?_
        refine KO.add rfl rfl rfl (by omega) rfl ?_
        refine KO.mv rfl rfl ?_
        refine KO.nil ?_
        refine KQ.round (k + 1, vi) (by dsimp only; omega) (by dsimp only; omega) ⟨rfl, rfl, rfl, rfl, rfl, rfl, trivial⟩ (fun _ h => ?_)
        dsimp only
        rw [hstep]
        exact (h.pick (by with_reducible (repeat (first | exact Pick.head | apply Pick.tail)))).gc1 (by with_reducible repeat (first | exact LSub.refl | apply LSub.drop))
    · have hkl : k = l.length := by omega
      repeat (first | (with_reducible refine KQ.next ?_) | (with_reducible refine KQ.then_exit ?_) | (with_reducible refine KQ.blk_exit ?_) | (with_reducible refine KQ.blk_normal ?_) | (with_reducible refine K.exit ?_))
      refine K.reg ?_
      refine KO.mv rfl rfl ?_
      refine KO.sub rfl rfl rfl (by omega) rfl ?_
      refine KO.as rfl rfl ?_
      refine KO.nil ?_
      refine KQ.round (p, vi, acc ++ rordP l p) ⟨by dsimp only; omega, by rw [← hacc, rordN, List.append_assoc]⟩ (by dsimp only; omega) ⟨rfl, rfl, rfl, trivial⟩ (fun _ h => ?_)
      rw [hkl] at h
      exact h
  · have hn0 : n = 0 := by omega
    subst hn0
    rw [rordN, List.append_nil] at hacc
    repeat (first | (with_reducible refine K.seq ?_) | (with_reducible refine KQ.next ?_) | (with_reducible refine KQ.then_exit ?_) | (with_reducible refine KQ.blk_exit ?_) | (with_reducible refine K.exit ?_))
    refine K.reg ?_
    refine KO.mv rfl rfl ?_
    refine KO.as rfl rfl ?_
    refine KO.nil ?_
    repeat (first | (with_reducible refine KQ.next ?_) | (with_reducible refine K.ret ?_))
    refine KQ.ret1 rfl rfl (fun w' hs => ⟨_, _, rfl, rfl, ?_, hs.below⟩)
    rw [hacc] at hs
    exact hw0.stack hs
theorem rthere_c (w0 : World) (L : List HP) (b : Nat) (l : List Ri) (hq : l.length ≤ 1000) :
    KC Tryz.prog 24 #[.pointer (some ⟨b, 0, none⟩)] w0 (rqP b l :: L) (fun v L' => L' = msS v (rthere l) :: rqP b l :: L) := by
  have hrl := rord_len l
  refine KC.mk (n := 36) Tryz.func24 rfl Tryz.ntmps24 (by simp) ?_
  repeat ((with_reducible refine K.seq ?_))
  refine K.reg ?_
  refine KO.as rfl rfl ?_
  refine KO.nil ?_
  repeat (first | (with_reducible refine K.seq ?_) | (with_reducible refine KQ.next ?_))
  refine K.reg ?_
  refine KO.as rfl rfl ?_
  refine KO.nil ?_
  repeat (first | (with_reducible refine K.seq ?_) | (with_reducible refine KQ.next ?_))
  refine K.reg ?_
  refine KO.mv rfl rfl ?_
  refine KO.ce (cp := []) rfl rfl rfl Tryz.call54 rfl (order_e w0 _ _ b l (by with_reducible (repeat (exact Pick.head))) hq) ?_; rintro v8 L' rfl; refine KO.fact (fun _ hs => SL_form hs) ?_; rintro ⟨a8, c8, rfl, ha8⟩
  refine KO.len rfl Tryz.underlying101 rfl ?_
  refine KO.mv rfl rfl ?_
  refine KO.nil ?_
  repeat (first | (with_reducible refine KQ.next ?_) | (with_reducible refine K.block ?_))
  refine K.conv (fun w hw => hw.pick (A := rqP b l) (by with_reducible (repeat (first | exact Pick.head | apply Pick.tail)))) ?_
  refine K.open' (fun _ h => rqP_open h) fun v => ?_
  refine K.fact (fun w hw => SL_form (hw.pick (A := riS v l) (by with_reducible (repeat (first | exact Pick.head | apply Pick.tail))))) ?_
  rintro ⟨aq, cq, rfl, haq⟩
  refine K.loop (fun s : Nat × Value => [(0, .pointer (some ⟨b, 0, none⟩)), (3, s.2), (8, .slice a8 (rord l).length c8), (9, .int .i64 ((rord l).length : Nat)), (10, .int .i64 (s.1 : Nat))]) (fun s => msS s.2 ((((rord l).take s.1).filter fun i => ravail (rAt l i)).map fun i => (rAt l i).m) :: rqB b (.slice aq l.length cq) :: riS (.slice aq l.length cq) l :: niS (.slice a8 (rord l).length c8) (rord l) :: L) (fun s => s.1 ≤ (rord l).length) (fun s => (rord l).length - s.1) (0, .slice none 0 0)
    (Nat.zero_le _) ⟨rfl, rfl, rfl, rfl, rfl, trivial⟩ (fun _ h => SL_nil h) ?_
  rintro ⟨k, vo⟩ hk
  dsimp only at hk ⊢
  repeat ((with_reducible refine K.seq ?_))
  refine K.reg ?_
  refine KO.lss rfl rfl rfl ?_
  refine KO.nil ?_
  repeat (first | (with_reducible refine K.seq ?_) | (with_reducible refine KQ.next ?_))
  refine K.condD rfl (fun h => ?_) (fun h => ?_)
  · obtain ⟨g8, rfl⟩ := ha8 (by omega)
    obtain ⟨i, hi⟩ : ∃ e, (rord l)[k]? = some e := ⟨(rord l)[k]'(by omega), List.getElem?_eq_getElem _⟩
    have hil := rord_lt hi
    obtain ⟨gq, rfl⟩ := haq (by omega)
    obtain ⟨e, he⟩ : ∃ e, l[i]? = some e := ⟨l[i], List.getElem?_eq_getElem hil⟩
    have hat := rAt_of he
    have hlen : ((((rord l).take k).filter fun i => ravail (rAt l i)).map fun i => (rAt l i).m).length < 900000 := by
      have := List.length_filter_le (fun i => ravail (rAt l i)) ((rord l).take k); simp at this ⊢; omega
    have hstep : (((rord l).take (k + 1)).filter fun i => ravail (rAt l i)).map (fun i => (rAt l i).m) = (((rord l).take k).filter fun i => ravail (rAt l i)).map (fun i => (rAt l i).m) ++ (if ravail e = true then [e.m] else []) := by
      have h9 := filt_step (fun i => ravail (rAt l i)) (fun i => (rAt l i).m) hi
      simpa only [hat] using h9
    repeat (first | (with_reducible refine K.seq ?_) | (with_reducible refine KQ.next ?_) | (with_reducible refine K.skip ?_) | (with_reducible refine K.block ?_))
    refine K.reg ?_
    refine KO.idx0 rfl rfl Tryz.runUnderlying101 Tryz.sizeOf3 (by exact rfl) (by omega) rfl ?_
    refine KO.ldE0 rfl rfl Tryz.isAgg3 (by with_reducible (repeat (first | exact Pick.head | apply Pick.tail))) (fun _ => rfl) (by assumption) (by exact rfl) (by exact rfl) rfl ?_
    refine KO.as rfl rfl ?_
    refine KO.nil ?_
    repeat (first | (with_reducible refine K.seq ?_) | (with_reducible refine KQ.next ?_))
    refine K.reg ?_
    refine KO.mv rfl rfl ?_
    refine KO.nc rfl rfl ?_
    refine KO.fo0 (off := 0) rfl Tryz.runUnderlying29 rfl rfl Tryz.sizeOf27 rfl ?_
    refine KO.ld rfl rfl Tryz.isAgg27 (by with_reducible (repeat (first | exact Pick.head | apply Pick.tail))) (by exact rfl) rfl ?_
    refine KO.mv rfl rfl ?_
    refine KO.idx0 rfl rfl Tryz.runUnderlying27 Tryz.sizeOf47 (by exact rfl) (by omega) rfl ?_
    refine KO.ldEN rfl rfl Tryz.isAgg47 Tryz.sizeOf47 (by with_reducible (repeat (first | exact Pick.head | apply Pick.tail))) (fun _ => rfl) (by assumption) rfl ?_
    refine KO.alloc rfl Tryz.zeroValue47 (by exact rfl) rfl ?_; intro b6
    refine KO.sto0 rfl rfl rfl (by exact rfl) (by exact Tryz.sizeOf47) (by exact rfl) (by with_reducible (repeat (exact Pick.head))) (by exact rfl) ?_
    refine KO.nil ?_
    repeat (first | (with_reducible refine K.seq ?_) | (with_reducible refine KQ.next ?_))
    by_cases h1 : e.put < 0
    · refine K.reg ?_
      refine KO.fo0 (off := 5) rfl Tryz.runUnderlying47 rfl rfl Tryz.sizeOf3 rfl ?_
      refine KO.ld rfl rfl Tryz.isAgg3 (by with_reducible (repeat (exact Pick.head))) (by exact rfl) rfl ?_
      refine KO.lss rfl rfl rfl ?_
      refine KO.mv rfl rfl ?_
      (refine KO.on rfl rfl ?_ ?_; (focus (simp only [decide_eq_true_eq, decide_eq_false_iff_not, Bool.not_eq_true, Bool.not_true, Bool.not_false, ne_eq]; omega)); (refine KO.fo0 (off := 6) rfl Tryz.runUnderlying47 rfl rfl Tryz.sizeOf3 rfl ?_))
      (refine KO.on rfl rfl ?_ ?_; (focus (simp only [decide_eq_true_eq, decide_eq_false_iff_not, Bool.not_eq_true, Bool.not_true, Bool.not_false, ne_eq]; omega)); (refine KO.ld rfl rfl Tryz.isAgg3 (by with_reducible (repeat (exact Pick.head))) (by exact rfl) rfl ?_))
      (refine KO.on rfl rfl ?_ ?_; (focus (simp only [decide_eq_true_eq, decide_eq_false_iff_not, Bool.not_eq_true, Bool.not_true, Bool.not_false, ne_eq]; omega)); (refine KO.lss rfl rfl rfl ?_))
      (refine KO.pickT rfl ?_ rfl rfl ?_; (focus (simp only [decide_eq_true_eq, decide_eq_false_iff_not, Bool.not_eq_true, Bool.not_true, Bool.not_false, ne_eq]; omega)))
      refine KO.nil ?_
      repeat ((with_reducible refine KQ.next ?_))
      refine K.condD rfl (fun h2 => ?_) (fun h2 => ?_)
      · rw [if_pos (by simp [ravail, h1, h2])] at hstep
        refine K.reg ?_
        refine KO.mv rfl rfl ?_
        refine KO.fo0 (off := 0) rfl Tryz.runUnderlying47 rfl rfl Tryz.sizeOf31 rfl ?_
        (refine KO.ldB rfl rfl Tryz.isAgg31 Tryz.sizeOf31 (by with_reducible (repeat (exact Pick.head))) (by (try simp only [List.drop_zero, List.drop_succ_cons, List.take_succ_cons, List.take_zero]); (try exact rfl)) (by exact rfl) rfl ?_)
        refine KO.bs1 (z := (Value.agg #[.int .i64 0, .int .i64 0, .string ⟨#[]⟩, .string ⟨#[]⟩, .int .i64 0])) (sz := 5) (by' := 56) rfl rfl Tryz.underlying50 (by kernel_rfl) (by exact rfl) (by exact rfl) (by decide) (by decide) rfl ?_; intro b32
        refine KO.app (z := Value.agg #[.int .i64 0, .int .i64 0, .string ⟨#[]⟩, .string ⟨#[]⟩, .int .i64 0]) (sz := 5) (by' := 56) rfl rfl rfl (by with_reducible (repeat (first | exact Pick.head | apply Pick.tail))) (by with_reducible (repeat (exact Pick.head))) Tryz.underlying50 ms_info rfl e.m (by exact rfl) (by exact rfl) (by exact rfl) (by omega) (by decide) rfl ?_; intro v'
        refine KO.as rfl rfl ?_
        refine KO.nil ?_
        repeat (first | (with_reducible refine KQ.next ?_) | (with_reducible refine KQ.blk_normal ?_))
        refine K.reg ?_
        refine KO.add rfl rfl rfl (by omega) rfl ?_
        refine KO.mv rfl rfl ?_
        refine KO.nil ?_
        refine KQ.round (k + 1, v') (by dsimp only; omega) (by dsimp only; omega) ⟨rfl, rfl, rfl, rfl, rfl, trivial⟩ (fun _ h => ?_)
        dsimp only
        rw [hstep]
        exact (h.pick (by with_reducible (repeat (exact Pick.head)))).gc1 (by with_reducible repeat (first | exact LSub.refl | apply LSub.drop))
      · rw [if_neg (by simp [ravail, h2]), List.append_nil] at hstep
        repeat (first | (with_reducible refine KQ.next ?_) | (with_reducible refine KQ.blk_normal ?_) | (with_reducible refine K.skip ?_))
        refine K.reg ?_
        refine KO.add rfl rfl rfl (by omega) rfl ?_
        refine KO.mv rfl rfl ?_
        refine KO.nil ?_
        refine KQ.round (k + 1, vo) (by dsimp only; omega) (by dsimp only; omega) ⟨rfl, rfl, rfl, rfl, rfl, trivial⟩ (fun _ h => ?_)
        dsimp only
        rw [hstep]
        exact (h.pick (by with_reducible (repeat (first | exact Pick.head | apply Pick.tail)))).gc1 (by with_reducible repeat (first | exact LSub.refl | apply LSub.drop))
    · rw [if_neg (by simp [ravail, h1]), List.append_nil] at hstep
      refine K.reg ?_
      refine KO.fo0 (off := 5) rfl Tryz.runUnderlying47 rfl rfl Tryz.sizeOf3 rfl ?_
      refine KO.ld rfl rfl Tryz.isAgg3 (by with_reducible (repeat (exact Pick.head))) (by exact rfl) rfl ?_
      refine KO.lss rfl rfl rfl ?_
      refine KO.mv rfl rfl ?_
      (refine KO.no rfl rfl ?_ rfl ?_; (focus (simp only [decide_eq_true_eq, decide_eq_false_iff_not, Bool.not_eq_true, Bool.not_true, Bool.not_false, ne_eq]; omega)))
      (refine KO.no rfl rfl ?_ rfl ?_; (focus (simp only [decide_eq_true_eq, decide_eq_false_iff_not, Bool.not_eq_true, Bool.not_true, Bool.not_false, ne_eq]; omega)))
      (refine KO.no rfl rfl ?_ rfl ?_; (focus (simp only [decide_eq_true_eq, decide_eq_false_iff_not, Bool.not_eq_true, Bool.not_true, Bool.not_false, ne_eq]; omega)))
      (refine KO.pickF rfl ?_ rfl rfl ?_; (focus (simp only [decide_eq_true_eq, decide_eq_false_iff_not, Bool.not_eq_true, Bool.not_true, Bool.not_false, ne_eq]; omega)))
      refine KO.nil ?_
      repeat ((with_reducible refine KQ.next ?_))
      refine K.condF rfl rfl ?_
      repeat (first | (with_reducible refine KQ.next ?_) | (with_reducible refine KQ.blk_normal ?_) | (with_reducible refine K.skip ?_))
      refine K.reg ?_
      refine KO.add rfl rfl rfl (by omega) rfl ?_
      refine KO.mv rfl rfl ?_
      refine KO.nil ?_
      refine KQ.round (k + 1, vo) (by dsimp only; omega) (by dsimp only; omega) ⟨rfl, rfl, rfl, rfl, rfl, trivial⟩ (fun _ h => ?_)
      dsimp only
      rw [hstep]
      exact (h.pick (by with_reducible (repeat (first | exact Pick.head | apply Pick.tail)))).gc1 (by with_reducible repeat (first | exact LSub.refl | apply LSub.drop))
  · have hkl : k = (rord l).length := by omega
    repeat (first | (with_reducible refine K.seq ?_) | (with_reducible refine KQ.next ?_) | (with_reducible refine KQ.then_exit ?_) | (with_reducible refine KQ.blk_exit ?_) | (with_reducible refine K.exit ?_))
    refine K.reg ?_
    refine KO.mv rfl rfl ?_
    refine KO.as rfl rfl ?_
    refine KO.nil ?_
    repeat (first | (with_reducible refine KQ.next ?_) | (with_reducible refine K.ret ?_))
    refine KQ.ret1 rfl rfl (fun w' hs => ⟨_, _, rfl, rfl, ?_⟩)
    rw [hkl, List.take_length] at hs
    have h3 := ((hs.pick (A := rqB b (.slice aq l.length cq)) (by with_reducible (repeat (first | exact Pick.head | apply Pick.tail)))).swapQ (B := riS (.slice aq l.length cq) l) (by with_reducible (repeat (first | exact Pick.head | apply Pick.tail))))
    exact ((rqP_mk h3).pick (A := msS vo (rthere l)) (by exact .tail .head)).gc2 (by with_reducible repeat (first | exact LSub.refl | apply LSub.drop))
theorem rkept_c (w0 : World) (L : List HP) (b : Nat) (l : List Ri) (hq : l.length ≤ 1000) :
    KC Tryz.prog 26 #[.pointer (some ⟨b, 0, none⟩)] w0 (rqP b l :: L) (fun v L' => L' = msS v (rkept l) :: rqP b l :: L) := by
  have hrl := rord_len l
  refine KC.mk (n := 31) Tryz.func26 rfl Tryz.ntmps26 (by simp) ?_
  repeat ((with_reducible refine K.seq ?_))
  refine K.reg ?_
  refine KO.as rfl rfl ?_
  refine KO.nil ?_
  repeat (first | (with_reducible refine K.seq ?_) | (with_reducible refine KQ.next ?_))
  refine K.reg ?_
  refine KO.as rfl rfl ?_
  refine KO.nil ?_
  repeat (first | (with_reducible refine K.seq ?_) | (with_reducible refine KQ.next ?_))
  refine K.reg ?_
  refine KO.mv rfl rfl ?_
  refine KO.ce (cp := []) rfl rfl rfl Tryz.call54 rfl (order_e w0 _ _ b l (by with_reducible (repeat (exact Pick.head))) hq) ?_; rintro v8 L' rfl; refine KO.fact (fun _ hs => SL_form hs) ?_; rintro ⟨a8, c8, rfl, ha8⟩
  refine KO.len rfl Tryz.underlying101 rfl ?_
  refine KO.mv rfl rfl ?_
  refine KO.nil ?_
  repeat (first | (with_reducible refine KQ.next ?_) | (with_reducible refine K.block ?_))
  refine K.conv (fun w hw => hw.pick (A := rqP b l) (by with_reducible (repeat (first | exact Pick.head | apply Pick.tail)))) ?_
  refine K.open' (fun _ h => rqP_open h) fun v => ?_
  refine K.fact (fun w hw => SL_form (hw.pick (A := riS v l) (by with_reducible (repeat (first | exact Pick.head | apply Pick.tail))))) ?_
  rintro ⟨aq, cq, rfl, haq⟩
  refine K.loop (fun s : Nat × Value => [(0, .pointer (some ⟨b, 0, none⟩)), (3, s.2), (8, .slice a8 (rord l).length c8), (9, .int .i64 ((rord l).length : Nat)), (10, .int .i64 (s.1 : Nat))]) (fun s => msS s.2 ((((rord l).take s.1).filter fun i => decide ((rAt l i).put < 0)).map fun i => (rAt l i).m) :: rqB b (.slice aq l.length cq) :: riS (.slice aq l.length cq) l :: niS (.slice a8 (rord l).length c8) (rord l) :: L) (fun s => s.1 ≤ (rord l).length) (fun s => (rord l).length - s.1) (0, .slice none 0 0)
    (Nat.zero_le _) ⟨rfl, rfl, rfl, rfl, rfl, trivial⟩ (fun _ h => SL_nil h) ?_
  rintro ⟨k, vo⟩ hk
  dsimp only at hk ⊢
  repeat ((with_reducible refine K.seq ?_))
  refine K.reg ?_
  refine KO.lss rfl rfl rfl ?_
  refine KO.nil ?_
  repeat (first | (with_reducible refine K.seq ?_) | (with_reducible refine KQ.next ?_))
  refine K.condD rfl (fun h => ?_) (fun h => ?_)
  · obtain ⟨g8, rfl⟩ := ha8 (by omega)
    obtain ⟨i, hi⟩ : ∃ e, (rord l)[k]? = some e := ⟨(rord l)[k]'(by omega), List.getElem?_eq_getElem _⟩
    have hil := rord_lt hi
    obtain ⟨gq, rfl⟩ := haq (by omega)
    obtain ⟨e, he⟩ : ∃ e, l[i]? = some e := ⟨l[i], List.getElem?_eq_getElem hil⟩
    have hat := rAt_of he
    have hlen : ((((rord l).take k).filter fun i => decide ((rAt l i).put < 0)).map fun i => (rAt l i).m).length < 900000 := by
      have := List.length_filter_le (fun i => decide ((rAt l i).put < 0)) ((rord l).take k); simp at this ⊢; omega
    have hstep : (((rord l).take (k + 1)).filter fun i => decide ((rAt l i).put < 0)).map (fun i => (rAt l i).m) = (((rord l).take k).filter fun i => decide ((rAt l i).put < 0)).map (fun i => (rAt l i).m) ++ (if decide (e.put < 0) = true then [e.m] else []) := by
      have h9 := filt_step (fun i => decide ((rAt l i).put < 0)) (fun i => (rAt l i).m) hi
      simpa only [hat] using h9
    repeat (first | (with_reducible refine K.seq ?_) | (with_reducible refine KQ.next ?_) | (with_reducible refine K.skip ?_) | (with_reducible refine K.block ?_))
    refine K.reg ?_
    refine KO.idx0 rfl rfl Tryz.runUnderlying101 Tryz.sizeOf3 (by exact rfl) (by omega) rfl ?_
    refine KO.ldE0 rfl rfl Tryz.isAgg3 (by with_reducible (repeat (first | exact Pick.head | apply Pick.tail))) (fun _ => rfl) (by assumption) (by exact rfl) (by exact rfl) rfl ?_
    refine KO.as rfl rfl ?_
    refine KO.nil ?_
    repeat (first | (with_reducible refine K.seq ?_) | (with_reducible refine KQ.next ?_))
    refine K.reg ?_
    refine KO.mv rfl rfl ?_
    refine KO.nc rfl rfl ?_
    refine KO.fo0 (off := 0) rfl Tryz.runUnderlying29 rfl rfl Tryz.sizeOf27 rfl ?_
    refine KO.ld rfl rfl Tryz.isAgg27 (by with_reducible (repeat (first | exact Pick.head | apply Pick.tail))) (by exact rfl) rfl ?_
    refine KO.mv rfl rfl ?_
    refine KO.idx0 rfl rfl Tryz.runUnderlying27 Tryz.sizeOf47 (by exact rfl) (by omega) rfl ?_
    refine KO.ldEN rfl rfl Tryz.isAgg47 Tryz.sizeOf47 (by with_reducible (repeat (first | exact Pick.head | apply Pick.tail))) (fun _ => rfl) (by assumption) rfl ?_
    refine KO.alloc rfl Tryz.zeroValue47 (by exact rfl) rfl ?_; intro b6
    refine KO.sto0 rfl rfl rfl (by exact rfl) (by exact Tryz.sizeOf47) (by exact rfl) (by with_reducible (repeat (exact Pick.head))) (by exact rfl) ?_
    refine KO.nil ?_
    repeat (first | (with_reducible refine K.seq ?_) | (with_reducible refine KQ.next ?_))
    refine K.reg ?_
    refine KO.fo0 (off := 5) rfl Tryz.runUnderlying47 rfl rfl Tryz.sizeOf3 rfl ?_
    refine KO.ld rfl rfl Tryz.isAgg3 (by with_reducible (repeat (exact Pick.head))) (by exact rfl) rfl ?_
    refine KO.lss rfl rfl rfl ?_
    refine KO.nil ?_
    repeat ((with_reducible refine KQ.next ?_))
    refine K.condD rfl (fun h2 => ?_) (fun h2 => ?_)
    · rw [if_pos (by simpa using h2)] at hstep
      refine K.reg ?_
      refine KO.mv rfl rfl ?_
      refine KO.fo0 (off := 0) rfl Tryz.runUnderlying47 rfl rfl Tryz.sizeOf31 rfl ?_
      (refine KO.ldB rfl rfl Tryz.isAgg31 Tryz.sizeOf31 (by with_reducible (repeat (exact Pick.head))) (by (try simp only [List.drop_zero, List.drop_succ_cons, List.take_succ_cons, List.take_zero]); (try exact rfl)) (by exact rfl) rfl ?_)
      refine KO.bs1 (z := (Value.agg #[.int .i64 0, .int .i64 0, .string ⟨#[]⟩, .string ⟨#[]⟩, .int .i64 0])) (sz := 5) (by' := 56) rfl rfl Tryz.underlying50 (by kernel_rfl) (by exact rfl) (by exact rfl) (by decide) (by decide) rfl ?_; intro b27
      refine KO.app (z := Value.agg #[.int .i64 0, .int .i64 0, .string ⟨#[]⟩, .string ⟨#[]⟩, .int .i64 0]) (sz := 5) (by' := 56) rfl rfl rfl (by with_reducible (repeat (first | exact Pick.head | apply Pick.tail))) (by with_reducible (repeat (exact Pick.head))) Tryz.underlying50 ms_info rfl e.m (by exact rfl) (by exact rfl) (by exact rfl) (by omega) (by decide) rfl ?_; intro v'
      refine KO.as rfl rfl ?_
      refine KO.nil ?_
      repeat (first | (with_reducible refine KQ.next ?_) | (with_reducible refine KQ.blk_normal ?_))
      refine K.reg ?_
      refine KO.add rfl rfl rfl (by omega) rfl ?_
      refine KO.mv rfl rfl ?_
      refine KO.nil ?_
      refine KQ.round (k + 1, v') (by dsimp only; omega) (by dsimp only; omega) ⟨rfl, rfl, rfl, rfl, rfl, trivial⟩ (fun _ h => ?_)
      dsimp only
      rw [hstep]
      exact (h.pick (by with_reducible (repeat (exact Pick.head)))).gc1 (by with_reducible repeat (first | exact LSub.refl | apply LSub.drop))
    · rw [if_neg (by simpa using h2), List.append_nil] at hstep
      repeat (first | (with_reducible refine KQ.next ?_) | (with_reducible refine KQ.blk_normal ?_) | (with_reducible refine K.skip ?_))
      refine K.reg ?_
      refine KO.add rfl rfl rfl (by omega) rfl ?_
      refine KO.mv rfl rfl ?_
      refine KO.nil ?_
      refine KQ.round (k + 1, vo) (by dsimp only; omega) (by dsimp only; omega) ⟨rfl, rfl, rfl, rfl, rfl, trivial⟩ (fun _ h => ?_)
      dsimp only
      rw [hstep]
      exact (h.pick (by with_reducible (repeat (first | exact Pick.head | apply Pick.tail)))).gc1 (by with_reducible repeat (first | exact LSub.refl | apply LSub.drop))
  · have hkl : k = (rord l).length := by omega
    repeat (first | (with_reducible refine K.seq ?_) | (with_reducible refine KQ.next ?_) | (with_reducible refine KQ.then_exit ?_) | (with_reducible refine KQ.blk_exit ?_) | (with_reducible refine K.exit ?_))
    refine K.reg ?_
    refine KO.mv rfl rfl ?_
    refine KO.as rfl rfl ?_
    refine KO.nil ?_
    repeat (first | (with_reducible refine KQ.next ?_) | (with_reducible refine K.ret ?_))
    refine KQ.ret1 rfl rfl (fun w' hs => ⟨_, _, rfl, rfl, ?_⟩)
    rw [hkl, List.take_length] at hs
    have h3 := ((hs.pick (A := rqB b (.slice aq l.length cq)) (by with_reducible (repeat (first | exact Pick.head | apply Pick.tail)))).swapQ (B := riS (.slice aq l.length cq) l) (by with_reducible (repeat (first | exact Pick.head | apply Pick.tail))))
    exact ((rqP_mk h3).pick (A := msS vo (rkept l)) (by exact .tail .head)).gc2 (by with_reducible repeat (first | exact LSub.refl | apply LSub.drop))
end Go.Proofs.YtjhogocabcdjbaaGreatDoor
/- the document's queue: Get, Take, Ends. -/
namespace Go.Proofs.YtjhogocabcdjbaaGreatDoor
open Go Go.RowKit WB
theorem rget_c (w0 : World) (L : List HP) (b : Nat) (l : List Ri) (u : Int) (hq : l.length ≤ 1000) :
    KC Tryz.prog 13 #[.pointer (some ⟨b, 0, none⟩), .int .i64 u] w0 (rqP b l :: L) (fun v L' => v = .tuple #[.agg (msC (rgetM l)).toArray, .int .i64 (rgetE l)] ∧ L' = rqP b (rget l u) :: L) := by
  have hrl := rord_len l
  refine KC.mk (n := 51) Tryz.func13 rfl Tryz.ntmps13 (by simp) ?_
  repeat ((with_reducible refine K.seq ?_))
  refine K.reg ?_
  refine KO.alloc rfl Tryz.zeroValue31 (by exact rfl) rfl ?_; intro b4
  refine KO.as rfl rfl ?_
  refine KO.nil ?_
  repeat (first | (with_reducible refine K.seq ?_) | (with_reducible refine KQ.next ?_))
  refine K.reg ?_
  refine KO.mv rfl rfl ?_
  refine KO.ce (cp := []) rfl rfl rfl Tryz.call54 rfl (order_e w0 _ _ b l (by with_reducible (repeat (first | exact Pick.head | apply Pick.tail))) hq) ?_; rintro v8 L' rfl; refine KO.fact (fun _ hs => SL_form hs) ?_; rintro ⟨a8, c8, rfl, ha8⟩
  refine KO.len rfl Tryz.underlying101 rfl ?_
  refine KO.mv rfl rfl ?_
  refine KO.nil ?_
  repeat (first | (with_reducible refine KQ.next ?_) | (with_reducible refine K.block ?_))
  refine K.conv (fun w hw => hw.pick (A := rqP b l) (by with_reducible (repeat (first | exact Pick.head | apply Pick.tail)))) ?_
  refine K.open' (fun _ h => rqP_open h) fun v => ?_
  refine K.fact (fun w hw => SL_form (hw.pick (A := riS v l) (by with_reducible (repeat (first | exact Pick.head | apply Pick.tail))))) ?_
  rintro ⟨aq, cq, rfl, haq⟩
  refine K.loop (fun k : Nat => [(0, .pointer (some ⟨b, 0, none⟩)), (1, .int .i64 u), (4, .pointer (some ⟨b4, 0, none⟩)), (11, .slice a8 (rord l).length c8), (12, .int .i64 ((rord l).length : Nat)), (13, .int .i64 (k : Nat))]) (fun k => rqB b (.slice aq l.length cq) :: riS (.slice aq l.length cq) l :: niS (.slice a8 (rord l).length c8) (rord l) :: blk b4 (.cells (msC zeroMs).toArray 31 (0, 0)) :: L) (fun k => k ≤ (rord l).length ∧ ∀ j i, j < k → (rord l)[j]? = some i → ravail (rAt l i) = false) (fun k => (rord l).length - k) 0
    ⟨Nat.zero_le _, fun j i h => by omega⟩ ⟨rfl, rfl, rfl, rfl, rfl, rfl, trivial⟩ (fun _ h => h) ?_
  rintro k ⟨hk, hall⟩
  repeat ((with_reducible refine K.seq ?_))
  refine K.reg ?_
  refine KO.lss rfl rfl rfl ?_
  refine KO.nil ?_
  repeat (first | (with_reducible refine K.seq ?_) | (with_reducible refine KQ.next ?_))
  refine K.condD rfl (fun h => ?_) (fun h => ?_)
  · obtain ⟨g8, rfl⟩ := ha8 (by omega)
    obtain ⟨i, hi⟩ : ∃ e, (rord l)[k]? = some e := ⟨(rord l)[k]'(by omega), List.getElem?_eq_getElem _⟩
    have hil := rord_lt hi
    obtain ⟨gq, rfl⟩ := haq (by omega)
    obtain ⟨e, he⟩ : ∃ e, l[i]? = some e := ⟨l[i], List.getElem?_eq_getElem hil⟩
    have hat := rAt_of he
    repeat (first | (with_reducible refine K.seq ?_) | (with_reducible refine KQ.next ?_) | (with_reducible refine K.skip ?_) | (with_reducible refine K.block ?_))
    refine K.reg ?_
    refine KO.idx0 rfl rfl Tryz.runUnderlying101 Tryz.sizeOf3 (by exact rfl) (by omega) rfl ?_
    refine KO.ldE0 rfl rfl Tryz.isAgg3 (by with_reducible (repeat (first | exact Pick.head | apply Pick.tail))) (fun _ => rfl) (by assumption) (by exact rfl) (by exact rfl) rfl ?_
    refine KO.as rfl rfl ?_
    refine KO.nil ?_
    repeat (first | (with_reducible refine K.seq ?_) | (with_reducible refine KQ.next ?_))
    refine K.reg ?_
    refine KO.mv rfl rfl ?_
    refine KO.nc rfl rfl ?_
    refine KO.fo0 (off := 0) rfl Tryz.runUnderlying29 rfl rfl Tryz.sizeOf27 rfl ?_
    refine KO.ld rfl rfl Tryz.isAgg27 (by with_reducible (repeat (exact Pick.head))) (by exact rfl) rfl ?_
    refine KO.mv rfl rfl ?_
    refine KO.idx0 rfl rfl Tryz.runUnderlying27 Tryz.sizeOf47 (by exact rfl) (by omega) rfl ?_
    refine KO.as rfl rfl ?_
    refine KO.nil ?_
    repeat (first | (with_reducible refine K.seq ?_) | (with_reducible refine KQ.next ?_))
    have next : ravail e = false → ∀ j i, j < k + 1 → (rord l)[j]? = some i → ravail (rAt l i) = false := fun hav j i hj hji => by
      by_cases hjk : j = k
      · subst hjk; rw [hi] at hji; cases hji; rw [hat]; exact hav
      · exact hall j i (by omega) hji
    by_cases h1 : 0 ≤ e.put
    · refine K.reg ?_
      refine KO.mv rfl rfl ?_
      refine KO.nc rfl rfl ?_
      refine KO.fo (off := 5) rfl Tryz.runUnderlying47 rfl rfl Tryz.sizeOf3 rfl ?_
      refine KO.ldE rfl rfl Tryz.isAgg3 (by with_reducible (repeat (first | exact Pick.head | apply Pick.tail))) (fun _ => rfl) (by assumption) (by exact rfl) (by exact rfl) rfl ?_
      refine KO.geq rfl rfl rfl ?_
      refine KO.mv rfl rfl ?_
      (refine KO.no rfl rfl ?_ rfl ?_; (focus (simp only [decide_eq_true_eq, decide_eq_false_iff_not, Bool.not_eq_true, Bool.not_true, Bool.not_false, ne_eq]; omega)))
      (refine KO.no rfl rfl ?_ rfl ?_; (focus (simp only [decide_eq_true_eq, decide_eq_false_iff_not, Bool.not_eq_true, Bool.not_true, Bool.not_false, ne_eq]; omega)))
      (refine KO.no rfl rfl ?_ rfl ?_; (focus (simp only [decide_eq_true_eq, decide_eq_false_iff_not, Bool.not_eq_true, Bool.not_true, Bool.not_false, ne_eq]; omega)))
      (refine KO.no rfl rfl ?_ rfl ?_; (focus (simp only [decide_eq_true_eq, decide_eq_false_iff_not, Bool.not_eq_true, Bool.not_true, Bool.not_false, ne_eq]; omega)))
      (refine KO.no rfl rfl ?_ rfl ?_; (focus (simp only [decide_eq_true_eq, decide_eq_false_iff_not, Bool.not_eq_true, Bool.not_true, Bool.not_false, ne_eq]; omega)))
      (refine KO.pickT rfl ?_ rfl rfl ?_; (focus (simp only [decide_eq_true_eq, decide_eq_false_iff_not, Bool.not_eq_true, Bool.not_true, Bool.not_false, ne_eq]; omega)))
      refine KO.nil ?_
      repeat ((with_reducible refine KQ.next ?_))
      refine K.condT rfl rfl ?_
      repeat (first | (with_reducible refine KQ.next ?_) | (with_reducible refine KQ.then_exit ?_) | (with_reducible refine KQ.blk_exit ?_) | (with_reducible refine K.exit ?_))
      refine K.reg ?_
      refine KO.add rfl rfl rfl (by omega) rfl ?_
      refine KO.mv rfl rfl ?_
      refine KO.nil ?_
      refine KQ.round (k + 1) ⟨by omega, next (by simp [ravail]; omega)⟩ (by omega) ⟨rfl, rfl, rfl, rfl, rfl, rfl, trivial⟩ (fun _ h => h.all (by with_reducible repeat (exact PAll.refl)))
    by_cases h2 : 0 ≤ e.got
    · refine K.reg ?_
      refine KO.mv rfl rfl ?_
      refine KO.nc rfl rfl ?_
      refine KO.fo (off := 5) rfl Tryz.runUnderlying47 rfl rfl Tryz.sizeOf3 rfl ?_
      refine KO.ldE rfl rfl Tryz.isAgg3 (by with_reducible (repeat (first | exact Pick.head | apply Pick.tail))) (fun _ => rfl) (by assumption) (by exact rfl) (by exact rfl) rfl ?_
      refine KO.geq rfl rfl rfl ?_
      refine KO.mv rfl rfl ?_
      (refine KO.on rfl rfl ?_ ?_; (focus (simp only [decide_eq_true_eq, decide_eq_false_iff_not, Bool.not_eq_true, Bool.not_true, Bool.not_false, ne_eq]; omega)); (refine KO.mv rfl rfl ?_))
      (refine KO.on rfl rfl ?_ ?_; (focus (simp only [decide_eq_true_eq, decide_eq_false_iff_not, Bool.not_eq_true, Bool.not_true, Bool.not_false, ne_eq]; omega)); (refine KO.nc rfl rfl ?_))
      (refine KO.on rfl rfl ?_ ?_; (focus (simp only [decide_eq_true_eq, decide_eq_false_iff_not, Bool.not_eq_true, Bool.not_true, Bool.not_false, ne_eq]; omega)); (refine KO.fo (off := 6) rfl Tryz.runUnderlying47 rfl rfl Tryz.sizeOf3 rfl ?_))
      (refine KO.on rfl rfl ?_ ?_; (focus (simp only [decide_eq_true_eq, decide_eq_false_iff_not, Bool.not_eq_true, Bool.not_true, Bool.not_false, ne_eq]; omega)); (refine KO.ldE rfl rfl Tryz.isAgg3 (by with_reducible (repeat (first | exact Pick.head | apply Pick.tail))) (fun _ => rfl) (by assumption) (by exact rfl) (by exact rfl) rfl ?_))
      (refine KO.on rfl rfl ?_ ?_; (focus (simp only [decide_eq_true_eq, decide_eq_false_iff_not, Bool.not_eq_true, Bool.not_true, Bool.not_false, ne_eq]; omega)); (refine KO.geq rfl rfl rfl ?_))
      (refine KO.pickF rfl ?_ rfl rfl ?_; (focus (simp only [decide_eq_true_eq, decide_eq_false_iff_not, Bool.not_eq_true, Bool.not_true, Bool.not_false, ne_eq]; omega)))
      refine KO.nil ?_
      repeat ((with_reducible refine KQ.next ?_))
      refine K.condT rfl (by simp [h2]) ?_
      repeat (first | (with_reducible refine KQ.next ?_) | (with_reducible refine KQ.then_exit ?_) | (with_reducible refine KQ.blk_exit ?_) | (with_reducible refine K.exit ?_))
      refine K.reg ?_
      refine KO.add rfl rfl rfl (by omega) rfl ?_
      refine KO.mv rfl rfl ?_
      refine KO.nil ?_
      refine KQ.round (k + 1) ⟨by omega, next (by simp [ravail]; omega)⟩ (by omega) ⟨rfl, rfl, rfl, rfl, rfl, rfl, trivial⟩ (fun _ h => h.all (by with_reducible repeat (exact PAll.refl)))
    have hav : ravail e = true := by simp [ravail]; omega
    have hI : rgetI l = some i := by
      unfold rgetI
      rw [List.find?_eq_some_iff_getElem]
      obtain ⟨hk1, hk2⟩ := List.getElem?_eq_some_iff.1 hi
      refine ⟨by rw [hat]; exact hav, k, hk1, hk2, fun j hj => ?_⟩
      have := hall j ((rord l)[j]'(by omega)) hj (List.getElem?_eq_getElem _)
      simp [this]
    refine K.reg ?_
    refine KO.mv rfl rfl ?_
    refine KO.nc rfl rfl ?_
    refine KO.fo (off := 5) rfl Tryz.runUnderlying47 rfl rfl Tryz.sizeOf3 rfl ?_
    refine KO.ldE rfl rfl Tryz.isAgg3 (by with_reducible (repeat (first | exact Pick.head | apply Pick.tail))) (fun _ => rfl) (by assumption) (by exact rfl) (by exact rfl) rfl ?_
    refine KO.geq rfl rfl rfl ?_
    refine KO.mv rfl rfl ?_
    (refine KO.on rfl rfl ?_ ?_; (focus (simp only [decide_eq_true_eq, decide_eq_false_iff_not, Bool.not_eq_true, Bool.not_true, Bool.not_false, ne_eq]; omega)); (refine KO.mv rfl rfl ?_))
    (refine KO.on rfl rfl ?_ ?_; (focus (simp only [decide_eq_true_eq, decide_eq_false_iff_not, Bool.not_eq_true, Bool.not_true, Bool.not_false, ne_eq]; omega)); (refine KO.nc rfl rfl ?_))
    (refine KO.on rfl rfl ?_ ?_; (focus (simp only [decide_eq_true_eq, decide_eq_false_iff_not, Bool.not_eq_true, Bool.not_true, Bool.not_false, ne_eq]; omega)); (refine KO.fo (off := 6) rfl Tryz.runUnderlying47 rfl rfl Tryz.sizeOf3 rfl ?_))
    (refine KO.on rfl rfl ?_ ?_; (focus (simp only [decide_eq_true_eq, decide_eq_false_iff_not, Bool.not_eq_true, Bool.not_true, Bool.not_false, ne_eq]; omega)); (refine KO.ldE rfl rfl Tryz.isAgg3 (by with_reducible (repeat (first | exact Pick.head | apply Pick.tail))) (fun _ => rfl) (by assumption) (by exact rfl) (by exact rfl) rfl ?_))
    (refine KO.on rfl rfl ?_ ?_; (focus (simp only [decide_eq_true_eq, decide_eq_false_iff_not, Bool.not_eq_true, Bool.not_true, Bool.not_false, ne_eq]; omega)); (refine KO.geq rfl rfl rfl ?_))
    (refine KO.pickF rfl ?_ rfl rfl ?_; (focus (simp only [decide_eq_true_eq, decide_eq_false_iff_not, Bool.not_eq_true, Bool.not_true, Bool.not_false, ne_eq]; omega)))
    refine KO.nil ?_
    repeat ((with_reducible refine KQ.next ?_))
    refine K.condF rfl (by simp [h2]) ?_
    repeat (first | (with_reducible refine K.seq ?_) | (with_reducible refine KQ.next ?_) | (with_reducible refine K.skip ?_))
    refine K.reg ?_
    refine KO.mv rfl rfl ?_
    refine KO.nc rfl rfl ?_
    refine KO.fo (off := 0) rfl Tryz.runUnderlying47 rfl rfl Tryz.sizeOf31 rfl ?_
    (refine KO.ldEP rfl rfl Tryz.isAgg31 Tryz.sizeOf31 (by with_reducible (repeat (first | exact Pick.head | apply Pick.tail))) (fun _ => rfl) (by assumption) (by (try simp only [List.drop_zero, List.drop_succ_cons, List.take_succ_cons, List.take_zero]); (try exact rfl)) (by exact rfl) rfl ?_)
    refine KO.alloc rfl Tryz.zeroValue31 (by exact rfl) rfl ?_; intro b9
    refine KO.sto0 rfl rfl rfl (by exact rfl) (by exact Tryz.sizeOf31) (by exact rfl) (by with_reducible (repeat (exact Pick.head))) (by exact rfl) ?_
    refine KO.nil ?_
    repeat (first | (with_reducible refine K.seq ?_) | (with_reducible refine KQ.next ?_))
    refine K.reg ?_
    refine KO.mv rfl rfl ?_
    refine KO.geq rfl rfl rfl ?_
    refine KO.nil ?_
    repeat ((with_reducible refine KQ.next ?_))
    refine K.condD rfl (fun h3 => ?_) (fun h3 => ?_)
    · (skip)
      refine K.reg ?_
      refine KO.mv rfl rfl ?_
      refine KO.mv rfl rfl ?_
      refine KO.nc rfl rfl ?_
      refine KO.fo (off := 6) rfl Tryz.runUnderlying47 rfl rfl Tryz.sizeOf3 rfl ?_
      refine KO.stE rfl rfl rfl (by exact rfl) (by exact Tryz.sizeOf3) (by exact rfl) (by with_reducible (repeat (first | exact Pick.head | apply Pick.tail))) (fun _ => rfl) he rfl { e with got := u } rfl ?_
      refine KO.nil ?_
      repeat (first | (with_reducible refine K.seq ?_) | (with_reducible refine KQ.next ?_))
      refine K.reg ?_
      refine KO.ldB0 rfl rfl Tryz.isAgg31 Tryz.sizeOf31 (by with_reducible (repeat (first | exact Pick.head | apply Pick.tail))) (by exact rfl) rfl ?_
      refine KO.sto0 rfl rfl rfl (by exact rfl) (by exact Tryz.sizeOf31) (by exact rfl) (by with_reducible (repeat (first | exact Pick.head | apply Pick.tail))) (by exact rfl) ?_
      refine KO.as rfl rfl ?_
      refine KO.nil ?_
      repeat (first | (with_reducible refine KQ.next ?_) | (with_reducible refine KQ.then_ret ?_) | (with_reducible refine KQ.blk_ret ?_) | (with_reducible refine K.ret ?_))
      refine KQ.retCT rfl rfl Tryz.isAgg31 (by with_reducible (repeat (exact Pick.head))) (by exact Tryz.sizeOf31) rfl (fun w' hs => ⟨_, _, rfl, ⟨?_, rfl⟩, ?_⟩)
      · simp only [rgetM, rgetE, hI, hat]; rfl
      · rw [show rget l u = l.set i { e with got := u } by simp only [rget, hI, h3, if_true, hat]]
        exact rqP_mk ((hs.pick2 (by with_reducible (repeat (first | exact Pick.head | apply Pick.tail))) (by with_reducible (repeat (first | exact Pick.head | apply Pick.tail)))).gc2 (by with_reducible repeat (first | exact LSub.refl | apply LSub.drop)))
    · (skip)
      refine K.conv (fun w hw => rqP_mk (hw.pick2 (A := rqB b (.slice (some ⟨gq, 0, none⟩) l.length cq)) (B := riS (.slice (some ⟨gq, 0, none⟩) l.length cq) l) (by with_reducible (repeat (first | exact Pick.head | apply Pick.tail))) (by with_reducible (repeat (first | exact Pick.head | apply Pick.tail))))) ?_
      refine K.reg ?_
      refine KO.mv rfl rfl ?_
      refine KO.mv rfl rfl ?_
      refine KO.cl (cp := []) rfl rfl rfl Tryz.call55 rfl (rdrop_c w0 _ b l i hil (by omega)) ?_; rintro v' L' ⟨rfl, rfl⟩
      refine KO.nil ?_
      repeat (first | (with_reducible refine K.seq ?_) | (with_reducible refine KQ.next ?_))
      refine K.reg ?_
      refine KO.ldB0 rfl rfl Tryz.isAgg31 Tryz.sizeOf31 (by with_reducible (repeat (first | exact Pick.head | apply Pick.tail))) (by exact rfl) rfl ?_
      refine KO.sto0 rfl rfl rfl (by exact rfl) (by exact Tryz.sizeOf31) (by exact rfl) (by with_reducible (repeat (first | exact Pick.head | apply Pick.tail))) (by exact rfl) ?_
      refine KO.as rfl rfl ?_
      refine KO.nil ?_
      repeat (first | (with_reducible refine KQ.next ?_) | (with_reducible refine KQ.then_ret ?_) | (with_reducible refine KQ.blk_ret ?_) | (with_reducible refine K.ret ?_))
      refine KQ.retCT rfl rfl Tryz.isAgg31 (by with_reducible (repeat (exact Pick.head))) (by exact Tryz.sizeOf31) rfl (fun w' hs => ⟨_, _, rfl, ⟨?_, rfl⟩, ?_⟩)
      · simp only [rgetM, rgetE, hI, hat]; rfl
      · rw [show rget l u = l.eraseIdx i by simp only [rget, hI, h3, if_false]]
        exact (hs.pick (by with_reducible (repeat (first | exact Pick.head | apply Pick.tail)))).gc1 (by with_reducible repeat (first | exact LSub.refl | apply LSub.drop))
  · have hI : rgetI l = none := by
      unfold rgetI
      rw [List.find?_eq_none]
      intro i hi
      obtain ⟨j, hj, rfl⟩ := List.getElem_of_mem hi
      have := hall j _ (by omega) (List.getElem?_eq_getElem hj)
      simp [this]
    repeat (first | (with_reducible refine K.seq ?_) | (with_reducible refine KQ.next ?_) | (with_reducible refine KQ.then_exit ?_) | (with_reducible refine KQ.blk_exit ?_) | (with_reducible refine K.exit ?_))
    refine K.reg ?_
    refine KO.bldN (pl := [(0, 1), (1, 1), (2, 1), (3, 1), (4, 1)]) rfl Tryz.zeroValue31 Tryz.runUnderlying31 (by intro w; simp [Tryz.sizeOf3, Tryz.sizeOf9]) (by exact rfl) rfl ?_
    refine KO.sto0 rfl rfl rfl (by exact rfl) (by exact Tryz.sizeOf31) (by exact rfl) (by with_reducible (repeat (first | exact Pick.head | apply Pick.tail))) (by exact rfl) ?_
    refine KO.as rfl rfl ?_
    refine KO.nil ?_
    repeat (first | (with_reducible refine KQ.next ?_) | (with_reducible refine K.ret ?_))
    refine KQ.retCT rfl rfl Tryz.isAgg31 (by with_reducible (repeat (exact Pick.head))) (by exact Tryz.sizeOf31) rfl (fun w' hs => ⟨_, _, rfl, ⟨?_, rfl⟩, ?_⟩)
    · simp only [rgetM, rgetE, hI]; rfl
    · rw [show rget l u = l by simp only [rget, hI]]
      exact rqP_mk ((hs.pick2 (by with_reducible (repeat (first | exact Pick.head | apply Pick.tail))) (by with_reducible (repeat (first | exact Pick.head | apply Pick.tail)))).gc2 (by with_reducible repeat (first | exact LSub.refl | apply LSub.drop)))
theorem rtake_c (w0 : World) (L : List HP) (b : Nat) (l : List Ri) (id : Int) (hq : l.length < 900000) :
    KC Tryz.prog 15 #[.pointer (some ⟨b, 0, none⟩), .int .i64 id] w0 (rqP b l :: L) (fun v L' => v = .tuple #[.agg (msC (rtakeM l id)).toArray, .int .i64 (rtakeE l id)] ∧ L' = rqP b (rtake l id) :: L) := by
  refine KC.mk (n := 26) Tryz.func15 rfl Tryz.ntmps15 (by simp) ?_
  repeat ((with_reducible refine K.seq ?_))
  refine K.reg ?_
  refine KO.alloc rfl Tryz.zeroValue31 (by exact rfl) rfl ?_; intro b4
  refine KO.as rfl rfl ?_
  refine KO.nil ?_
  repeat (first | (with_reducible refine K.seq ?_) | (with_reducible refine KQ.next ?_))
  refine K.reg ?_
  refine KO.mv rfl rfl ?_
  refine KO.mv rfl rfl ?_
  refine KO.ce (cp := []) rfl rfl rfl Tryz.call53 rfl (rfind_e w0 _ _ b l id (by with_reducible (repeat (first | exact Pick.head | apply Pick.tail))) hq) ?_; rintro v' L' ⟨rfl, rfl⟩
  refine KO.as rfl rfl ?_
  refine KO.nil ?_
  repeat (first | (with_reducible refine K.seq ?_) | (with_reducible refine KQ.next ?_))
  refine K.reg ?_
  refine KO.mv rfl rfl ?_
  refine KO.lss rfl rfl rfl ?_
  refine KO.nil ?_
  repeat ((with_reducible refine KQ.next ?_))
  refine K.condD rfl (fun h => ?_) (fun h => ?_)
  · have hn : rtakeI l id = none := fidx_neg h
    repeat ((with_reducible refine K.seq ?_))
    refine K.reg ?_
    refine KO.bldN (pl := [(0, 1), (1, 1), (2, 1), (3, 1), (4, 1)]) rfl Tryz.zeroValue31 Tryz.runUnderlying31 (by intro w; simp [Tryz.sizeOf3, Tryz.sizeOf9]) (by exact rfl) rfl ?_
    refine KO.sto0 rfl rfl rfl (by exact rfl) (by exact Tryz.sizeOf31) (by exact rfl) (by with_reducible (repeat (exact Pick.head))) (by exact rfl) ?_
    refine KO.as rfl rfl ?_
    refine KO.nil ?_
    repeat (first | (with_reducible refine KQ.next ?_) | (with_reducible refine KQ.then_ret ?_) | (with_reducible refine K.ret ?_))
    refine KQ.retCT rfl rfl Tryz.isAgg31 (by with_reducible (repeat (exact Pick.head))) (by exact Tryz.sizeOf31) rfl (fun w' hs => ⟨_, _, rfl, ⟨?_, rfl⟩, ?_⟩)
    · simp only [rtakeM, rtakeE, hn]; rfl
    · rw [show rtake l id = l by simp only [rtake, hn]]
      exact (hs.pick (by with_reducible (repeat (first | exact Pick.head | apply Pick.tail)))).gc1 (by with_reducible repeat (first | exact LSub.refl | apply LSub.drop))
  · obtain ⟨i, e, hi0, he, hp0, hil, hfi⟩ := fidx_nonneg (Int.not_lt.1 h)
    have hn : rtakeI l id = some i := hfi
    have hat := rAt_of he
    rw [show rfind l id = (i : Int) from hi0]
    repeat (first | (with_reducible refine K.seq ?_) | (with_reducible refine KQ.next ?_) | (with_reducible refine K.skip ?_))
    refine K.conv (fun w hw => hw.pick (A := rqP b l) (by with_reducible (repeat (first | exact Pick.head | apply Pick.tail)))) ?_
    refine K.open' (fun _ h => rqP_open h) fun v => ?_
    refine K.fact (fun w hw => SL_some (hw.pick (A := riS v l) (by with_reducible (repeat (first | exact Pick.head | apply Pick.tail)))) hil) ?_
    rintro ⟨gq, cq, rfl⟩
    refine K.reg ?_
    refine KO.mv rfl rfl ?_
    refine KO.nc rfl rfl ?_
    refine KO.fo0 (off := 0) rfl Tryz.runUnderlying29 rfl rfl Tryz.sizeOf27 rfl ?_
    refine KO.ld rfl rfl Tryz.isAgg27 (by with_reducible (repeat (exact Pick.head))) (by exact rfl) rfl ?_
    refine KO.mv rfl rfl ?_
    refine KO.idx0 rfl rfl Tryz.runUnderlying27 Tryz.sizeOf47 (by exact rfl) (by omega) rfl ?_
    refine KO.fo (off := 0) rfl Tryz.runUnderlying47 rfl rfl Tryz.sizeOf31 rfl ?_
    (refine KO.ldEP rfl rfl Tryz.isAgg31 Tryz.sizeOf31 (by with_reducible (repeat (first | exact Pick.head | apply Pick.tail))) (fun _ => rfl) (by assumption) (by (try simp only [List.drop_zero, List.drop_succ_cons, List.take_succ_cons, List.take_zero]); (try exact rfl)) (by exact rfl) rfl ?_)
    refine KO.alloc rfl Tryz.zeroValue31 (by exact rfl) rfl ?_; intro b7
    refine KO.sto0 rfl rfl rfl (by exact rfl) (by exact Tryz.sizeOf31) (by exact rfl) (by with_reducible (repeat (exact Pick.head))) (by exact rfl) ?_
    refine KO.nil ?_
    repeat (first | (with_reducible refine K.seq ?_) | (with_reducible refine KQ.next ?_))
    refine K.conv (fun w hw => rqP_mk (hw.pick2 (A := rqB b (.slice (some ⟨gq, 0, none⟩) l.length cq)) (B := riS (.slice (some ⟨gq, 0, none⟩) l.length cq) l) (by with_reducible (repeat (first | exact Pick.head | apply Pick.tail))) (by with_reducible (repeat (first | exact Pick.head | apply Pick.tail))))) ?_
    refine K.reg ?_
    refine KO.mv rfl rfl ?_
    refine KO.mv rfl rfl ?_
    refine KO.cl (cp := []) rfl rfl rfl Tryz.call55 rfl (rdrop_c w0 _ b l i hil hq) ?_; rintro v' L' ⟨rfl, rfl⟩
    refine KO.nil ?_
    repeat (first | (with_reducible refine K.seq ?_) | (with_reducible refine KQ.next ?_))
    refine K.reg ?_
    refine KO.ldB0 rfl rfl Tryz.isAgg31 Tryz.sizeOf31 (by with_reducible (repeat (first | exact Pick.head | apply Pick.tail))) (by exact rfl) rfl ?_
    refine KO.sto0 rfl rfl rfl (by exact rfl) (by exact Tryz.sizeOf31) (by exact rfl) (by with_reducible (repeat (first | exact Pick.head | apply Pick.tail))) (by exact rfl) ?_
    refine KO.as rfl rfl ?_
    refine KO.nil ?_
    repeat (first | (with_reducible refine KQ.next ?_) | (with_reducible refine K.ret ?_))
    refine KQ.retCT rfl rfl Tryz.isAgg31 (by with_reducible (repeat (exact Pick.head))) (by exact Tryz.sizeOf31) rfl (fun w' hs => ⟨_, _, rfl, ⟨?_, rfl⟩, ?_⟩)
    · simp only [rtakeM, rtakeE, hn, hat]; rfl
    · rw [show rtake l id = l.eraseIdx i by simp only [rtake, hn]]
      exact (hs.pick (by with_reducible (repeat (first | exact Pick.head | apply Pick.tail)))).gc1 (by with_reducible repeat (first | exact LSub.refl | apply LSub.drop))
theorem rends_c (w0 : World) (L : List HP) (b : Nat) (l : List Ri) (u : Int) (back : Bool) (hq : l.length < 900000) :
    KC Tryz.prog 18 #[.pointer (some ⟨b, 0, none⟩), .int .i64 u, .bool back] w0 (rqP b l :: L) (fun v L' => v = .tuple #[] ∧ L' = rqP b (rends l u back) :: L) := by
  refine KC.mk (n := 42) Tryz.func18 rfl Tryz.ntmps18 (by simp) ?_
  repeat ((with_reducible refine K.seq ?_))
  refine K.reg ?_
  refine KO.mv rfl rfl ?_
  refine KO.lss rfl rfl rfl ?_
  refine KO.nil ?_
  repeat ((with_reducible refine KQ.next ?_))
  refine K.condD rfl (fun h => ?_) (fun h => ?_)
  · repeat (first | (with_reducible refine KQ.then_ret ?_) | (with_reducible refine K.ret ?_))
    refine KQ.ret0 rfl (fun w' hs => ⟨_, _, rfl, ⟨rfl, rfl⟩, ?_⟩)
    rw [show rends l u back = l by simp only [rends, h, if_true]]
    exact hs
  rw [show rends l u back = (l.filter fun e => !rendB u back e).map (rfree u) by simp only [rends, h, if_false]]
  repeat (first | (with_reducible refine K.seq ?_) | (with_reducible refine KQ.next ?_) | (with_reducible refine K.skip ?_))
  refine K.reg ?_
  refine KO.as rfl rfl ?_
  refine KO.nil ?_
  repeat (first | (with_reducible refine K.seq ?_) | (with_reducible refine KQ.next ?_))
  refine K.open' (fun _ h => rqP_open h) fun v => ?_
  refine K.fact (fun w hw => SL_form (hw.pick (A := riS v l) (by with_reducible (repeat (first | exact Pick.head | apply Pick.tail))))) ?_
  rintro ⟨aq, cq, rfl, haq⟩
  refine K.reg ?_
  refine KO.mv rfl rfl ?_
  refine KO.nc rfl rfl ?_
  refine KO.fo0 (off := 0) rfl Tryz.runUnderlying29 rfl rfl Tryz.sizeOf27 rfl ?_
  refine KO.ld rfl rfl Tryz.isAgg27 (by with_reducible (repeat (exact Pick.head))) (by exact rfl) rfl ?_
  refine KO.len rfl Tryz.underlying27 rfl ?_
  refine KO.mv rfl rfl ?_
  refine KO.nil ?_
  repeat (first | (with_reducible refine KQ.next ?_) | (with_reducible refine K.block ?_))
  refine K.loop (fun s : Nat × Value => [(0, .pointer (some ⟨b, 0, none⟩)), (1, .int .i64 u), (2, .bool back), (6, s.2), (14, .slice aq l.length cq), (15, .int .i64 (l.length : Nat)), (16, .int .i64 (s.1 : Nat))]) (fun s => riS s.2 (((l.take s.1).filter fun e => !rendB u back e).map (rfree u)) :: rqB b (.slice aq l.length cq) :: riS (.slice aq l.length cq) l :: L) (fun s => s.1 ≤ l.length) (fun s => l.length - s.1) (0, .slice none 0 0)
    (Nat.zero_le _) ⟨rfl, rfl, rfl, rfl, rfl, rfl, rfl, trivial⟩ (fun _ h => SL_nil h) ?_
  rintro ⟨k, vo⟩ hk
  dsimp only at hk ⊢
  repeat ((with_reducible refine K.seq ?_))
  refine K.reg ?_
  refine KO.lss rfl rfl rfl ?_
  refine KO.nil ?_
  repeat (first | (with_reducible refine K.seq ?_) | (with_reducible refine KQ.next ?_))
  refine K.condD rfl (fun h1 => ?_) (fun h1 => ?_)
  · obtain ⟨gq, rfl⟩ := haq (by omega)
    obtain ⟨e, he⟩ : ∃ e, l[k]? = some e := ⟨l[k], List.getElem?_eq_getElem (by omega)⟩
    have hlen : (((l.take k).filter fun e => !rendB u back e).map (rfree u)).length < 900000 := by
      have := List.length_filter_le (fun e => !rendB u back e) (l.take k); simp at this ⊢; omega
    have hstep : (((l.take (k + 1)).filter fun e => !rendB u back e).map (rfree u)) = (((l.take k).filter fun e => !rendB u back e).map (rfree u)) ++ (if rendB u back e = true then [] else [rfree u e]) := by
      rw [take_succ_some he, List.filter_append, List.map_append]
      by_cases ha : rendB u back e = true <;> simp [ha]
    repeat (first | (with_reducible refine K.seq ?_) | (with_reducible refine KQ.next ?_) | (with_reducible refine K.skip ?_) | (with_reducible refine K.block ?_))
    refine K.reg ?_
    refine KO.idx0 rfl rfl Tryz.runUnderlying27 Tryz.sizeOf47 (by exact rfl) (by omega) rfl ?_
    refine KO.ldEN rfl rfl Tryz.isAgg47 Tryz.sizeOf47 (by with_reducible (repeat (first | exact Pick.head | apply Pick.tail))) (fun _ => rfl) (by assumption) rfl ?_
    refine KO.alloc rfl Tryz.zeroValue47 (by exact rfl) rfl ?_; intro b8
    refine KO.sto0 rfl rfl rfl (by exact rfl) (by exact Tryz.sizeOf47) (by exact rfl) (by with_reducible (repeat (exact Pick.head))) (by exact rfl) ?_
    refine KO.nil ?_
    repeat (first | (with_reducible refine K.seq ?_) | (with_reducible refine KQ.next ?_))
    refine K.reg ?_
    refine KO.fo0 (off := 5) rfl Tryz.runUnderlying47 rfl rfl Tryz.sizeOf3 rfl ?_
    refine KO.ld rfl rfl Tryz.isAgg3 (by with_reducible (repeat (exact Pick.head))) (by exact rfl) rfl ?_
    refine KO.mv rfl rfl ?_
    refine KO.eqI rfl rfl rfl ?_
    refine KO.nil ?_
    repeat ((with_reducible refine KQ.next ?_))
    refine K.condD rfl (fun h2 => ?_) (fun h2 => ?_)
    · repeat ((with_reducible refine K.seq ?_))
      refine K.reg ?_
      refine KO.mv rfl rfl ?_
      refine KO.nil ?_
      repeat ((with_reducible refine KQ.next ?_))
      refine K.cond rfl (fun h3 => ?_) (fun h3 => ?_)
      · have h4 : True := trivial
        rw [if_pos (by simp [rendB, h2, h3, h4])] at hstep
        rw [List.append_nil] at hstep
        repeat (first | (with_reducible refine KQ.next ?_) | (with_reducible refine KQ.then_exit ?_) | (with_reducible refine KQ.blk_exit ?_) | (with_reducible refine K.exit ?_))
        refine K.reg ?_
        refine KO.add rfl rfl rfl (by omega) rfl ?_
        refine KO.mv rfl rfl ?_
        refine KO.nil ?_
        refine KQ.round (k + 1, vo) (by dsimp only; omega) (by dsimp only; omega) ⟨rfl, rfl, rfl, rfl, rfl, rfl, rfl, trivial⟩ (fun _ h => ?_)
        dsimp only
        rw [hstep]
        exact (h.pick (by with_reducible (repeat (first | exact Pick.head | apply Pick.tail)))).gc1 (by with_reducible repeat (first | exact LSub.refl | apply LSub.drop))
      · repeat (first | (with_reducible refine KQ.next ?_) | (with_reducible refine K.skip ?_))
        refine K.reg ?_
        refine KO.fo0 (off := 5) rfl Tryz.runUnderlying47 rfl rfl Tryz.sizeOf3 rfl ?_
        (refine KO.sto rfl rfl rfl (by exact rfl) (by exact Tryz.sizeOf3) (by exact rfl) (by with_reducible (repeat (exact Pick.head))) (by exact rfl) (by (try simp only [putL, List.drop_succ_cons, List.drop_zero, List.drop_nil, List.cons_append, List.nil_append, List.length_cons, List.length_nil, Nat.zero_add, Nat.reduceAdd]); (try exact rfl)) ?_)
        refine KO.nil ?_
        repeat (first | (with_reducible refine K.seq ?_) | (with_reducible refine KQ.next ?_))
        refine K.reg ?_
        refine KO.fo0 (off := 6) rfl Tryz.runUnderlying47 rfl rfl Tryz.sizeOf3 rfl ?_
        refine KO.ld rfl rfl Tryz.isAgg3 (by with_reducible (repeat (exact Pick.head))) (by exact rfl) rfl ?_
        refine KO.mv rfl rfl ?_
        refine KO.eqI rfl rfl rfl ?_
        refine KO.nil ?_
        repeat ((with_reducible refine KQ.next ?_))
        refine K.condD rfl (fun h4 => ?_) (fun h4 => ?_)
        · repeat ((with_reducible refine K.seq ?_))
          refine K.reg ?_
          refine KO.mv rfl rfl ?_
          refine KO.not rfl rfl ?_
          refine KO.nil ?_
          repeat ((with_reducible refine KQ.next ?_))
          have h3' : back = false := by simpa using h3
          refine K.condT rfl (by simp [h3']) ?_
          rw [if_pos (by simp_all [rendB])] at hstep
          rw [List.append_nil] at hstep
          repeat (first | (with_reducible refine KQ.next ?_) | (with_reducible refine KQ.then_exit ?_) | (with_reducible refine KQ.blk_exit ?_) | (with_reducible refine K.exit ?_))
          refine K.reg ?_
          refine KO.add rfl rfl rfl (by omega) rfl ?_
          refine KO.mv rfl rfl ?_
          refine KO.nil ?_
          refine KQ.round (k + 1, vo) (by dsimp only; omega) (by dsimp only; omega) ⟨rfl, rfl, rfl, rfl, rfl, rfl, rfl, trivial⟩ (fun _ h => ?_)
          dsimp only
          rw [hstep]
          exact (h.pick (by with_reducible (repeat (first | exact Pick.head | apply Pick.tail)))).gc1 (by with_reducible repeat (first | exact LSub.refl | apply LSub.drop))
        · have h3 : back = false := by simpa using h3
          repeat (first | (with_reducible refine KQ.next ?_) | (with_reducible refine K.skip ?_))
          refine K.conv (L' := blk b8 (.cells (riC (rfree u e)).toArray 47 (0, 0)) :: riS vo (((l.take k).filter fun e => !rendB u back e).map (rfree u)) :: rqB b (.slice (some ⟨gq, 0, none⟩) l.length cq) :: riS (.slice (some ⟨gq, 0, none⟩) l.length cq) l :: L) (fun w hw => by rw [show riC (rfree u e) = [Value.int .i64 e.m.id, .int .i64 e.m.pri, .string e.m.body, .string e.m.queue, .int .i64 e.m.house, .int .i64 (-1), .int .i64 e.got] by simp [rfree, h2, h4, riC]]; exact hw) ?_
          rw [if_neg (by simp [rendB, h2, h3, h4])] at hstep
          refine K.reg ?_
          refine KO.mv rfl rfl ?_
          refine KO.ldB0 (cs := riC (rfree u e)) rfl rfl Tryz.isAgg47 Tryz.sizeOf47 (by with_reducible (repeat (exact Pick.head))) (by exact rfl) rfl ?_
          refine KO.bs1 (z := (Value.agg #[.int .i64 0, .int .i64 0, .string ⟨#[]⟩, .string ⟨#[]⟩, .int .i64 0, .int .i64 0, .int .i64 0])) (sz := 7) (by' := 72) rfl rfl Tryz.underlying27 (by kernel_rfl) (by exact rfl) (by exact rfl) (by decide) (by decide) rfl ?_; intro b35
          refine KO.app (z := Value.agg #[.int .i64 0, .int .i64 0, .string ⟨#[]⟩, .string ⟨#[]⟩, .int .i64 0, .int .i64 0, .int .i64 0]) (sz := 7) (by' := 72) rfl rfl rfl (by with_reducible (repeat (first | exact Pick.head | apply Pick.tail))) (by with_reducible (repeat (exact Pick.head))) Tryz.underlying27 ri_info rfl (rfree u e) (by exact rfl) (by exact rfl) (by exact rfl) (by omega) (by decide) rfl ?_; intro v'
          refine KO.as rfl rfl ?_
          refine KO.nil ?_
          repeat (first | (with_reducible refine KQ.next ?_) | (with_reducible refine KQ.blk_normal ?_))
          refine K.reg ?_
          refine KO.add rfl rfl rfl (by omega) rfl ?_
          refine KO.mv rfl rfl ?_
          refine KO.nil ?_
          refine KQ.round (k + 1, v') (by dsimp only; omega) (by dsimp only; omega) ⟨rfl, rfl, rfl, rfl, rfl, rfl, rfl, trivial⟩ (fun _ h => ?_)
          dsimp only
          rw [hstep]
          exact (h.pick (by with_reducible (repeat (exact Pick.head)))).gc1 (by with_reducible repeat (first | exact LSub.refl | apply LSub.drop))
    · repeat (first | (with_reducible refine K.seq ?_) | (with_reducible refine KQ.next ?_) | (with_reducible refine K.skip ?_))
      refine K.reg ?_
      refine KO.fo0 (off := 6) rfl Tryz.runUnderlying47 rfl rfl Tryz.sizeOf3 rfl ?_
      refine KO.ld rfl rfl Tryz.isAgg3 (by with_reducible (repeat (exact Pick.head))) (by exact rfl) rfl ?_
      refine KO.mv rfl rfl ?_
      refine KO.eqI rfl rfl rfl ?_
      refine KO.nil ?_
      repeat ((with_reducible refine KQ.next ?_))
      refine K.condD rfl (fun h4 => ?_) (fun h4 => ?_)
      · repeat ((with_reducible refine K.seq ?_))
        refine K.reg ?_
        refine KO.mv rfl rfl ?_
        refine KO.not rfl rfl ?_
        refine KO.nil ?_
        repeat ((with_reducible refine KQ.next ?_))
        refine K.cond rfl (fun h3 => ?_) (fun h3 => ?_)
        · have h3 : back = false := by simpa using h3
          rw [if_pos (by simp_all [rendB])] at hstep
          rw [List.append_nil] at hstep
          repeat (first | (with_reducible refine KQ.next ?_) | (with_reducible refine KQ.then_exit ?_) | (with_reducible refine KQ.blk_exit ?_) | (with_reducible refine K.exit ?_))
          refine K.reg ?_
          refine KO.add rfl rfl rfl (by omega) rfl ?_
          refine KO.mv rfl rfl ?_
          refine KO.nil ?_
          refine KQ.round (k + 1, vo) (by dsimp only; omega) (by dsimp only; omega) ⟨rfl, rfl, rfl, rfl, rfl, rfl, rfl, trivial⟩ (fun _ h => ?_)
          dsimp only
          rw [hstep]
          exact (h.pick (by with_reducible (repeat (first | exact Pick.head | apply Pick.tail)))).gc1 (by with_reducible repeat (first | exact LSub.refl | apply LSub.drop))
        · have h3 : back = true := by simpa using h3
          repeat (first | (with_reducible refine KQ.next ?_) | (with_reducible refine K.skip ?_))
          refine K.reg ?_
          refine KO.fo0 (off := 6) rfl Tryz.runUnderlying47 rfl rfl Tryz.sizeOf3 rfl ?_
          (refine KO.sto rfl rfl rfl (by exact rfl) (by exact Tryz.sizeOf3) (by exact rfl) (by with_reducible (repeat (exact Pick.head))) (by exact rfl) (by (try simp only [putL, List.drop_succ_cons, List.drop_zero, List.drop_nil, List.cons_append, List.nil_append, List.length_cons, List.length_nil, Nat.zero_add, Nat.reduceAdd]); (try exact rfl)) ?_)
          refine KO.nil ?_
          repeat ((with_reducible refine KQ.next ?_))
          refine K.conv (L' := blk b8 (.cells (riC (rfree u e)).toArray 47 (0, 0)) :: riS vo (((l.take k).filter fun e => !rendB u back e).map (rfree u)) :: rqB b (.slice (some ⟨gq, 0, none⟩) l.length cq) :: riS (.slice (some ⟨gq, 0, none⟩) l.length cq) l :: L) (fun w hw => by rw [show riC (rfree u e) = [Value.int .i64 e.m.id, .int .i64 e.m.pri, .string e.m.body, .string e.m.queue, .int .i64 e.m.house, .int .i64 e.put, .int .i64 (-1)] by simp [rfree, h2, h4, riC]]; exact hw) ?_
          rw [if_neg (by simp [rendB, h2, h3, h4])] at hstep
          refine K.reg ?_
          refine KO.mv rfl rfl ?_
          refine KO.ldB0 (cs := riC (rfree u e)) rfl rfl Tryz.isAgg47 Tryz.sizeOf47 (by with_reducible (repeat (exact Pick.head))) (by exact rfl) rfl ?_
          refine KO.bs1 (z := (Value.agg #[.int .i64 0, .int .i64 0, .string ⟨#[]⟩, .string ⟨#[]⟩, .int .i64 0, .int .i64 0, .int .i64 0])) (sz := 7) (by' := 72) rfl rfl Tryz.underlying27 (by kernel_rfl) (by exact rfl) (by exact rfl) (by decide) (by decide) rfl ?_; intro b35
          refine KO.app (z := Value.agg #[.int .i64 0, .int .i64 0, .string ⟨#[]⟩, .string ⟨#[]⟩, .int .i64 0, .int .i64 0, .int .i64 0]) (sz := 7) (by' := 72) rfl rfl rfl (by with_reducible (repeat (first | exact Pick.head | apply Pick.tail))) (by with_reducible (repeat (exact Pick.head))) Tryz.underlying27 ri_info rfl (rfree u e) (by exact rfl) (by exact rfl) (by exact rfl) (by omega) (by decide) rfl ?_; intro v'
          refine KO.as rfl rfl ?_
          refine KO.nil ?_
          repeat (first | (with_reducible refine KQ.next ?_) | (with_reducible refine KQ.blk_normal ?_))
          refine K.reg ?_
          refine KO.add rfl rfl rfl (by omega) rfl ?_
          refine KO.mv rfl rfl ?_
          refine KO.nil ?_
          refine KQ.round (k + 1, v') (by dsimp only; omega) (by dsimp only; omega) ⟨rfl, rfl, rfl, rfl, rfl, rfl, rfl, trivial⟩ (fun _ h => ?_)
          dsimp only
          rw [hstep]
          exact (h.pick (by with_reducible (repeat (exact Pick.head)))).gc1 (by with_reducible repeat (first | exact LSub.refl | apply LSub.drop))
      · have h3 : True := trivial
        repeat (first | (with_reducible refine KQ.next ?_) | (with_reducible refine K.skip ?_))
        refine K.conv (L' := blk b8 (.cells (riC (rfree u e)).toArray 47 (0, 0)) :: riS vo (((l.take k).filter fun e => !rendB u back e).map (rfree u)) :: rqB b (.slice (some ⟨gq, 0, none⟩) l.length cq) :: riS (.slice (some ⟨gq, 0, none⟩) l.length cq) l :: L) (fun w hw => by rw [show riC (rfree u e) = riC e by simp [rfree, h2, h4, riC]]; exact hw) ?_
        rw [if_neg (by simp [rendB, h2, h3, h4])] at hstep
        refine K.reg ?_
        refine KO.mv rfl rfl ?_
        refine KO.ldB0 (cs := riC (rfree u e)) rfl rfl Tryz.isAgg47 Tryz.sizeOf47 (by with_reducible (repeat (exact Pick.head))) (by exact rfl) rfl ?_
        refine KO.bs1 (z := (Value.agg #[.int .i64 0, .int .i64 0, .string ⟨#[]⟩, .string ⟨#[]⟩, .int .i64 0, .int .i64 0, .int .i64 0])) (sz := 7) (by' := 72) rfl rfl Tryz.underlying27 (by kernel_rfl) (by exact rfl) (by exact rfl) (by decide) (by decide) rfl ?_; intro b35
        refine KO.app (z := Value.agg #[.int .i64 0, .int .i64 0, .string ⟨#[]⟩, .string ⟨#[]⟩, .int .i64 0, .int .i64 0, .int .i64 0]) (sz := 7) (by' := 72) rfl rfl rfl (by with_reducible (repeat (first | exact Pick.head | apply Pick.tail))) (by with_reducible (repeat (exact Pick.head))) Tryz.underlying27 ri_info rfl (rfree u e) (by exact rfl) (by exact rfl) (by exact rfl) (by omega) (by decide) rfl ?_; intro v'
        refine KO.as rfl rfl ?_
        refine KO.nil ?_
        repeat (first | (with_reducible refine KQ.next ?_) | (with_reducible refine KQ.blk_normal ?_))
        refine K.reg ?_
        refine KO.add rfl rfl rfl (by omega) rfl ?_
        refine KO.mv rfl rfl ?_
        refine KO.nil ?_
        refine KQ.round (k + 1, v') (by dsimp only; omega) (by dsimp only; omega) ⟨rfl, rfl, rfl, rfl, rfl, rfl, rfl, trivial⟩ (fun _ h => ?_)
        dsimp only
        rw [hstep]
        exact (h.pick (by with_reducible (repeat (exact Pick.head)))).gc1 (by with_reducible repeat (first | exact LSub.refl | apply LSub.drop))
  · have hkl : k = l.length := by omega
    refine K.fact (fun w hw => SL_form (hw.pick (A := riS vo (((l.take k).filter fun e => !rendB u back e).map (rfree u))) (by with_reducible (repeat (exact Pick.head))))) ?_
    rintro ⟨ao, co, rfl, -⟩
    repeat (first | (with_reducible refine KQ.next ?_) | (with_reducible refine KQ.then_exit ?_) | (with_reducible refine KQ.blk_exit ?_) | (with_reducible refine K.exit ?_))
    refine K.reg ?_
    refine KO.mv rfl rfl ?_
    refine KO.mv rfl rfl ?_
    refine KO.nc rfl rfl ?_
    refine KO.fo0 (off := 0) rfl Tryz.runUnderlying29 rfl rfl Tryz.sizeOf27 rfl ?_
    refine KO.sto0 rfl rfl rfl (by exact rfl) (by exact Tryz.sizeOf27) (by exact rfl) (by with_reducible (repeat (first | exact Pick.head | apply Pick.tail))) (by exact rfl) ?_
    refine KO.nil ?_
    refine KQ.end0 rfl (fun w' hs => ⟨_, _, rfl, ⟨rfl, rfl⟩, ?_⟩)
    rw [hkl, List.take_length] at hs
    exact rqP_mk ((hs.pick2 (by with_reducible (repeat (exact Pick.head))) (by with_reducible (repeat (exact Pick.head)))).gc2 (by with_reducible repeat (first | exact LSub.refl | apply LSub.drop)))
end Go.Proofs.YtjhogocabcdjbaaGreatDoor
/- the program's queue beside the document's: plain -/
namespace WB
def toRi (e : It) : Ri := ⟨e.m, e.put, e.got⟩
def arrN (l : List Ri) : Nat → List Ri
  | 0 => []
  | n + 1 => l.filter (fun e => decide (e.m.pri = (n : Int))) ++ arrN l n
def arr (l : List Ri) : List Ri := arrN l 10
theorem range_map_rAt : ∀ l : List Ri, (List.range l.length).map (rAt l) = l := fun l => by
  refine List.ext_getElem (by simp) fun i h1 h2 => ?_
  simp [rAt, List.getD_eq_getElem?_getD, h2]
theorem arrN_rord (l : List Ri) : ∀ n, arrN l n = (rordN l n).map (rAt l)
  | 0 => rfl
  | n + 1 => by
    rw [arrN, rordN, List.map_append, arrN_rord l n]
    congr 1
    conv => lhs; rw [← range_map_rAt l]
    rw [List.filter_map]
    rfl
theorem arr_rord (l : List Ri) : arr l = (rord l).map (rAt l) := arrN_rord l 10
theorem rthere_arr (l : List Ri) : rthere l = ((arr l).filter ravail).map (·.m) := by
  rw [arr_rord, List.filter_map, List.map_map]; rfl
theorem rkept_arr (l : List Ri) : rkept l = ((arr l).filter fun e => decide (e.put < 0)).map (·.m) := by
  rw [arr_rord, List.filter_map, List.map_map]; rfl
theorem rget_arr (l : List Ri) : (arr l).find? ravail = (rgetI l).map (rAt l) := by
  rw [arr_rord, List.find?_map]; rfl
theorem arrN_mem {l : List Ri} {e : Ri} : ∀ {n}, e ∈ arrN l n → e ∈ l ∧ e.m.pri < n
  | 0, h => by simp [arrN] at h
  | n + 1, h => by
    rcases List.mem_append.1 h with h | h
    · obtain ⟨h1, h2⟩ := List.mem_filter.1 h
      simp at h2; exact ⟨h1, by omega⟩
    · have := arrN_mem h; exact ⟨this.1, by omega⟩
theorem arrN_map {f : Ri → Ri} (hf : ∀ e, (f e).m.pri = e.m.pri) (l : List Ri) : ∀ n, arrN (l.map f) n = (arrN l n).map f
  | 0 => rfl
  | n + 1 => by
    rw [arrN, arrN, List.map_append, arrN_map hf l n, List.filter_map]
    congr 2
    exact List.filter_congr fun e _ => by simp [hf]
theorem arrN_filter (p : Ri → Bool) (l : List Ri) : ∀ n, arrN (l.filter p) n = (arrN l n).filter p
  | 0 => rfl
  | n + 1 => by
    rw [arrN, arrN, List.filter_append, arrN_filter p l n, List.filter_filter, List.filter_filter]
    congr 1
    exact List.filter_congr fun e _ => Bool.and_comm _ _
theorem arr_map {f : Ri → Ri} (hf : ∀ e, (f e).m.pri = e.m.pri) (l : List Ri) : arr (l.map f) = (arr l).map f := arrN_map hf l 10
theorem arr_filter (p : Ri → Bool) (l : List Ri) : arr (l.filter p) = (arr l).filter p := arrN_filter p l 10
theorem arrN_perm (l : List Ri) (h0 : ∀ e ∈ l, 0 ≤ e.m.pri) : ∀ n : Nat, (arrN l n).Perm (l.filter fun e => decide (e.m.pri < (n : Int)))
  | 0 => by
    rw [arrN, List.filter_eq_nil_iff.2 fun e he => by have := h0 e he; simp; omega]
  | n + 1 => by
    rw [arrN]
    have h1 := List.filter_append_perm (fun e : Ri => decide (e.m.pri = (n : Int))) (l.filter fun e => decide (e.m.pri < ((n + 1 : Nat) : Int)))
    rw [List.filter_filter, List.filter_filter] at h1
    have e1 : (l.filter fun e => decide (e.m.pri = (n : Int)) && decide (e.m.pri < ((n + 1 : Nat) : Int))) = l.filter fun e => decide (e.m.pri = (n : Int)) := List.filter_congr fun e _ => by
      rw [Bool.eq_iff_iff]; simp; omega
    have e2 : (l.filter fun e => (!decide (e.m.pri = (n : Int))) && decide (e.m.pri < ((n + 1 : Nat) : Int))) = l.filter fun e => decide (e.m.pri < (n : Int)) := List.filter_congr fun e _ => by
      rw [Bool.eq_iff_iff]; simp; omega
    rw [e1, e2] at h1
    exact ((arrN_perm l h0 n).append_left _).trans h1
theorem arr_perm {l : List Ri} (h : ∀ e ∈ l, 0 ≤ e.m.pri ∧ e.m.pri ≤ 9) : (arr l).Perm l := by
  have := arrN_perm l (fun e he => (h e he).1) 10
  rw [List.filter_eq_self.2 fun e he => by have := h e he; simp; omega] at this
  exact this
theorem arrN_push (l : List Ri) (x : Ri) (p : Nat) (hp : x.m.pri = p) : ∀ n, arrN (l ++ [x]) n = if n ≤ p then arrN l n else (arrN l n).filter (fun e => decide (x.m.pri ≤ e.m.pri)) ++ x :: (arrN l n).filter (fun e => !decide (x.m.pri ≤ e.m.pri))
  | 0 => by simp [arrN]
  | n + 1 => by
    rw [arrN, arrN, arrN_push l x p hp n, List.filter_append]
    by_cases h1 : n + 1 ≤ p
    · rw [if_pos h1, if_pos (by omega)]
      have : ([x].filter fun e => decide (e.m.pri = (n : Int))) = [] := by simp; omega
      rw [this, List.append_nil]
    · rw [if_neg h1]
      by_cases h2 : n ≤ p
      · have hnp : n = p := by omega
        subst hnp
        have e1 : ([x].filter fun e => decide (e.m.pri = (n : Int))) = [x] := by simp [hp]
        rw [if_pos h2, e1, List.filter_append, List.filter_append]
        have a1 : ((l.filter fun e => decide (e.m.pri = (n : Int))).filter fun e => decide (x.m.pri ≤ e.m.pri)) = l.filter fun e => decide (e.m.pri = (n : Int)) := List.filter_eq_self.2 fun e he => by have := (List.mem_filter.1 he).2; simp at this ⊢; omega
        have a2 : ((l.filter fun e => decide (e.m.pri = (n : Int))).filter fun e => !decide (x.m.pri ≤ e.m.pri)) = [] := List.filter_eq_nil_iff.2 fun e he => by have := (List.mem_filter.1 he).2; simp at this ⊢; omega
        have a3 : ((arrN l n).filter fun e => decide (x.m.pri ≤ e.m.pri)) = [] := List.filter_eq_nil_iff.2 fun e he => by have := (arrN_mem he).2; simp; omega
        have a4 : ((arrN l n).filter fun e => !decide (x.m.pri ≤ e.m.pri)) = arrN l n := List.filter_eq_self.2 fun e he => by have := (arrN_mem he).2; simp; omega
        rw [a1, a2, a3, a4]; simp
      · have e1 : ([x].filter fun e => decide (e.m.pri = (n : Int))) = [] := by simp; omega
        rw [if_neg h2, e1, List.append_nil, List.filter_append, List.filter_append]
        have a1 : ((l.filter fun e => decide (e.m.pri = (n : Int))).filter fun e => decide (x.m.pri ≤ e.m.pri)) = l.filter fun e => decide (e.m.pri = (n : Int)) := List.filter_eq_self.2 fun e he => by have := (List.mem_filter.1 he).2; simp at this ⊢; omega
        have a2 : ((l.filter fun e => decide (e.m.pri = (n : Int))).filter fun e => !decide (x.m.pri ≤ e.m.pri)) = [] := List.filter_eq_nil_iff.2 fun e he => by have := (List.mem_filter.1 he).2; simp at this ⊢; omega
        rw [a1, a2]; simp
theorem arr_push (l : List Ri) (x : Ri) (h : 0 ≤ x.m.pri ∧ x.m.pri ≤ 9) : arr (l ++ [x]) = (arr l).filter (fun e => decide (x.m.pri ≤ e.m.pri)) ++ x :: (arr l).filter (fun e => !decide (x.m.pri ≤ e.m.pri)) := by
  have := arrN_push l x x.m.pri.toNat (by omega) 10
  rw [if_neg (by omega)] at this
  exact this
/-! by their numbers -/
section
variable {α : Type} {key : α → Int} {xs : List α}
theorem key_inj (h : (xs.map key).Nodup) {i j : Nat} {a b : α} (ha : xs[i]? = some a) (hb : xs[j]? = some b) (hk : key a = key b) : i = j := by
  obtain ⟨hi, rfl⟩ := List.getElem?_eq_some_iff.1 ha
  obtain ⟨hj, rfl⟩ := List.getElem?_eq_some_iff.1 hb
  have hn := List.pairwise_iff_getElem.1 h
  rcases Nat.lt_trichotomy i j with hlt | rfl | hlt
  · exact absurd (by rw [List.getElem_map, List.getElem_map]; exact hk) (hn i j (by simpa using hi) (by simpa using hj) hlt)
  · rfl
  · exact absurd (by rw [List.getElem_map, List.getElem_map]; exact hk.symm) (hn j i (by simpa using hj) (by simpa using hi) hlt)
theorem key_eq (h : (xs.map key).Nodup) {a b : α} (ha : a ∈ xs) (hb : b ∈ xs) (hk : key a = key b) : a = b := by
  obtain ⟨i, hi, rfl⟩ := List.getElem_of_mem ha
  obtain ⟨j, hj, rfl⟩ := List.getElem_of_mem hb
  have := key_inj h (List.getElem?_eq_getElem hi) (List.getElem?_eq_getElem hj) hk
  subst this; rfl
theorem set_by_key (h : (xs.map key).Nodup) (f : α → α) {k : Nat} {e : α} (he : xs[k]? = some e) : xs.set k (f e) = xs.map fun x => if key x = key e then f x else x := by
  refine List.ext_getElem? fun j => ?_
  rw [List.getElem?_set, List.getElem?_map]
  have hk := (List.getElem?_eq_some_iff.1 he).1
  by_cases hj : k = j
  · subst hj
    rw [if_pos rfl, if_pos hk, he]; simp
  · rw [if_neg hj]
    cases hx : xs[j]? with
    | none => rfl
    | some a =>
      have : ¬ key a = key e := fun hh => hj (key_inj h he hx hh.symm)
      simp [this]
theorem erase_by_key (h : (xs.map key).Nodup) {k : Nat} {e : α} (he : xs[k]? = some e) : xs.eraseIdx k = xs.filter fun x => !decide (key x = key e) := by
  induction xs generalizing k with
  | nil => simp at he
  | cons a l ih =>
    rw [List.map_cons, List.nodup_cons] at h
    cases k with
    | zero =>
      simp at he; subst he
      rw [List.eraseIdx_zero, List.tail_cons, List.filter_cons, if_neg (by simp)]
      refine (List.filter_eq_self.2 fun x hx => ?_).symm
      have : ¬ key x = key a := fun hh => h.1 (hh ▸ List.mem_map_of_mem (f := key) hx)
      simp [this]
    | succ k =>
      simp at he
      rw [List.eraseIdx_cons_succ, ih h.2 he, List.filter_cons, if_pos]
      have : ¬ key a = key e := fun hh => h.1 (hh ▸ List.mem_map_of_mem (f := key) (List.mem_of_getElem? he))
      simp [this]
end
/-! the two beside each other -/
def QOrd (x y : It) : Prop := y.m.pri < x.m.pri ∨ (x.m.pri = y.m.pri ∧ x.line < y.line)
structure QRel (n : Int) (q : Qu) (l : List Ri) : Prop where
  rel : q.l.map toRi = arr l
  ord : q.l.Pairwise QOrd
  lines : ∀ e ∈ q.l, 0 ≤ e.line ∧ e.line < q.next
  pris : ∀ e ∈ l, 0 ≤ e.m.pri ∧ e.m.pri ≤ 9
  ids : (l.map (·.m.id)).Nodup
  len : (l.length : Nat) ≤ n
  next : 0 ≤ q.next ∧ q.next ≤ n
section
variable {n : Int} {q : Qu} {l : List Ri} {m : Ms} {u : Int}
theorem QRel.len_eq (h : QRel n q l) : q.l.length = l.length := by
  have := congrArg List.length h.rel
  rw [List.length_map, (arr_perm h.pris).length_eq] at this
  exact this
theorem QRel.mem (h : QRel n q l) {e : It} (he : e ∈ q.l) : toRi e ∈ l := by
  have : toRi e ∈ arr l := by rw [← h.rel]; exact List.mem_map_of_mem he
  exact (arr_perm h.pris).mem_iff.1 this
theorem QRel.qids (h : QRel n q l) : (q.l.map (·.m.id)).Nodup := by
  have h1 : (q.l.map (·.m.id)) = (arr l).map (·.m.id) := by rw [← h.rel, List.map_map]; rfl
  rw [h1]
  exact (((arr_perm h.pris).map _).nodup_iff).2 h.ids
theorem QRel.qpri (h : QRel n q l) {e : It} (he : e ∈ q.l) : 0 ≤ e.m.pri ∧ e.m.pri ≤ 9 := h.pris _ (h.mem he)
theorem QRel.cmp (h : QRel n q l) (m : Ms) (u : Int) {e : It} (he : e ∈ q.l) : cmpIt e (qitem q m u) < 0 ↔ m.pri ≤ e.m.pri := by
  have := h.lines e he
  unfold cmpIt compI qitem
  dsimp only
  split <;> omega
theorem QRel.ok (h : QRel n q l) (hn : n < 100000) : QuOk q := by
  have hle := h.len_eq
  have hl2 := h.len
  refine ⟨by omega, fun e he => ?_, ⟨h.next.1, by have := h.next; omega⟩, fun m u i j a b hij ha hb hlt => ?_⟩
  · have h1 := h.qpri he; have h2 := h.lines e he; have h3 := h.next
    unfold smallIt small; omega
  · have ma := List.mem_of_getElem? ha
    have mb := List.mem_of_getElem? hb
    rw [h.cmp m u ma]
    rw [h.cmp m u mb] at hlt
    rcases Nat.lt_or_ge i j with hlt2 | hge
    · obtain ⟨hi, rfl⟩ := List.getElem?_eq_some_iff.1 ha
      obtain ⟨hj, rfl⟩ := List.getElem?_eq_some_iff.1 hb
      have := List.pairwise_iff_getElem.1 h.ord i j hi hj hlt2
      unfold QOrd at this
      omega
    · obtain rfl : i = j := by omega
      rw [ha] at hb; cases hb; exact hlt
theorem QRel.push (h : QRel n q l) (m : Ms) (u : Int) : (qpush q m u).l = q.l.filter (fun e => decide (m.pri ≤ e.m.pri)) ++ qitem q m u :: q.l.filter (fun e => !decide (m.pri ≤ e.m.pri)) := by
  have hc : (q.l.takeWhile fun e => decide (cmpIt e (qitem q m u) < 0)) = q.l.takeWhile fun e => decide (m.pri ≤ e.m.pri) := by
    have : ∀ l : List It, (∀ e ∈ l, e ∈ q.l) → (l.takeWhile fun e => decide (cmpIt e (qitem q m u) < 0)) = l.takeWhile fun e => decide (m.pri ≤ e.m.pri) := by
      intro l
      induction l with
      | nil => intro _; rfl
      | cons a l ih =>
        intro hl
        have e1 : decide (cmpIt a (qitem q m u) < 0) = decide (m.pri ≤ a.m.pri) := decide_eq_decide.2 (h.cmp m u (hl a (by simp)))
        simp only [List.takeWhile_cons, e1, ih fun e he => hl e (by simp [he])]
    exact this q.l fun _ h => h
  obtain ⟨t1, t2⟩ := take_len_while (fun e : It => decide (m.pri ≤ e.m.pri)) q.l
  obtain ⟨f1, f2⟩ := take_while_filter (p := fun e : It => decide (m.pri ≤ e.m.pri)) (l := q.l) (h.ord.imp fun {x y} hxy hy => by
    unfold QOrd at hxy; simp at hy ⊢; omega)
  unfold qpush srchIt
  dsimp only
  rw [hc, t1, t2, f1, f2]
theorem QRel.pushed (h : QRel n q l) (hp : 0 ≤ m.pri ∧ m.pri ≤ 9) (hid : ∀ e ∈ l, e.m.id ≠ m.id) (u : Int) : QRel (n + 1) (qpush q m u) (rpush l m u) := by
  have hl2 : ∀ e ∈ (qpush q m u).l, e = qitem q m u ∨ e ∈ q.l := fun e he => by
    rw [h.push] at he
    simp only [List.mem_append, List.mem_cons, List.mem_filter] at he
    rcases he with ⟨a, _⟩ | a | ⟨a, _⟩
    · exact .inr a
    · exact .inl a
    · exact .inr a
  have hnx : (qpush q m u).next = q.next + 1 := rfl
  refine ⟨?_, ?_, fun e he => ?_, fun e he => ?_, ?_, ?_, by have := h.next; rw [hnx]; omega⟩
  · rw [h.push, List.map_append, List.map_cons]
    unfold rpush
    rw [arr_push l _ hp, ← h.rel, List.filter_map, List.filter_map]
    have : toRi (qitem q m u) = ⟨m, rneg u, -1⟩ := by
      unfold toRi qitem rneg
      dsimp only
      rw [show max u (-1) = if u < 0 then -1 else u by split <;> omega]
    rw [this]
    rfl
  · rw [h.push, List.pairwise_append, List.pairwise_cons]
    refine ⟨h.ord.sublist List.filter_sublist, ⟨fun e he => ?_, h.ord.sublist List.filter_sublist⟩, fun a ha b hb => ?_⟩
    · obtain ⟨h1, h2⟩ := List.mem_filter.1 he
      simp at h2
      left; unfold qitem; dsimp only; omega
    · obtain ⟨h1, h2⟩ := List.mem_filter.1 ha
      have i1 := h.lines a h1
      simp at h2
      rcases List.mem_cons.1 hb with rfl | hb
      · unfold QOrd qitem; dsimp only; omega
      · obtain ⟨h3, h4⟩ := List.mem_filter.1 hb
        simp at h4
        left; omega
  · rw [hnx]
    rcases hl2 e he with rfl | h1
    · have := h.next; unfold qitem; dsimp only; omega
    · have := h.lines e h1; omega
  · rcases List.mem_append.1 he with h1 | h1
    · exact h.pris e h1
    · rw [List.mem_singleton] at h1; subst h1; exact hp
  · unfold rpush
    rw [List.map_append, List.nodup_append]
    refine ⟨h.ids, by simp, fun a ha b hb => ?_⟩
    obtain ⟨e, he, rfl⟩ := List.mem_map.1 ha
    simp at hb; subst hb
    exact hid e he
  · unfold rpush; have := h.len; simp; omega
/-- one whose items are some of its items, each with the same message and place -/
theorem QRel.part (h : QRel n q l) {ql : List It} {l' : List Ri} (hs : (ql.map ml).Sublist (q.l.map ml)) (hr : ql.map toRi = arr l') (hsub : (l'.map (·.m)).Sublist (l.map (·.m))) : QRel n ⟨ql, q.next⟩ l' := by
  have hm : ∀ e ∈ ql, ∃ e' ∈ q.l, e'.m = e.m ∧ e'.line = e.line := fun e he => by
    obtain ⟨e', h1, h2⟩ := List.mem_map.1 (hs.subset (List.mem_map_of_mem (f := ml) he))
    exact ⟨e', h1, by simpa [ml] using h2⟩
  refine ⟨hr, ?_, fun e he => ?_, fun e he => ?_, ?_, ?_, h.next⟩
  · have h1 : (q.l.map ml).Pairwise fun x y => y.1.pri < x.1.pri ∨ (x.1.pri = y.1.pri ∧ x.2 < y.2) := List.pairwise_map.2 h.ord
    have h2 := h1.sublist hs
    rw [List.pairwise_map] at h2
    exact h2
  · obtain ⟨e', h1, _, h2⟩ := hm e he; rw [← h2]; exact h.lines e' h1
  · obtain ⟨e', h1, h2⟩ := List.mem_map.1 (hsub.subset (List.mem_map_of_mem (f := (·.m)) he))
    have := h.pris e' h1
    rw [h2] at this; exact this
  · have h1 := h.ids
    have e1 : ∀ l : List Ri, l.map (·.m.id) = (l.map (·.m)).map (·.id) := fun l => by rw [List.map_map]; rfl
    rw [e1] at h1 ⊢
    exact h1.sublist (hsub.map _)
  · have := hsub.length_le; have := h.len; simp at *; omega
theorem QRel.le (h : QRel n q l) {k : Int} (hk : n ≤ k) : QRel k q l := ⟨h.rel, h.ord, h.lines, h.pris, h.ids, by have := h.len; omega, by have := h.next; omega⟩
theorem QRel.find (h : QRel n q l) : (q.l.find? availB).map toRi = (rgetI l).map (rAt l) := by
  rw [← rget_arr, ← h.rel, List.find?_map]; rfl
theorem find_idx {l : List It} {p : It → Bool} : l.find? p = (l.findIdx? p).map (itAt l) := by
  cases hf : l.findIdx? p with
  | none => rw [List.find?_eq_none.2 fun x hx => by simpa using List.findIdx?_eq_none_iff.1 hf x hx]; rfl
  | some k =>
    obtain ⟨h1, h2, h3⟩ := List.findIdx?_eq_some_iff_getElem.1 hf
    rw [Option.map_some, itAt_of (List.getElem?_eq_getElem h1)]
    exact List.find?_eq_some_iff_getElem.2 ⟨h2, k, h1, rfl, fun j hj => by simpa using h3 j hj⟩
theorem find_idxR {l : List Ri} {p : Ri → Bool} : l.find? p = (l.findIdx? p).map (rAt l) := by
  cases hf : l.findIdx? p with
  | none => rw [List.find?_eq_none.2 fun x hx => by simpa using List.findIdx?_eq_none_iff.1 hf x hx]; rfl
  | some k =>
    obtain ⟨h1, h2, h3⟩ := List.findIdx?_eq_some_iff_getElem.1 hf
    rw [Option.map_some, rAt_of (List.getElem?_eq_getElem h1)]
    exact List.find?_eq_some_iff_getElem.2 ⟨h2, k, h1, rfl, fun j hj => by simpa using h3 j hj⟩
theorem QRel.get (h : QRel n q l) (u : Int) : qgetM q = rgetM l ∧ qgetE q = rgetE l ∧ QRel n (qget q u) (rget l u) := by
  have hf := h.find
  rw [find_idx] at hf
  unfold qgetM qgetE qget rgetM rgetE rget
  change ((qgetI q).map (itAt q.l)).map toRi = _ at hf
  cases hq : qgetI q with
  | none =>
    rw [hq] at hf
    cases hr : rgetI l with
    | none => exact ⟨rfl, rfl, h⟩
    | some i => rw [hr] at hf; simp at hf
  | some k =>
    rw [hq] at hf
    cases hr : rgetI l with
    | none => rw [hr] at hf; simp at hf
    | some i =>
      rw [hr] at hf
      simp only [Option.map_some, Option.some.injEq] at hf
      obtain ⟨hk, _, _⟩ := List.findIdx?_eq_some_iff_getElem.1 hq
      have he : q.l[k]? = some (itAt q.l k) := by rw [itAt_of (List.getElem?_eq_getElem hk)]; exact List.getElem?_eq_getElem hk
      have hil : i < l.length := by
        obtain ⟨j, hj, hji⟩ := List.getElem_of_mem (List.mem_of_find?_eq_some hr)
        exact rord_lt (by rw [List.getElem?_eq_getElem hj, hji])
      have hi : l[i]? = some (rAt l i) := by rw [rAt_of (List.getElem?_eq_getElem hil)]; exact List.getElem?_eq_getElem hil
      have hmm : (itAt q.l k).m = (rAt l i).m := by rw [← hf]; rfl
      refine ⟨hmm, rfl, ?_⟩
      dsimp only
      by_cases hu : u < 0
      · rw [if_pos hu, if_neg (by omega)]
        refine h.part ((List.eraseIdx_sublist _ _).map _) ?_ ((List.eraseIdx_sublist _ _).map _)
        rw [erase_by_key (key := fun x : It => x.m.id) h.qids he, erase_by_key (key := fun x : Ri => x.m.id) h.ids hi, arr_filter, ← h.rel, List.filter_map, ← hmm]
        rfl
      · rw [if_neg hu, if_pos (by omega)]
        have e1 : (q.l.set k { itAt q.l k with got := u }) = q.l.map fun x => if x.m.id = (itAt q.l k).m.id then { x with got := u } else x := set_by_key (key := fun x : It => x.m.id) h.qids (fun x => { x with got := u }) he
        have e2 : (l.set i { rAt l i with got := u }) = l.map fun x => if x.m.id = (rAt l i).m.id then { x with got := u } else x := set_by_key (key := fun x : Ri => x.m.id) h.ids (fun x => { x with got := u }) hi
        refine h.part ?_ ?_ ?_
        · rw [e1, List.map_map]
          have : (ml ∘ fun x : It => if x.m.id = (itAt q.l k).m.id then { x with got := u } else x) = ml := by funext x; simp only [Function.comp]; split <;> rfl
          rw [this]; exact .refl _
        · rw [e1, e2, arr_map (fun e => by split <;> rfl), ← h.rel, List.map_map, List.map_map, ← hmm]
          congr 1
          funext x
          simp only [Function.comp]
          unfold toRi
          split
          · rfl
          · rfl
        · rw [e2, List.map_map]
          have : ((fun x : Ri => x.m) ∘ fun x : Ri => if x.m.id = (rAt l i).m.id then { x with got := u } else x) = fun x => x.m := by funext x; simp only [Function.comp]; split <;> rfl
          rw [this]; exact .refl _
theorem QRel.has (h : QRel n q l) (id : Int) : qhas q id = decide (0 ≤ rfind l id) := by
  have h1 : rfind l id = fidx (ridB id) l := rfl
  rw [h1, fidx_any, Bool.eq_iff_iff, List.any_eq_true]
  unfold qhas
  rw [List.any_eq_true]
  constructor
  · rintro ⟨e, he, hb⟩; exact ⟨toRi e, h.mem he, hb⟩
  · rintro ⟨e, he, hb⟩
    have := (arr_perm h.pris).mem_iff.2 he
    rw [← h.rel] at this
    obtain ⟨x, hx, rfl⟩ := List.mem_map.1 this
    exact ⟨x, hx, hb⟩
theorem QRel.take (h : QRel n q l) (id : Int) : qtakeM q id = rtakeM l id ∧ qtakeE q id = rtakeE l id ∧ QRel n (qtake q id) (rtake l id) := by
  unfold qtakeM qtakeE qtake rtakeM rtakeE rtake
  cases hq : qtakeI q id with
  | none =>
    cases hr : rtakeI l id with
    | none => exact ⟨rfl, rfl, h⟩
    | some i =>
      obtain ⟨hi, hb, _⟩ := List.findIdx?_eq_some_iff_getElem.1 hr
      have := (arr_perm h.pris).mem_iff.2 (List.getElem_mem hi)
      rw [← h.rel] at this
      obtain ⟨x, hx, hxe⟩ := List.mem_map.1 this
      have h2 := List.findIdx?_eq_none_iff.1 hq x hx
      rw [← hxe] at hb
      have : idB id x = true := hb
      rw [this] at h2; simp at h2
  | some k =>
    obtain ⟨hk, hkb, _⟩ := List.findIdx?_eq_some_iff_getElem.1 hq
    have he : q.l[k]? = some (itAt q.l k) := by rw [itAt_of (List.getElem?_eq_getElem hk)]; exact List.getElem?_eq_getElem hk
    have hkb2 : (itAt q.l k).m.id = id := by rw [itAt_of (List.getElem?_eq_getElem hk)]; simpa [idB] using hkb
    have hmem := h.mem (List.mem_of_getElem? he)
    cases hr : rtakeI l id with
    | none =>
      have h2 := List.findIdx?_eq_none_iff.1 hr _ hmem
      have : ridB id (toRi (itAt q.l k)) = true := by unfold ridB toRi; simp [hkb2]
      rw [this] at h2; simp at h2
    | some i =>
      obtain ⟨hil, hib, _⟩ := List.findIdx?_eq_some_iff_getElem.1 hr
      have hi : l[i]? = some (rAt l i) := by rw [rAt_of (List.getElem?_eq_getElem hil)]; exact List.getElem?_eq_getElem hil
      have hib2 : (rAt l i).m.id = id := by rw [rAt_of (List.getElem?_eq_getElem hil)]; simpa [ridB] using hib
      have hee : toRi (itAt q.l k) = rAt l i := key_eq (key := fun x : Ri => x.m.id) h.ids hmem (List.mem_of_getElem? hi) (by show (itAt q.l k).m.id = _; rw [hkb2, hib2])
      have hmm : (itAt q.l k).m = (rAt l i).m := by rw [← hee]; rfl
      refine ⟨hmm, rfl, ?_⟩
      dsimp only
      refine h.part ((List.eraseIdx_sublist _ _).map _) ?_ ((List.eraseIdx_sublist _ _).map _)
      rw [erase_by_key (key := fun x : It => x.m.id) h.qids he, erase_by_key (key := fun x : Ri => x.m.id) h.ids hi, arr_filter, ← h.rel, List.filter_map, ← hmm]
      rfl
theorem QRel.ends (h : QRel n q l) (u : Int) (back : Bool) : QRel n (qends q u back) (rends l u back) := by
  unfold qends rends
  by_cases hu : u < 0
  · rw [if_pos hu, if_pos hu]; exact h
  · rw [if_neg hu, if_neg hu]
    refine h.part ?_ ?_ ?_
    · rw [List.map_map]
      exact (List.filter_sublist).map _
    · rw [arr_map (f := rfree u) (fun _ => rfl), arr_filter, ← h.rel, List.filter_map, List.map_map, List.map_map]
      rfl
    · rw [List.map_map]
      exact (List.filter_sublist).map _
theorem QRel.there (h : QRel n q l) : qthere q = rthere l := by
  rw [rthere_arr, ← h.rel, List.filter_map, List.map_map]; rfl
theorem QRel.kept (h : QRel n q l) : qkept q = rkept l := by
  rw [rkept_arr, ← h.rel, List.filter_map, List.map_map]; rfl
theorem QRel.putE (h : QRel n q l) (m : Ms) : qputE q m = rputE l m := by
  unfold qputE rputE
  rw [h.has, h.len_eq]
  by_cases h2 : 0 ≤ rfind l m.id <;> simp [h2]
theorem QRel.fresh (h : QRel n q l) {id : Int} (hf : ¬ 0 ≤ rfind l id) : ∀ e ∈ l, e.m.id ≠ id := fun e he hh => by
  have h1 : rfind l id = fidx (ridB id) l := rfl
  have : l.any (ridB id) = true := List.any_eq_true.2 ⟨e, he, by simp [ridB, hh]⟩
  rw [← fidx_any, ← h1] at this
  exact hf (by simpa using this)
theorem QRel.put (h : QRel n q l) (m : Ms) (u : Int) : QRel (n + 1) (qput q m u) (rput l m u) := by
  unfold qput rput
  rw [h.putE]
  by_cases h0 : rputE l m = 0
  · rw [if_pos h0, if_pos h0]
    have hr : msRight m = true := by
      cases hm : msRight m with
      | true => rfl
      | false => unfold rputE at h0; rw [hm] at h0; simp at h0
    have hf : ¬ 0 ≤ rfind l m.id := fun hh => by unfold rputE at h0; rw [hr] at h0; simp [hh] at h0
    obtain ⟨_, _, h3, h4, _⟩ := msRight_parts hr
    exact h.pushed ⟨h3, h4⟩ (h.fresh hf) u
  · rw [if_neg h0, if_neg h0]; exact h.le (by omega)
theorem qrel_new : QRel 0 ⟨[], 0⟩ [] := ⟨rfl, .nil, (fun _ h => by cases h), (fun _ h => by cases h), by simp, by simp, by decide, by decide⟩
end
end WB
