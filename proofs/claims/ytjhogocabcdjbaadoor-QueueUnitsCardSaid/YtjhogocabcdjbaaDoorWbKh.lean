/- the steps of the calculus: results that lie in memory -/
import Derived.Test.YtjhogocabcdjbaaDoorWbKg
set_option linter.unusedSimpArgs false
set_option linter.unusedVariables false
namespace WB
open Go Go.RowKit
section
variable {P : Program} {fn : Func} {R : Ending → World → Prop} {n : Nat} {w0 : World} {G : Env} {L M : List HP} {v v1 v2 v3 : Value} {t t1 t2 t3 : Nat} {T E : TypeId} {b : Nat} {cs : List Value} {fz : Nat × Nat}
theorem resC (h1 : envAt G t1 = some (.pointer (some ⟨b, 0, none⟩))) (hT : ∀ w, (isAgg T).run P w = .ok true w) (hn : ∀ w, (Go.sizeOf T).run P w = .ok cs.length w) (hp : Pick L (blk b (.cells cs.toArray E fz)) M) (a : Act) (w : World) (ha : Knows n [] G a) (hw : St w0 L w) :
    (loadVar T ⟨b, 0, none⟩).run P w = .ok (.agg cs.toArray) w := by
  refine run_load_agg (hT w) (hn w) fun j c hj => ?_
  rw [Addr.add_lit, World.cell?, (hw.lookP hp).2]
  simpa using hj
theorem KQ.retCT (hr : fn.results = #[.cell t1 T, .tmp t2]) (h1 : envAt G t1 = some (.pointer (some ⟨b, 0, none⟩))) (hT : ∀ w, (isAgg T).run P w = .ok true w) (hp : Pick L (blk b (.cells cs.toArray E fz)) M) (hn : ∀ w, (Go.sizeOf T).run P w = .ok cs.length w)
    (h2 : envAt G t2 = some v2) (h : ∀ w, St w0 L w → R (.returned (.tuple #[.agg cs.toArray, v2])) w) : KQ (bodyPost P fn R) .ret n [] w0 G L :=
  KQ.fin (fun a w ha hw => by
    have hl := resC (P := P) h1 hT hn hp a w ha hw
    simp [results, hr, Array.getD_eq_getD_getElem?, ha.get _ _ h1, ha.get _ _ h2, asAddr, hl]) h
theorem KQ.retC (hr : fn.results = #[.cell t1 T]) (h1 : envAt G t1 = some (.pointer (some ⟨b, 0, none⟩))) (hT : ∀ w, (isAgg T).run P w = .ok true w) (hp : Pick L (blk b (.cells cs.toArray E fz)) M) (hn : ∀ w, (Go.sizeOf T).run P w = .ok cs.length w)
    (h : ∀ w, St w0 L w → R (.returned (.agg cs.toArray)) w) : KQ (bodyPost P fn R) .ret n [] w0 G L :=
  KQ.fin (fun a w ha hw => by
    have hl := resC (P := P) h1 hT hn hp a w ha hw
    simp [results, hr, Array.getD_eq_getD_getElem?, ha.get _ _ h1, asAddr, hl]) h
end
theorem KC.of_KE {P : Program} {f : FuncId} {args : Array Value} {w0 : World} {L : List HP} {R : Value → List HP → Prop} (h : KE P f args w0 L R) : KC P f args w0 L R := h.kc
end WB
namespace WB
open Go Go.RowKit
/-- parts over parts -/
theorem St.stack {w0 w w' : World} {L M : List HP} (hw : St w0 L w) (hs : St w M w') : St w0 (M ++ L) w' := by
  refine ⟨hs.os.trans hw.os, hs.tape.trans hw.tape, hs.output.trans hw.output, Nat.le_trans hw.size hs.size, fun k hk => ?_, ?_⟩
  · rw [hs.block k (Nat.lt_of_lt_of_le hk hw.size)]; exact hw.block k hk
  · obtain ⟨h1, hh1, s1⟩ := hw.own
    obtain ⟨h2, hh2, s2⟩ := hs.own
    have hlt : ∀ k o, h1 k = some o → k < w.heap.size := fun k o hk => (Array.getElem?_eq_some_iff.1 (hh1 k o hk).2).1
    refine ⟨uni h2 h1, fun k o hk => ?_, seps_append.2 ⟨h2, h1, fun k => ?_, rfl, s2, s1⟩⟩
    · simp only [uni] at hk
      cases e2 : h2 k with
      | some v =>
        rw [e2] at hk; simp only [Option.some_or, Option.some.injEq] at hk; subst hk
        exact ⟨Nat.le_trans hw.size (hh2 k v e2).1, (hh2 k v e2).2⟩
      | none =>
        rw [e2] at hk; simp only [Option.none_or] at hk
        exact ⟨(hh1 k o hk).1, by rw [hs.block k (hlt k o hk)]; exact (hh1 k o hk).2⟩
    · cases e1 : h1 k with
      | none => exact .inr rfl
      | some o =>
        left
        cases e2 : h2 k with
        | none => rfl
        | some v => have h3 := (hh2 k v e2).1; have h4 := hlt k o e1; omega
theorem SL_nil {w0 w : World} {L : List HP} {α : Type} {E : TypeId} {sz : Nat} {cf : α → List Value} (h : St w0 L w) : St w0 (SL E sz cf (.slice none 0 0) ([] : List α) :: L) w := h.osl_nil
end WB
