/- the steps of the calculus: what lies in the parts of the base -/
import Derived.Test.YtjhogocabcdjbaaDoorWbKd
set_option linter.unusedSimpArgs false
set_option linter.unusedVariables false
namespace WB
open Go Go.RowKit
theorem St.clear {w0 w : World} : ∀ {L : List HP}, St w0 L w → St w0 [] w
  | [], h => h
  | _ :: _, h => St.clear h.drop
section
variable {P : Program} {ops : Array Oper} {d : Bool} {Q : Exit → Act → World → Prop} {n : Nat} {D : List Deferred} {w0 wX : World} {G : Env} {L LX R : List HP} {l : List (Kd × Oper)} {k : Kd}
  {t : Nat} {ty T E : TypeId} {pos : String} {af : Array Edge} {x : Operand} {v : Value} {i j off : Nat} {α : Type} {cf : α → List Value} {sz : Nat} {xs : List α} {e : α}
theorem KO.ldb (hw : St wX LX w0) {b : Nat} {cs : List Value} {fz : Nat × Nat} (hk : (!d || k != .pure) = true) (hx : ev G x = some (.pointer (some ⟨b, off, none⟩))) (hT : ∀ w, (isAgg T).run P w = .ok false w) (hp : Pick LX (blk b (.cells cs.toArray E fz)) R) (hc : cs[off]? = some v) (ht : Nat.blt t n = true)
    (h : KO P ops d Q n D w0 ((t, v) :: G) L l) : KO P ops d Q n D w0 G L ((k, ⟨some t, .load T x, ty, pos, af, none⟩) :: l) :=
  KO.ld0 hk hx hT (by rw [World.cell?, (hw.lookP hp).2]; simpa using hc) ht h
theorem KO.ldN0 {cs : Array Value} (hk : (!d || k != .pure) = true) {ad : Addr} (hx : ev G x = some (.pointer (some ad))) (hT : ∀ w, (isAgg T).run P w = .ok true w) (hn : ∀ w, (Go.sizeOf T).run P w = .ok sz w) (hsz : cs.size = sz) (hc : HasCells w0 ad cs.toList) (ht : Nat.blt t n = true)
    (h : KO P ops d Q n D w0 ((t, .agg cs) :: G) L l) : KO P ops d Q n D w0 G L ((k, ⟨some t, .load T x, ty, pos, af, none⟩) :: l) :=
  KO.ldN hk hx hT hn hsz (fun _ hs => hc.ext (Ext.of_below hs.below)) ht h
theorem KO.ldBb (hw : St wX LX w0) {b : Nat} {cs us : List Value} {fz : Nat × Nat} (hk : (!d || k != .pure) = true) (hx : ev G x = some (.pointer (some ⟨b, off, none⟩))) (hT : ∀ w, (isAgg T).run P w = .ok true w) (hn : ∀ w, (Go.sizeOf T).run P w = .ok sz w) (hp : Pick LX (blk b (.cells cs.toArray E fz)) R)
    (hu : (cs.drop off).take sz = us) (hsz : us.length = sz) (ht : Nat.blt t n = true)
    (h : KO P ops d Q n D w0 ((t, .agg us.toArray) :: G) L l) : KO P ops d Q n D w0 G L ((k, ⟨some t, .load T x, ty, pos, af, none⟩) :: l) :=
  KO.ldN0 hk hx hT hn (by simpa using hsz) (fun j c hj => by
    have hlk := (hw.lookP hp).2
    rw [show (us.toArray).toList = us from rfl, ← hu, List.getElem?_take] at hj
    split at hj
    · rw [List.getElem?_drop] at hj
      rw [Addr.add_lit, World.cell?, hlk]; simpa using hj
    · simp at hj) ht h
theorem KO.ldB0b (hw : St wX LX w0) {b : Nat} {cs : List Value} {fz : Nat × Nat} (hk : (!d || k != .pure) = true) (hx : ev G x = some (.pointer (some ⟨b, 0, none⟩))) (hT : ∀ w, (isAgg T).run P w = .ok true w) (hn : ∀ w, (Go.sizeOf T).run P w = .ok sz w) (hp : Pick LX (blk b (.cells cs.toArray E fz)) R)
    (hsz : cs.length = sz) (ht : Nat.blt t n = true) (h : KO P ops d Q n D w0 ((t, .agg cs.toArray) :: G) L l) : KO P ops d Q n D w0 G L ((k, ⟨some t, .load T x, ty, pos, af, none⟩) :: l) :=
  KO.ldBb hw hk hx hT hn hp (us := cs) (by rw [List.drop_zero, List.take_of_length_le (by omega)]) hsz ht h
theorem KO.ldEb (hw : St wX LX w0) {g len cap : Nat} (hk : (!d || k != .pure) = true) (hx : ev G x = some (.pointer (some ⟨g, i * sz + j, none⟩))) (hT : ∀ w, (isAgg T).run P w = .ok false w) (hp : Pick LX (SL E sz cf (.slice (some ⟨g, 0, none⟩) len cap) xs) R) (hsz : ∀ e, (cf e).length = sz)
    (he : xs[i]? = some e) (hj : Nat.blt j sz = true) (hv : (cf e)[j]? = some v) (ht : Nat.blt t n = true)
    (h : KO P ops d Q n D w0 ((t, v) :: G) L l) : KO P ops d Q n D w0 G L ((k, ⟨some t, .load T x, ty, pos, af, none⟩) :: l) :=
  KO.ld0 hk hx hT (by rw [SL_cells hsz (hw.pick hp) he j (by simpa [Nat.blt_eq] using hj), hv]) ht h
theorem KO.ldE0b (hw : St wX LX w0) {g len cap : Nat} (hk : (!d || k != .pure) = true) (hx : ev G x = some (.pointer (some ⟨g, i * sz, none⟩))) (hT : ∀ w, (isAgg T).run P w = .ok false w) (hp : Pick LX (SL E sz cf (.slice (some ⟨g, 0, none⟩) len cap) xs) R) (hsz : ∀ e, (cf e).length = sz)
    (he : xs[i]? = some e) (hj : Nat.blt 0 sz = true) (hv : (cf e)[0]? = some v) (ht : Nat.blt t n = true)
    (h : KO P ops d Q n D w0 ((t, v) :: G) L l) : KO P ops d Q n D w0 G L ((k, ⟨some t, .load T x, ty, pos, af, none⟩) :: l) :=
  KO.ldEb hw (j := 0) hk (by rw [Nat.add_zero]; exact hx) hT hp hsz he hj hv ht h
theorem KO.ldENb (hw : St wX LX w0) {g len cap : Nat} (hk : (!d || k != .pure) = true) (hx : ev G x = some (.pointer (some ⟨g, i * sz, none⟩))) (hT : ∀ w, (isAgg T).run P w = .ok true w) (hn : ∀ w, (Go.sizeOf T).run P w = .ok sz w) (hp : Pick LX (SL E sz cf (.slice (some ⟨g, 0, none⟩) len cap) xs) R) (hsz : ∀ e, (cf e).length = sz)
    (he : xs[i]? = some e) (ht : Nat.blt t n = true)
    (h : KO P ops d Q n D w0 ((t, .agg (cf e).toArray) :: G) L l) : KO P ops d Q n D w0 G L ((k, ⟨some t, .load T x, ty, pos, af, none⟩) :: l) :=
  KO.ldN0 hk hx hT hn (by simpa using hsz e) (fun j c hj => by
    have hjs : j < sz := by rw [← hsz e]; exact (List.getElem?_eq_some_iff.1 hj).1
    rw [Addr.add_lit, SL_cells hsz (hw.pick hp) he j hjs]; exact hj) ht h
theorem KO.ldEPb (hw : St wX LX w0) {g len cap m : Nat} {us : List Value} (hk : (!d || k != .pure) = true) (hx : ev G x = some (.pointer (some ⟨g, i * sz + j, none⟩))) (hT : ∀ w, (isAgg T).run P w = .ok true w) (hn : ∀ w, (Go.sizeOf T).run P w = .ok m w) (hp : Pick LX (SL E sz cf (.slice (some ⟨g, 0, none⟩) len cap) xs) R) (hsz : ∀ e, (cf e).length = sz)
    (he : xs[i]? = some e) (hu : ((cf e).drop j).take m = us) (hm : us.length = m) (ht : Nat.blt t n = true)
    (h : KO P ops d Q n D w0 ((t, .agg us.toArray) :: G) L l) : KO P ops d Q n D w0 G L ((k, ⟨some t, .load T x, ty, pos, af, none⟩) :: l) :=
  KO.ldN0 hk hx hT hn (by simpa using hm) (fun q c hj => by
    rw [show (us.toArray).toList = us from rfl, ← hu, List.getElem?_take] at hj
    split at hj
    · rw [List.getElem?_drop] at hj
      have hjs : j + q < sz := by rw [← hsz e]; exact (List.getElem?_eq_some_iff.1 hj).1
      rw [Addr.add_lit, Nat.add_assoc, SL_cells hsz (hw.pick hp) he (j + q) hjs]; exact hj
    · simp at hj) ht h
end
section
variable {P : Program} {f : FuncId} {args : Array Value} {w0 w : World} {L L' : List HP} {v : Value}
/-- a contract that keeps what was there, over the base where it is called -/
theorem KE.rebase (h : KE P f args w0 L (fun u M => u = v ∧ M = L)) (hw : St w0 L w) : KE P f args w L' (fun u M => u = v ∧ M = L') := fun w' hw' =>
  (h w' (hw.below_step hw'.below)).mono fun _ _ ⟨u, _, he, ⟨hu, _⟩, _, hb⟩ => ⟨u, L', he, ⟨hu, rfl⟩, hw'.below_step hb, hb⟩
/-- the same contract, whatever else lies there -/
theorem KE.only (h : KE P f args w0 L (fun u M => u = v ∧ M = L)) (hs : ∀ w, St w0 L' w → St w0 L w) : KE P f args w0 L' (fun u M => u = v ∧ M = L') := fun w' hw' =>
  (h w' (hs w' hw')).mono fun _ _ ⟨u, _, he, ⟨hu, _⟩, _, hb⟩ => ⟨u, L', he, ⟨hu, rfl⟩, hw'.below_step hb, hb⟩
end
/-- the first place where p holds; -1: none -/
def fidx {α : Type} (p : α → Bool) (l : List α) : Int := match l.findIdx? p with | some k => (k : Int) | none => -1
theorem fidx_hit {α : Type} {p : α → Bool} {l : List α} {k : Nat} {e : α} (hk : l[k]? = some e) (hp : p e = true) (hn : ∀ j u, j < k → l[j]? = some u → p u = false) : fidx p l = k := by
  have : l.findIdx? p = some k := by
    rw [List.findIdx?_eq_some_iff_getElem]
    obtain ⟨hlt, he⟩ := List.getElem?_eq_some_iff.1 hk
    exact ⟨hlt, by rw [he]; exact hp, fun j hj => by
      have := hn j l[j] hj (List.getElem?_eq_getElem _)
      simp [this]⟩
  rw [fidx, this]
theorem fidx_miss {α : Type} {p : α → Bool} {l : List α} (hn : ∀ (j : Nat) (u : α), l[j]? = some u → p u = false) : fidx p l = -1 := by
  have : l.findIdx? p = none := by
    rw [List.findIdx?_eq_none_iff]
    intro x hx
    obtain ⟨j, hj, rfl⟩ := List.getElem_of_mem hx
    exact hn j _ (List.getElem?_eq_getElem hj)
  rw [fidx, this]
theorem fidx_nonneg {α : Type} {p : α → Bool} {l : List α} (h : 0 ≤ fidx p l) : ∃ (k : Nat) (e : α), fidx p l = (k : Int) ∧ l[k]? = some e ∧ p e = true ∧ k < l.length ∧ l.findIdx? p = some k := by
  unfold fidx at h ⊢
  cases hf : l.findIdx? p with
  | none => rw [hf] at h; simp at h
  | some k =>
    obtain ⟨hlt, hp, _⟩ := List.findIdx?_eq_some_iff_getElem.1 hf
    exact ⟨k, l[k], rfl, List.getElem?_eq_getElem hlt, hp, hlt, rfl⟩
theorem fidx_neg {α : Type} {p : α → Bool} {l : List α} (h : fidx p l < 0) : l.findIdx? p = none := by
  unfold fidx at h
  cases hf : l.findIdx? p with
  | none => rfl
  | some k => rw [hf] at h; simp only at h; omega
end WB
namespace WB
theorem fidx_any {α : Type} (p : α → Bool) (l : List α) : decide (0 ≤ fidx p l) = l.any p := by
  cases hf : l.findIdx? p with
  | none =>
    have h1 : l.any p = false := by
      rw [List.any_eq_false]; intro x hx
      have := List.findIdx?_eq_none_iff.1 hf x hx
      simp [this]
    simp [fidx, hf, h1]
  | some k =>
    obtain ⟨hlt, hp, _⟩ := List.findIdx?_eq_some_iff_getElem.1 hf
    have h1 : l.any p = true := List.any_eq_true.2 ⟨l[k], List.getElem_mem hlt, hp⟩
    simp [fidx, hf, h1]
end WB
namespace WB
open Go
theorem KC.pre {P : Program} {f : FuncId} {args : Array Value} {w0 : World} {L : List HP} {R : Value → List HP → Prop} {p : Prop} (hs : ∀ w, St w0 L w → p) (h : p → KC P f args w0 L R) : KC P f args w0 L R := fun w hw => h (hs w hw) w hw
theorem KE.pre {P : Program} {f : FuncId} {args : Array Value} {w0 : World} {L : List HP} {R : Value → List HP → Prop} {p : Prop} (hs : ∀ w, St w0 L w → p) (h : p → KE P f args w0 L R) : KE P f args w0 L R := fun w hw => h (hs w hw) w hw
theorem KC.perm {P : Program} {f : FuncId} {args : Array Value} {w0 : World} {L L' : List HP} {R : Value → List HP → Prop} (hs : ∀ w, St w0 L w → St w0 L' w) (h : KC P f args w0 L' R) : KC P f args w0 L R := fun w hw => h w (hs w hw)
theorem KE.perm {P : Program} {f : FuncId} {args : Array Value} {w0 : World} {L L' : List HP} {R : Value → List HP → Prop} (hs : ∀ w, St w0 L w → St w0 L' w) (h : KE P f args w0 L' R) : KE P f args w0 L R := fun w hw => h w (hs w hw)
end WB
namespace WB
theorem take_filter_of_findIdx {α : Type} {p : α → Bool} : ∀ {l : List α} {k : Nat}, l.findIdx? p = some k → (l.take (k + 1)).filter (fun e => !p e) = l.take k
  | [], k, h => by simp at h
  | a :: l, k, h => by
    rw [List.findIdx?_cons] at h
    by_cases ha : p a = true
    · rw [if_pos ha] at h
      simp only [Option.some.injEq] at h; subst h
      simp [ha]
    · rw [if_neg ha] at h
      cases hf : l.findIdx? p with
      | none => rw [hf] at h; simp at h
      | some j =>
        rw [hf] at h
        simp only [Option.map_some, Option.some.injEq] at h
        subst h
        simp [ha, take_filter_of_findIdx hf]
theorem take_succ_some {α : Type} {l : List α} {k : Nat} {e : α} (h : l[k]? = some e) : l.take (k + 1) = l.take k ++ [e] := by
  rw [List.take_add_one, h]; rfl
end WB
namespace WB
open Go Go.RowKit
/-- a slice that can be read -/
def RdS {α : Type} (w : World) (sz : Nat) (cf : α → List Value) (v : Value) (xs : List α) : Prop :=
  ∃ a cap, v = .slice a xs.length cap ∧ (0 < xs.length → ∃ g, a = some ⟨g, 0, none⟩) ∧ ∀ g, a = some ⟨g, 0, none⟩ → ∀ (i : Nat) (e : α), xs[i]? = some e → HasCells w ⟨g, i * sz, none⟩ (cf e)
section
variable {w0 w w1 : World} {L R LX RX : List HP} {E : TypeId} {α : Type} {cf : α → List Value} {sz : Nat} {xs : List α} {v : Value}
theorem RdS.ext (h : RdS w sz cf v xs) (e : Ext w w1) : RdS w1 sz cf v xs := by
  obtain ⟨a, cap, h1, h2, h3⟩ := h
  exact ⟨a, cap, h1, h2, fun g hg i x hx => (h3 g hg i x hx).ext e⟩
theorem RdS.of (hsz : ∀ e, (cf e).length = sz) (hp : Pick L (SL E sz cf v xs) R) (w : World) (hw : St w0 L w) : RdS w sz cf v xs := by
  have h := hw.pick hp
  obtain ⟨a, cap, rfl, ha⟩ := SL_form h
  refine ⟨a, cap, rfl, ha, fun g hg i e he j c hj => ?_⟩
  subst hg
  have hjs : j < sz := by rw [← hsz e]; exact (List.getElem?_eq_some_iff.1 hj).1
  rw [Addr.add_lit, SL_cells hsz h he j hjs]; exact hj
theorem RdS.base (h : RdS w0 sz cf v xs) (w : World) (hw : St w0 L w) : RdS w sz cf v xs := h.ext (Ext.of_below hw.below)
end
end WB
