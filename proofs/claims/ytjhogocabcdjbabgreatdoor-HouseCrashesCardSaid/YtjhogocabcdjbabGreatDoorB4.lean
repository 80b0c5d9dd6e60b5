import Derived.Maps.RangeRun
import Derived.Shelf.SlSortFuncK.WholeK
import Derived.Shelf.GgSortFunc.Tiny
import Derived.Lib.AppendIntMem
import Derived.Sort.EncStr
import Derived.Test.YtjhogocabcdjbabGreatDoorB3
set_option linter.unusedSimpArgs false
set_option linter.unusedVariables false
/- house: place, Put, Get -/
namespace Go.Proofs.YtjhogocabcdjbabGreatDoor
open Go Go.RowKit WB
theorem hoP_parts {w0 w : World} {bh bd : Nat} {H : Ho} {L : List HP} {V : HoV} (hV : HoVL V H) {cs : List Value} {nv : Value} {l : List Nm} {m : List (ByteArray × Value)} {mb : Nat} {ps : List Nat} {a : List Qu} {p1 p2 bs : List Value} {u1 : List (List (Ms × Int))} {u2 : List (List (Int × ByteArray))} {ba : List (List Int)}
    (h : St w0 (blk bh (.cells cs.toArray 133 (0, 0)) :: nmS nv l :: omapK Value.string mb m :: fam quP ps a :: fam putsS p1 u1 :: fam getsS p2 u2 :: fam batS bs ba :: L) w)
    (e1 : cs = hoC bd V H) (e2 : nv = V.nv) (e3 : l = H.names) (e4 : m = mapE V H) (e5 : mb = V.mb) (e6 : ps = V.ps) (e7 : a = H.all) (e8 : p1 = V.us.map (·.1)) (e9 : u1 = H.units.map (·.puts)) (e10 : p2 = V.us.map (·.2)) (e11 : u2 = H.units.map (·.gets)) (e12 : bs = V.bs) (e13 : ba = H.batch) :
    St w0 (hoP bh bd H :: L) w := by
  subst e1 e2 e3 e4 e5 e6 e7 e8 e9 e10 e11 e12 e13
  exact hoP_mk V hV h
theorem flat_get : ∀ (us : List (Value × Value)) (u : Nat) (p : Value × Value), us[u]? = some p → (us.flatMap (fun p => [p.1, p.2]))[2 * u]? = some p.1 ∧ (us.flatMap (fun p => [p.1, p.2]))[2 * u + 1]? = some p.2
  | [], _, _, h => by simp at h
  | a :: us, 0, p, h => by simp at h; subst h; exact ⟨rfl, rfl⟩
  | a :: us, u + 1, p, h => by
    have ih := flat_get us u p (by simpa using h)
    rw [List.flatMap_cons, show 2 * (u + 1) = 2 * u + 2 by omega]
    exact ⟨ih.1, ih.2⟩
theorem flat_set : ∀ (us : List (Value × Value)) (u : Nat) (p : Value × Value) (v : Value), us[u]? = some p → (us.flatMap (fun p => [p.1, p.2])).set (2 * u) v = (us.set u (v, p.2)).flatMap (fun p => [p.1, p.2]) ∧ (us.flatMap (fun p => [p.1, p.2])).set (2 * u + 1) v = (us.set u (p.1, v)).flatMap (fun p => [p.1, p.2])
  | [], _, _, _, h => by simp at h
  | a :: us, 0, p, v, h => by simp at h; subst h; exact ⟨rfl, rfl⟩
  | a :: us, u + 1, p, v, h => by
    have ih := flat_set us u p v (by simpa using h)
    rw [List.flatMap_cons, show 2 * (u + 1) = 2 * u + 2 by omega, List.set_cons_succ, List.set_cons_succ, List.flatMap_cons, List.flatMap_cons, ← ih.1, ← ih.2]
    exact ⟨rfl, rfl⟩
theorem flat_len (us : List (Value × Value)) : (us.flatMap (fun p => [p.1, p.2])).length = 2 * us.length := by
  induction us with
  | nil => rfl
  | cons a l ih => rw [List.flatMap_cons, List.length_append, ih]; simp; omega
theorem hoC_split (bd : Nat) (V : HoV) (H : Ho) : hoC bd V H = (([.int .i64 H.id, ptrV bd, .int .i64 (H.used : Nat), .bool H.down, .int .i64 H.torn, .int .i64 H.next, V.nv, .map (some V.mb)] : List Value) ++ (V.ps.take 4).map ptrV) ++ (V.us.flatMap (fun p => [p.1, p.2]) ++ (V.bs ++ (H.sent.map (Value.int .i64) ++ H.arrived.map (Value.int .i64)))) := by
  unfold hoC; simp
theorem hoC_unit {bd : Nat} {V : HoV} {H : Ho} (hV : HoVL V H) {u : Nat} {p : Value × Value} (hp : V.us[u]? = some p) :
    (hoC bd V H)[12 + 2 * u]? = some p.1 ∧ (hoC bd V H)[13 + 2 * u]? = some p.2 ∧ (∀ v, (hoC bd V H).set (12 + 2 * u) v = hoC bd { V with us := V.us.set u (v, p.2) } H) ∧ (∀ v, (hoC bd V H).set (13 + 2 * u) v = hoC bd { V with us := V.us.set u (p.1, v) } H) := by
  have hps := hV.ps
  have hu := (List.getElem?_eq_some_iff.1 hp).1
  have h12 : (([.int .i64 H.id, ptrV bd, .int .i64 (H.used : Nat), .bool H.down, .int .i64 H.torn, .int .i64 H.next, V.nv, .map (some V.mb)] : List Value) ++ (V.ps.take 4).map ptrV).length = 12 := by simp [hps]
  have hfl := flat_len V.us
  obtain ⟨g1, g2⟩ := flat_get V.us u p hp
  have s1 := fun v => (flat_set V.us u p v hp).1
  have s2 := fun v => (flat_set V.us u p v hp).2
  simp only [hoC_split]
  generalize ([.int .i64 H.id, ptrV bd, .int .i64 (H.used : Nat), .bool H.down, .int .i64 H.torn, .int .i64 H.next, V.nv, .map (some V.mb)] : List Value) ++ (V.ps.take 4).map ptrV = A at h12
  refine ⟨?_, ?_, fun v => ?_, fun v => ?_⟩
  · rw [List.getElem?_append_right (by omega), h12, show 12 + 2 * u - 12 = 2 * u by omega, List.getElem?_append_left (by omega), g1]
  · rw [List.getElem?_append_right (by omega), h12, show 13 + 2 * u - 12 = 2 * u + 1 by omega, List.getElem?_append_left (by omega), g2]
  · rw [List.set_append_right _ _ (by omega), h12, show 12 + 2 * u - 12 = 2 * u by omega, List.set_append_left _ _ (by omega), s1]
  · rw [List.set_append_right _ _ (by omega), h12, show 13 + 2 * u - 12 = 2 * u + 1 by omega, List.set_append_left _ _ (by omega), s2]
def plV (V : HoV) (H : Ho) (s : ByteArray) : Value := if (plR H s).2.2 ≠ 0 then .pointer none else match V.ps[plJ H s]? with
  | some p => ptrV p
  | none => .pointer none
set_option maxRecDepth 100000 in
theorem place_c (w0 : World) (L : List HP) (bh bd n : Nat) (V : HoV) (H : Ho) (s : ByteArray) (hV : HoVL V H) (hB : HoB n H) :
    KC Tryz.prog 55 #[ptrV bh, .string s] w0 (hoX bh bd V H L) (fun u M => u = .tuple #[plV V H s, .string (plR H s).1, .int .i64 (plR H s).2.1, errV 70 (plR H s).2.2] ∧ M = hoX bh bd V H L) := by
  have hnl := hB.nlen
  have hso := hB.sorted
  have hps := hV.ps
  have hlt := plJ_lt hB (s := s)
  have fin : ∀ (a : Value) (b : ByteArray) (c d : Int), plV V H s = a → plR H s = (b, c, d) → (Value.tuple #[a, .string b, .int .i64 c, errV 70 d]) = .tuple #[plV V H s, .string (plR H s).1, .int .i64 (plR H s).2.1, errV 70 (plR H s).2.2] := fun a b c d h1 h2 => by rw [h1, h2]
  refine KC.mk (n := 54) Tryz.func55 rfl Tryz.ntmps55 (by simp) ?_
  repeat ((with_reducible refine K.seq ?_))
  refine K.reg ?_
  refine KO.as rfl rfl ?_
  refine KO.as rfl rfl ?_
  refine KO.as rfl rfl ?_
  refine KO.as rfl rfl ?_
  refine KO.nil ?_
  repeat (first | (with_reducible refine K.seq ?_) | (with_reducible refine KQ.next ?_))
  refine K.reg ?_
  refine KO.mv rfl rfl ?_
  refine KO.nc rfl rfl ?_
  refine KO.fo0 (off := 6) rfl Tryz.runUnderlying133 rfl rfl Tryz.sizeOf125 rfl ?_
  refine KO.mv rfl rfl ?_
  refine KO.ce (cp := []) rfl rfl rfl Tryz.call144 rfl (resolve_e w0 _ _ _ bh 6 (hoC bd V H) 133 V.nv H.names s (by with_reducible (repeat (exact Pick.head))) (by with_reducible (repeat (exact Pick.head))) rfl (by omega) hso) ?_; rintro v' L' ⟨rfl, rfl⟩
  refine KO.mv rfl rfl ?_
  refine KO.extrL rfl (by exact rfl) rfl ?_
  refine KO.extrL rfl (by exact rfl) rfl ?_
  refine KO.extrL rfl (by exact rfl) rfl ?_
  refine KO.as rfl rfl ?_
  refine KO.as rfl rfl ?_
  refine KO.as rfl rfl ?_
  refine KO.nil ?_
  repeat (first | (with_reducible refine K.seq ?_) | (with_reducible refine KQ.next ?_) | (with_reducible refine K.block ?_))
  obtain ⟨⟨t, k, e⟩, hr⟩ : ∃ r, resN H.names (H.names.length + 1) s = r := ⟨_, rfl⟩
  have hpR : plR H s = (if e ≠ 0 then (⟨#[]⟩, 0, e) else if k < 0 ∨ k = H.id then if localB H.names t = false then (⟨#[]⟩, 0, 7) else (t, -1, 0) else (t, k, 0)) := by unfold plR; rw [hr]
  rw [hr]
  refine K.reg ?_
  refine KO.mv rfl rfl ?_
  refine KO.neN rfl (by kernel_rfl) rfl ?_
  refine KO.as rfl rfl ?_
  refine KO.nil ?_
  repeat ((with_reducible refine KQ.next ?_))
  refine K.condD rfl (fun h => ?_) (fun h => ?_)
  · rw [if_pos h] at hpR
    repeat ((with_reducible refine K.seq ?_))
    refine K.reg ?_
    refine KO.mv rfl rfl ?_
    refine KO.as rfl rfl ?_
    refine KO.as rfl rfl ?_
    refine KO.as rfl rfl ?_
    refine KO.as rfl rfl ?_
    refine KO.nil ?_
    repeat (first | (with_reducible refine KQ.next ?_) | (with_reducible refine KQ.then_ret ?_) | (with_reducible refine KQ.blk_ret ?_) | (with_reducible refine K.ret ?_))
    refine KQ.ret4 rfl rfl rfl rfl rfl (fun w' hs' => ⟨_, _, rfl, ⟨fin _ _ _ _ ?_ hpR, rfl⟩, hs'⟩)
    unfold plV; rw [hpR, if_pos h]
  rw [if_neg h] at hpR
  have he0 : e = 0 := by simpa using h
  subst he0
  repeat ((with_reducible refine K.seq ?_))
  refine K.cut (fun _ : Unit => [(0, ptrV bh), (5, .string t), (6, .int .i64 k), (21, .bool (decide (k < 0 ∨ k = H.id)))]) (fun _ => hoX bh bd V H L) (fun _ => True) ?_ ?_
  · by_cases hk0 : k < 0
    · refine K.reg ?_
      refine KO.mv rfl rfl ?_
      refine KO.lss rfl rfl rfl ?_
      refine KO.mv rfl rfl ?_
      (refine KO.no rfl rfl ?_ rfl ?_; (focus (simp only [decide_eq_true_eq, decide_eq_false_iff_not, Bool.not_eq_true, Bool.not_true, Bool.not_false, ne_eq]; omega)))
      (refine KO.no rfl rfl ?_ rfl ?_; (focus (simp only [decide_eq_true_eq, decide_eq_false_iff_not, Bool.not_eq_true, Bool.not_true, Bool.not_false, ne_eq]; omega)))
      (refine KO.no rfl rfl ?_ rfl ?_; (focus (simp only [decide_eq_true_eq, decide_eq_false_iff_not, Bool.not_eq_true, Bool.not_true, Bool.not_false, ne_eq]; omega)))
      (refine KO.no rfl rfl ?_ rfl ?_; (focus (simp only [decide_eq_true_eq, decide_eq_false_iff_not, Bool.not_eq_true, Bool.not_true, Bool.not_false, ne_eq]; omega)))
      (refine KO.no rfl rfl ?_ rfl ?_; (focus (simp only [decide_eq_true_eq, decide_eq_false_iff_not, Bool.not_eq_true, Bool.not_true, Bool.not_false, ne_eq]; omega)))
      (refine KO.no rfl rfl ?_ rfl ?_; (focus (simp only [decide_eq_true_eq, decide_eq_false_iff_not, Bool.not_eq_true, Bool.not_true, Bool.not_false, ne_eq]; omega)))
      (refine KO.pickT rfl ?_ rfl rfl ?_; (focus (simp only [decide_eq_true_eq, decide_eq_false_iff_not, Bool.not_eq_true, Bool.not_true, Bool.not_false, ne_eq]; omega)))
      refine KO.as rfl rfl ?_
      refine KO.nil ?_
      exact KQ.mid () trivial ⟨rfl, rfl, rfl, by simp [hk0, envAt], trivial⟩ (fun w' hs' => hs')
    · refine K.reg ?_
      refine KO.mv rfl rfl ?_
      refine KO.lss rfl rfl rfl ?_
      refine KO.mv rfl rfl ?_
      (refine KO.on rfl rfl ?_ ?_; (focus (simp only [decide_eq_true_eq, decide_eq_false_iff_not, Bool.not_eq_true, Bool.not_true, Bool.not_false, ne_eq]; omega)); (refine KO.mv rfl rfl ?_))
      (refine KO.on rfl rfl ?_ ?_; (focus (simp only [decide_eq_true_eq, decide_eq_false_iff_not, Bool.not_eq_true, Bool.not_true, Bool.not_false, ne_eq]; omega)); (refine KO.mv rfl rfl ?_))
      (refine KO.on rfl rfl ?_ ?_; (focus (simp only [decide_eq_true_eq, decide_eq_false_iff_not, Bool.not_eq_true, Bool.not_true, Bool.not_false, ne_eq]; omega)); (refine KO.nc rfl rfl ?_))
      (refine KO.on rfl rfl ?_ ?_; (focus (simp only [decide_eq_true_eq, decide_eq_false_iff_not, Bool.not_eq_true, Bool.not_true, Bool.not_false, ne_eq]; omega)); (refine KO.fo0 (off := 0) rfl Tryz.runUnderlying133 rfl rfl Tryz.sizeOf3 rfl ?_))
      refine KO.on rfl rfl (by (simp; omega)) ?_; refine KO.ldAt (i := 0) rfl rfl Tryz.isAgg3 (by with_reducible (repeat (exact Pick.head))) rfl rfl rfl ?_
      (refine KO.on rfl rfl ?_ ?_; (focus (simp only [decide_eq_true_eq, decide_eq_false_iff_not, Bool.not_eq_true, Bool.not_true, Bool.not_false, ne_eq]; omega)); (refine KO.eqI rfl rfl rfl ?_))
      (refine KO.pickF rfl ?_ rfl rfl ?_; (focus (simp only [decide_eq_true_eq, decide_eq_false_iff_not, Bool.not_eq_true, Bool.not_true, Bool.not_false, ne_eq]; omega)))
      refine KO.as rfl rfl ?_
      refine KO.nil ?_
      exact KQ.mid () trivial ⟨rfl, rfl, rfl, by simp [hk0, envAt], trivial⟩ (fun w' hs' => hs')
  rintro ⟨⟩ -
  refine K.condD rfl (fun hk => ?_) (fun hk => ?_)
  · rw [if_pos hk] at hpR
    repeat ((with_reducible refine K.seq ?_))
    refine K.reg ?_
    refine KO.mv rfl rfl ?_
    refine KO.nc rfl rfl ?_
    refine KO.fo0 (off := 6) rfl Tryz.runUnderlying133 rfl rfl Tryz.sizeOf125 rfl ?_
    refine KO.mv rfl rfl ?_
    refine KO.ce (cp := []) rfl rfl rfl Tryz.call57 rfl (local_e w0 _ _ _ bh 6 (hoC bd V H) 133 V.nv H.names t (by with_reducible (repeat (exact Pick.head))) (by with_reducible (repeat (exact Pick.head))) rfl (by omega) hso) ?_; rintro v' L' ⟨rfl, rfl⟩
    refine KO.not rfl rfl ?_
    refine KO.nil ?_
    repeat ((with_reducible refine KQ.next ?_))
    cases hloc : localB H.names t with
    | false =>
      rw [hloc] at hpR
      rw [if_pos rfl] at hpR
      refine K.condT rfl rfl ?_
      repeat ((with_reducible refine K.seq ?_))
      refine K.reg ?_
      refine KO.mki rfl (by kernel_rfl) rfl ?_
      refine KO.as rfl rfl ?_
      refine KO.as rfl rfl ?_
      refine KO.as rfl rfl ?_
      refine KO.as rfl rfl ?_
      refine KO.nil ?_
      repeat (first | (with_reducible refine KQ.next ?_) | (with_reducible refine KQ.then_ret ?_) | (with_reducible refine KQ.blk_ret ?_) | (with_reducible refine K.ret ?_))
      refine KQ.ret4 rfl rfl rfl rfl rfl (fun w' hs' => ⟨_, _, rfl, ⟨fin _ _ _ 7 ?_ hpR, rfl⟩, hs'⟩)
      unfold plV; rw [hpR]; rfl
    | true =>
      rw [hloc] at hpR
      rw [if_neg (by simp)] at hpR
      obtain ⟨h1, h2, -⟩ := hlt (by rw [hpR])
      obtain ⟨-, i, hi, hj⟩ := h2 (by rw [hpR]; exact (by decide : (-1 : Int) < 0))
      rw [hpR] at hi
      have hg := mapE_get hV t
      have hil := (qI_lt hi).1
      obtain ⟨p, hp⟩ : ∃ p, V.ps[4 + i]? = some p := ⟨_, List.getElem?_eq_getElem (by omega)⟩
      rw [show H.qI t = some i from hi] at hg
      simp only [Option.bind_some, hp, Option.map_some] at hg
      refine K.condF rfl rfl ?_
      repeat (first | (with_reducible refine K.seq ?_) | (with_reducible refine KQ.next ?_) | (with_reducible refine K.skip ?_))
      refine K.reg ?_
      refine KO.mv rfl rfl ?_
      refine KO.nc rfl rfl ?_
      refine KO.fo0 (off := 7) rfl Tryz.runUnderlying133 rfl rfl Tryz.sizeOf123 rfl ?_
      refine KO.ldAt (i := 7) rfl rfl Tryz.isAgg123 (by with_reducible (repeat (exact Pick.head))) rfl rfl rfl ?_
      refine KO.mv rfl rfl ?_
      refine KO.lkm strKey t rfl rfl rfl Tryz.underlying123 Tryz.underlying9 Tryz.zeroValue119 (by with_reducible (repeat (first | exact Pick.head | apply Pick.tail))) rfl ?_; rw [hg]
      refine KO.mv rfl rfl ?_
      refine KO.as rfl rfl ?_
      refine KO.as rfl rfl ?_
      refine KO.as rfl rfl ?_
      refine KO.as rfl rfl ?_
      refine KO.nil ?_
      repeat (first | (with_reducible refine KQ.next ?_) | (with_reducible refine KQ.then_ret ?_) | (with_reducible refine KQ.blk_ret ?_) | (with_reducible refine K.ret ?_))
      refine KQ.ret4 rfl rfl rfl rfl rfl (fun w' hs' => ⟨_, _, rfl, ⟨fin _ _ _ 0 ?_ hpR, rfl⟩, hs'⟩)
      unfold plV; rw [hj, hp, if_neg (by rw [hpR]; simp)]; rfl
  · rw [if_neg hk] at hpR
    obtain ⟨h1, -, h2⟩ := hlt (by rw [hpR])
    obtain ⟨h3, h4⟩ := h2 (by rw [hpR]; exact fun h => hk (.inl h))
    rw [hpR] at h4
    dsimp only at h4
    obtain ⟨p, hp⟩ : ∃ p, V.ps[plJ H s]? = some p := ⟨_, List.getElem?_eq_getElem (by omega)⟩
    have hw := hoC_way hV (bd := bd) h3 hp
    repeat (first | (with_reducible refine K.seq ?_) | (with_reducible refine KQ.next ?_) | (with_reducible refine KQ.blk_normal ?_) | (with_reducible refine K.skip ?_))
    refine K.reg ?_
    refine KO.mv rfl rfl ?_
    refine KO.mv rfl rfl ?_
    refine KO.nc rfl rfl ?_
    refine KO.fo0 (off := 8) rfl Tryz.runUnderlying133 rfl rfl Tryz.sizeOf126 rfl ?_
    refine KO.idxA (i := plJ H s) rfl rfl Tryz.runUnderlying126 Tryz.sizeOf119 h4 (by omega) rfl ?_
    refine KO.ldAt (i := 8 + plJ H s) rfl rfl Tryz.isAgg119 (by with_reducible (repeat (exact Pick.head))) (by rw [Addr.add_lit]; simp) hw rfl ?_
    refine KO.mv rfl rfl ?_
    refine KO.mv rfl rfl ?_
    refine KO.as rfl rfl ?_
    refine KO.as rfl rfl ?_
    refine KO.as rfl rfl ?_
    refine KO.as rfl rfl ?_
    refine KO.nil ?_
    repeat (first | (with_reducible refine KQ.next ?_) | (with_reducible refine K.ret ?_))
    refine KQ.ret4 rfl rfl rfl rfl rfl (fun w' hs' => ⟨_, _, rfl, ⟨fin _ _ _ 0 ?_ hpR, rfl⟩, hs'⟩)
    unfold plV; rw [hp, if_neg (by rw [hpR]; simp)]
/-- behind a change of one queue and one unit -/
theorem hoP_unit {w0 w : World} {bh bd : Nat} {H : Ho} {L : List HP} {V : HoV} (hV : HoVL V H) (j : Nat) (q : Qu) (u : Nat) (k : Int) (x : Unt) (p : Value × Value) {p1 p2 : List Value} {u1 : List (List (Ms × Int))} {u2 : List (List (Int × ByteArray))}
    (h : St w0 (blk bh (.cells (hoC bd { V with us := V.us.set u p } { H with next := k }).toArray 133 (0, 0)) :: nmS V.nv H.names :: omapK Value.string V.mb (mapE V H) :: fam quP V.ps (H.all.set j q) :: fam putsS p1 u1 :: fam getsS p2 u2 :: fam batS V.bs H.batch :: L) w)
    (e1 : p1 = (V.us.map (·.1)).set u p.1) (e2 : p2 = (V.us.map (·.2)).set u p.2) (e3 : u1 = (H.units.map (·.puts)).set u x.puts) (e4 : u2 = (H.units.map (·.gets)).set u x.gets) :
    St w0 (hoP bh bd (putU { H.setA j q with next := k } u x) :: L) w := by
  refine hoP_parts (V := { V with us := V.us.set u p }) ⟨?_, by simp [hV.us], hV.bs, ?_, ?_, ?_, ?_, ?_⟩ h ?_ rfl ?_ ?_ rfl rfl ?_ ?_ ?_ ?_ ?_ rfl ?_
  · unfold putU; dsimp only; rw [setA_qlen]; exact hV.ps
  · unfold putU; dsimp only; rw [setA_wlen]; exact hV.ways
  · unfold putU; dsimp only; rw [setA_units]; simp [hV.units]
  · unfold putU; dsimp only; rw [setA_batch]; exact hV.batch
  · unfold putU; dsimp only; rw [setA_sent]; exact hV.sent
  · unfold putU; dsimp only; rw [setA_arrived]; exact hV.arrived
  · unfold putU hoC; dsimp only; rw [setA_id, setA_used, setA_down, setA_torn, setA_sent, setA_arrived]
  · unfold putU; dsimp only; rw [setA_names]
  · unfold putU mapE; dsimp only; exact mEnt_fst _ _ _ (setA_fst j q).symm
  · exact (all_setA hV.ways j q).symm
  · rw [e1, List.map_set]
  · rw [e3]; unfold putU; dsimp only; rw [setA_units, List.map_set]
  · rw [e2, List.map_set]
  · rw [e4]; unfold putU; dsimp only; rw [setA_units, List.map_set]
  · unfold putU; dsimp only; rw [setA_batch]
theorem fam_same {α β : Type} {l : List α} {f : α → β} {i : Nat} {x : α} {y : β} (h : l[i]? = some x) (e : f x = y) : l.map f = (l.map f).set i y := by
  rw [← e, ← List.map_set, List.set_getElem_of h]
set_option maxRecDepth 100000 in
set_option maxHeartbeats 2000000 in
theorem hput_c (w0 : World) (L : List HP) (bh bd n : Nat) (H : Ho) (u : Int) (s : ByteArray) (pri : Int) (body : ByteArray) (hB : HoB n H) (hn : n < 90000) (hs : s.size ≤ maxLen) (hb : body.size ≤ maxLen) (hl : ∀ x ∈ H.units, x.puts.length ≤ 90000) :
    KC Tryz.prog 14 #[ptrV bh, .int .i64 u, .string s, .int .i64 pri, .string body] w0 (hoP bh bd H :: L) (fun v M => v = .tuple #[.int .i64 (putI H u s pri body), errV 70 (putE H u s pri body)] ∧ M = hoP bh bd (putH H u s pri body) :: L) := by
  have hx := hB.next
  have hid := hB.id
  have ends : ∀ k : Int, k ≠ 0 → putE H u s pri body = k → ∀ w', St w0 (hoP bh bd H :: L) w' → (Value.tuple #[.int .i64 0, errV 70 k] = .tuple #[.int .i64 (putI H u s pri body), errV 70 (putE H u s pri body)] ∧ hoP bh bd H :: L = hoP bh bd (putH H u s pri body) :: L) := fun k hk he w' _ => by
    have h0 : ¬ putE H u s pri body = 0 := by rw [he]; exact hk
    unfold putI putH
    rw [if_neg h0, if_neg h0, he]
    exact ⟨rfl, rfl⟩
  refine KC.mk (n := 109) Tryz.func14 rfl Tryz.ntmps14 (by simp) ?_
  repeat ((with_reducible refine K.seq ?_))
  refine K.reg ?_
  refine KO.as rfl rfl ?_
  refine KO.as rfl rfl ?_
  refine KO.nil ?_
  repeat (first | (with_reducible refine K.seq ?_) | (with_reducible refine KQ.next ?_))
  by_cases hu : u < 0 ∨ 5 ≤ u
  · have he : putE H u s pri body = 2 := by unfold putE; rw [if_pos hu]
    by_cases hu0 : u < 0
    · refine K.reg ?_
      refine KO.mv rfl rfl ?_
      refine KO.lss rfl rfl rfl ?_
      refine KO.mv rfl rfl ?_
      (refine KO.no rfl rfl ?_ rfl ?_; (focus (simp only [decide_eq_true_eq, decide_eq_false_iff_not, Bool.not_eq_true, Bool.not_true, Bool.not_false, ne_eq]; omega)))
      (refine KO.no rfl rfl ?_ rfl ?_; (focus (simp only [decide_eq_true_eq, decide_eq_false_iff_not, Bool.not_eq_true, Bool.not_true, Bool.not_false, ne_eq]; omega)))
      (refine KO.pickT rfl ?_ rfl rfl ?_; (focus (simp only [decide_eq_true_eq, decide_eq_false_iff_not, Bool.not_eq_true, Bool.not_true, Bool.not_false, ne_eq]; omega)))
      refine KO.nil ?_
      repeat ((with_reducible refine KQ.next ?_))
      refine K.condT rfl (by (simp; done)) ?_
      repeat ((with_reducible refine K.seq ?_))
      refine K.reg ?_
      refine KO.mki rfl (by kernel_rfl) rfl ?_
      refine KO.as rfl rfl ?_
      refine KO.as rfl rfl ?_
      refine KO.nil ?_
      repeat (first | (with_reducible refine KQ.next ?_) | (with_reducible refine KQ.then_ret ?_) | (with_reducible refine K.ret ?_))
      refine KQ.ret2 rfl rfl rfl (fun w' hs' => ⟨_, _, rfl, ends 2 (by decide) he w' hs', hs'⟩)
    · refine K.reg ?_
      refine KO.mv rfl rfl ?_
      refine KO.lss rfl rfl rfl ?_
      refine KO.mv rfl rfl ?_
      (refine KO.on rfl rfl ?_ ?_; (focus (simp only [decide_eq_true_eq, decide_eq_false_iff_not, Bool.not_eq_true, Bool.not_true, Bool.not_false, ne_eq]; omega)); (refine KO.mv rfl rfl ?_))
      (refine KO.on rfl rfl ?_ ?_; (focus (simp only [decide_eq_true_eq, decide_eq_false_iff_not, Bool.not_eq_true, Bool.not_true, Bool.not_false, ne_eq]; omega)); (refine KO.geq rfl rfl rfl ?_))
      (refine KO.pickF rfl ?_ rfl rfl ?_; (focus (simp only [decide_eq_true_eq, decide_eq_false_iff_not, Bool.not_eq_true, Bool.not_true, Bool.not_false, ne_eq]; omega)))
      refine KO.nil ?_
      repeat ((with_reducible refine KQ.next ?_))
      refine K.condT rfl (by (simp; omega)) ?_
      repeat ((with_reducible refine K.seq ?_))
      refine K.reg ?_
      refine KO.mki rfl (by kernel_rfl) rfl ?_
      refine KO.as rfl rfl ?_
      refine KO.as rfl rfl ?_
      refine KO.nil ?_
      repeat (first | (with_reducible refine KQ.next ?_) | (with_reducible refine KQ.then_ret ?_) | (with_reducible refine K.ret ?_))
      refine KQ.ret2 rfl rfl rfl (fun w' hs' => ⟨_, _, rfl, ends 2 (by decide) he w' hs', hs'⟩)
  refine K.reg ?_
  refine KO.mv rfl rfl ?_
  refine KO.lss rfl rfl rfl ?_
  refine KO.mv rfl rfl ?_
  (refine KO.on rfl rfl ?_ ?_; (focus (simp only [decide_eq_true_eq, decide_eq_false_iff_not, Bool.not_eq_true, Bool.not_true, Bool.not_false, ne_eq]; omega)); (refine KO.mv rfl rfl ?_))
  (refine KO.on rfl rfl ?_ ?_; (focus (simp only [decide_eq_true_eq, decide_eq_false_iff_not, Bool.not_eq_true, Bool.not_true, Bool.not_false, ne_eq]; omega)); (refine KO.geq rfl rfl rfl ?_))
  (refine KO.pickF rfl ?_ rfl rfl ?_; (focus (simp only [decide_eq_true_eq, decide_eq_false_iff_not, Bool.not_eq_true, Bool.not_true, Bool.not_false, ne_eq]; omega)))
  refine KO.nil ?_
  repeat ((with_reducible refine KQ.next ?_))
  refine K.condF rfl (by (simp; omega)) ?_
  repeat (first | (with_reducible refine K.seq ?_) | (with_reducible refine KQ.next ?_) | (with_reducible refine K.skip ?_))
  by_cases hp : pri < 0 ∨ 9 < pri
  · have he : putE H u s pri body = 1 := by unfold putE; rw [if_neg hu, if_pos (.inl hp)]
    by_cases hp0 : pri < 0
    · refine K.reg ?_
      refine KO.mv rfl rfl ?_
      refine KO.lss rfl rfl rfl ?_
      refine KO.mv rfl rfl ?_
      (refine KO.no rfl rfl ?_ rfl ?_; (focus (simp only [decide_eq_true_eq, decide_eq_false_iff_not, Bool.not_eq_true, Bool.not_true, Bool.not_false, ne_eq]; omega)))
      (refine KO.no rfl rfl ?_ rfl ?_; (focus (simp only [decide_eq_true_eq, decide_eq_false_iff_not, Bool.not_eq_true, Bool.not_true, Bool.not_false, ne_eq]; omega)))
      (refine KO.pickT rfl ?_ rfl rfl ?_; (focus (simp only [decide_eq_true_eq, decide_eq_false_iff_not, Bool.not_eq_true, Bool.not_true, Bool.not_false, ne_eq]; omega)))
      refine KO.mv rfl rfl ?_
      (refine KO.no rfl rfl ?_ rfl ?_; (focus rfl))
      (refine KO.no rfl rfl ?_ rfl ?_; (focus rfl))
      (refine KO.no rfl rfl ?_ rfl ?_; (focus rfl))
      (refine KO.pickT rfl ?_ rfl rfl ?_; (focus rfl))
      refine KO.nil ?_
      repeat ((with_reducible refine KQ.next ?_))
      refine K.condT rfl (by (simp; done)) ?_
      repeat ((with_reducible refine K.seq ?_))
      refine K.reg ?_
      refine KO.mki rfl (by kernel_rfl) rfl ?_
      refine KO.as rfl rfl ?_
      refine KO.as rfl rfl ?_
      refine KO.nil ?_
      repeat (first | (with_reducible refine KQ.next ?_) | (with_reducible refine KQ.then_ret ?_) | (with_reducible refine K.ret ?_))
      refine KQ.ret2 rfl rfl rfl (fun w' hs' => ⟨_, _, rfl, ends 1 (by decide) he w' hs', hs'⟩)
    · refine K.reg ?_
      refine KO.mv rfl rfl ?_
      refine KO.lss rfl rfl rfl ?_
      refine KO.mv rfl rfl ?_
      (refine KO.on rfl rfl ?_ ?_; (focus (simp only [decide_eq_true_eq, decide_eq_false_iff_not, Bool.not_eq_true, Bool.not_true, Bool.not_false, ne_eq]; omega)); (refine KO.mv rfl rfl ?_))
      (refine KO.on rfl rfl ?_ ?_; (focus (simp only [decide_eq_true_eq, decide_eq_false_iff_not, Bool.not_eq_true, Bool.not_true, Bool.not_false, ne_eq]; omega)); (refine KO.gtr rfl rfl rfl ?_))
      (refine KO.pickF rfl ?_ rfl rfl ?_; (focus (simp only [decide_eq_true_eq, decide_eq_false_iff_not, Bool.not_eq_true, Bool.not_true, Bool.not_false, ne_eq]; omega)))
      refine KO.mv rfl rfl ?_
      (refine KO.no rfl rfl ?_ rfl ?_; (focus (simp only [decide_eq_true_eq, decide_eq_false_iff_not, Bool.not_eq_true, Bool.not_true, Bool.not_false, ne_eq]; omega)))
      (refine KO.no rfl rfl ?_ rfl ?_; (focus (simp only [decide_eq_true_eq, decide_eq_false_iff_not, Bool.not_eq_true, Bool.not_true, Bool.not_false, ne_eq]; omega)))
      (refine KO.no rfl rfl ?_ rfl ?_; (focus (simp only [decide_eq_true_eq, decide_eq_false_iff_not, Bool.not_eq_true, Bool.not_true, Bool.not_false, ne_eq]; omega)))
      (refine KO.pickT rfl ?_ rfl rfl ?_; (focus (simp only [decide_eq_true_eq, decide_eq_false_iff_not, Bool.not_eq_true, Bool.not_true, Bool.not_false, ne_eq]; omega)))
      refine KO.nil ?_
      repeat ((with_reducible refine KQ.next ?_))
      refine K.condT rfl (by (simp; done)) ?_
      repeat ((with_reducible refine K.seq ?_))
      refine K.reg ?_
      refine KO.mki rfl (by kernel_rfl) rfl ?_
      refine KO.as rfl rfl ?_
      refine KO.as rfl rfl ?_
      refine KO.nil ?_
      repeat (first | (with_reducible refine KQ.next ?_) | (with_reducible refine KQ.then_ret ?_) | (with_reducible refine K.ret ?_))
      refine KQ.ret2 rfl rfl rfl (fun w' hs' => ⟨_, _, rfl, ends 1 (by decide) he w' hs', hs'⟩)
  refine K.reg ?_
  refine KO.mv rfl rfl ?_
  refine KO.lss rfl rfl rfl ?_
  refine KO.mv rfl rfl ?_
  (refine KO.on rfl rfl ?_ ?_; (focus (simp only [decide_eq_true_eq, decide_eq_false_iff_not, Bool.not_eq_true, Bool.not_true, Bool.not_false, ne_eq]; omega)); (refine KO.mv rfl rfl ?_))
  (refine KO.on rfl rfl ?_ ?_; (focus (simp only [decide_eq_true_eq, decide_eq_false_iff_not, Bool.not_eq_true, Bool.not_true, Bool.not_false, ne_eq]; omega)); (refine KO.gtr rfl rfl rfl ?_))
  (refine KO.pickF rfl ?_ rfl rfl ?_; (focus (simp only [decide_eq_true_eq, decide_eq_false_iff_not, Bool.not_eq_true, Bool.not_true, Bool.not_false, ne_eq]; omega)))
  refine KO.mv rfl rfl ?_
  (refine KO.on rfl rfl ?_ ?_; (focus (simp only [decide_eq_true_eq, decide_eq_false_iff_not, Bool.not_eq_true, Bool.not_true, Bool.not_false, ne_eq]; omega)); (refine KO.mv rfl rfl ?_))
  refine KO.on rfl rfl (by (simp; omega)) ?_; refine KO.ce (cp := []) rfl rfl rfl Tryz.call54 rfl (body_e w0 _ body hb) ?_; rintro v' L' ⟨rfl, rfl⟩
  (refine KO.on rfl rfl ?_ ?_; (focus (simp only [decide_eq_true_eq, decide_eq_false_iff_not, Bool.not_eq_true, Bool.not_true, Bool.not_false, ne_eq]; omega)); (refine KO.not rfl rfl ?_))
  (refine KO.pickF rfl ?_ rfl rfl ?_; (focus (simp only [decide_eq_true_eq, decide_eq_false_iff_not, Bool.not_eq_true, Bool.not_true, Bool.not_false, ne_eq]; omega)))
  refine KO.nil ?_
  repeat ((with_reducible refine KQ.next ?_))
  cases hbd : bodyB body with
  | false =>
    have he : putE H u s pri body = 1 := by unfold putE; rw [if_neg hu, if_pos (.inr hbd)]
    refine K.condT rfl (by simp) ?_
    repeat ((with_reducible refine K.seq ?_))
    refine K.reg ?_
    refine KO.mki rfl (by kernel_rfl) rfl ?_
    refine KO.as rfl rfl ?_
    refine KO.as rfl rfl ?_
    refine KO.nil ?_
    repeat (first | (with_reducible refine KQ.next ?_) | (with_reducible refine KQ.then_ret ?_) | (with_reducible refine K.ret ?_))
    refine KQ.ret2 rfl rfl rfl (fun w' hs' => ⟨_, _, rfl, ends 1 (by decide) he w' hs', hs'⟩)
  | true =>
  refine K.condF rfl (by (simp; done)) ?_
  have hu0 : ¬ ((pri < 0 ∨ 9 < pri) ∨ bodyB body = false) := by rw [hbd]; simpa using hp
  repeat (first | (with_reducible refine K.seq ?_) | (with_reducible refine KQ.next ?_) | (with_reducible refine K.skip ?_))
  refine K.open' (fun _ h => hoP_open h) ?_
  rintro ⟨V, hV⟩
  dsimp only
  have hps := hV.ps
  refine K.reg ?_
  refine KO.mv rfl rfl ?_
  refine KO.mv rfl rfl ?_
  refine KO.cl (cp := []) rfl rfl rfl Tryz.call55 rfl (place_c w0 L bh bd n V H s hV hB) ?_; rintro v' L' ⟨rfl, rfl⟩
  refine KO.mv rfl rfl ?_
  refine KO.extrL rfl (by exact rfl) rfl ?_
  refine KO.extrL rfl (by exact rfl) rfl ?_
  refine KO.extrL rfl (by exact rfl) rfl ?_
  refine KO.extrL rfl (by exact rfl) rfl ?_
  refine KO.as rfl rfl ?_
  refine KO.as rfl rfl ?_
  refine KO.as rfl rfl ?_
  refine KO.as rfl rfl ?_
  refine KO.nil ?_
  repeat (first | (with_reducible refine K.seq ?_) | (with_reducible refine KQ.next ?_))
  refine K.reg ?_
  refine KO.mv rfl rfl ?_
  refine KO.neN rfl (by kernel_rfl) rfl ?_
  refine KO.nil ?_
  repeat ((with_reducible refine KQ.next ?_))
  refine K.condD rfl (fun h => ?_) (fun h => ?_)
  · have he : putE H u s pri body = (plR H s).2.2 := by unfold putE; rw [if_neg hu, if_neg hu0, if_pos h]
    repeat ((with_reducible refine K.seq ?_))
    refine K.reg ?_
    refine KO.mv rfl rfl ?_
    refine KO.as rfl rfl ?_
    refine KO.as rfl rfl ?_
    refine KO.nil ?_
    repeat (first | (with_reducible refine KQ.next ?_) | (with_reducible refine KQ.then_ret ?_) | (with_reducible refine K.ret ?_))
    refine KQ.ret2 rfl rfl rfl (fun w' hs' => ⟨_, _, rfl, ends _ h he w' (hoP_mk V hV hs'), hoP_mk V hV hs'⟩)
  have h0 : (plR H s).2.2 = 0 := by simpa using h
  repeat (first | (with_reducible refine K.seq ?_) | (with_reducible refine KQ.next ?_) | (with_reducible refine K.skip ?_))
  cases hdn : H.down with
  | true =>
    have he : putE H u s pri body = 6 := by unfold putE; rw [if_neg hu, if_neg hu0, if_neg h, if_pos hdn]
    refine K.reg ?_
    refine KO.mv rfl rfl ?_
    refine KO.nc rfl rfl ?_
    refine KO.fo0 (off := 3) rfl Tryz.runUnderlying133 rfl rfl Tryz.sizeOf4 rfl ?_
    refine KO.ldAt (i := 3) rfl rfl Tryz.isAgg4 (by with_reducible (repeat (exact Pick.head))) rfl rfl rfl ?_
    refine KO.nil ?_
    repeat ((with_reducible refine KQ.next ?_))
    refine K.condT rfl hdn ?_
    repeat ((with_reducible refine K.seq ?_))
    refine K.reg ?_
    refine KO.mki rfl (by kernel_rfl) rfl ?_
    refine KO.as rfl rfl ?_
    refine KO.as rfl rfl ?_
    refine KO.nil ?_
    repeat (first | (with_reducible refine KQ.next ?_) | (with_reducible refine KQ.then_ret ?_) | (with_reducible refine K.ret ?_))
    refine KQ.ret2 rfl rfl rfl (fun w' hs' => ⟨_, _, rfl, ends 6 (by decide) he w' (hoP_mk V hV hs'), hoP_mk V hV hs'⟩)
  | false =>
  refine K.reg ?_
  refine KO.mv rfl rfl ?_
  refine KO.nc rfl rfl ?_
  refine KO.fo0 (off := 3) rfl Tryz.runUnderlying133 rfl rfl Tryz.sizeOf4 rfl ?_
  refine KO.ldAt (i := 3) rfl rfl Tryz.isAgg4 (by with_reducible (repeat (exact Pick.head))) rfl rfl rfl ?_
  refine KO.nil ?_
  repeat ((with_reducible refine KQ.next ?_))
  refine K.condF rfl hdn ?_
  repeat (first | (with_reducible refine K.seq ?_) | (with_reducible refine KQ.next ?_) | (with_reducible refine K.skip ?_))
  have he : putE H u s pri body = qputE (H.aAt (plJ H s)) (putM H s pri body) := by unfold putE; rw [if_neg hu, if_neg hu0, if_neg h, if_neg (by simp [hdn])]
  obtain ⟨hj, h2, h3⟩ := plJ_lt hB h0
  have hjl := all_len hV.ways
  obtain ⟨p, hp2⟩ : ∃ p, V.ps[plJ H s]? = some p := ⟨_, List.getElem?_eq_getElem (by omega)⟩
  have hpV : plV V H s = ptrV p := by unfold plV; rw [hp2, if_neg h]
  rw [hpV]
  refine K.draw [.pure, .pure, .pure, .read, .pure, .pure, .pure, .pure, .read, .pure, .pure, .pure, .pure, .pure, .pure, .keep, .write] [0, 1, 2, 3, 4, 5, 6, 7, 8, 9, 10, 11, 12, 13, 14, 15, 16] (by kernel_rfl) (by kernel_rfl) ?_
  refine KO.mv rfl rfl ?_
  refine KO.nc rfl rfl ?_
  refine KO.fo0 (off := 5) rfl Tryz.runUnderlying133 rfl rfl Tryz.sizeOf3 rfl ?_
  refine KO.ldAt (i := 5) rfl rfl Tryz.isAgg3 (by with_reducible (repeat (exact Pick.head))) rfl rfl rfl ?_
  refine KO.mul rfl rfl rfl (by omega) rfl ?_
  refine KO.mv rfl rfl ?_
  refine KO.nc rfl rfl ?_
  refine KO.fo0 (off := 0) rfl Tryz.runUnderlying133 rfl rfl Tryz.sizeOf3 rfl ?_
  refine KO.ldAt (i := 0) rfl rfl Tryz.isAgg3 (by with_reducible (repeat (exact Pick.head))) rfl rfl rfl ?_
  refine KO.add rfl rfl rfl (by omega) rfl ?_
  refine KO.mv rfl rfl ?_
  refine KO.mv rfl rfl ?_
  refine KO.mv rfl rfl ?_
  refine KO.mv rfl rfl ?_
  refine KO.bldN (pl := [(0, 1), (1, 1), (2, 1), (3, 1), (4, 1)]) rfl Tryz.zeroValue44 Tryz.runUnderlying44 (by intro w; simp [Tryz.sizeOf3, Tryz.sizeOf9]) (by exact rfl) rfl ?_
  refine KO.alloc rfl Tryz.zeroValue44 (by exact rfl) rfl ?_; intro b16
  refine KO.sto0 rfl rfl rfl (by exact rfl) (by exact Tryz.sizeOf44) (by exact rfl) (by with_reducible (repeat (exact Pick.head))) (by exact rfl) ?_
  refine KO.nil ?_
  repeat (first | (with_reducible refine K.seq ?_) | (with_reducible refine KQ.next ?_))
  refine K.reg ?_
  refine KO.mv rfl rfl ?_
  refine KO.lss rfl rfl rfl ?_
  refine KO.nil ?_
  repeat ((with_reducible refine KQ.next ?_))
  refine K.cut (fun _ : Unit => [(0, ptrV bh), (1, .int .i64 u), (12, ptrV p), (14, .int .i64 (plR H s).2.1), (16, .pointer (some ⟨b16, 0, none⟩))]) (fun _ => blk b16 (.cells (msC (putM H s pri body)).toArray 44 (0, 0)) :: hoX bh bd V H L) (fun _ => True) ?_ ?_
  · refine K.condD rfl (fun h11 => ?_) (fun h11 => ?_)
    · (skip)
      refine K.reg ?_
      refine KO.mv rfl rfl ?_
      refine KO.nc rfl rfl ?_
      refine KO.fo0 (off := 0) rfl Tryz.runUnderlying133 rfl rfl Tryz.sizeOf3 rfl ?_
      refine KO.ldAt (i := 0) rfl rfl Tryz.isAgg3 (by with_reducible (repeat (first | exact Pick.head | apply Pick.tail))) rfl rfl rfl ?_
      refine KO.fo0 (off := 4) rfl Tryz.runUnderlying44 rfl rfl Tryz.sizeOf3 rfl ?_
      (refine KO.sto rfl rfl rfl (by exact rfl) (by exact Tryz.sizeOf3) (by exact rfl) (by with_reducible (repeat (exact Pick.head))) (by exact rfl) (by (try simp only [putL, List.drop_succ_cons, List.drop_zero, List.drop_nil, List.cons_append, List.nil_append, List.length_cons, List.length_nil, Nat.zero_add, Nat.reduceAdd]); (try exact rfl)) ?_)
      refine KO.nil ?_
      exact KQ.mid () trivial ⟨rfl, rfl, rfl, rfl, rfl, trivial⟩ (fun w' hs' => by unfold putM; rw [if_pos h11]; exact hs'.all (by repeat (exact PAll.refl)))
    · repeat ((with_reducible refine K.skip ?_))
      exact KQ.mid () trivial ⟨rfl, rfl, rfl, rfl, rfl, trivial⟩ (fun w' hs' => by unfold putM; rw [if_neg h11]; exact hs'.all (by repeat (exact PAll.refl)))
  · rintro ⟨⟩ -
    try dsimp only
    have hqb := (hB.a hj).ok (by omega)
    have hms : (putM H s pri body).queue.size ≤ maxLen := Nat.le_trans (wordB_size (plR_word hB h0)).2 (by decide)
    have hmb : (putM H s pri body).body.size ≤ maxLen := hb
    rcases hmm : putM H s pri body with ⟨mi, mp, mb, mq, mh⟩
    rw [hmm] at hms hmb
    dsimp only at hms hmb
    repeat ((with_reducible refine K.seq ?_))
    refine K.reg ?_
    refine KO.mv rfl rfl ?_
    refine KO.ldB0 rfl rfl Tryz.isAgg44 Tryz.sizeOf44 (by with_reducible (repeat (exact Pick.head))) (by exact rfl) rfl ?_
    refine KO.mv rfl rfl ?_
    refine KO.cl (cp := []) rfl rfl rfl Tryz.call56 rfl (KC.famC (φ := fun v => v = errV 70 (qputE (H.aAt (plJ H s)) ⟨mi, mp, mb, mq, mh⟩)) hp2 (all_a hj) (by with_reducible (repeat (first | exact Pick.head | apply Pick.tail))) (fun L => put_c w0 L p (H.aAt (plJ H s)) ⟨mi, mp, mb, mq, mh⟩ u hqb hmb hms)) ?_; rintro v' L' ⟨rfl, rfl⟩
    refine KO.as rfl rfl ?_
    refine KO.nil ?_
    repeat (first | (with_reducible refine K.seq ?_) | (with_reducible refine KQ.next ?_))
    rw [hmm] at he
    refine K.reg ?_
    refine KO.mv rfl rfl ?_
    refine KO.neN rfl (by kernel_rfl) rfl ?_
    refine KO.nil ?_
    repeat ((with_reducible refine KQ.next ?_))
    refine K.condD rfl (fun h14 => ?_) (fun h14 => ?_)
    · have hsame : qput (H.aAt (plJ H s)) ⟨mi, mp, mb, mq, mh⟩ u = H.aAt (plJ H s) := by unfold qput; rw [if_neg h14]
      repeat ((with_reducible refine K.seq ?_))
      refine K.reg ?_
      refine KO.mv rfl rfl ?_
      refine KO.as rfl rfl ?_
      refine KO.as rfl rfl ?_
      refine KO.nil ?_
      repeat (first | (with_reducible refine KQ.next ?_) | (with_reducible refine KQ.then_ret ?_) | (with_reducible refine K.ret ?_))
      refine KQ.ret2 rfl rfl rfl (fun w' hs' => ?_)
      rw [hsame, setQu_same (all_a hj)] at hs'
      exact ⟨_, _, rfl, ends _ h14 he w' (hoP_mk V hV (hs'.all (by repeat (first | exact PAll.refl | refine PAll.cons (by repeat (first | exact Pick.head | apply Pick.tail)) ?_ | apply PAll.drop)))), hoP_mk V hV (hs'.all (by repeat (first | exact PAll.refl | refine PAll.cons (by repeat (first | exact Pick.head | apply Pick.tail)) ?_ | apply PAll.drop)))⟩
    · have h140 : qputE (H.aAt (plJ H s)) ⟨mi, mp, mb, mq, mh⟩ = 0 := by simpa using h14
      rw [h140] at he
      have hul : u.toNat < 5 := by omega
      have hui : u = ((u.toNat : Nat) : Int) := by omega
      have hus := hV.us
      have hun := hV.units
      obtain ⟨pv, hpv⟩ : ∃ e, V.us[u.toNat]? = some e := ⟨_, List.getElem?_eq_getElem (by omega)⟩
      obtain ⟨x, hxu⟩ : ∃ e, H.units[u.toNat]? = some e := ⟨_, List.getElem?_eq_getElem (by omega)⟩
      have hxl := hl x (List.mem_of_getElem? hxu)
      have hxA : H.uAt u.toNat = x := by unfold Ho.uAt; rw [List.getD_eq_getElem?_getD, hxu]; rfl
      have hV1 : HoVL V { H with next := H.next + 1 } := ⟨hV.ps, hV.us, hV.bs, hV.ways, hV.units, hV.batch, hV.sent, hV.arrived⟩
      obtain ⟨c1, -, c3, -⟩ := hoC_unit (bd := bd) hV1 hpv
      have hg1 : (V.us.map (·.1))[u.toNat]? = some pv.1 := by rw [List.getElem?_map, hpv]; rfl
      have hg2 : (H.units.map (·.puts))[u.toNat]? = some x.puts := by rw [List.getElem?_map, hxu]; rfl
      have hid2 : putI H u s pri body = mi := by unfold putI; rw [if_pos he, hmm]
      repeat (first | (with_reducible refine K.seq ?_) | (with_reducible refine KQ.next ?_) | (with_reducible refine K.skip ?_))
      refine K.reg ?_
      refine KO.mv rfl rfl ?_
      refine KO.nc rfl rfl ?_
      refine KO.fo0 (off := 5) rfl Tryz.runUnderlying133 rfl rfl Tryz.sizeOf3 rfl ?_
      refine KO.ldAt (i := 5) rfl rfl Tryz.isAgg3 (by with_reducible (repeat (first | exact Pick.head | apply Pick.tail))) rfl rfl rfl ?_
      refine KO.add rfl rfl rfl (by omega) rfl ?_
      refine KO.nc rfl rfl ?_
      refine KO.fo0 (off := 5) rfl Tryz.runUnderlying133 rfl rfl Tryz.sizeOf3 rfl ?_
      refine KO.stAt (i := 5) rfl rfl rfl (by exact rfl) (by exact Tryz.sizeOf3) rfl (by with_reducible (repeat (first | exact Pick.head | apply Pick.tail))) rfl (by rw [hoC_len hV]; omega) ?_; rw [show (hoC bd V H).set 5 (.int .i64 (H.next + 1)) = hoC bd V { H with next := H.next + 1 } from rfl]
      refine KO.nil ?_
      repeat (first | (with_reducible refine K.seq ?_) | (with_reducible refine KQ.next ?_))
      refine K.conv (fun w hw => fam_out hg1 hg2 (hw.pick (A := fam putsS (V.us.map (·.1)) (H.units.map (·.puts))) (by with_reducible (repeat (first | exact Pick.head | apply Pick.tail))))) ?_
      refine K.draw [.pure, .pure, .pure, .pure, .pure, .pure, .pure, .pure, .read, .read, .pure, .pure, .keep, .write, .pure, .pure, .pure, .pure, .write] [0, 1, 2, 3, 4, 5, 6, 7, 8, 9, 10, 11, 14, 15, 12, 13, 16, 17, 18] (by kernel_rfl) (by kernel_rfl) ?_
      refine KO.mv rfl rfl ?_
      refine KO.mv rfl rfl ?_
      refine KO.mv rfl rfl ?_
      refine KO.mv rfl rfl ?_
      refine KO.nc rfl rfl ?_
      refine KO.fo0 (off := 12) rfl Tryz.runUnderlying133 rfl rfl Tryz.sizeOf131 rfl ?_
      refine KO.idxA (i := u.toNat) rfl rfl Tryz.runUnderlying131 Tryz.sizeOf130 hui (by omega) rfl ?_
      refine KO.fldH (off := 0) rfl Tryz.runUnderlying130 rfl rfl Tryz.sizeOf127 rfl ?_
      refine KO.ldAt (i := 12 + 2 * u.toNat) rfl rfl Tryz.isAgg127 (by with_reducible (repeat (first | exact Pick.head | apply Pick.tail))) (by simp only [Addr.add_lit]; (simp; done)) c1 rfl ?_
      refine KO.ldB0 rfl rfl Tryz.isAgg44 Tryz.sizeOf44 (by with_reducible (repeat (first | exact Pick.head | apply Pick.tail))) (by exact rfl) rfl ?_
      refine KO.mv rfl rfl ?_
      refine KO.bldN (pl := [(0, 5), (5, 1)]) rfl Tryz.zeroValue142 Tryz.runUnderlying142 (by intro w; simp [Tryz.sizeOf3, Tryz.sizeOf44]) (by exact rfl) rfl ?_
      refine KO.nc rfl rfl ?_
      refine KO.fo0 (off := 12) rfl Tryz.runUnderlying133 rfl rfl Tryz.sizeOf131 rfl ?_
      refine KO.bs1 (z := (Value.agg #[.int .i64 0, .int .i64 0, .string ⟨#[]⟩, .string ⟨#[]⟩, .int .i64 0, .int .i64 0])) (sz := 6) (by' := 64) rfl rfl Tryz.underlying127 (by kernel_rfl) (by exact rfl) (by exact rfl) (by decide) (by decide) rfl ?_; intro b101
      refine KO.app (z := Value.agg #[.int .i64 0, .int .i64 0, .string ⟨#[]⟩, .string ⟨#[]⟩, .int .i64 0, .int .i64 0]) (sz := 6) (by' := 64) (xs := x.puts) (cf := putC) rfl rfl rfl (.tail .head) .head Tryz.underlying127 (by kernel_rfl) (by exact rfl) (⟨mi, mp, mb, mq, mh⟩, (plR H s).2.1) rfl rfl rfl (by omega) (by decide) rfl ?_; intro v13; refine KO.fact (fun _ hs => SL_form hs) ?_; rintro ⟨a13, k13, hv13, -⟩
      refine KO.idxA (i := u.toNat) rfl rfl Tryz.runUnderlying131 Tryz.sizeOf130 hui (by omega) rfl ?_
      refine KO.fldH (off := 0) rfl Tryz.runUnderlying130 rfl rfl Tryz.sizeOf127 rfl ?_
      refine KO.stAt (i := 12 + 2 * u.toNat) rfl rfl rfl (by rw [hv13]; rfl) (by exact Tryz.sizeOf127) (by rw [hv13]; rfl) (by with_reducible (repeat (first | exact Pick.head | apply Pick.tail))) (by simp only [Addr.add_lit]; (simp; done)) (by rw [hoC_len hV1]; omega) ?_; rw [c3]
      refine KO.nil ?_
      repeat (first | (with_reducible refine K.seq ?_) | (with_reducible refine KQ.next ?_))
      refine K.reg ?_
      refine KO.fo0 (off := 0) rfl Tryz.runUnderlying44 rfl rfl Tryz.sizeOf3 rfl ?_
      refine KO.ld rfl rfl Tryz.isAgg3 (by with_reducible (repeat (first | exact Pick.head | apply Pick.tail))) (by exact rfl) rfl ?_
      refine KO.as rfl rfl ?_
      refine KO.as rfl rfl ?_
      refine KO.nil ?_
      repeat (first | (with_reducible refine KQ.next ?_) | (with_reducible refine K.ret ?_))
      refine KQ.ret2 rfl rfl rfl (fun w' hs' => ⟨_, _, rfl, ⟨by rw [he, hid2]; rfl, rfl⟩, ?_⟩)
      have e1 : putH H u s pri body = putU { H.setA (plJ H s) (qput (H.aAt (plJ H s)) (putM H s pri body) u) with next := H.next + 1 } u.toNat ⟨x.puts ++ [(putM H s pri body, (plR H s).2.1)], x.gets⟩ := by unfold putH; rw [if_pos he, hxA]
      rw [e1, hmm]
      have hs2 := fam_in (f := putsS) (ps := V.us.map (·.1)) (xs := H.units.map (·.puts)) (i := u.toNat) (p := v13) (x := x.puts ++ [(⟨mi, mp, mb, mq, mh⟩, (plR H s).2.1)]) (by simp [hus]; omega) (by simp [hun]; omega) (hs'.all (M := putsS v13 (x.puts ++ [(⟨mi, mp, mb, mq, mh⟩, (plR H s).2.1)]) :: fam putsS ((V.us.map (·.1)).eraseIdx u.toNat) ((H.units.map (·.puts)).eraseIdx u.toNat) :: blk bh (.cells (hoC bd { V with us := V.us.set u.toNat (v13, pv.2) } { H with next := H.next + 1 }).toArray 133 (0, 0)) :: nmS V.nv H.names :: omapK Value.string V.mb (mapE V H) :: fam quP V.ps (H.all.set (plJ H s) (qput (H.aAt (plJ H s)) ⟨mi, mp, mb, mq, mh⟩ u)) :: fam getsS (V.us.map (·.2)) (H.units.map (·.gets)) :: fam batS V.bs H.batch :: L) (by repeat (first | exact PAll.refl | refine PAll.cons (by repeat (first | exact Pick.head | apply Pick.tail)) ?_ | apply PAll.drop)))
      exact hoP_unit hV (plJ H s) _ u.toNat (H.next + 1) _ (v13, pv.2) (hs2.all (by repeat (first | exact PAll.refl | refine PAll.cons (by repeat (first | exact Pick.head | apply Pick.tail)) ?_))) rfl (fam_same hpv rfl) rfl (fam_same hxu rfl)
end Go.Proofs.YtjhogocabcdjbabGreatDoor
/- house: Get -/
namespace Go.Proofs.YtjhogocabcdjbabGreatDoor
open Go Go.RowKit WB
set_option maxRecDepth 100000 in
set_option maxHeartbeats 2000000 in
theorem hget_c (w0 : World) (L : List HP) (bh bd n : Nat) (H : Ho) (u : Int) (s : ByteArray) (hB : HoB n H) (hn : n < 90000) (hl : ∀ x ∈ H.units, x.gets.length ≤ 90000) :
    KC Tryz.prog 15 #[ptrV bh, .int .i64 u, .string s] w0 (hoP bh bd H :: L) (fun v M => v = .tuple #[.agg (msC (getM H u s)).toArray, errV 70 (getE H u s)] ∧ M = hoP bh bd (getH H u s) :: L) := by
  have hnl := hB.nlen
  have hso := hB.sorted
  have ends : ∀ k : Int, k ≠ 0 → getE H u s = k → (Value.tuple #[.agg (msC zeroMs).toArray, errV 70 k] = .tuple #[.agg (msC (getM H u s)).toArray, errV 70 (getE H u s)] ∧ hoP bh bd H :: L = hoP bh bd (getH H u s) :: L) := fun k hk he => by
    have h0 : ¬ getE H u s = 0 := by rw [he]; exact hk
    unfold getM getH
    rw [if_neg h0, if_neg h0, he]
    exact ⟨rfl, rfl⟩
  refine KC.mk (n := 81) Tryz.func15 rfl Tryz.ntmps15 (by simp) ?_
  repeat ((with_reducible refine K.seq ?_))
  refine K.reg ?_
  refine KO.alloc rfl Tryz.zeroValue44 (by exact rfl) rfl ?_; intro b6
  refine KO.as rfl rfl ?_
  refine KO.nil ?_
  repeat (first | (with_reducible refine K.seq ?_) | (with_reducible refine KQ.next ?_))
  by_cases hu : u < 0 ∨ 5 ≤ u
  · have he : getE H u s = 2 := by unfold getE; rw [if_pos hu]
    by_cases hu0 : u < 0
    · refine K.reg ?_
      refine KO.mv rfl rfl ?_
      refine KO.lss rfl rfl rfl ?_
      refine KO.mv rfl rfl ?_
      (refine KO.no rfl rfl ?_ rfl ?_; (focus (simp only [decide_eq_true_eq, decide_eq_false_iff_not, Bool.not_eq_true, Bool.not_true, Bool.not_false, ne_eq]; omega)))
      (refine KO.no rfl rfl ?_ rfl ?_; (focus (simp only [decide_eq_true_eq, decide_eq_false_iff_not, Bool.not_eq_true, Bool.not_true, Bool.not_false, ne_eq]; omega)))
      (refine KO.pickT rfl ?_ rfl rfl ?_; (focus (simp only [decide_eq_true_eq, decide_eq_false_iff_not, Bool.not_eq_true, Bool.not_true, Bool.not_false, ne_eq]; omega)))
      refine KO.nil ?_
      repeat ((with_reducible refine KQ.next ?_))
      refine K.condT rfl (by (simp; done)) ?_
      repeat ((with_reducible refine K.seq ?_))
      refine K.reg ?_
      refine KO.bldN (pl := [(0, 1), (1, 1), (2, 1), (3, 1), (4, 1)]) rfl Tryz.zeroValue44 Tryz.runUnderlying44 (by intro w; simp [Tryz.sizeOf3, Tryz.sizeOf9]) (by exact rfl) rfl ?_
      refine KO.mki rfl (by kernel_rfl) rfl ?_
      refine KO.sto0 rfl rfl rfl (by exact rfl) (by exact Tryz.sizeOf44) (by exact rfl) (by with_reducible (repeat (exact Pick.head))) (by exact rfl) ?_
      refine KO.as rfl rfl ?_
      refine KO.nil ?_
      repeat (first | (with_reducible refine KQ.next ?_) | (with_reducible refine KQ.then_ret ?_) | (with_reducible refine K.ret ?_))
      refine KQ.retCT rfl rfl Tryz.isAgg44 (by with_reducible (repeat (exact Pick.head))) (by exact Tryz.sizeOf44) rfl (fun w' hs' => ⟨_, hoP bh bd H :: L, rfl, ?_, ?_⟩)
      · exact ends 2 (by decide) he
      · exact hs'.all (by with_reducible repeat (first | exact PAll.refl | refine PAll.cons (by with_reducible repeat (first | exact Pick.head | apply Pick.tail)) ?_ | apply PAll.drop))
    · refine K.reg ?_
      refine KO.mv rfl rfl ?_
      refine KO.lss rfl rfl rfl ?_
      refine KO.mv rfl rfl ?_
      (refine KO.on rfl rfl ?_ ?_; (focus (simp only [decide_eq_true_eq, decide_eq_false_iff_not, Bool.not_eq_true, Bool.not_true, Bool.not_false, ne_eq]; omega)); (refine KO.mv rfl rfl ?_))
      (refine KO.on rfl rfl ?_ ?_; (focus (simp only [decide_eq_true_eq, decide_eq_false_iff_not, Bool.not_eq_true, Bool.not_true, Bool.not_false, ne_eq]; omega)); (refine KO.geq rfl rfl rfl ?_))
      (refine KO.pickF rfl ?_ rfl rfl ?_; (focus (simp only [decide_eq_true_eq, decide_eq_false_iff_not, Bool.not_eq_true, Bool.not_true, Bool.not_false, ne_eq]; omega)))
      refine KO.nil ?_
      repeat ((with_reducible refine KQ.next ?_))
      refine K.condT rfl (by (simp; omega)) ?_
      repeat ((with_reducible refine K.seq ?_))
      refine K.reg ?_
      refine KO.bldN (pl := [(0, 1), (1, 1), (2, 1), (3, 1), (4, 1)]) rfl Tryz.zeroValue44 Tryz.runUnderlying44 (by intro w; simp [Tryz.sizeOf3, Tryz.sizeOf9]) (by exact rfl) rfl ?_
      refine KO.mki rfl (by kernel_rfl) rfl ?_
      refine KO.sto0 rfl rfl rfl (by exact rfl) (by exact Tryz.sizeOf44) (by exact rfl) (by with_reducible (repeat (exact Pick.head))) (by exact rfl) ?_
      refine KO.as rfl rfl ?_
      refine KO.nil ?_
      repeat (first | (with_reducible refine KQ.next ?_) | (with_reducible refine KQ.then_ret ?_) | (with_reducible refine K.ret ?_))
      refine KQ.retCT rfl rfl Tryz.isAgg44 (by with_reducible (repeat (exact Pick.head))) (by exact Tryz.sizeOf44) rfl (fun w' hs' => ⟨_, hoP bh bd H :: L, rfl, ?_, ?_⟩)
      · exact ends 2 (by decide) he
      · exact hs'.all (by with_reducible repeat (first | exact PAll.refl | refine PAll.cons (by with_reducible repeat (first | exact Pick.head | apply Pick.tail)) ?_ | apply PAll.drop))
  refine K.reg ?_
  refine KO.mv rfl rfl ?_
  refine KO.lss rfl rfl rfl ?_
  refine KO.mv rfl rfl ?_
  (refine KO.on rfl rfl ?_ ?_; (focus (simp only [decide_eq_true_eq, decide_eq_false_iff_not, Bool.not_eq_true, Bool.not_true, Bool.not_false, ne_eq]; omega)); (refine KO.mv rfl rfl ?_))
  (refine KO.on rfl rfl ?_ ?_; (focus (simp only [decide_eq_true_eq, decide_eq_false_iff_not, Bool.not_eq_true, Bool.not_true, Bool.not_false, ne_eq]; omega)); (refine KO.geq rfl rfl rfl ?_))
  (refine KO.pickF rfl ?_ rfl rfl ?_; (focus (simp only [decide_eq_true_eq, decide_eq_false_iff_not, Bool.not_eq_true, Bool.not_true, Bool.not_false, ne_eq]; omega)))
  refine KO.nil ?_
  repeat ((with_reducible refine KQ.next ?_))
  refine K.condF rfl (by (simp; omega)) ?_
  repeat (first | (with_reducible refine K.seq ?_) | (with_reducible refine KQ.next ?_) | (with_reducible refine K.skip ?_))
  refine K.open' (fun _ h => hoP_open (h.pick (by with_reducible (repeat (first | exact Pick.head | apply Pick.tail))))) ?_
  rintro ⟨V, hV⟩
  dsimp only
  have hps := hV.ps
  have hg := mapE_get hV s
  cases hq : H.qI s with
  | none =>
    have he : getE H u s = 7 := by unfold getE; rw [if_neg hu, hq]
    rw [hq] at hg
    refine K.reg ?_
    refine KO.mv rfl rfl ?_
    refine KO.nc rfl rfl ?_
    refine KO.fo0 (off := 7) rfl Tryz.runUnderlying133 rfl rfl Tryz.sizeOf123 rfl ?_
    refine KO.ldAt (i := 7) rfl rfl Tryz.isAgg123 (by with_reducible (repeat (exact Pick.head))) rfl rfl rfl ?_
    refine KO.mv rfl rfl ?_
    refine KO.lkmOk strKey s rfl rfl rfl Tryz.underlying123 Tryz.underlying9 Tryz.zeroValue119 (by with_reducible (repeat (first | exact Pick.head | apply Pick.tail))) rfl ?_; rw [hg]
    refine KO.mv rfl rfl ?_
    refine KO.extrL rfl (by exact rfl) rfl ?_
    refine KO.extrL rfl (by exact rfl) rfl ?_
    refine KO.as rfl rfl ?_
    refine KO.as rfl rfl ?_
    refine KO.nil ?_
    repeat (first | (with_reducible refine K.seq ?_) | (with_reducible refine KQ.next ?_))
    refine K.reg ?_
    refine KO.mv rfl rfl ?_
    refine KO.not rfl rfl ?_
    refine KO.mv rfl rfl ?_
    (refine KO.no rfl rfl ?_ rfl ?_; (focus rfl))
    (refine KO.no rfl rfl ?_ rfl ?_; (focus rfl))
    (refine KO.no rfl rfl ?_ rfl ?_; (focus rfl))
    refine KO.no2 rfl rfl rfl ?_
    refine KO.no2 rfl rfl rfl ?_
    refine KO.no2 rfl rfl rfl ?_
    refine KO.no2 rfl rfl rfl ?_
    refine KO.no2 rfl rfl rfl ?_
    refine KO.no2 rfl rfl rfl ?_
    (refine KO.no rfl rfl ?_ rfl ?_; (focus rfl))
    (refine KO.pickT rfl ?_ rfl rfl ?_; (focus rfl))
    refine KO.nil ?_
    repeat ((with_reducible refine KQ.next ?_))
    refine K.condT rfl (by simp) ?_
    repeat ((with_reducible refine K.seq ?_))
    refine K.reg ?_
    refine KO.bldN (pl := [(0, 1), (1, 1), (2, 1), (3, 1), (4, 1)]) rfl Tryz.zeroValue44 Tryz.runUnderlying44 (by intro w; simp [Tryz.sizeOf3, Tryz.sizeOf9]) (by exact rfl) rfl ?_
    refine KO.mki rfl (by kernel_rfl) rfl ?_
    refine KO.sto0 rfl rfl rfl (by exact rfl) (by exact Tryz.sizeOf44) (by exact rfl) (by with_reducible (repeat (first | exact Pick.head | apply Pick.tail))) (by exact rfl) ?_
    refine KO.as rfl rfl ?_
    refine KO.nil ?_
    repeat (first | (with_reducible refine KQ.next ?_) | (with_reducible refine KQ.then_ret ?_) | (with_reducible refine K.ret ?_))
    refine KQ.retCT rfl rfl Tryz.isAgg44 (by with_reducible (repeat (exact Pick.head))) (by exact Tryz.sizeOf44) rfl (fun w' hs' => ⟨_, hoP bh bd H :: L, rfl, ?_, ?_⟩)
    · exact ends 7 (by decide) he
    · exact hoP_mk V hV (hs'.all (by with_reducible repeat (first | exact PAll.refl | refine PAll.cons (by with_reducible repeat (first | exact Pick.head | apply Pick.tail)) ?_ | apply PAll.drop)))
  | some i =>
  have hil := (qI_lt hq).1
  obtain ⟨p, hp⟩ : ∃ p, V.ps[4 + i]? = some p := ⟨_, List.getElem?_eq_getElem (by omega)⟩
  rw [hq] at hg
  simp only [Option.bind_some, hp, Option.map_some] at hg
  have heq : getE H u s = if s ≠ deadS ∧ localB H.names s = false then 7 else if H.down = true then 6 else qgetE (H.qAt i) := by unfold getE; rw [if_neg hu, hq]
  refine K.reg ?_
  refine KO.mv rfl rfl ?_
  refine KO.nc rfl rfl ?_
  refine KO.fo0 (off := 7) rfl Tryz.runUnderlying133 rfl rfl Tryz.sizeOf123 rfl ?_
  refine KO.ldAt (i := 7) rfl rfl Tryz.isAgg123 (by with_reducible (repeat (exact Pick.head))) rfl rfl rfl ?_
  refine KO.mv rfl rfl ?_
  refine KO.lkmOk strKey s rfl rfl rfl Tryz.underlying123 Tryz.underlying9 Tryz.zeroValue119 (by with_reducible (repeat (first | exact Pick.head | apply Pick.tail))) rfl ?_; rw [hg]
  refine KO.mv rfl rfl ?_
  refine KO.extrL rfl (by exact rfl) rfl ?_
  refine KO.extrL rfl (by exact rfl) rfl ?_
  refine KO.as rfl rfl ?_
  refine KO.as rfl rfl ?_
  refine KO.nil ?_
  repeat (first | (with_reducible refine K.seq ?_) | (with_reducible refine KQ.next ?_))
  refine K.cut (fun _ : Unit => [(0, ptrV bh), (1, .int .i64 u), (2, .string s), (6, .pointer (some ⟨b6, 0, none⟩)), (8, ptrV p), (42, .bool (decide (s ≠ deadS ∧ localB H.names s = false)))]) (fun _ => blk b6 (.cells [Value.int .i64 0, .int .i64 0, .string ⟨#[]⟩, .string ⟨#[]⟩, .int .i64 0].toArray 44 (0, 0)) :: hoX bh bd V H L) (fun _ => True) ?_ ?_
  · by_cases hsd : s = deadS
    · have hsd2 : s = ⟨#[100, 101, 97, 100]⟩ := hsd
      have hsd3 : (!decide (s = ⟨#[100, 101, 97, 100]⟩)) = false := by rw [hsd2]; rfl
      clear hsd
      refine K.reg ?_
      refine KO.mv rfl rfl ?_
      refine KO.not rfl rfl ?_
      refine KO.mv rfl rfl ?_
      (refine KO.on rfl rfl ?_ ?_; (focus rfl); (refine KO.mv rfl rfl ?_))
      (refine KO.on rfl rfl ?_ ?_; (focus rfl); (refine KO.neS rfl rfl rfl ?_))
      (refine KO.on rfl rfl ?_ ?_; (focus rfl); (refine KO.mv rfl rfl ?_))
      (refine KO.no rfl rfl ?_ rfl ?_; (focus assumption))
      (refine KO.no rfl rfl ?_ rfl ?_; (focus assumption))
      (refine KO.no rfl rfl ?_ rfl ?_; (focus assumption))
      (refine KO.no rfl rfl ?_ rfl ?_; (focus assumption))
      refine KO.no rfl rfl hsd3 rfl ?_
      (refine KO.no rfl rfl ?_ rfl ?_; (focus assumption))
      (refine KO.on rfl rfl ?_ ?_; (focus rfl); ((refine KO.pickF rfl ?_ rfl rfl ?_; (focus assumption))))
      (refine KO.pickF rfl ?_ rfl rfl ?_; (focus rfl))
      refine KO.nil ?_
      exact KQ.mid () trivial ⟨rfl, rfl, rfl, rfl, rfl, by simp [hsd2, deadS, envAt], trivial⟩ (fun w' hs' => hs'.all (by with_reducible repeat (first | exact PAll.refl | refine PAll.cons (by with_reducible repeat (first | exact Pick.head | apply Pick.tail)) ?_)))
    · have hsd2 : ¬ s = ⟨#[100, 101, 97, 100]⟩ := hsd
      refine K.reg ?_
      refine KO.mv rfl rfl ?_
      refine KO.not rfl rfl ?_
      refine KO.mv rfl rfl ?_
      (refine KO.on rfl rfl ?_ ?_; (focus rfl); (refine KO.mv rfl rfl ?_))
      (refine KO.on rfl rfl ?_ ?_; (focus rfl); (refine KO.neS rfl rfl rfl ?_))
      (refine KO.on rfl rfl ?_ ?_; (focus rfl); (refine KO.mv rfl rfl ?_))
      (refine KO.on rfl rfl ?_ ?_; (focus (simp_all; done)); (refine KO.mv rfl rfl ?_))
      (refine KO.on rfl rfl ?_ ?_; (focus (simp_all; done)); (refine KO.nc rfl rfl ?_))
      (refine KO.on rfl rfl ?_ ?_; (focus (simp_all; done)); (refine KO.fo0 (off := 6) rfl Tryz.runUnderlying133 rfl rfl Tryz.sizeOf125 rfl ?_))
      (refine KO.on rfl rfl ?_ ?_; (focus (simp_all; done)); (refine KO.mv rfl rfl ?_))
      refine KO.on rfl rfl (by simp [hsd2]) ?_; refine KO.ce (cp := []) rfl rfl rfl Tryz.call57 rfl (local_e w0 _ _ _ bh 6 (hoC bd V H) 133 V.nv H.names s (by with_reducible (repeat (exact Pick.head))) (by with_reducible (repeat (exact Pick.head))) rfl (by omega) hso) ?_; rintro v' L' ⟨rfl, rfl⟩
      (refine KO.on rfl rfl ?_ ?_; (focus (simp_all; done)); (refine KO.not rfl rfl ?_))
      (refine KO.on rfl rfl ?_ ?_; (focus rfl); ((refine KO.pickT rfl ?_ rfl rfl ?_; (focus (simp_all; done)))))
      (refine KO.pickF rfl ?_ rfl rfl ?_; (focus rfl))
      refine KO.nil ?_
      exact KQ.mid () trivial ⟨rfl, rfl, rfl, rfl, rfl, by simp [hsd, envAt], trivial⟩ (fun w' hs' => hs'.all (by with_reducible repeat (first | exact PAll.refl | refine PAll.cons (by with_reducible repeat (first | exact Pick.head | apply Pick.tail)) ?_)))
  rintro ⟨⟩ -
  try dsimp only
  refine K.condD rfl (fun h4 => ?_) (fun h4 => ?_)
  · have he : getE H u s = 7 := by rw [heq, if_pos h4]
    repeat ((with_reducible refine K.seq ?_))
    refine K.reg ?_
    refine KO.bldN (pl := [(0, 1), (1, 1), (2, 1), (3, 1), (4, 1)]) rfl Tryz.zeroValue44 Tryz.runUnderlying44 (by intro w; simp [Tryz.sizeOf3, Tryz.sizeOf9]) (by exact rfl) rfl ?_
    refine KO.mki rfl (by kernel_rfl) rfl ?_
    refine KO.sto0 rfl rfl rfl (by exact rfl) (by exact Tryz.sizeOf44) (by exact rfl) (by with_reducible (repeat (exact Pick.head))) (by exact rfl) ?_
    refine KO.as rfl rfl ?_
    refine KO.nil ?_
    repeat (first | (with_reducible refine KQ.next ?_) | (with_reducible refine KQ.then_ret ?_) | (with_reducible refine K.ret ?_))
    refine KQ.retCT rfl rfl Tryz.isAgg44 (by with_reducible (repeat (exact Pick.head))) (by exact Tryz.sizeOf44) rfl (fun w' hs' => ⟨_, hoP bh bd H :: L, rfl, ?_, ?_⟩)
    · exact ends 7 (by decide) he
    · exact hoP_mk V hV (hs'.all (by with_reducible repeat (first | exact PAll.refl | refine PAll.cons (by with_reducible repeat (first | exact Pick.head | apply Pick.tail)) ?_ | apply PAll.drop)))
  rw [if_neg h4] at heq
  repeat (first | (with_reducible refine K.seq ?_) | (with_reducible refine KQ.next ?_) | (with_reducible refine K.skip ?_))
  cases hdn : H.down with
  | true =>
    have he : getE H u s = 6 := by rw [heq, if_pos hdn]
    refine K.reg ?_
    refine KO.mv rfl rfl ?_
    refine KO.nc rfl rfl ?_
    refine KO.fo0 (off := 3) rfl Tryz.runUnderlying133 rfl rfl Tryz.sizeOf4 rfl ?_
    refine KO.ldAt (i := 3) rfl rfl Tryz.isAgg4 (by with_reducible (repeat (first | exact Pick.head | apply Pick.tail))) rfl rfl rfl ?_
    refine KO.nil ?_
    repeat ((with_reducible refine KQ.next ?_))
    refine K.condT rfl hdn ?_
    repeat ((with_reducible refine K.seq ?_))
    refine K.reg ?_
    refine KO.bldN (pl := [(0, 1), (1, 1), (2, 1), (3, 1), (4, 1)]) rfl Tryz.zeroValue44 Tryz.runUnderlying44 (by intro w; simp [Tryz.sizeOf3, Tryz.sizeOf9]) (by exact rfl) rfl ?_
    refine KO.mki rfl (by kernel_rfl) rfl ?_
    refine KO.sto0 rfl rfl rfl (by exact rfl) (by exact Tryz.sizeOf44) (by exact rfl) (by with_reducible (repeat (exact Pick.head))) (by exact rfl) ?_
    refine KO.as rfl rfl ?_
    refine KO.nil ?_
    repeat (first | (with_reducible refine KQ.next ?_) | (with_reducible refine KQ.then_ret ?_) | (with_reducible refine K.ret ?_))
    refine KQ.retCT rfl rfl Tryz.isAgg44 (by with_reducible (repeat (exact Pick.head))) (by exact Tryz.sizeOf44) rfl (fun w' hs' => ⟨_, hoP bh bd H :: L, rfl, ?_, ?_⟩)
    · exact ends 6 (by decide) he
    · exact hoP_mk V hV (hs'.all (by with_reducible repeat (first | exact PAll.refl | refine PAll.cons (by with_reducible repeat (first | exact Pick.head | apply Pick.tail)) ?_ | apply PAll.drop)))
  | false =>
  have he : getE H u s = qgetE (H.qAt i) := by rw [heq, if_neg (by simp [hdn])]
  have hql := (hB.qa hil).len
  refine K.reg ?_
  refine KO.mv rfl rfl ?_
  refine KO.nc rfl rfl ?_
  refine KO.fo0 (off := 3) rfl Tryz.runUnderlying133 rfl rfl Tryz.sizeOf4 rfl ?_
  refine KO.ldAt (i := 3) rfl rfl Tryz.isAgg4 (by with_reducible (repeat (first | exact Pick.head | apply Pick.tail))) rfl rfl rfl ?_
  refine KO.nil ?_
  repeat ((with_reducible refine KQ.next ?_))
  refine K.condF rfl hdn ?_
  repeat (first | (with_reducible refine K.seq ?_) | (with_reducible refine KQ.next ?_) | (with_reducible refine K.skip ?_))
  rcases hmm : qgetM (H.qAt i) with ⟨mi, mp, mb, mq, mh⟩
  refine K.reg ?_
  refine KO.mv rfl rfl ?_
  refine KO.mv rfl rfl ?_
  refine KO.cl (cp := []) rfl rfl rfl Tryz.call58 rfl (KC.famC (φ := fun v => v = .tuple #[.agg (msC (qgetM (H.qAt i))).toArray, errV 70 (qgetE (H.qAt i))]) hp (all_q hV.ways hil) (by with_reducible (repeat (first | exact Pick.head | apply Pick.tail))) (fun L => get_c w0 L p (H.qAt i) u (by omega))) ?_; rintro v' L' ⟨rfl, rfl⟩; rw [hmm]
  refine KO.mv rfl rfl ?_
  refine KO.extrL rfl (by exact rfl) rfl ?_
  refine KO.extrL rfl (by exact rfl) rfl ?_
  refine KO.alloc rfl Tryz.zeroValue44 (by exact rfl) rfl ?_; intro b10
  refine KO.sto0 rfl rfl rfl (by exact rfl) (by exact Tryz.sizeOf44) (by exact rfl) (by with_reducible (repeat (exact Pick.head))) (by exact rfl) ?_
  refine KO.as rfl rfl ?_
  refine KO.nil ?_
  repeat (first | (with_reducible refine K.seq ?_) | (with_reducible refine KQ.next ?_))
  refine K.reg ?_
  refine KO.mv rfl rfl ?_
  refine KO.neN rfl (by kernel_rfl) rfl ?_
  refine KO.nil ?_
  repeat ((with_reducible refine KQ.next ?_))
  refine K.condD rfl (fun h9 => ?_) (fun h9 => ?_)
  · have hsame : qget (H.qAt i) u = H.qAt i := by
      unfold qgetE at h9
      unfold qget
      split
      · rfl
      · rename_i k hk; rw [hk] at h9; exact absurd rfl h9
    repeat ((with_reducible refine K.seq ?_))
    refine K.reg ?_
    refine KO.bldN (pl := [(0, 1), (1, 1), (2, 1), (3, 1), (4, 1)]) rfl Tryz.zeroValue44 Tryz.runUnderlying44 (by intro w; simp [Tryz.sizeOf3, Tryz.sizeOf9]) (by exact rfl) rfl ?_
    refine KO.mv rfl rfl ?_
    refine KO.sto0 rfl rfl rfl (by exact rfl) (by exact Tryz.sizeOf44) (by exact rfl) (by with_reducible (repeat (first | exact Pick.head | apply Pick.tail))) (by exact rfl) ?_
    refine KO.as rfl rfl ?_
    refine KO.nil ?_
    repeat (first | (with_reducible refine KQ.next ?_) | (with_reducible refine KQ.then_ret ?_) | (with_reducible refine K.ret ?_))
    refine KQ.retCT rfl rfl Tryz.isAgg44 (by with_reducible (repeat (exact Pick.head))) (by exact Tryz.sizeOf44) rfl (fun w' hs' => ?_)
    rw [hsame, setQu_same (all_q hV.ways hil)] at hs'
    exact ⟨_, hoP bh bd H :: L, rfl, ends _ h9 he, hoP_mk V hV (hs'.all (by repeat (first | exact PAll.refl | refine PAll.cons (by repeat (first | exact Pick.head | apply Pick.tail)) ?_ | apply PAll.drop)))⟩
  have h90 : qgetE (H.qAt i) = 0 := by simpa using h9
  rw [h90] at he
  have hul : u.toNat < 5 := by omega
  have hui : u = ((u.toNat : Nat) : Int) := by omega
  have hus := hV.us
  have hun := hV.units
  obtain ⟨pv, hpv⟩ : ∃ e, V.us[u.toNat]? = some e := ⟨_, List.getElem?_eq_getElem (by omega)⟩
  obtain ⟨x, hxu⟩ : ∃ e, H.units[u.toNat]? = some e := ⟨_, List.getElem?_eq_getElem (by omega)⟩
  have hxl := hl x (List.mem_of_getElem? hxu)
  have hxA : H.uAt u.toNat = x := by unfold Ho.uAt; rw [List.getD_eq_getElem?_getD, hxu]; rfl
  obtain ⟨-, c2, -, c4⟩ := hoC_unit (bd := bd) hV hpv
  have hg1 : (V.us.map (·.2))[u.toNat]? = some pv.2 := by rw [List.getElem?_map, hpv]; rfl
  have hg2 : (H.units.map (·.gets))[u.toNat]? = some x.gets := by rw [List.getElem?_map, hxu]; rfl
  have hm2 : getM H u s = ⟨mi, mp, mb, mq, mh⟩ := by unfold getM; rw [if_pos he, hq]; exact hmm
  repeat (first | (with_reducible refine K.seq ?_) | (with_reducible refine KQ.next ?_) | (with_reducible refine K.skip ?_))
  refine K.conv (fun w hw => fam_out hg1 hg2 (hw.pick (A := fam getsS (V.us.map (·.2)) (H.units.map (·.gets))) (by with_reducible (repeat (first | exact Pick.head | apply Pick.tail))))) ?_
  refine K.draw [.pure, .pure, .pure, .pure, .pure, .pure, .pure, .pure, .read, .pure, .read, .pure, .pure, .keep, .write, .pure, .pure, .pure, .pure, .write] [0, 1, 2, 3, 4, 5, 6, 7, 8, 9, 10, 11, 12, 15, 16, 13, 14, 17, 18, 19] (by kernel_rfl) (by kernel_rfl) ?_
  refine KO.mv rfl rfl ?_
  refine KO.mv rfl rfl ?_
  refine KO.mv rfl rfl ?_
  refine KO.mv rfl rfl ?_
  refine KO.nc rfl rfl ?_
  refine KO.fo0 (off := 12) rfl Tryz.runUnderlying133 rfl rfl Tryz.sizeOf131 rfl ?_
  refine KO.idxA (i := u.toNat) rfl rfl Tryz.runUnderlying131 Tryz.sizeOf130 hui (by omega) rfl ?_
  refine KO.fldH (off := 1) rfl Tryz.runUnderlying130 rfl rfl Tryz.sizeOf128 rfl ?_
  refine KO.ldAt (i := 13 + 2 * u.toNat) rfl rfl Tryz.isAgg128 (by with_reducible (repeat (first | exact Pick.head | apply Pick.tail))) (by simp only [Addr.add_lit]; (simp; done)) c2 rfl ?_
  refine KO.fo0 (off := 0) rfl Tryz.runUnderlying44 rfl rfl Tryz.sizeOf3 rfl ?_
  refine KO.ld rfl rfl Tryz.isAgg3 (by with_reducible (repeat (first | exact Pick.head | apply Pick.tail))) (by exact rfl) rfl ?_
  refine KO.mv rfl rfl ?_
  refine KO.bldN (pl := [(0, 1), (1, 1)]) rfl Tryz.zeroValue146 Tryz.runUnderlying146 (by intro w; simp [Tryz.sizeOf3, Tryz.sizeOf9]) (by exact rfl) rfl ?_
  refine KO.nc rfl rfl ?_
  refine KO.fo0 (off := 12) rfl Tryz.runUnderlying133 rfl rfl Tryz.sizeOf131 rfl ?_
  refine KO.bs1 (z := (Value.agg #[.int .i64 0, .string ⟨#[]⟩])) (sz := 2) (by' := 24) rfl rfl Tryz.underlying128 (by kernel_rfl) (by exact rfl) (by exact rfl) (by decide) (by decide) rfl ?_; intro b74
  refine KO.app (z := Value.agg #[.int .i64 0, .string ⟨#[]⟩]) (sz := 2) (by' := 24) (xs := x.gets) (cf := gotC) rfl rfl rfl (.tail .head) .head Tryz.underlying128 (by kernel_rfl) (by exact rfl) (mi, s) rfl rfl rfl (by omega) (by decide) rfl ?_; intro v14; refine KO.fact (fun _ hs => SL_form hs) ?_; rintro ⟨a13, k13, hv13, -⟩
  refine KO.idxA (i := u.toNat) rfl rfl Tryz.runUnderlying131 Tryz.sizeOf130 hui (by omega) rfl ?_
  refine KO.fldH (off := 1) rfl Tryz.runUnderlying130 rfl rfl Tryz.sizeOf128 rfl ?_
  refine KO.stAt (b := bh) (i := 13 + 2 * u.toNat) rfl rfl rfl (by rw [hv13]; rfl) (by exact Tryz.sizeOf128) (by rw [hv13]; rfl) (by with_reducible (repeat (first | exact Pick.head | apply Pick.tail))) (by simp only [Addr.add_lit]; (simp; done)) (by rw [hoC_len hV]; omega) ?_; rw [c4]
  refine KO.nil ?_
  repeat (first | (with_reducible refine K.seq ?_) | (with_reducible refine KQ.next ?_))
  refine K.reg ?_
  refine KO.ldB0 rfl rfl Tryz.isAgg44 Tryz.sizeOf44 (by with_reducible (repeat (first | exact Pick.head | apply Pick.tail))) (by exact rfl) rfl ?_
  refine KO.sto0 rfl rfl rfl (by exact rfl) (by exact Tryz.sizeOf44) (by exact rfl) (by with_reducible (repeat (first | exact Pick.head | apply Pick.tail))) (by exact rfl) ?_
  refine KO.as rfl rfl ?_
  refine KO.nil ?_
  repeat (first | (with_reducible refine KQ.next ?_) | (with_reducible refine K.ret ?_))
  refine KQ.retCT rfl rfl Tryz.isAgg44 (by with_reducible (repeat (exact Pick.head))) (by exact Tryz.sizeOf44) rfl (fun w' hs' => ⟨_, _, rfl, ⟨by rw [he, hm2]; rfl, rfl⟩, ?_⟩)
  have e1 : getH H u s = putU { H.setA (4 + i) (qget (H.qAt i) u) with next := H.next } u.toNat ⟨x.puts, x.gets ++ [(mi, s)]⟩ := by
    unfold getH
    rw [if_pos he, hxA, hq]
    simp only [Option.getD_some]
    rw [hmm]
    unfold Ho.setA
    rw [if_neg (by omega), show 4 + i - 4 = i by omega]
    rfl
  rw [e1]
  have hs2 := fam_in (f := getsS) (ps := V.us.map (·.2)) (xs := H.units.map (·.gets)) (i := u.toNat) (p := v14) (x := x.gets ++ [(mi, s)]) (by simp [hus]; omega) (by simp [hun]; omega) (hs'.all (M := getsS v14 (x.gets ++ [(mi, s)]) :: fam getsS ((V.us.map (·.2)).eraseIdx u.toNat) ((H.units.map (·.gets)).eraseIdx u.toNat) :: blk bh (.cells (hoC bd { V with us := V.us.set u.toNat (pv.1, v14) } H).toArray 133 (0, 0)) :: nmS V.nv H.names :: omapK Value.string V.mb (mapE V H) :: fam quP V.ps (H.all.set (4 + i) (qget (H.qAt i) u)) :: fam putsS (V.us.map (·.1)) (H.units.map (·.puts)) :: fam batS V.bs H.batch :: L) (by repeat (first | exact PAll.refl | refine PAll.cons (by repeat (first | exact Pick.head | apply Pick.tail)) ?_ | apply PAll.drop)))
  exact hoP_unit hV (4 + i) _ u.toNat H.next _ (pv.1, v14) (hs2.all (by repeat (first | exact PAll.refl | refine PAll.cons (by repeat (first | exact Pick.head | apply Pick.tail)) ?_))) (fam_same hpv rfl) rfl (fam_same hxu rfl) rfl
end Go.Proofs.YtjhogocabcdjbabGreatDoor
/- a map that is gone through -/
namespace WB
open Go Go.RowKit Go.ChangeMaps Go.MapKept
section
variable {κ : Type}
structure itB (kv : κ → Value) (es : Array MapEntry) (clk : Nat) (seen : Array Nat) (m left : List (κ × Value)) (cur : Option (κ × Value)) : Prop where
  esb : esB kv es.toList clk m
  left : ((leftOf es seen).toList.map fun e => (e.key, e.val)) = left.map fun x => (kv x.1, x.2)
  cur : ∀ x, cur = some x → ∃ e ∈ es.toList, e.key = kv x.1 ∧ e.val = x.2 ∧ ∃ s : Array Nat, seen = s.push e.born
def itK (kv : κ → Value) (b r : Nat) (m left : List (κ × Value)) (cur : Option (κ × Value)) : HP :=
  ex fun es : Array MapEntry => ex fun clk : Nat => ex fun seen : Array Nat => sep (pur (itB kv es clk seen m left cur)) (sep (blk b (.map es clk)) (blk r (.mapIter (some b) clk seen clk)))
variable {kv : κ → Value} {w0 w : World} {L : List HP} {P : Program} {b r : Nat} {m left : List (κ × Value)} {cur : Option (κ × Value)}
theorem itK_open (h : St w0 (itK kv b r m left cur :: L) w) : ∃ es clk seen, itB kv es clk seen m left cur ∧ St w0 (blk b (.map es clk) :: blk r (.mapIter (some b) clk seen clk) :: L) w := by
  obtain ⟨es, h⟩ := h.exs
  obtain ⟨clk, h⟩ := h.exs
  obtain ⟨seen, h⟩ := h.exs
  obtain ⟨hi, h⟩ := h.split.purs
  exact ⟨es, clk, seen, hi, h.split⟩
theorem itK_mk {es : Array MapEntry} {clk : Nat} {seen : Array Nat} (hi : itB kv es clk seen m left cur) (h : St w0 (blk b (.map es clk) :: blk r (.mapIter (some b) clk seen clk) :: L) w) : St w0 (itK kv b r m left cur :: L) w :=
  St.exi es (St.exi clk (St.exi seen (St.join (St.puri hi h.join))))
/-- the going through is over -/
theorem itK_done (h : St w0 (itK kv b r m left cur :: L) w) : St w0 (omapK kv b m :: L) w := by
  obtain ⟨es, clk, seen, hi, h⟩ := itK_open h
  exact St.exi es (St.exi clk (St.join (St.puri hi.esb (h.pick (.tail .head)).drop)))
theorem leftOf_nil (es : Array MapEntry) : leftOf es #[] = es := by
  unfold leftOf
  rw [Array.filter_eq_self]
  intro e _; simp
theorem itK_start (h : St w0 (omapK kv b m :: L) w) {t k E : TypeId} (ht : P.underlying t = some (.map k E)) :
    ∃ w', (Instr.range t (.map (some b))).run P w = .ok (.pointer (some ⟨w.heap.size, 0, none⟩)) w' ∧ Ext w w' ∧ St w0 (itK kv b w.heap.size m m none :: L) w' := by
  obtain ⟨es, h⟩ := h.exs
  obtain ⟨clk, h⟩ := h.exs
  obtain ⟨hr, h⟩ := h.split.purs
  refine ⟨_, run_range_map w t k E b es clk ht h.look.2, Ext.alloc w _, itK_mk (es := es) (clk := clk) (seen := #[]) ⟨hr, ?_, fun x hx => by cases hx⟩ (h.alloc (.mapIter (some b) clk #[] clk)).swap2⟩
  rw [leftOf_nil]; exact hr.ents
theorem erase_born : ∀ {l : List MapEntry} {i : Nat} {e : MapEntry}, (l.map (·.born)).Nodup → l[i]? = some e → l.filter (fun f => !(f.born == e.born)) = l.eraseIdx i
  | [], _, _, _, h => by simp at h
  | a :: l, 0, e, hn, h => by
    simp only [List.getElem?_cons_zero, Option.some.injEq] at h; subst h
    rw [List.map_cons, List.nodup_cons] at hn
    simp only [List.filter_cons, BEq.rfl, Bool.not_true, Bool.false_eq_true, if_false, List.eraseIdx_cons_zero]
    rw [List.filter_eq_self]
    intro f hf
    have : f.born ≠ a.born := fun e => hn.1 (List.mem_map.2 ⟨f, hf, e⟩)
    simp [this]
  | a :: l, i + 1, e, hn, h => by
    simp only [List.getElem?_cons_succ] at h
    rw [List.map_cons, List.nodup_cons] at hn
    have : a.born ≠ e.born := fun ee => hn.1 (List.mem_map.2 ⟨e, List.mem_of_getElem? h, ee.symm⟩)
    simp only [List.filter_cons, List.eraseIdx_cons_succ]
    rw [if_pos (by simp [this]), erase_born hn.2 h]
theorem itK_next (h : St w0 (itK kv b r m left cur :: L) w) (ty : TypeId) :
    (left = [] ∧ (Instr.next (.pointer (some ⟨r, 0, none⟩)) false ty).run P w = .ok (.tuple #[.bool false]) w) ∨
    ∃ (i : Nat) (x : κ × Value) (w' : World), left[i]? = some x ∧ (Instr.next (.pointer (some ⟨r, 0, none⟩)) false ty).run P w = .ok (.tuple #[.bool true, kv x.1, x.2]) w' ∧ St w0 (itK kv b r m (left.eraseIdx i) (some x) :: L) w' := by
  obtain ⟨es, clk, seen, hi, h⟩ := itK_open h
  have hb := h.look.2
  have hr := h.drop.look.2
  rcases run_next_at (P := P) w ty r b clk clk seen es clk hr hb hi.esb.old (Nat.le_refl _) with ⟨h0, hrun⟩ | ⟨e, he, w1, hw1, hrun⟩
  · left
    refine ⟨?_, hrun⟩
    have := congrArg List.length hi.left
    simp [h0] at this
    exact List.eq_nil_of_length_eq_zero this.symm
  · right
    obtain ⟨i, hilt, hie⟩ := List.getElem_of_mem he
    have hll : (leftOf es seen).toList.length = left.length := by have := congrArg List.length hi.left; simpa using this
    have hmem : e ∈ es.toList := by
      have := he
      unfold leftOf at this
      rw [Array.toList_filter] at this
      exact (List.mem_filter.1 this).1
    have hx : ∃ x, left[i]? = some x ∧ e.key = kv x.1 ∧ e.val = x.2 := by
      have hil : i < left.length := by omega
      refine ⟨left[i], List.getElem?_eq_getElem hil, ?_⟩
      have := congrArg (fun l => l[i]?) hi.left
      simp only [List.getElem?_map, List.getElem?_eq_getElem hilt, List.getElem?_eq_getElem hil, Option.map_some, Option.some.injEq, Prod.mk.injEq] at this
      rw [hie] at this
      exact this
    obtain ⟨x, hx1, hx2, hx3⟩ := hx
    have hst : St w0 (blk b (.map es clk) :: blk r (.mapIter (some b) clk seen clk) :: L) w1 := by
      rcases hw1 with rfl | rfl
      · exact h
      · exact h.drew
    refine ⟨i, x, _, hx1, by rw [hrun, hx2, hx3], itK_mk (es := es) (clk := clk) (seen := seen.push e.born) ⟨hi.esb, ?_, fun y hy => ?_⟩ ?_⟩
    · have h1 : (leftOf es (seen.push e.born)).toList = (leftOf es seen).toList.filter fun f => !(f.born == e.born) := by
        unfold leftOf
        rw [Array.toList_filter, Array.toList_filter, List.filter_filter]
        congr 1
        funext f
        simp only [Array.contains_push, Bool.not_or]
        exact Bool.and_comm _ _
      have hn : ((leftOf es seen).toList.map (·.born)).Nodup := by
        unfold leftOf
        rw [Array.toList_filter]
        exact (List.filter_sublist.map _).nodup hi.esb.nodup
      rw [h1, erase_born hn (i := i) (by rw [List.getElem?_eq_getElem hilt, hie]), map_eraseIdx, map_eraseIdx, hi.left]
    · cases hy
      exact ⟨e, hmem, hx2, hx3, seen, rfl⟩
    · refine (St.swap2 (h.swap2.upd (w' := setBlock w1 r (.mapIter (some b) clk (seen.push e.born) clk)) ?_ ?_ ?_ ?_ ?_ ?_ ))
      · rcases hw1 with rfl | rfl <;> rfl
      · rcases hw1 with rfl | rfl <;> rfl
      · rcases hw1 with rfl | rfl <;> rfl
      · rcases hw1 with rfl | rfl <;> simp [setBlock]
      · have hlt : r < w.heap.size := h.drop.lt
        rcases hw1 with rfl | rfl <;> simp [setBlock, hlt]
      · intro k hk
        rcases hw1 with rfl | rfl
        · simp [setBlock, Array.getElem?_setIfInBounds, Ne.symm hk]
        · simp [setBlock, Array.getElem?_setIfInBounds, Ne.symm hk]; rfl
theorem itK_entry {x : κ × Value} (h : St w0 (itK kv b r m left (some x) :: L) w) {w1 : World} (he : Ext w w1) :
    (Instr.entry (.pointer (some ⟨r, 0, none⟩))).run P w1 = .ok (.tuple #[kv x.1, x.2]) w1 := by
  obtain ⟨es, clk, seen, hi, h⟩ := itK_open h
  obtain ⟨e, hm, h1, h2, s, rfl⟩ := hi.cur x rfl
  have hb := h.look.2
  have hr := h.drop.look.2
  have hb1 : w1.heap[b]? = some (.map es clk) := by rw [he.2 b h.lt]; exact hb
  have hr1 : w1.heap[r]? = some (.mapIter (some b) clk (s.push e.born) clk) := by rw [he.2 r h.drop.lt]; exact hr
  rw [run_entry_at w1 r b clk s es clk e hr1 hb1 hm hi.esb.nodup, h1, h2]
end
section
variable {κ : Type} {kv : κ → Value}
variable {P : Program} {ops : Array Oper} {d : Bool} {Q : Exit → Act → World → Prop} {n : Nat} {D : List Deferred} {w0 : World} {G : Env} {L R : List HP} {l : List (Kd × Oper)} {k : Kd}
  {t : Nat} {op : Op} {ty T KT E : TypeId} {pos : String} {af : Array Edge} {x y u : Operand} {v z : Value} {b r : Nat} {m left : List (κ × Value)} {cur : Option (κ × Value)} {e : κ × Value}
/-- one of several ways -/
theorem KO.wvP {ι : Type} (hk : (!d || k == .write) = true) {φ : ι → Value → Prop} {N : ι → List HP} (hr : ∀ a w, Knows n D G a → St w0 L w → ∃ v w' p, (execOp a.eval ⟨some t, op, ty, pos, af, none⟩).run P w = .ok (.value v) w' ∧ φ p v ∧ St w0 (N p) w') (ht : Nat.blt t n = true)
    (h : ∀ p v, φ p v → KO P ops d Q n D w0 ((t, v) :: G) (N p) l) : KO P ops d Q n D w0 G L ((k, ⟨some t, op, ty, pos, af, none⟩) :: l) := fun a w ha hw => by
  obtain ⟨v, w', p, hr, hp, hs⟩ := hr a w ha hw
  refine vcG_write hk rfl ?_
  unfold Oper.wp
  rw [hr]
  exact h p v hp _ w' (put_dst ha _ ht) hs
theorem KO.rng (hk : (!d || (k == .keep || k == .write)) = true) (hx : ev G x = some (.map (some b))) (hT : P.underlying T = some (.map KT E)) (hp : Pick L (omapK kv b m) R) (ht : Nat.blt t n = true)
    (h : ∀ r, KO P ops d Q n D w0 ((t, .pointer (some ⟨r, 0, none⟩)) :: G) (itK kv b r m m none :: R) l) : KO P ops d Q n D w0 G L ((k, ⟨some t, .range T x, ty, pos, af, none⟩) :: l) :=
  KO.keepRun hk (F := fun bb => .pointer (some ⟨bb, 0, none⟩)) (N := fun r => itK kv b r m m none :: R) (fun a w ha hw => by
    obtain ⟨w', h1, h2, h3⟩ := itK_start (P := P) (hw.pick hp) hT
    exact ⟨w.heap.size, w', by simp [execOp, ha.eval hx, h1], h2, h3⟩) ht h
theorem KO.nxt (hk : (!d || k == .write) = true) (hx : ev G x = some (.pointer (some ⟨r, 0, none⟩))) (hp : Pick L (itK kv b r m left cur) R) (ht : Nat.blt t n = true)
    (h0 : left = [] → KO P ops d Q n D w0 ((t, .tuple #[.bool false]) :: G) (omapK kv b m :: R) l)
    (h1 : ∀ (i : Nat) (e : κ × Value), left[i]? = some e → KO P ops d Q n D w0 ((t, .tuple #[.bool true, kv e.1, e.2]) :: G) (itK kv b r m (left.eraseIdx i) (some e) :: R) l) :
    KO P ops d Q n D w0 G L ((k, ⟨some t, .next x false, ty, pos, af, none⟩) :: l) :=
  KO.wvP (ι := Option (Nat × (κ × Value))) hk (φ := fun p v => match p with | none => left = [] ∧ v = .tuple #[.bool false] | some (i, e) => left[i]? = some e ∧ v = .tuple #[.bool true, kv e.1, e.2])
    (N := fun p => match p with | none => omapK kv b m :: R | some (i, e) => itK kv b r m (left.eraseIdx i) (some e) :: R) (fun a w ha hw => by
      rcases itK_next (P := P) (hw.pick hp) ty with ⟨g0, g1⟩ | ⟨i, e, w', g0, g1, g2⟩
      · exact ⟨_, w, none, by simp [execOp, ha.eval hx, g1], ⟨g0, rfl⟩, itK_done (hw.pick hp)⟩
      · exact ⟨_, w', some (i, e), by simp [execOp, ha.eval hx, g1], ⟨g0, rfl⟩, g2⟩) ht
    (fun p v hpv => by
      match p, hpv with
      | none, ⟨g0, g1⟩ => subst g1; exact h0 g0
      | some (i, e), ⟨g0, g1⟩ => subst g1; exact h1 i e g0)
theorem KO.ent (hk : (!d || k != .pure) = true) (hx : ev G x = some (.pointer (some ⟨r, 0, none⟩))) (hp : Pick L (itK kv b r m left (some e)) R) (ht : Nat.blt t n = true)
    (h : KO P ops d Q n D w0 ((t, .tuple #[kv e.1, e.2]) :: G) L l) : KO P ops d Q n D w0 G L ((k, ⟨some t, .entry x, ty, pos, af, none⟩) :: l) :=
  KO.rd hk (fun a w w' ha hw he => by
    have := itK_entry (P := P) (hw.pick hp) he
    simp [execOp, ha.eval hx, this]) ht h
end
end WB
/- the house: units that are over, or taken back -/
namespace WB
open Go Go.RowKit
theorem KO.cutArr {P : Program} {ops : Array Oper} {d : Bool} {Q : Exit → Act → World → Prop} {n : Nat} {D : List Deferred} {w0 : World} {G : Env} {L : List HP} {l : List (Kd × Oper)} {k : Kd}
  {t : Nat} {ty T : TypeId} {pos : String} {af : Array Edge} {x : Operand} {ad : Addr} {len sz : Nat}
    (hx : ev G x = some (.pointer (some ad))) (hT : P.underlying T = some (.array (P.arrayLen T) (P.elem T))) (hl : P.arrayLen T = len + 1) (hs : ∀ w, (Go.sizeOf (P.elem T)).run P w = .ok sz w) (ht : Nat.blt t n = true)
    (h : KO P ops d Q n D w0 ((t, .slice (some (ad.add 0)) (len + 1) (len + 1)) :: G) L l) : KO P ops d Q n D w0 G L ((k, ⟨some t, .slice T x none none none, ty, pos, af, none⟩) :: l) :=
  KO.val (fun a w ha => by
    have := run_sliceAt_array_all (P := P) w T ad hT
    rw [hs w] at this
    simp [execOp, ha.eval hx, this, slicedAt, hl]) ht h
theorem KO.stoAt {P : Program} {ops : Array Oper} {d : Bool} {Q : Exit → Act → World → Prop} {n : Nat} {D : List Deferred} {w0 : World} {G : Env} {L R : List HP} {l : List (Kd × Oper)} {k : Kd}
  {ty T E : TypeId} {pos : String} {af : Array Edge} {x y : Operand} {v : Value} {off b : Nat} {ad : Addr} {cs cs' us : List Value} (hk : (!d || k == .write) = true) (hx : ev G x = some (.pointer (some ad))) (ha : ad = ⟨b, off, none⟩) (hy : ev G y = some v) (hv : v.cells = us.toArray) (hn : ∀ w, (Go.sizeOf T).run P w = .ok us.length w) (h1 : us.all Value.oneCell' = true)
    (hp : Pick L (blk b (.cells cs.toArray E (0, 0))) R) (hfit : off + us.length ≤ cs.length) (hc : putL off us cs = cs') (h : KO P ops d Q n D w0 G (blk b (.cells cs'.toArray E (0, 0)) :: R) l) :
    KO P ops d Q n D w0 G L ((k, ⟨none, .store T x y, ty, pos, af, none⟩) :: l) := by
  subst ha
  exact KO.sto hk hx hy hv hn h1 hp (by simpa [Nat.ble_eq] using hfit) hc h
/-- what a unit did is taken back -/
def hEnds (H : Ho) (u : Int) : Ho := { H with ways := H.ways.map (fun q => qends q u true), queues := H.queues.map (fun x => (x.1, qends x.2 u true)) }
theorem hEnds_all (H : Ho) (u : Int) : (hEnds H u).all = H.all.map fun q => qends q u true := by
  unfold hEnds Ho.all; simp
def endsL (u : Int) (l : List Qu) (js : List Nat) : List Qu := js.foldl (fun l j => l.set j (qends (l.getD j default) u true)) l
theorem endsL_len (u : Int) : ∀ (js : List Nat) (l : List Qu), (endsL u l js).length = l.length
  | [], _ => rfl
  | j :: js, l => by
    have := endsL_len u js (l.set j (qends (l.getD j default) u true))
    rw [List.length_set] at this
    exact this
theorem endsL_get (u : Int) : ∀ (js : List Nat) (l : List Qu) (i : Nat), js.Nodup → (endsL u l js)[i]? = if i ∈ js then (l[i]?).map (fun q => qends q u true) else l[i]?
  | [], l, i, _ => by simp [endsL]
  | j :: js, l, i, h => by
    rw [List.nodup_cons] at h
    have ih := endsL_get u js (l.set j (qends (l.getD j default) u true)) i h.2
    rw [show endsL u l (j :: js) = endsL u (l.set j (qends (l.getD j default) u true)) js from rfl, ih]
    by_cases e : j = i
    · subst e
      rw [if_neg h.1, if_pos (by simp), List.getElem?_set, if_pos rfl]
      split
      · rename_i hj
        rw [List.getD_eq_getElem?_getD, List.getElem?_eq_getElem hj]; rfl
      · rename_i hj
        rw [List.getElem?_eq_none (by omega)]; rfl
    · rw [List.getElem?_set, if_neg e]
      simp only [List.mem_cons, Ne.symm e, false_or]
theorem endsL_map (u : Int) {js : List Nat} {l : List Qu} (h : js.Perm (List.range l.length)) : endsL u l js = l.map fun q => qends q u true := by
  apply List.ext_getElem?
  intro i
  rw [endsL_get u js l i (h.nodup_iff.2 List.nodup_range), List.getElem?_map]
  split
  · rfl
  · rename_i hi
    rw [h.mem_iff, List.mem_range] at hi
    rw [List.getElem?_eq_none (by omega)]; rfl
theorem endsL_QB {n : Nat} (u : Int) : ∀ (js : List Nat) (l : List Qu), (∀ q ∈ l, QB n q) → ∀ q ∈ endsL u l js, QB n q
  | [], _, h, q, hq => h q hq
  | j :: js, l, h, q, hq => endsL_QB u js (l.set j (qends (l.getD j default) u true)) (fun q hq => by
      rcases List.mem_or_eq_of_mem_set hq with h1 | rfl
      · exact h q h1
      · rcases Nat.lt_or_ge j l.length with hj | hj
        · rw [List.getD_eq_getElem?_getD, List.getElem?_eq_getElem hj]
          exact (h _ (List.getElem_mem hj)).ends u true
        · rw [List.set_eq_of_length_le hj] at hq
          exact h _ hq) q hq
theorem endsL_succ {u : Int} {l : List Qu} {js : List Nat} {k j : Nat} (hj : js[k]? = some j) : endsL u l (js.take (k + 1)) = (endsL u l (js.take k)).set j (qends ((endsL u l (js.take k)).getD j default) u true) := by
  rw [take_succ_some hj]
  unfold endsL
  rw [List.foldl_append]; rfl
theorem HoB.hEnds {n : Nat} {H : Ho} (h : HoB n H) (u : Int) : HoB n (hEnds H u) := by
  have hf : (WB.hEnds H u).queues.map (·.1) = H.queues.map (·.1) := by unfold WB.hEnds; simp
  have hq : ∀ s, (WB.hEnds H u).qI s = H.qI s := fun s => by rw [qI_fst, qI_fst, hf]
  refine ⟨h.id, h.used, h.next, h.sorted, h.nlen, by unfold WB.hEnds; simpa using h.qlen, fun q hq => ?_, by rw [hf]; exact h.nodup, by unfold WB.hEnds; simpa using h.ways, h.units, h.batch, h.sent, h.arrived, h.right, fun x hx ht => by rw [hq]; exact h.loc x hx ht⟩
  rw [hEnds_all] at hq
  obtain ⟨q0, h0, rfl⟩ := List.mem_map.1 hq
  exact (h.qs q0 h0).ends u true
def noUnit : Unt := ⟨[], []⟩
/-- Backout -/
def bkE (H : Ho) (u : Int) : Int := if u < 0 ∨ 5 ≤ u then 2 else if (H.uAt u.toNat).puts.length + (H.uAt u.toNat).gets.length = 0 then 8 else if H.down = true then 6 else 0
def bkH (H : Ho) (u : Int) : Ho := if bkE H u = 0 then putU (hEnds H u) u.toNat noUnit else H
theorem HoB.bk {n : Nat} {H : Ho} (h : HoB n H) (u : Int) : HoB n (bkH H u) := by
  unfold bkH; split
  · exact (h.hEnds u).putU _ _
  · exact h
/-- Commit -/
def gotT (g : Int × ByteArray) : ByteArray := itoaS g.1 ++ sp ++ g.2
def recB (x : Unt) : ByteArray := writeS (x.puts.map (·.1)) ++ chr1 47 ++ joinS (x.gets.map gotT) plus
def recU (x : Unt) : ByteArray := ⟨#[117, 58]⟩ ++ writeS (x.puts.map (·.1)) ++ chr1 47 ++ joinS (x.gets.map gotT) plus
def cmPE (H : Ho) (u : Int) : Int := if u < 0 ∨ 5 ≤ u then 2 else if (H.uAt u.toNat).puts.length + (H.uAt u.toNat).gets.length = 0 then 8 else 0
def cmE (H : Ho) (D : Dk) (u : Int) : Int := if cmPE H u ≠ 0 then cmPE H u else logE H D
def cmH (H : Ho) (D : Dk) (u : Int) : Ho := if cmPE H u ≠ 0 then H else if logE H D ≠ 0 then logH H D else (hends (putU (hEnds (logH H D) u) u.toNat noUnit) (recB (H.uAt u.toNat))).1
def cmD (H : Ho) (D : Dk) (u : Int) : Dk := if cmPE H u ≠ 0 then D else logD H D (recU (H.uAt u.toNat))
/-- what a unit may have done -/
structure UntOk (x : Unt) : Prop where
  puts : ∀ p ∈ x.puts, msRight p.1 = true
  gets : ∀ g ∈ x.gets, 0 ≤ g.1 ∧ g.1 ≤ 1099511627776 ∧ wordB g.2 = true
  many : x.puts.length + x.gets.length ≤ 700
section
variable {x : Unt}
theorem UntOk.bad (h : UntOk x) : badI (x.puts.map (·.1)) = none := badI_none fun j m hm => by
  obtain ⟨p, hp, rfl⟩ := List.mem_map.1 (List.mem_of_getElem? hm)
  exact h.puts p hp
theorem gotT_size {g : Int × ByteArray} (h : 0 ≤ g.1 ∧ g.1 ≤ 1099511627776 ∧ wordB g.2 = true) : (gotT g).size ≤ 30 := by
  have h1 := itoaS_size (n := g.1) ⟨by omega, by omega⟩
  have h2 := (wordB_size h.2.2).2
  have h3 : sp.size = 1 := rfl
  unfold gotT; simp only [ByteArray.size_append]; omega
theorem UntOk.gsize (h : UntOk x) : (joinS (x.gets.map gotT) plus).size ≤ 700 * 31 := by
  have := joinS_size plus 30 (x.gets.map gotT) (fun y hy => by
    obtain ⟨g, hg, rfl⟩ := List.mem_map.1 hy
    exact gotT_size (h.gets g hg))
  have h2 := h.many
  have h3 : plus.size = 1 := rfl
  rw [h3, List.length_map] at this
  omega
theorem UntOk.psize (h : UntOk x) : (writeS (x.puts.map (·.1))).size ≤ 700 * 101 := by
  have := writeS_size (l := x.puts.map (·.1)) (fun m hm => by
    obtain ⟨p, hp, rfl⟩ := List.mem_map.1 hm
    exact h.puts p hp)
  have h2 := h.many
  rw [List.length_map] at this
  omega
theorem UntOk.size (h : UntOk x) : (recB x).size ≤ 72000 := by
  have h2 := h.many
  have h1 : (chr1 47).size = 1 := rfl
  have h3 : plus.size = 1 := rfl
  have a := joinS_size plus 30 (x.gets.map gotT) (fun y hy => by
    obtain ⟨g, hg, rfl⟩ := List.mem_map.1 hy
    exact gotT_size (h.gets g hg))
  have b := writeS_size (l := x.puts.map (·.1)) (fun m hm => by
    obtain ⟨p, hp, rfl⟩ := List.mem_map.1 hm
    exact h.puts p hp)
  rw [h3, List.length_map] at a
  rw [List.length_map] at b
  unfold recB; simp only [ByteArray.size_append]; omega
theorem noB_write {c : UInt8} (h1 : c.toNat ≠ 45 ∧ (c.toNat < 48 ∨ 57 < c.toNat)) (h2 : isLet c = false) (h3 : c ≠ 32 ∧ c ≠ 43) {l : List Ms} (h : ∀ m ∈ l, msRight m = true) : noB c (writeS l) := fun b hb => by
  unfold writeS at hb
  rcases mem_joinS hb with hb | ⟨y, hy, hb⟩
  · simp [plus] at hb; subst hb; exact fun e => h3.2 e.symm
  · obtain ⟨m, hm, rfl⟩ := List.mem_map.1 hy
    obtain ⟨-, -, -, -, m5, m6, -, -⟩ := msRight_parts (h m hm)
    rw [msgS_join] at hb
    have hlet : ∀ s : ByteArray, allLet s = true → b ∈ s.data.toList → b ≠ c := fun s hs hb e => by
      subst e
      unfold allLet at hs
      rw [List.all_eq_true] at hs
      rw [hs b hb] at h2; cases h2
    rcases mem_joinS hb with hb | ⟨z, hz, hb⟩
    · simp [sp] at hb; subst hb; exact fun e => h3.1 e.symm
    · simp only [List.mem_cons, List.not_mem_nil, or_false] at hz
      rcases hz with rfl | rfl | rfl | rfl | rfl
      · exact itoa_noB _ h1 b hb
      · exact itoa_noB _ h1 b hb
      · exact hlet _ (body_let m5) hb
      · exact hlet _ (word_let m6) hb
      · exact itoa_noB _ h1 b hb
theorem UntOk.cut (h : UntOk x) : cutB 47 (recB x) = (writeS (x.puts.map (·.1)), joinS (x.gets.map gotT) plus, true) := by
  unfold recB
  exact cutB_hit (noB_write (by decide) (by decide) (by decide) fun m hm => by
    obtain ⟨p, hp, rfl⟩ := List.mem_map.1 hm
    exact h.puts p hp) _
theorem UntOk.read (h : UntOk x) : mrd (cutB 47 (recB x)).1 = some (x.puts.map (·.1)) := by
  rw [h.cut]; exact mrd_write h.bad
theorem recU_eq (x : Unt) : recU x = chr1 117 ++ chr1 58 ++ recB x := by
  unfold recU recB
  rw [show (⟨#[117, 58]⟩ : ByteArray) = chr1 117 ++ chr1 58 by decide]
  simp only [ByteArray.append_assoc]
theorem cutB_recU (x : Unt) : cutB 58 (recU x) = (chr1 117, recB x, true) := by rw [recU_eq]; exact cutB_hit (noB_chr (by decide)) _
theorem UntOk.recO (h : UntOk x) : RecOk 700 (recU x) := by
  have h1 := h.size
  refine ⟨.inr (.inr (by rw [cutB_recU])), ?_, fun _ l hl => ?_⟩
  · have e1 : (chr1 117).size = 1 := rfl
    have e2 : (chr1 58).size = 1 := rfl
    rw [recU_eq]; simp only [ByteArray.size_append]; omega
  · rw [cutB_recU, h.read] at hl
    simp only [Option.some.injEq] at hl
    subst hl
    have := h.many
    simp; omega
end
theorem HoB.cm {n : Nat} {H : Ho} {D : Dk} (h : HoB n H) (u : Int) (hu : ∀ x ∈ H.units, UntOk x) : HoB (n + (H.uAt u.toNat).puts.length) (cmH H D u) := by
  unfold cmH
  split
  · exact h.le (by omega)
  · rename_i h1
    split
    · exact (h.log (D := D)).le (by omega)
    · have hul : u.toNat < 5 := by
        unfold cmPE at h1
        rcases Decidable.em (u < 0 ∨ 5 ≤ u) with h2 | h2
        · rw [if_pos h2] at h1; exact absurd (by decide) h1
        · omega
      have hx : UntOk (H.uAt u.toNat) := by
        apply hu
        unfold Ho.uAt
        rw [List.getD_eq_getElem?_getD, List.getElem?_eq_getElem (by rw [h.units]; exact hul)]
        exact List.getElem_mem _
      refine (((h.log (D := D)).hEnds u).putU _ _).ends (fun l hl => ?_) (fun l hl => ?_) (by omega)
      · rw [hx.read] at hl
        simp only [Option.some.injEq] at hl
        subst hl
        exact badI_all hx.bad
      · rw [hx.read] at hl
        simp only [Option.some.injEq] at hl
        subst hl
        simp
end WB
/- house: all, Backout -/
namespace Go.Proofs.YtjhogocabcdjbabGreatDoor
open Go Go.RowKit WB
def ptrC (p : Nat) : List Value := [ptrV p]
def ptrsS (v : Value) (l : List Nat) : HP := SL 119 1 ptrC v l
theorem four_take {l : List Nat} (h : 4 ≤ l.length) : l.take 4 = [0, 1, 2, 3].map fun j => l.getD j 0 := by
  match l, h with
  | a :: b :: c :: d :: l, _ => rfl
theorem hoC_src {w0 w : World} {L R : List HP} {bh bd : Nat} {V : HoV} {H : Ho} (hV : HoVL V H) (hp : Pick L (blk bh (.cells (hoC bd V H).toArray 133 (0, 0))) R) (hw : St w0 L w) : Src w ptrC (.slice (some ((⟨bh, 8, none⟩ : Addr).add 0)) 4 4) (V.ps.take 4) := by
  have hps := hV.ps
  have h4 : (V.ps.take 4).length = 4 := by simp [hps]
  refine ⟨_, 4, by rw [h4], (fun h => by cases h), fun ad had => ?_⟩
  cases had
  intro j c hj
  have hfl : (V.ps.take 4).flatMap ptrC = (V.ps.take 4).map ptrV := by
    generalize V.ps.take 4 = l
    induction l with
    | nil => rfl
    | cons a l ih => rw [List.flatMap_cons, ih]; rfl
  rw [hfl, List.getElem?_map] at hj
  cases hp2 : (V.ps.take 4)[j]? with
  | none => rw [hp2] at hj; cases hj
  | some p =>
    rw [hp2] at hj
    simp only [Option.map_some, Option.some.injEq] at hj
    subst hj
    have hj4 : j < 4 := by have := (List.getElem?_eq_some_iff.1 hp2).1; omega
    rw [List.getElem?_take, if_pos hj4] at hp2
    have := hoC_way (bd := bd) hV hj4 hp2
    rw [Addr.add_lit, Addr.add_lit, World.cell?, (hw.lookP hp).2]
    simpa using this
theorem mapE_at {V : HoV} {H : Ho} (hV : HoVL V H) {r : Nat} (hr : r < H.queues.length) : ∃ s, (mapE V H).getD r default = (s, ptrV (V.ps.getD (4 + r) 0)) := by
  have hps := hV.ps
  obtain ⟨x, hx⟩ : ∃ e, H.queues[r]? = some e := ⟨_, List.getElem?_eq_getElem hr⟩
  obtain ⟨p, hp⟩ : ∃ e, V.ps[4 + r]? = some e := ⟨_, List.getElem?_eq_getElem (by omega)⟩
  refine ⟨x.1, ?_⟩
  unfold mapE mEnt
  rw [List.getD_eq_getElem?_getD, List.getElem?_zipWith, hx, List.getElem?_drop, hp, List.getD_eq_getElem?_getD, hp]
  rfl
theorem map_erase {α β : Type} (f : α → β) : ∀ (l : List α) (i : Nat), (l.map f).eraseIdx i = (l.eraseIdx i).map f
  | [], _ => rfl
  | a :: l, 0 => rfl
  | a :: l, i + 1 => by simp [map_erase f l i]
theorem perm_erase {α : Type} : ∀ {l : List α} {i : Nat} (h : i < l.length), (l[i] :: l.eraseIdx i).Perm l
  | a :: l, 0, _ => .refl _
  | a :: l, i + 1, h => (List.Perm.swap _ _ _).trans ((perm_erase (l := l) (i := i) (by simpa using h)).cons a)
set_option maxRecDepth 100000 in
theorem all_c (w0 : World) (L : List HP) (bh bd : Nat) (V : HoV) (H : Ho) (hV : HoVL V H) (hn : H.queues.length ≤ 100000) :
    KC Tryz.prog 63 #[ptrV bh] w0 (hoX bh bd V H L) (fun u M => ∃ js : List Nat, js.Perm (List.range V.ps.length) ∧ M = ptrsS u (js.map fun j => V.ps.getD j 0) :: hoX bh bd V H L) := by
  have hps := hV.ps
  have hsE : ∀ w, (Go.sizeOf (Tryz.prog.elem 126)).run Tryz.prog w = .ok 1 w := by
    have e : Tryz.prog.elem 126 = 119 := by kernel_rfl
    rw [e]; exact Tryz.sizeOf119
  refine KC.mk (n := 25) Tryz.func63 rfl Tryz.ntmps63 (by simp) ?_
  repeat ((with_reducible refine K.seq ?_))
  refine K.reg ?_
  refine KO.as rfl rfl ?_
  refine KO.nil ?_
  repeat (first | (with_reducible refine K.seq ?_) | (with_reducible refine KQ.next ?_))
  refine K.reg ?_
  refine KO.as rfl rfl ?_
  refine KO.nil ?_
  repeat (first | (with_reducible refine K.seq ?_) | (with_reducible refine KQ.next ?_))
  refine K.reg ?_
  refine KO.mv rfl rfl ?_
  refine KO.nc rfl rfl ?_
  refine KO.fo0 (off := 7) rfl Tryz.runUnderlying133 rfl rfl Tryz.sizeOf123 rfl ?_
  refine KO.ldAt (i := 7) rfl rfl Tryz.isAgg123 (by with_reducible (repeat (exact Pick.head))) rfl rfl rfl ?_
  refine KO.rng rfl rfl Tryz.underlying123 (by with_reducible (repeat (first | exact Pick.head | apply Pick.tail))) rfl ?_; intro r10
  refine KO.nil ?_
  repeat (first | (with_reducible refine KQ.next ?_) | (with_reducible refine K.block ?_))
  refine K.loop (fun p : List Nat × List Nat × Value × Option (ByteArray × Value) => [(0, ptrV bh), (3, p.2.2.1), (10, .pointer (some ⟨r10, 0, none⟩))])
    (fun p => ptrsS p.2.2.1 (p.2.1.map fun r => V.ps.getD (4 + r) 0) :: itK Value.string V.mb r10 (mapE V H) (p.1.map fun r => (mapE V H).getD r default) p.2.2.2 :: blk bh (.cells (hoC bd V H).toArray 133 (0, 0)) :: nmS V.nv H.names :: fam quP V.ps H.all :: fam putsS (V.us.map (·.1)) (H.units.map (·.puts)) :: fam getsS (V.us.map (·.2)) (H.units.map (·.gets)) :: fam batS V.bs H.batch :: L)
    (fun p => (p.2.1 ++ p.1).Perm (List.range H.queues.length)) (fun p => p.1.length) (List.range H.queues.length, [], .slice none 0 0, none)
    (by simp) ⟨rfl, rfl, rfl, trivial⟩ (fun _ h => ?_) ?_
  · have h1 := SL_nil (E := 119) (sz := 1) (cf := ptrC) h
    have e1 : (List.range H.queues.length).map (fun r => (mapE V H).getD r default) = mapE V H := by
      have hl : (mapE V H).length = H.queues.length := by unfold mapE mEnt; rw [List.length_zipWith, List.length_drop]; omega
      rw [← hl]
      apply List.ext_getElem
      · simp
      · intro i h1 h2; simp [List.getD_eq_getElem?_getD, List.getElem?_eq_getElem h2]
    dsimp only
    rw [e1]
    exact h1.all (by repeat (exact PAll.refl))
  rintro ⟨rest, done, v, cur⟩ hperm
  dsimp only at hperm ⊢
  repeat ((with_reducible refine K.seq ?_))
  refine K.reg ?_
  refine KO.nxt rfl rfl (by with_reducible (repeat (first | exact Pick.head | apply Pick.tail))) rfl (fun h0 => ?_) (fun i e he => ?_)
  refine KO.extrL rfl (by exact rfl) rfl ?_
  refine KO.nil ?_
  repeat (first | (with_reducible refine K.seq ?_) | (with_reducible refine KQ.next ?_))
  have hrest : rest = [] := by simpa using h0
  subst hrest
  rw [List.append_nil] at hperm
  have hdl : done.length ≤ 100000 := by have := hperm.length_eq; simp at this; omega
  refine K.condF rfl rfl ?_
  repeat (first | (with_reducible refine K.seq ?_) | (with_reducible refine KQ.next ?_) | (with_reducible refine KQ.then_exit ?_) | (with_reducible refine KQ.blk_exit ?_) | (with_reducible refine K.exit ?_))
  refine K.reg ?_
  refine KO.mv rfl rfl ?_
  refine KO.mv rfl rfl ?_
  refine KO.nc rfl rfl ?_
  refine KO.fo0 (off := 8) rfl Tryz.runUnderlying133 rfl rfl Tryz.sizeOf126 rfl ?_
  refine KO.cutArr (len := 3) (sz := 1) rfl (by kernel_rfl) (by kernel_rfl) hsE rfl ?_
  refine KO.appS (cf := ptrC) (z := Value.pointer none) (sz := 1) (by' := 8) (xs := done.map fun r => V.ps.getD (4 + r) 0) (ys := V.ps.take 4) rfl rfl rfl (.tail .head) (fun w hw => hoC_src hV (by with_reducible (repeat (first | exact Pick.head | apply Pick.tail))) hw) Tryz.underlying152 (by kernel_rfl) rfl (fun _ => rfl) (fun _ => rfl) (by simp; omega) (by decide) rfl ?_; intro v24
  refine KO.as rfl rfl ?_
  refine KO.nil ?_
  repeat (first | (with_reducible refine KQ.next ?_) | (with_reducible refine K.ret ?_))
  refine KQ.ret1 rfl rfl (fun w' hs' => ⟨_, _, rfl, ⟨done.map (4 + ·) ++ [0, 1, 2, 3], ?_, rfl⟩, ?_⟩)
  · rw [hps, List.range_add]
    exact List.perm_append_comm.trans ((List.Perm.refl _).append (hperm.map _))
  · rw [List.map_append, ← four_take (by omega), List.map_map]
    exact hs'.all (by repeat (first | exact PAll.refl | refine PAll.cons (by repeat (first | exact Pick.head | apply Pick.tail)) ?_))
  obtain ⟨r, hr, rfl⟩ : ∃ r, rest[i]? = some r ∧ (mapE V H).getD r default = e := by
    rw [List.getElem?_map] at he
    cases hr : rest[i]? with
    | none => rw [hr] at he; cases he
    | some r => rw [hr] at he; exact ⟨r, rfl, by simpa using he⟩
  have hrl : r < H.queues.length := by
    have : r ∈ List.range H.queues.length := hperm.mem_iff.1 (List.mem_append_right _ (List.mem_of_getElem? hr))
    simpa using this
  obtain ⟨s, hs0⟩ := mapE_at hV hrl
  rw [hs0]
  have hdl : done.length ≤ 100000 := by have := hperm.length_eq; simp at this; omega
  refine KO.extrL rfl (by exact rfl) rfl ?_
  refine KO.nil ?_
  repeat (first | (with_reducible refine K.seq ?_) | (with_reducible refine KQ.next ?_))
  refine K.condT rfl rfl ?_
  repeat (first | (with_reducible refine K.seq ?_) | (with_reducible refine KQ.next ?_) | (with_reducible refine K.skip ?_) | (with_reducible refine K.block ?_))
  refine K.reg ?_
  refine KO.ent rfl rfl (by with_reducible (repeat (exact Pick.head))) rfl ?_
  refine KO.extrL rfl (by exact rfl) rfl ?_
  refine KO.as rfl rfl ?_
  refine KO.nil ?_
  repeat ((with_reducible refine KQ.next ?_))
  refine K.reg ?_
  refine KO.mv rfl rfl ?_
  refine KO.mv rfl rfl ?_
  refine KO.bs1 (z := (Value.pointer none)) (sz := 1) (by' := 8) rfl rfl Tryz.underlying152 (by kernel_rfl) (by exact rfl) (by exact rfl) (by decide) (by decide) rfl ?_; intro b17
  refine KO.app (cf := ptrC) (z := Value.pointer none) (sz := 1) (by' := 8) (xs := done.map fun r => V.ps.getD (4 + r) 0) rfl rfl rfl (.tail (.tail .head)) .head Tryz.underlying152 (by kernel_rfl) (by exact rfl) (V.ps.getD (4 + r) 0) rfl rfl rfl (by simp; omega) (by decide) rfl ?_; intro v18
  refine KO.as rfl rfl ?_
  refine KO.nil ?_
  repeat ((with_reducible refine KQ.blk_normal ?_))
  refine KQ.round (rest.eraseIdx i, done ++ [r], v18, some (s, ptrV (V.ps.getD (4 + r) 0))) ?_ ?_ ⟨rfl, rfl, rfl, trivial⟩ (fun _ h => ?_)
  · dsimp only
    refine List.Perm.trans ?_ hperm
    rw [List.append_assoc]
    refine (List.Perm.refl done).append ?_
    obtain ⟨hi, rfl⟩ := List.getElem?_eq_some_iff.1 hr
    exact perm_erase hi
  · dsimp only
    have hi := (List.getElem?_eq_some_iff.1 hr).1
    rw [List.length_eraseIdx, if_pos hi]; omega
  · dsimp only
    rw [List.map_append, ← map_erase]
    exact h.all (by repeat (exact PAll.refl))
theorem putL_two : ∀ (i : Nat) (a c : Value) (cs : List Value), i + 2 ≤ cs.length → putL i [a, c] cs = (cs.set i a).set (i + 1) c
  | 0, a, c, x :: y :: cs, _ => rfl
  | 0, a, c, [x], h => by simp at h
  | 0, a, c, [], h => by simp at h
  | i + 1, a, c, x :: cs, h => by
    simp only [List.length_cons] at h
    rw [putL, putL_two i a c cs (by omega)]; rfl
  | i + 1, a, c, [], h => by simp at h
theorem hoC_wipe {bd : Nat} {V : HoV} {H : Ho} (hV : HoVL V H) {u : Nat} (hu : u < 5) : putL (12 + 2 * u) [.slice none 0 0, .slice none 0 0] (hoC bd V H) = hoC bd { V with us := V.us.set u (.slice none 0 0, .slice none 0 0) } H := by
  have hus := hV.us
  obtain ⟨p, hp⟩ : ∃ e, V.us[u]? = some e := ⟨_, List.getElem?_eq_getElem (by omega)⟩
  rw [putL_two _ _ _ _ (by rw [hoC_len hV]; omega), (hoC_unit (bd := bd) hV hp).2.2.1]
  have hV2 : HoVL { V with us := V.us.set u (.slice none 0 0, p.2) } H := ⟨hV.ps, by simp [hV.us], hV.bs, hV.ways, hV.units, hV.batch, hV.sent, hV.arrived⟩
  have hp2 : (V.us.set u (.slice none 0 0, p.2))[u]? = some (.slice none 0 0, p.2) := by rw [List.getElem?_set_self (by omega)]
  rw [show 12 + 2 * u + 1 = 13 + 2 * u by omega]
  have := (hoC_unit (bd := bd) hV2 hp2).2.2.2 (.slice none 0 0)
  rw [this]
  simp only [List.set_set]
/-- the unit's lists are gone -/
theorem unit_wipe {w0 w : World} {L : List HP} {V : HoV} {H : Ho} (hV : HoVL V H) {u : Nat} (hu : u < 5) (h : St w0 (fam putsS (V.us.map (·.1)) (H.units.map (·.puts)) :: fam getsS (V.us.map (·.2)) (H.units.map (·.gets)) :: L) w) :
    St w0 (fam putsS ((V.us.set u (.slice none 0 0, .slice none 0 0)).map (·.1)) ((H.units.set u noUnit).map (·.puts)) :: fam getsS ((V.us.set u (.slice none 0 0, .slice none 0 0)).map (·.2)) ((H.units.set u noUnit).map (·.gets)) :: L) w := by
  have hus := hV.us
  have hun := hV.units
  obtain ⟨p, hp⟩ : ∃ e, V.us[u]? = some e := ⟨_, List.getElem?_eq_getElem (by omega)⟩
  obtain ⟨x, hx⟩ : ∃ e, H.units[u]? = some e := ⟨_, List.getElem?_eq_getElem (by omega)⟩
  rw [List.map_set, List.map_set, List.map_set, List.map_set]
  have h1 := fam_out (i := u) (p := p.1) (x := x.puts) (by rw [List.getElem?_map, hp]; rfl) (by rw [List.getElem?_map, hx]; rfl) h
  have h2 := fam_in (f := putsS) (i := u) (p := .slice none 0 0) (x := []) (by simp; omega) (by simp; omega) (SL_nil (E := 142) (sz := 6) (cf := putC) h1.drop)
  have h3 := fam_out (i := u) (p := p.2) (x := x.gets) (by rw [List.getElem?_map, hp]; rfl) (by rw [List.getElem?_map, hx]; rfl) (h2.all (M := fam getsS (V.us.map (·.2)) (H.units.map (·.gets)) :: fam putsS ((V.us.map (·.1)).set u (.slice none 0 0)) ((H.units.map (·.puts)).set u []) :: L) (by with_reducible repeat (first | exact PAll.refl | refine PAll.cons (by with_reducible repeat (first | exact Pick.head | apply Pick.tail)) ?_)))
  have h4 := fam_in (f := getsS) (i := u) (p := .slice none 0 0) (x := []) (by simp; omega) (by simp; omega) (SL_nil (E := 146) (sz := 2) (cf := gotC) h3.drop)
  exact h4.all (by repeat (first | exact PAll.refl | refine PAll.cons (by repeat (first | exact Pick.head | apply Pick.tail)) ?_))
theorem hoP_wiped {w0 w : World} {bh bd : Nat} {H : Ho} {L : List HP} {V : HoV} (hV : HoVL V H) (a : Int) {u : Nat} (hu : u < 5)
    (h : St w0 (blk bh (.cells (hoC bd { V with us := V.us.set u (.slice none 0 0, .slice none 0 0) } H).toArray 133 (0, 0)) :: nmS V.nv H.names :: omapK Value.string V.mb (mapE V H) :: fam quP V.ps (H.all.map fun q => qends q a true) :: fam putsS (V.us.map (·.1)) (H.units.map (·.puts)) :: fam getsS (V.us.map (·.2)) (H.units.map (·.gets)) :: fam batS V.bs H.batch :: L) w) :
    St w0 (hoP bh bd (putU (hEnds H a) u noUnit) :: L) w := by
  have h1 := unit_wipe (L := blk bh (.cells (hoC bd { V with us := V.us.set u (.slice none 0 0, .slice none 0 0) } H).toArray 133 (0, 0)) :: nmS V.nv H.names :: omapK Value.string V.mb (mapE V H) :: fam quP V.ps (H.all.map fun q => qends q a true) :: fam batS V.bs H.batch :: L) hV hu (h.all (by with_reducible repeat (first | exact PAll.refl | refine PAll.cons (by with_reducible repeat (first | exact Pick.head | apply Pick.tail)) ?_)))
  refine hoP_parts (V := { V with us := V.us.set u (.slice none 0 0, .slice none 0 0) }) (H := putU (hEnds H a) u noUnit) ⟨?_, by simp [hV.us], hV.bs, ?_, by simp [putU, hEnds, hV.units], hV.batch, hV.sent, hV.arrived⟩ (h1.all (M := blk bh (.cells (hoC bd { V with us := V.us.set u (.slice none 0 0, .slice none 0 0) } H).toArray 133 (0, 0)) :: nmS V.nv H.names :: omapK Value.string V.mb (mapE V H) :: fam quP V.ps (H.all.map fun q => qends q a true) :: fam putsS ((V.us.set u (.slice none 0 0, .slice none 0 0)).map (·.1)) ((H.units.set u noUnit).map (·.puts)) :: fam getsS ((V.us.set u (.slice none 0 0, .slice none 0 0)).map (·.2)) ((H.units.set u noUnit).map (·.gets)) :: fam batS V.bs H.batch :: L) (by with_reducible repeat (first | exact PAll.refl | refine PAll.cons (by with_reducible repeat (first | exact Pick.head | apply Pick.tail)) ?_))) rfl rfl rfl ?_ rfl rfl ?_ rfl rfl rfl rfl rfl rfl
  · simp [putU, hEnds, hV.ps]
  · simp [putU, hEnds, hV.ways]
  · unfold mapE; exact mEnt_fst _ _ _ (by simp [putU, hEnds])
  · exact (hEnds_all H a).symm
set_option maxRecDepth 100000 in
set_option maxHeartbeats 2000000 in
theorem hback_c (w0 : World) (L : List HP) (bh bd n : Nat) (H : Ho) (u : Int) (hB : HoB n H) (hn : n < 90000) (hl : ∀ x ∈ H.units, x.puts.length + x.gets.length ≤ 90000) :
    KC Tryz.prog 17 #[ptrV bh, .int .i64 u] w0 (hoP bh bd H :: L) (fun v M => v = errV 70 (bkE H u) ∧ M = hoP bh bd (bkH H u) :: L) := by
  have hql := hB.qlen
  have ends : ∀ k : Int, k ≠ 0 → bkE H u = k → (errV 70 k = errV 70 (bkE H u) ∧ hoP bh bd H :: L = hoP bh bd (bkH H u) :: L) := fun k hk he => by
    have h0 : ¬ bkE H u = 0 := by rw [he]; exact hk
    unfold bkH
    rw [if_neg h0, he]
    exact ⟨rfl, rfl⟩
  refine KC.mk (n := 58) Tryz.func17 rfl Tryz.ntmps17 (by simp) ?_
  repeat ((with_reducible refine K.seq ?_))
  refine K.reg ?_
  refine KO.as rfl rfl ?_
  refine KO.nil ?_
  repeat (first | (with_reducible refine K.seq ?_) | (with_reducible refine KQ.next ?_) | (with_reducible refine K.block ?_))
  by_cases hu : u < 0 ∨ 5 ≤ u
  · have he : bkE H u = 2 := by unfold bkE; rw [if_pos hu]
    by_cases hu0 : u < 0
    · refine K.reg ?_
      refine KO.mv rfl rfl ?_
      refine KO.lss rfl rfl rfl ?_
      refine KO.mv rfl rfl ?_
      (refine KO.no rfl rfl ?_ rfl ?_; (focus (simp only [decide_eq_true_eq, decide_eq_false_iff_not, Bool.not_eq_true, Bool.not_true, Bool.not_false, ne_eq]; omega)))
      (refine KO.no rfl rfl ?_ rfl ?_; (focus (simp only [decide_eq_true_eq, decide_eq_false_iff_not, Bool.not_eq_true, Bool.not_true, Bool.not_false, ne_eq]; omega)))
      (refine KO.pickT rfl ?_ rfl rfl ?_; (focus (simp only [decide_eq_true_eq, decide_eq_false_iff_not, Bool.not_eq_true, Bool.not_true, Bool.not_false, ne_eq]; omega)))
      refine KO.as rfl rfl ?_
      refine KO.nil ?_
      repeat ((with_reducible refine KQ.next ?_))
      refine K.condT rfl (by (simp; done)) ?_
      repeat ((with_reducible refine K.seq ?_))
      refine K.reg ?_
      refine KO.mki rfl (by kernel_rfl) rfl ?_
      refine KO.as rfl rfl ?_
      refine KO.nil ?_
      repeat (first | (with_reducible refine KQ.next ?_) | (with_reducible refine KQ.then_ret ?_) | (with_reducible refine KQ.blk_ret ?_) | (with_reducible refine K.ret ?_))
      refine KQ.ret1 rfl rfl (fun w' hs' => ⟨_, _, rfl, ends 2 (by decide) he, hs'⟩)
    · refine K.reg ?_
      refine KO.mv rfl rfl ?_
      refine KO.lss rfl rfl rfl ?_
      refine KO.mv rfl rfl ?_
      (refine KO.on rfl rfl ?_ ?_; (focus (simp only [decide_eq_true_eq, decide_eq_false_iff_not, Bool.not_eq_true, Bool.not_true, Bool.not_false, ne_eq]; omega)); (refine KO.mv rfl rfl ?_))
      (refine KO.on rfl rfl ?_ ?_; (focus (simp only [decide_eq_true_eq, decide_eq_false_iff_not, Bool.not_eq_true, Bool.not_true, Bool.not_false, ne_eq]; omega)); (refine KO.geq rfl rfl rfl ?_))
      (refine KO.pickF rfl ?_ rfl rfl ?_; (focus (simp only [decide_eq_true_eq, decide_eq_false_iff_not, Bool.not_eq_true, Bool.not_true, Bool.not_false, ne_eq]; omega)))
      refine KO.as rfl rfl ?_
      refine KO.nil ?_
      repeat ((with_reducible refine KQ.next ?_))
      refine K.condT rfl (by (simp; omega)) ?_
      repeat ((with_reducible refine K.seq ?_))
      refine K.reg ?_
      refine KO.mki rfl (by kernel_rfl) rfl ?_
      refine KO.as rfl rfl ?_
      refine KO.nil ?_
      repeat (first | (with_reducible refine KQ.next ?_) | (with_reducible refine KQ.then_ret ?_) | (with_reducible refine KQ.blk_ret ?_) | (with_reducible refine K.ret ?_))
      refine KQ.ret1 rfl rfl (fun w' hs' => ⟨_, _, rfl, ends 2 (by decide) he, hs'⟩)
  refine K.reg ?_
  refine KO.mv rfl rfl ?_
  refine KO.lss rfl rfl rfl ?_
  refine KO.mv rfl rfl ?_
  (refine KO.on rfl rfl ?_ ?_; (focus (simp only [decide_eq_true_eq, decide_eq_false_iff_not, Bool.not_eq_true, Bool.not_true, Bool.not_false, ne_eq]; omega)); (refine KO.mv rfl rfl ?_))
  (refine KO.on rfl rfl ?_ ?_; (focus (simp only [decide_eq_true_eq, decide_eq_false_iff_not, Bool.not_eq_true, Bool.not_true, Bool.not_false, ne_eq]; omega)); (refine KO.geq rfl rfl rfl ?_))
  (refine KO.pickF rfl ?_ rfl rfl ?_; (focus (simp only [decide_eq_true_eq, decide_eq_false_iff_not, Bool.not_eq_true, Bool.not_true, Bool.not_false, ne_eq]; omega)))
  refine KO.as rfl rfl ?_
  refine KO.nil ?_
  repeat ((with_reducible refine KQ.next ?_))
  refine K.condF rfl (by (simp; omega)) ?_
  repeat ((with_reducible refine K.seq ?_))
  refine K.open' (fun _ h => hoP_open h) ?_
  rintro ⟨V, hV⟩
  dsimp only
  have hul : u.toNat < 5 := by omega
  have hui : u = ((u.toNat : Nat) : Int) := by omega
  have hus := hV.us
  have hun := hV.units
  have hps := hV.ps
  obtain ⟨pv, hpv⟩ : ∃ e, V.us[u.toNat]? = some e := ⟨_, List.getElem?_eq_getElem (by omega)⟩
  obtain ⟨x, hxu⟩ : ∃ e, H.units[u.toNat]? = some e := ⟨_, List.getElem?_eq_getElem (by omega)⟩
  have hxl := hl x (List.mem_of_getElem? hxu)
  have hxA : H.uAt u.toNat = x := by unfold Ho.uAt; rw [List.getD_eq_getElem?_getD, hxu]; rfl
  obtain ⟨c1, c2, -, -⟩ := hoC_unit (bd := bd) hV hpv
  refine K.fact (fun w hw => SL_form (E := 142) (sz := 6) (cf := putC) (v := pv.1) (xs := x.puts) (fam_out (f := putsS) (i := u.toNat) (by rw [List.getElem?_map, hpv]; rfl) (by rw [List.getElem?_map, hxu]; rfl) (hw.pick (A := fam putsS (V.us.map (·.1)) (H.units.map (·.puts))) (by with_reducible (repeat (first | exact Pick.head | apply Pick.tail)))))) ?_
  rintro ⟨a1, k1, hv1, -⟩
  refine K.fact (fun w hw => SL_form (E := 146) (sz := 2) (cf := gotC) (v := pv.2) (xs := x.gets) (fam_out (f := getsS) (i := u.toNat) (by rw [List.getElem?_map, hpv]; rfl) (by rw [List.getElem?_map, hxu]; rfl) (hw.pick (A := fam getsS (V.us.map (·.2)) (H.units.map (·.gets))) (by with_reducible (repeat (first | exact Pick.head | apply Pick.tail)))))) ?_
  rintro ⟨a2, k2, hv2, -⟩
  rw [hv1] at c1
  rw [hv2] at c2
  refine K.draw [.pure, .pure, .pure, .pure, .pure, .pure, .read, .pure, .pure, .pure, .pure, .pure, .pure, .pure, .read, .pure, .pure, .pure, .pure] [0, 1, 2, 3, 4, 5, 6, 7, 8, 9, 10, 11, 12, 13, 14, 15, 16, 17, 18] (by kernel_rfl) (by kernel_rfl) ?_
  refine KO.mv rfl rfl ?_
  refine KO.mv rfl rfl ?_
  refine KO.nc rfl rfl ?_
  refine KO.fo0 (off := 12) rfl Tryz.runUnderlying133 rfl rfl Tryz.sizeOf131 rfl ?_
  refine KO.idxA (i := u.toNat) rfl rfl Tryz.runUnderlying131 Tryz.sizeOf130 hui (by omega) rfl ?_
  refine KO.fldH (off := 0) rfl Tryz.runUnderlying130 rfl rfl Tryz.sizeOf127 rfl ?_
  refine KO.ldAt (i := 12 + 2 * u.toNat) rfl rfl Tryz.isAgg127 (by with_reducible (repeat (exact Pick.head))) (by simp only [Addr.add_lit]; (simp; done)) c1 rfl ?_
  refine KO.len rfl Tryz.underlying127 rfl ?_
  refine KO.mv rfl rfl ?_
  refine KO.mv rfl rfl ?_
  refine KO.nc rfl rfl ?_
  refine KO.fo0 (off := 12) rfl Tryz.runUnderlying133 rfl rfl Tryz.sizeOf131 rfl ?_
  refine KO.idxA (i := u.toNat) rfl rfl Tryz.runUnderlying131 Tryz.sizeOf130 hui (by omega) rfl ?_
  refine KO.fldH (off := 1) rfl Tryz.runUnderlying130 rfl rfl Tryz.sizeOf128 rfl ?_
  refine KO.ldAt (i := 13 + 2 * u.toNat) rfl rfl Tryz.isAgg128 (by with_reducible (repeat (exact Pick.head))) (by simp only [Addr.add_lit]; (simp; done)) c2 rfl ?_
  refine KO.len rfl Tryz.underlying128 rfl ?_
  refine KO.add rfl rfl rfl (by omega) rfl ?_
  refine KO.eqI rfl rfl rfl ?_
  refine KO.as rfl rfl ?_
  refine KO.nil ?_
  repeat ((with_reducible refine KQ.next ?_))
  refine K.condD rfl (fun h3 => ?_) (fun h3 => ?_)
  · have he : bkE H u = 8 := by unfold bkE; rw [if_neg hu, hxA, if_pos (by omega)]
    repeat ((with_reducible refine K.seq ?_))
    refine K.reg ?_
    refine KO.mki rfl (by kernel_rfl) rfl ?_
    refine KO.as rfl rfl ?_
    refine KO.nil ?_
    repeat (first | (with_reducible refine KQ.next ?_) | (with_reducible refine KQ.then_ret ?_) | (with_reducible refine KQ.blk_ret ?_) | (with_reducible refine K.ret ?_))
    refine KQ.ret1 rfl rfl (fun w' hs' => ⟨_, _, rfl, ends 8 (by decide) he, hoP_mk V hV (hs'.all (by with_reducible repeat (exact PAll.refl)))⟩)
  repeat ((with_reducible refine K.seq ?_))
  cases hdn : H.down with
  | true =>
    have he : bkE H u = 6 := by unfold bkE; rw [if_neg hu, hxA, if_neg (by omega), if_pos hdn]
    refine K.reg ?_
    refine KO.mv rfl rfl ?_
    refine KO.nc rfl rfl ?_
    refine KO.fo0 (off := 3) rfl Tryz.runUnderlying133 rfl rfl Tryz.sizeOf4 rfl ?_
    refine KO.ldAt (i := 3) rfl rfl Tryz.isAgg4 (by with_reducible (repeat (exact Pick.head))) rfl rfl rfl ?_
    refine KO.as rfl rfl ?_
    refine KO.nil ?_
    repeat ((with_reducible refine KQ.next ?_))
    refine K.condT rfl hdn ?_
    repeat ((with_reducible refine K.seq ?_))
    refine K.reg ?_
    refine KO.mki rfl (by kernel_rfl) rfl ?_
    refine KO.as rfl rfl ?_
    refine KO.nil ?_
    repeat (first | (with_reducible refine KQ.next ?_) | (with_reducible refine KQ.then_ret ?_) | (with_reducible refine KQ.blk_ret ?_) | (with_reducible refine K.ret ?_))
    refine KQ.ret1 rfl rfl (fun w' hs' => ⟨_, _, rfl, ends 6 (by decide) he, hoP_mk V hV (hs'.all (by with_reducible repeat (exact PAll.refl)))⟩)
  | false =>
  have he : bkE H u = 0 := by unfold bkE; rw [if_neg hu, hxA, if_neg (by omega), if_neg (by simp [hdn])]
  refine K.reg ?_
  refine KO.mv rfl rfl ?_
  refine KO.nc rfl rfl ?_
  refine KO.fo0 (off := 3) rfl Tryz.runUnderlying133 rfl rfl Tryz.sizeOf4 rfl ?_
  refine KO.ldAt (i := 3) rfl rfl Tryz.isAgg4 (by with_reducible (repeat (exact Pick.head))) rfl rfl rfl ?_
  refine KO.as rfl rfl ?_
  refine KO.nil ?_
  repeat ((with_reducible refine KQ.next ?_))
  refine K.condF rfl hdn ?_
  repeat (first | (with_reducible refine K.seq ?_) | (with_reducible refine KQ.next ?_) | (with_reducible refine KQ.blk_normal ?_) | (with_reducible refine K.skip ?_))
  refine K.reg ?_
  refine KO.mv rfl rfl ?_
  refine KO.cl (cp := []) rfl rfl rfl Tryz.call63 rfl (all_c w0 L bh bd V H hV (by omega)) ?_; rintro va L' ⟨js, hjs, rfl⟩; refine KO.fact (fun w hw => SL_form (E := 119) (sz := 1) (cf := ptrC) (hw.pick .head)) ?_; rintro ⟨ad, cap, rfl, had⟩
  refine KO.len rfl Tryz.underlying152 rfl ?_
  refine KO.mv rfl rfl ?_
  refine KO.nil ?_
  repeat (first | (with_reducible refine KQ.next ?_) | (with_reducible refine K.block ?_))
  have hjl : js.length = V.ps.length := by have := hjs.length_eq; simpa using this
  refine K.loop (fun k : Nat => [(0, ptrV bh), (1, .int .i64 u), (42, .slice ad (js.map fun j => V.ps.getD j 0).length cap), (43, .int .i64 ((js.map fun j => V.ps.getD j 0).length : Nat)), (44, .int .i64 (k : Nat))])
    (fun k => ptrsS (.slice ad (js.map fun j => V.ps.getD j 0).length cap) (js.map fun j => V.ps.getD j 0) :: fam quP V.ps (endsL u H.all (js.take k)) :: blk bh (.cells (hoC bd V H).toArray 133 (0, 0)) :: nmS V.nv H.names :: omapK Value.string V.mb (mapE V H) :: fam putsS (V.us.map (·.1)) (H.units.map (·.puts)) :: fam getsS (V.us.map (·.2)) (H.units.map (·.gets)) :: fam batS V.bs H.batch :: L)
    (fun k => k ≤ js.length) (fun k => js.length - k) 0 (Nat.zero_le _) ⟨rfl, rfl, rfl, rfl, rfl, trivial⟩ (fun _ h => h.all (by repeat (first | exact PAll.refl | refine PAll.cons (by repeat (first | exact Pick.head | apply Pick.tail)) ?_))) ?_
  rintro k hk
  repeat ((with_reducible refine K.seq ?_))
  refine K.reg ?_
  refine KO.lss rfl rfl rfl ?_
  refine KO.nil ?_
  repeat (first | (with_reducible refine K.seq ?_) | (with_reducible refine KQ.next ?_))
  refine K.condD rfl (fun h8 => ?_) (fun h8 => ?_)
  · rw [List.length_map] at h8
    obtain ⟨j, hj⟩ : ∃ e, js[k]? = some e := ⟨js[k], List.getElem?_eq_getElem (by omega)⟩
    have hjr : j < V.ps.length := by have := hjs.mem_iff.1 (List.mem_of_getElem? hj); simpa using this
    obtain ⟨p, hp⟩ : ∃ e, V.ps[j]? = some e := ⟨_, List.getElem?_eq_getElem hjr⟩
    have hpj : (js.map fun j => V.ps.getD j 0)[k]? = some p := by rw [List.getElem?_map, hj, Option.map_some, List.getD_eq_getElem?_getD, hp]; rfl
    obtain ⟨g, rfl⟩ := had (by rw [List.length_map]; omega)
    have hal := all_len hV.ways
    have hle := endsL_len u (js.take k) H.all
    have hq : (endsL u H.all (js.take k))[j]? = some ((endsL u H.all (js.take k)).getD j default) := by rw [List.getD_eq_getElem?_getD, List.getElem?_eq_getElem (by omega)]; rfl
    have hqb := endsL_QB u (js.take k) H.all hB.qs _ (List.mem_of_getElem? hq)
    have hqn := hqb.len
    have hsucc := endsL_succ (u := u) (l := H.all) hj
    generalize endsL u H.all (js.take k) = lk at hq hqn hsucc
    generalize lk.getD j default = q at hq hqn hsucc
    repeat (first | (with_reducible refine K.seq ?_) | (with_reducible refine KQ.next ?_) | (with_reducible refine K.skip ?_) | (with_reducible refine K.block ?_))
    refine K.reg ?_
    refine KO.idx0 (i := k) rfl rfl Tryz.runUnderlying152 Tryz.sizeOf119 rfl (by rw [List.length_map]; omega) rfl ?_
    refine KO.ldE0 (i := k) (sz := 1) (cf := ptrC) (e := p) rfl rfl Tryz.isAgg119 .head (fun _ => rfl) hpj (by exact rfl) (by exact rfl) rfl ?_
    refine KO.as rfl rfl ?_
    refine KO.nil ?_
    repeat ((with_reducible refine KQ.next ?_))
    refine K.reg ?_
    refine KO.mv rfl rfl ?_
    refine KO.mv rfl rfl ?_
    refine KO.cl (cp := []) rfl rfl rfl Tryz.call64 rfl (KC.famC (φ := fun v => v = .tuple #[]) hp hq (by with_reducible (repeat (first | exact Pick.head | apply Pick.tail))) (fun L => ends_c w0 L p q u true (by omega))) ?_; rintro v' L' ⟨rfl, rfl⟩
    refine KO.nil ?_
    repeat (first | (with_reducible refine KQ.next ?_) | (with_reducible refine KQ.blk_normal ?_))
    refine K.reg ?_
    refine KO.add rfl rfl rfl (by omega) rfl ?_
    refine KO.mv rfl rfl ?_
    refine KO.nil ?_
    refine KQ.round (k + 1) (by omega) (by omega) ⟨rfl, rfl, rfl, rfl, rfl, trivial⟩ (fun _ h => ?_)
    rw [hsucc]
    exact h.all (by with_reducible repeat (first | exact PAll.refl | refine PAll.cons (by with_reducible repeat (first | exact Pick.head | apply Pick.tail)) ?_))
  · have hkl : k = js.length := by rw [List.length_map] at h8; omega
    subst hkl
    rw [List.take_length, endsL_map u (by rw [all_len hV.ways, ← hps]; exact hjs)]
    repeat (first | (with_reducible refine K.seq ?_) | (with_reducible refine KQ.next ?_) | (with_reducible refine KQ.then_exit ?_) | (with_reducible refine KQ.blk_exit ?_) | (with_reducible refine K.exit ?_))
    refine K.reg ?_
    refine KO.mv rfl rfl ?_
    refine KO.mv rfl rfl ?_
    refine KO.bldN (pl := [(0, 1), (1, 1)]) rfl Tryz.zeroValue130 Tryz.runUnderlying130 (by intro w; simp [Tryz.sizeOf127, Tryz.sizeOf128]) (by exact rfl) rfl ?_
    refine KO.nc rfl rfl ?_
    refine KO.fo0 (off := 12) rfl Tryz.runUnderlying133 rfl rfl Tryz.sizeOf131 rfl ?_
    refine KO.idxA (i := u.toNat) rfl rfl Tryz.runUnderlying131 Tryz.sizeOf130 hui (by omega) rfl ?_
    refine KO.stoAt (b := bh) (off := 12 + 2 * u.toNat) (us := [.slice none 0 0, .slice none 0 0]) rfl rfl (by simp only [Addr.add_lit]; (simp; done)) rfl (by exact rfl) (by exact Tryz.sizeOf130) (by exact rfl) (by with_reducible (repeat (first | exact Pick.head | apply Pick.tail))) (by rw [hoC_len hV]; simp; omega) (hoC_wipe hV hul) ?_
    refine KO.nil ?_
    repeat (first | (with_reducible refine K.seq ?_) | (with_reducible refine KQ.next ?_))
    refine K.reg ?_
    refine KO.as rfl rfl ?_
    refine KO.nil ?_
    repeat (first | (with_reducible refine KQ.next ?_) | (with_reducible refine K.ret ?_))
    refine KQ.ret1 rfl rfl (fun w' hs' => ⟨_, _, rfl, ⟨by rw [he]; rfl, rfl⟩, ?_⟩)
    have e1 : bkH H u = putU (hEnds H u) u.toNat noUnit := by unfold bkH; rw [if_pos he]
    rw [e1]
    exact hoP_wiped hV u hul (hs'.all (by with_reducible repeat (first | exact PAll.refl | refine PAll.cons (by with_reducible repeat (first | exact Pick.head | apply Pick.tail)) ?_ | apply PAll.drop)))
end Go.Proofs.YtjhogocabcdjbabGreatDoor
/- house: Commit -/
namespace Go.Proofs.YtjhogocabcdjbabGreatDoor
open Go Go.RowKit WB
theorem hoC_two {w0 w : World} {L R : List HP} {bh bd : Nat} {V : HoV} {H : Ho} (hV : HoVL V H) {u : Nat} {p : Value × Value} (hp : V.us[u]? = some p) (hk : Pick L (blk bh (.cells (hoC bd V H).toArray 133 (0, 0))) R) (hw : St w0 L w) {ad : Addr} (ha : ad = ⟨bh, 12 + 2 * u, none⟩) : HasCells w ad [p.1, p.2] := by
  obtain ⟨c1, c2, -, -⟩ := hoC_unit (bd := bd) hV hp
  subst ha
  intro j c hj
  rw [Addr.add_lit, World.cell?, (hw.lookP hk).2]
  match j with
  | 0 => simp at hj; subst hj; simpa using c1
  | 1 => simp at hj; subst hj; rw [show 12 + 2 * u + 1 = 13 + 2 * u by omega]; simpa using c2
  | j + 2 => simp at hj
set_option maxRecDepth 100000 in
set_option maxHeartbeats 4000000 in
theorem hcommit_c (w0 : World) (L : List HP) (bh bd n : Nat) (H : Ho) (D : Dk) (u : Int) (hT : Tab w0) (hM : Lim w0) (hB : HoB n H) (hn : n + 700 ≤ 90000) (hl : ∀ x ∈ H.units, UntOk x) (h3 : D.places.length = 300) (hd : -1000000 ≤ D.left ∧ D.left ≤ 9223372036854775807) :
    KC Tryz.prog 16 #[ptrV bh, .int .i64 u] w0 (hoP bh bd H :: dkP bd D :: L) (fun v M => v = errV 70 (cmE H D u) ∧ M = hoP bh bd (cmH H D u) :: dkP bd (cmD H D u) :: L) := by
  have hql := hB.qlen
  have husd := hB.used
  have ends : ∀ k : Int, k ≠ 0 → cmPE H u = k → (errV 70 k = errV 70 (cmE H D u) ∧ hoP bh bd H :: dkP bd D :: L = hoP bh bd (cmH H D u) :: dkP bd (cmD H D u) :: L) := fun k hk he => by
    have h0 : cmPE H u ≠ 0 := by rw [he]; exact hk
    unfold cmE cmH cmD
    rw [if_pos h0, if_pos h0, if_pos h0, he]
    exact ⟨rfl, rfl⟩
  refine KC.mk (n := 113) Tryz.func16 rfl Tryz.ntmps16 (by simp) ?_
  repeat ((with_reducible refine K.seq ?_))
  refine K.reg ?_
  refine KO.as rfl rfl ?_
  refine KO.nil ?_
  repeat (first | (with_reducible refine K.seq ?_) | (with_reducible refine KQ.next ?_))
  by_cases hu : u < 0 ∨ 5 ≤ u
  · have he : cmPE H u = 2 := by unfold cmPE; rw [if_pos hu]
    by_cases hu0 : u < 0
    · refine K.reg ?_
      refine KO.mv rfl rfl ?_
      refine KO.lss rfl rfl rfl ?_
      refine KO.mv rfl rfl ?_
      (refine KO.no rfl rfl ?_ rfl ?_; (focus (simp only [decide_eq_true_eq, decide_eq_false_iff_not, Bool.not_eq_true, Bool.not_true, Bool.not_false, ne_eq]; omega)))
      (refine KO.no rfl rfl ?_ rfl ?_; (focus (simp only [decide_eq_true_eq, decide_eq_false_iff_not, Bool.not_eq_true, Bool.not_true, Bool.not_false, ne_eq]; omega)))
      (refine KO.pickT rfl ?_ rfl rfl ?_; (focus (simp only [decide_eq_true_eq, decide_eq_false_iff_not, Bool.not_eq_true, Bool.not_true, Bool.not_false, ne_eq]; omega)))
      refine KO.nil ?_
      repeat ((with_reducible refine KQ.next ?_))
      refine K.condT rfl (by (simp; done)) ?_
      repeat ((with_reducible refine K.seq ?_))
      refine K.reg ?_
      refine KO.mki rfl (by kernel_rfl) rfl ?_
      refine KO.as rfl rfl ?_
      refine KO.nil ?_
      repeat (first | (with_reducible refine KQ.next ?_) | (with_reducible refine KQ.then_ret ?_) | (with_reducible refine K.ret ?_))
      refine KQ.ret1 rfl rfl (fun w' hs' => ⟨_, _, rfl, ends 2 (by decide) he, hs'⟩)
    · refine K.reg ?_
      refine KO.mv rfl rfl ?_
      refine KO.lss rfl rfl rfl ?_
      refine KO.mv rfl rfl ?_
      (refine KO.on rfl rfl ?_ ?_; (focus (simp only [decide_eq_true_eq, decide_eq_false_iff_not, Bool.not_eq_true, Bool.not_true, Bool.not_false, ne_eq]; omega)); (refine KO.mv rfl rfl ?_))
      (refine KO.on rfl rfl ?_ ?_; (focus (simp only [decide_eq_true_eq, decide_eq_false_iff_not, Bool.not_eq_true, Bool.not_true, Bool.not_false, ne_eq]; omega)); (refine KO.geq rfl rfl rfl ?_))
      (refine KO.pickF rfl ?_ rfl rfl ?_; (focus (simp only [decide_eq_true_eq, decide_eq_false_iff_not, Bool.not_eq_true, Bool.not_true, Bool.not_false, ne_eq]; omega)))
      refine KO.nil ?_
      repeat ((with_reducible refine KQ.next ?_))
      refine K.condT rfl (by (simp; omega)) ?_
      repeat ((with_reducible refine K.seq ?_))
      refine K.reg ?_
      refine KO.mki rfl (by kernel_rfl) rfl ?_
      refine KO.as rfl rfl ?_
      refine KO.nil ?_
      repeat (first | (with_reducible refine KQ.next ?_) | (with_reducible refine KQ.then_ret ?_) | (with_reducible refine K.ret ?_))
      refine KQ.ret1 rfl rfl (fun w' hs' => ⟨_, _, rfl, ends 2 (by decide) he, hs'⟩)
  refine K.reg ?_
  refine KO.mv rfl rfl ?_
  refine KO.lss rfl rfl rfl ?_
  refine KO.mv rfl rfl ?_
  (refine KO.on rfl rfl ?_ ?_; (focus (simp only [decide_eq_true_eq, decide_eq_false_iff_not, Bool.not_eq_true, Bool.not_true, Bool.not_false, ne_eq]; omega)); (refine KO.mv rfl rfl ?_))
  (refine KO.on rfl rfl ?_ ?_; (focus (simp only [decide_eq_true_eq, decide_eq_false_iff_not, Bool.not_eq_true, Bool.not_true, Bool.not_false, ne_eq]; omega)); (refine KO.geq rfl rfl rfl ?_))
  (refine KO.pickF rfl ?_ rfl rfl ?_; (focus (simp only [decide_eq_true_eq, decide_eq_false_iff_not, Bool.not_eq_true, Bool.not_true, Bool.not_false, ne_eq]; omega)))
  refine KO.nil ?_
  repeat ((with_reducible refine KQ.next ?_))
  refine K.condF rfl (by (simp; omega)) ?_
  repeat (first | (with_reducible refine K.seq ?_) | (with_reducible refine KQ.next ?_) | (with_reducible refine K.skip ?_))
  refine K.open' (fun _ h => hoP_open h) ?_
  rintro ⟨V, hV⟩
  dsimp only
  have hul : u.toNat < 5 := by omega
  have hui : u = ((u.toNat : Nat) : Int) := by omega
  have hus := hV.us
  have hun := hV.units
  have hps := hV.ps
  obtain ⟨⟨v1, v2⟩, hpv⟩ : ∃ e, V.us[u.toNat]? = some e := ⟨_, List.getElem?_eq_getElem (by omega)⟩
  obtain ⟨x, hxu⟩ : ∃ e, H.units[u.toNat]? = some e := ⟨_, List.getElem?_eq_getElem (by omega)⟩
  have hxo := hl x (List.mem_of_getElem? hxu)
  have hmany := hxo.many
  have hxA : H.uAt u.toNat = x := by unfold Ho.uAt; rw [List.getD_eq_getElem?_getD, hxu]; rfl
  have g1 : (V.us.map (·.1))[u.toNat]? = some v1 := by rw [List.getElem?_map, hpv]; rfl
  have g2 : (V.us.map (·.2))[u.toNat]? = some v2 := by rw [List.getElem?_map, hpv]; rfl
  have g3 : (H.units.map (·.puts))[u.toNat]? = some x.puts := by rw [List.getElem?_map, hxu]; rfl
  have g4 : (H.units.map (·.gets))[u.toNat]? = some x.gets := by rw [List.getElem?_map, hxu]; rfl
  refine K.fact (fun w hw => SL_form (E := 142) (sz := 6) (cf := putC) (v := v1) (xs := x.puts) (fam_out (f := putsS) g1 g3 (hw.pick (A := fam putsS (V.us.map (·.1)) (H.units.map (·.puts))) (by with_reducible (repeat (first | exact Pick.head | apply Pick.tail)))))) ?_
  rintro ⟨a1, k1, rfl, had1⟩
  refine K.fact (fun w hw => SL_form (E := 146) (sz := 2) (cf := gotC) (v := v2) (xs := x.gets) (fam_out (f := getsS) g2 g4 (hw.pick (A := fam getsS (V.us.map (·.2)) (H.units.map (·.gets))) (by with_reducible (repeat (first | exact Pick.head | apply Pick.tail)))))) ?_
  rintro ⟨a2, k2, rfl, had2⟩
  refine K.reg ?_
  refine KO.mv rfl rfl ?_
  refine KO.mv rfl rfl ?_
  refine KO.nc rfl rfl ?_
  refine KO.fo0 (off := 12) rfl Tryz.runUnderlying133 rfl rfl Tryz.sizeOf131 rfl ?_
  refine KO.idxA (i := u.toNat) rfl rfl Tryz.runUnderlying131 Tryz.sizeOf130 hui (by omega) rfl ?_
  refine KO.ldN (cs := #[.slice a1 x.puts.length k1, .slice a2 x.gets.length k2]) rfl rfl Tryz.isAgg130 Tryz.sizeOf130 rfl (fun w hw => hoC_two hV hpv (L := hoX bh bd V H (dkP bd D :: L)) .head hw (by simp only [Addr.add_lit]; (simp; done))) rfl ?_
  refine KO.alloc rfl Tryz.zeroValue130 (by exact rfl) rfl ?_; intro b5
  refine KO.sto0 rfl rfl rfl (by exact rfl) (by exact Tryz.sizeOf130) (by exact rfl) (by with_reducible (repeat (exact Pick.head))) (by exact rfl) ?_
  refine KO.nil ?_
  repeat (first | (with_reducible refine K.seq ?_) | (with_reducible refine KQ.next ?_))
  refine K.reg ?_
  refine KO.fo0 (off := 0) rfl Tryz.runUnderlying130 rfl rfl Tryz.sizeOf127 rfl ?_
  refine KO.ld rfl rfl Tryz.isAgg127 (by with_reducible (repeat (exact Pick.head))) (by exact rfl) rfl ?_
  refine KO.len rfl Tryz.underlying127 rfl ?_
  refine KO.fo0 (off := 1) rfl Tryz.runUnderlying130 rfl rfl Tryz.sizeOf128 rfl ?_
  refine KO.ld rfl rfl Tryz.isAgg128 (by with_reducible (repeat (exact Pick.head))) (by exact rfl) rfl ?_
  refine KO.len rfl Tryz.underlying128 rfl ?_
  refine KO.add rfl rfl rfl (by omega) rfl ?_
  refine KO.eqI rfl rfl rfl ?_
  refine KO.nil ?_
  repeat ((with_reducible refine KQ.next ?_))
  refine K.condD rfl (fun h4 => ?_) (fun h4 => ?_)
  · have he : cmPE H u = 8 := by unfold cmPE; rw [if_neg hu, hxA, if_pos (by omega)]
    repeat ((with_reducible refine K.seq ?_))
    refine K.reg ?_
    refine KO.mki rfl (by kernel_rfl) rfl ?_
    refine KO.as rfl rfl ?_
    refine KO.nil ?_
    repeat (first | (with_reducible refine KQ.next ?_) | (with_reducible refine KQ.then_ret ?_) | (with_reducible refine K.ret ?_))
    refine KQ.ret1 rfl rfl (fun w' hs' => ⟨_, hoP bh bd H :: dkP bd D :: L, rfl, ?_, ?_⟩)
    · exact ends 8 (by decide) he
    · exact hoP_mk V hV (hs'.all (by with_reducible repeat (first | exact PAll.refl | refine PAll.cons (by with_reducible repeat (first | exact Pick.head | apply Pick.tail)) ?_ | apply PAll.drop)))
  have he : cmPE H u = 0 := by unfold cmPE; rw [if_neg hu, hxA, if_neg (by omega)]
  have hcmE : cmE H D u = logE H D := by unfold cmE; rw [if_neg (by rw [he]; decide)]
  have hcmD : cmD H D u = logD H D (recU x) := by unfold cmD; rw [if_neg (by rw [he]; decide), hxA]
  have hcmH : cmH H D u = if logE H D ≠ 0 then logH H D else (hends (putU (hEnds (logH H D) u) u.toNat noUnit) (recB x)).1 := by unfold cmH; rw [if_neg (by rw [he]; decide), hxA]
  repeat (first | (with_reducible refine K.seq ?_) | (with_reducible refine KQ.next ?_) | (with_reducible refine K.skip ?_))
  refine K.reg ?_
  refine KO.as rfl rfl ?_
  refine KO.nil ?_
  repeat (first | (with_reducible refine K.seq ?_) | (with_reducible refine KQ.next ?_))
  refine K.conv (L' := SL 142 6 putC (.slice a1 x.puts.length k1) x.puts :: SL 146 2 gotC (.slice a2 x.gets.length k2) x.gets :: blk b5 (.cells [Value.slice a1 x.puts.length k1, .slice a2 x.gets.length k2].toArray 130 (0, 0)) :: blk bh (.cells (hoC bd V H).toArray 133 (0, 0)) :: nmS V.nv H.names :: omapK Value.string V.mb (mapE V H) :: fam quP V.ps H.all :: fam putsS ((V.us.map (·.1)).eraseIdx u.toNat) ((H.units.map (·.puts)).eraseIdx u.toNat) :: fam getsS ((V.us.map (·.2)).eraseIdx u.toNat) ((H.units.map (·.gets)).eraseIdx u.toNat) :: fam batS V.bs H.batch :: dkP bd D :: L) (fun w hw => ?_) ?_
  · have h1 := fam_out (f := putsS) g1 g3 (hw.pick (A := fam putsS (V.us.map (·.1)) (H.units.map (·.puts))) (by with_reducible (repeat (first | exact Pick.head | apply Pick.tail))))
    have h2 := fam_out (f := getsS) g2 g4 (h1.pick (A := fam getsS (V.us.map (·.2)) (H.units.map (·.gets))) (by with_reducible (repeat (first | exact Pick.head | apply Pick.tail))))
    exact h2.all (by repeat (first | exact PAll.refl | refine PAll.cons (by repeat (first | exact Pick.head | apply Pick.tail)) ?_))
  refine K.reg ?_
  refine KO.fo0 (off := 1) rfl Tryz.runUnderlying130 rfl rfl Tryz.sizeOf128 rfl ?_
  refine KO.ld rfl rfl Tryz.isAgg128 (by with_reducible (repeat (first | exact Pick.head | apply Pick.tail))) (by exact rfl) rfl ?_
  refine KO.len rfl Tryz.underlying128 rfl ?_
  refine KO.mv rfl rfl ?_
  refine KO.nil ?_
  repeat (first | (with_reducible refine KQ.next ?_) | (with_reducible refine K.block ?_))
  refine K.loop (fun p : Nat × Value => [(0, ptrV bh), (1, .int .i64 u), (5, .pointer (some ⟨b5, 0, none⟩)), (6, p.2), (40, .slice a2 x.gets.length k2), (41, .int .i64 (x.gets.length : Nat)), (42, .int .i64 (p.1 : Nat))])
    (fun p => strS p.2 ((x.gets.take p.1).map gotT) :: SL 142 6 putC (.slice a1 x.puts.length k1) x.puts :: SL 146 2 gotC (.slice a2 x.gets.length k2) x.gets :: blk b5 (.cells [Value.slice a1 x.puts.length k1, .slice a2 x.gets.length k2].toArray 130 (0, 0)) :: blk bh (.cells (hoC bd V H).toArray 133 (0, 0)) :: nmS V.nv H.names :: omapK Value.string V.mb (mapE V H) :: fam quP V.ps H.all :: fam putsS ((V.us.map (·.1)).eraseIdx u.toNat) ((H.units.map (·.puts)).eraseIdx u.toNat) :: fam getsS ((V.us.map (·.2)).eraseIdx u.toNat) ((H.units.map (·.gets)).eraseIdx u.toNat) :: fam batS V.bs H.batch :: dkP bd D :: L) (fun p => p.1 ≤ x.gets.length) (fun p => x.gets.length - p.1) (0, .slice none 0 0)
    (Nat.zero_le _) ⟨rfl, rfl, rfl, rfl, rfl, rfl, rfl, trivial⟩ (fun _ h => ?_) ?_
  · have h1 := SL_nil (E := 9) (sz := 1) (cf := strC) h
    exact h1
  rintro ⟨k, v6⟩ hk
  dsimp only at hk ⊢
  repeat ((with_reducible refine K.seq ?_))
  refine K.reg ?_
  refine KO.lss rfl rfl rfl ?_
  refine KO.nil ?_
  repeat (first | (with_reducible refine K.seq ?_) | (with_reducible refine KQ.next ?_))
  refine K.condD rfl (fun h8 => ?_) (fun h8 => ?_)
  · obtain ⟨g, hg⟩ : ∃ e, x.gets[k]? = some e := ⟨x.gets[k], List.getElem?_eq_getElem (by omega)⟩
    obtain ⟨ag, rfl⟩ := had2 (by omega)
    have hgo := hxo.gets g (List.mem_of_getElem? hg)
    obtain ⟨gi, gq⟩ := g
    dsimp only at hgo
    have hq8 := (wordB_size hgo.2.2).2
    have hi := itoaS_size (n := gi) ⟨by omega, by omega⟩
    have z2 : (⟨#[32]⟩ : ByteArray).size = 1 := rfl
    have z3 : (itoaS gi ++ ⟨#[32]⟩ : ByteArray).size ≤ 22 := by simp only [ByteArray.size_append]; omega
    repeat (first | (with_reducible refine K.seq ?_) | (with_reducible refine KQ.next ?_) | (with_reducible refine K.skip ?_) | (with_reducible refine K.block ?_))
    refine K.reg ?_
    refine KO.idx0 rfl rfl Tryz.runUnderlying128 Tryz.sizeOf146 (by exact rfl) (by omega) rfl ?_
    refine KO.ldEN rfl rfl Tryz.isAgg146 Tryz.sizeOf146 (by with_reducible (repeat (first | exact Pick.head | apply Pick.tail))) (fun _ => rfl) (by assumption) rfl ?_
    refine KO.alloc rfl Tryz.zeroValue146 (by exact rfl) rfl ?_; intro b8
    refine KO.sto0 rfl rfl rfl (by exact rfl) (by exact Tryz.sizeOf146) (by exact rfl) (by with_reducible (repeat (exact Pick.head))) (by exact rfl) ?_
    refine KO.nil ?_
    repeat ((with_reducible refine KQ.next ?_))
    refine K.draw [.pure, .pure, .read, .keep, .pure, .pure, .read, .pure, .keep, .write, .pure] [0, 1, 2, 5, 6, 3, 4, 7, 8, 9, 10] (by kernel_rfl) (by kernel_rfl) ?_
    refine KO.mv rfl rfl ?_
    refine KO.fo0 (off := 0) rfl Tryz.runUnderlying146 rfl rfl Tryz.sizeOf3 rfl ?_
    refine KO.ld (v := .int .i64 gi) rfl rfl Tryz.isAgg3 (by with_reducible (repeat (exact Pick.head))) (by exact rfl) rfl ?_
    refine KO.fo0 (off := 1) rfl Tryz.runUnderlying146 rfl rfl Tryz.sizeOf9 rfl ?_
    refine KO.ld (v := .string gq) rfl rfl Tryz.isAgg9 (by with_reducible (repeat (exact Pick.head))) (by exact rfl) rfl ?_
    refine KO.ce (cp := []) rfl rfl rfl Tryz.call59 rfl (itoa_e w0 _ gi hT ⟨by omega, by omega⟩) ?_; rintro v' L' ⟨rfl, rfl⟩
    refine KO.cat rfl rfl (by omega) rfl ?_
    refine KO.cat rfl rfl (by omega) rfl ?_
    refine KO.bs1 (z := (Value.string ⟨#[]⟩)) (sz := 1) (by' := 16) rfl rfl Tryz.underlying115 (by kernel_rfl) (by exact rfl) (by exact rfl) (by decide) (by decide) rfl ?_; intro b54
    refine KO.app (cf := strC) (z := Value.string ⟨#[]⟩) (sz := 1) (by' := 16) (xs := (x.gets.take k).map gotT) rfl rfl rfl (.tail (.tail .head)) .head Tryz.underlying115 str_info rfl (gotT (gi, gq)) rfl rfl rfl (by simp; omega) (by decide) rfl ?_; intro v9
    refine KO.as rfl rfl ?_
    refine KO.nil ?_
    repeat (first | (with_reducible refine KQ.next ?_) | (with_reducible refine KQ.blk_normal ?_))
    refine K.reg ?_
    refine KO.add rfl rfl rfl (by omega) rfl ?_
    refine KO.mv rfl rfl ?_
    refine KO.nil ?_
    refine KQ.round (k + 1, v9) (by dsimp only; omega) (by dsimp only; omega) ⟨rfl, rfl, rfl, rfl, rfl, rfl, rfl, trivial⟩ (fun _ h => ?_)
    dsimp only
    rw [take_succ_some hg, List.map_append]
    exact h.all (by repeat (first | exact PAll.refl | refine PAll.cons (by repeat (first | exact Pick.head | apply Pick.tail)) ?_ | apply PAll.drop))
  have hkl : k = x.gets.length := by omega
  subst hkl
  rw [List.take_length]
  repeat (first | (with_reducible refine K.seq ?_) | (with_reducible refine KQ.next ?_) | (with_reducible refine KQ.then_exit ?_) | (with_reducible refine KQ.blk_exit ?_) | (with_reducible refine K.exit ?_))
  refine K.reg ?_
  refine KO.as rfl rfl ?_
  refine KO.nil ?_
  repeat (first | (with_reducible refine K.seq ?_) | (with_reducible refine KQ.next ?_))
  refine K.reg ?_
  refine KO.fo0 (off := 0) rfl Tryz.runUnderlying130 rfl rfl Tryz.sizeOf127 rfl ?_
  refine KO.ld rfl rfl Tryz.isAgg127 (by with_reducible (repeat (first | exact Pick.head | apply Pick.tail))) (by exact rfl) rfl ?_
  refine KO.len rfl Tryz.underlying127 rfl ?_
  refine KO.mv rfl rfl ?_
  refine KO.nil ?_
  repeat (first | (with_reducible refine KQ.next ?_) | (with_reducible refine K.block ?_))
  refine K.loop (fun p : Nat × Value => [(0, ptrV bh), (1, .int .i64 u), (6, v6), (9, p.2), (58, .slice a1 x.puts.length k1), (59, .int .i64 (x.puts.length : Nat)), (60, .int .i64 (p.1 : Nat))])
    (fun p => SL 44 5 msC p.2 ((x.puts.take p.1).map (·.1)) :: strS v6 (x.gets.map gotT) :: SL 142 6 putC (.slice a1 x.puts.length k1) x.puts :: SL 146 2 gotC (.slice a2 x.gets.length k2) x.gets :: blk bh (.cells (hoC bd V H).toArray 133 (0, 0)) :: nmS V.nv H.names :: omapK Value.string V.mb (mapE V H) :: fam quP V.ps H.all :: fam putsS ((V.us.map (·.1)).eraseIdx u.toNat) ((H.units.map (·.puts)).eraseIdx u.toNat) :: fam getsS ((V.us.map (·.2)).eraseIdx u.toNat) ((H.units.map (·.gets)).eraseIdx u.toNat) :: fam batS V.bs H.batch :: dkP bd D :: L) (fun p => p.1 ≤ x.puts.length) (fun p => x.puts.length - p.1) (0, .slice none 0 0)
    (Nat.zero_le _) ⟨rfl, rfl, rfl, rfl, rfl, rfl, rfl, trivial⟩ (fun _ h => ?_) ?_
  · have h1 := SL_nil (E := 44) (sz := 5) (cf := msC) h
    exact h1.all (by repeat (first | exact PAll.refl | refine PAll.cons (by repeat (first | exact Pick.head | apply Pick.tail)) ?_ | apply PAll.drop))
  rintro ⟨k, v9⟩ hk
  dsimp only at hk ⊢
  repeat ((with_reducible refine K.seq ?_))
  refine K.reg ?_
  refine KO.lss rfl rfl rfl ?_
  refine KO.nil ?_
  repeat (first | (with_reducible refine K.seq ?_) | (with_reducible refine KQ.next ?_))
  refine K.condD rfl (fun h14 => ?_) (fun h14 => ?_)
  · obtain ⟨g, hg⟩ : ∃ e, x.puts[k]? = some e := ⟨x.puts[k], List.getElem?_eq_getElem (by omega)⟩
    obtain ⟨ag, rfl⟩ := had1 (by omega)
    obtain ⟨⟨mi, mp, mb, mq, mh⟩, pt⟩ := g
    repeat (first | (with_reducible refine K.seq ?_) | (with_reducible refine KQ.next ?_) | (with_reducible refine K.skip ?_) | (with_reducible refine K.block ?_))
    refine K.reg ?_
    refine KO.idx0 rfl rfl Tryz.runUnderlying127 Tryz.sizeOf142 (by exact rfl) (by omega) rfl ?_
    refine KO.ldEN rfl rfl Tryz.isAgg142 Tryz.sizeOf142 (by with_reducible (repeat (first | exact Pick.head | apply Pick.tail))) (fun _ => rfl) (by assumption) rfl ?_
    refine KO.alloc rfl Tryz.zeroValue142 (by exact rfl) rfl ?_; intro b11
    refine KO.sto0 rfl rfl rfl (by exact rfl) (by exact Tryz.sizeOf142) (by exact rfl) (by with_reducible (repeat (exact Pick.head))) (by exact rfl) ?_
    refine KO.nil ?_
    repeat ((with_reducible refine KQ.next ?_))
    refine K.reg ?_
    refine KO.mv rfl rfl ?_
    refine KO.fo0 (off := 0) rfl Tryz.runUnderlying142 rfl rfl Tryz.sizeOf44 rfl ?_
    (refine KO.ldB rfl rfl Tryz.isAgg44 Tryz.sizeOf44 (by with_reducible (repeat (exact Pick.head))) (by (try simp only [List.drop_zero, List.drop_succ_cons, List.take_succ_cons, List.take_zero]); (try exact rfl)) (by exact rfl) rfl ?_)
    refine KO.bs1 (z := (Value.agg #[.int .i64 0, .int .i64 0, .string ⟨#[]⟩, .string ⟨#[]⟩, .int .i64 0])) (sz := 5) (by' := 56) rfl rfl Tryz.underlying49 (by kernel_rfl) (by exact rfl) (by exact rfl) (by decide) (by decide) rfl ?_; intro b67
    refine KO.app (cf := msC) (z := Value.agg #[.int .i64 0, .int .i64 0, .string ⟨#[]⟩, .string ⟨#[]⟩, .int .i64 0]) (sz := 5) (by' := 56) (xs := (x.puts.take k).map (·.1)) rfl rfl rfl (.tail (.tail .head)) .head Tryz.underlying49 (by kernel_rfl) (by exact rfl) (⟨mi, mp, mb, mq, mh⟩ : Ms) rfl rfl rfl (by simp; omega) (by decide) rfl ?_; intro v9'
    refine KO.as rfl rfl ?_
    refine KO.nil ?_
    repeat (first | (with_reducible refine KQ.next ?_) | (with_reducible refine KQ.blk_normal ?_))
    refine K.reg ?_
    refine KO.add rfl rfl rfl (by omega) rfl ?_
    refine KO.mv rfl rfl ?_
    refine KO.nil ?_
    refine KQ.round (k + 1, v9') (by dsimp only; omega) (by dsimp only; omega) ⟨rfl, rfl, rfl, rfl, rfl, rfl, rfl, trivial⟩ (fun _ h => ?_)
    dsimp only
    rw [take_succ_some hg, List.map_append]
    exact h.all (by repeat (first | exact PAll.refl | refine PAll.cons (by repeat (first | exact Pick.head | apply Pick.tail)) ?_ | apply PAll.drop))
  have hkl : k = x.puts.length := by omega
  subst hkl
  rw [List.take_length]
  refine K.conv (L' := SL 44 5 msC v9 (x.puts.map (·.1)) :: strS v6 (x.gets.map gotT) :: hoP bh bd H :: dkP bd D :: L) (fun w hw => ?_) ?_
  · have h1 := fam_back (f := putsS) g1 g3 (hw.all (M := putsS (.slice a1 x.puts.length k1) x.puts :: fam putsS ((V.us.map (·.1)).eraseIdx u.toNat) ((H.units.map (·.puts)).eraseIdx u.toNat) :: getsS (.slice a2 x.gets.length k2) x.gets :: fam getsS ((V.us.map (·.2)).eraseIdx u.toNat) ((H.units.map (·.gets)).eraseIdx u.toNat) :: SL 44 5 msC v9 (x.puts.map (·.1)) :: strS v6 (x.gets.map gotT) :: blk bh (.cells (hoC bd V H).toArray 133 (0, 0)) :: nmS V.nv H.names :: omapK Value.string V.mb (mapE V H) :: fam quP V.ps H.all ::  fam batS V.bs H.batch :: dkP bd D :: L) (by repeat (first | exact PAll.refl | refine PAll.cons (by repeat (first | exact Pick.head | apply Pick.tail)) ?_)))
    have h2 := fam_back (f := getsS) g2 g4 (h1.all (M := getsS (.slice a2 x.gets.length k2) x.gets :: fam getsS ((V.us.map (·.2)).eraseIdx u.toNat) ((H.units.map (·.gets)).eraseIdx u.toNat) :: SL 44 5 msC v9 (x.puts.map (·.1)) :: strS v6 (x.gets.map gotT) :: blk bh (.cells (hoC bd V H).toArray 133 (0, 0)) :: nmS V.nv H.names :: omapK Value.string V.mb (mapE V H) :: fam quP V.ps H.all :: fam putsS (V.us.map (·.1)) (H.units.map (·.puts)) :: fam batS V.bs H.batch :: dkP bd D :: L) (by repeat (first | exact PAll.refl | refine PAll.cons (by repeat (first | exact Pick.head | apply Pick.tail)) ?_)))
    exact (hoP_mk V hV (h2.all (M := hoX bh bd V H (SL 44 5 msC v9 (x.puts.map (·.1)) :: strS v6 (x.gets.map gotT) :: dkP bd D :: L)) (by repeat (first | exact PAll.refl | refine PAll.cons (by repeat (first | exact Pick.head | apply Pick.tail)) ?_)))).all (by with_reducible repeat (first | exact PAll.refl | refine PAll.cons (by with_reducible repeat (first | exact Pick.head | apply Pick.tail)) ?_))
  repeat (first | (with_reducible refine K.seq ?_) | (with_reducible refine KQ.next ?_) | (with_reducible refine KQ.then_exit ?_) | (with_reducible refine KQ.blk_exit ?_) | (with_reducible refine K.exit ?_))
  have hbad := hxo.bad
  have hrs : ∀ m ∈ x.puts.map (·.1), m.body.size ≤ maxLen ∧ m.queue.size ≤ maxLen := fun m hm => right_size (badI_all hbad m hm)
  have hgs := hxo.gsize
  have hpz := hxo.psize
  have hrb := hxo.size
  refine K.reg ?_
  refine KO.mv rfl rfl ?_
  refine KO.ce (cp := []) rfl rfl rfl Tryz.call60 rfl (mwrite_e w0 _ v9 (x.puts.map (·.1)) (fun w hw => RdA.ofSL (E := 44) (fun _ => rfl) .head hw) hT hrs (by simp; omega)) ?_; rintro v' L' hR; unfold MwR at hR; rw [hbad] at hR; obtain ⟨rfl, rfl⟩ := hR
  refine KO.mv rfl rfl ?_
  refine KO.extrL rfl (by exact rfl) rfl ?_
  refine KO.extrL rfl (by exact rfl) rfl ?_
  refine KO.as rfl rfl ?_
  refine KO.as rfl rfl ?_
  refine KO.nil ?_
  repeat (first | (with_reducible refine K.seq ?_) | (with_reducible refine KQ.next ?_))
  refine K.reg ?_
  refine KO.mv rfl rfl ?_
  refine KO.neI0 rfl (by kernel_rfl) rfl ?_
  refine KO.nil ?_
  repeat ((with_reducible refine KQ.next ?_))
  refine K.condF rfl rfl ?_
  repeat (first | (with_reducible refine K.seq ?_) | (with_reducible refine KQ.next ?_) | (with_reducible refine K.skip ?_))
  have z1 : (⟨#[117, 58]⟩ : ByteArray).size = 2 := rfl
  have z2 : (⟨#[47]⟩ : ByteArray).size = 1 := rfl
  have z3 : (⟨#[117, 58]⟩ ++ writeS (x.puts.map (·.1)) : ByteArray).size ≤ 70702 := by simp only [ByteArray.size_append]; omega
  have z4 : (⟨#[117, 58]⟩ ++ writeS (x.puts.map (·.1)) ++ ⟨#[47]⟩ : ByteArray).size ≤ 70703 := by simp only [ByteArray.size_append]; omega
  have z5 : (writeS (x.puts.map (·.1)) ++ ⟨#[47]⟩ : ByteArray).size ≤ 70701 := by simp only [ByteArray.size_append]; omega
  have hrU : (recU x).size ≤ 80000 := hxo.recO.size
  refine K.reg ?_
  refine KO.mv rfl rfl ?_
  refine KO.mv rfl rfl ?_
  refine KO.cat rfl rfl (by omega) rfl ?_
  refine KO.cat rfl rfl (by omega) rfl ?_
  refine KO.mv rfl rfl ?_
  refine KO.ce (cp := []) rfl rfl rfl Tryz.call62 rfl (join_e w0 _ _ v6 (x.gets.map gotT) plus (by with_reducible (repeat (first | exact Pick.head | apply Pick.tail))) (by simp; omega) (by omega)) ?_; rintro v' L' ⟨rfl, rfl⟩
  refine KO.cat rfl rfl (by omega) rfl ?_
  refine KO.cl (cp := []) rfl rfl rfl Tryz.call61 rfl (KC.pk2 (by with_reducible (repeat (first | exact Pick.head | apply Pick.tail))) (by with_reducible (repeat (first | exact Pick.head | apply Pick.tail))) (logs_c w0 _ bh bd H D (recU x) hT h3 hd (by omega) husd)) ?_; rintro v' L' ⟨rfl, rfl⟩
  refine KO.as rfl rfl ?_
  refine KO.nil ?_
  repeat (first | (with_reducible refine K.seq ?_) | (with_reducible refine KQ.next ?_))
  refine K.reg ?_
  refine KO.mv rfl rfl ?_
  refine KO.neN rfl (by kernel_rfl) rfl ?_
  refine KO.nil ?_
  repeat ((with_reducible refine KQ.next ?_))
  refine K.condD rfl (fun h22 => ?_) (fun h22 => ?_)
  · rw [if_pos h22] at hcmH
    repeat ((with_reducible refine K.seq ?_))
    refine K.reg ?_
    refine KO.mv rfl rfl ?_
    refine KO.as rfl rfl ?_
    refine KO.nil ?_
    repeat (first | (with_reducible refine KQ.next ?_) | (with_reducible refine KQ.then_ret ?_) | (with_reducible refine K.ret ?_))
    refine KQ.ret1 rfl rfl (fun w' hs' => ⟨_, _, rfl, ⟨by rw [hcmE], rfl⟩, ?_⟩)
    rw [hcmH, hcmD]
    exact hs'.all (by repeat (first | exact PAll.refl | refine PAll.cons (by repeat (first | exact Pick.head | apply Pick.tail)) ?_ | apply PAll.drop))
  rw [if_neg h22] at hcmH
  have h220 : logE H D = 0 := by simpa using h22
  have hB1 : HoB n (logH H D) := hB.log
  have hq1 := hB1.qlen
  generalize hH1 : logH H D = H1 at *
  repeat (first | (with_reducible refine K.seq ?_) | (with_reducible refine KQ.next ?_) | (with_reducible refine K.skip ?_))
  refine K.open' (fun _ h => hoP_open (h.pick (by with_reducible (repeat (exact Pick.head))))) ?_
  rintro ⟨V1, hV1⟩
  dsimp only
  have hps1 := hV1.ps
  refine K.reg ?_
  refine KO.mv rfl rfl ?_
  refine KO.cl (cp := []) rfl rfl rfl Tryz.call63 rfl (all_c w0 _ bh bd V1 H1 hV1 (by omega)) ?_; rintro va L' ⟨js, hjs, rfl⟩; refine KO.fact (fun w hw => SL_form (E := 119) (sz := 1) (cf := ptrC) (hw.pick .head)) ?_; rintro ⟨ad, cap, rfl, had⟩
  refine KO.len rfl Tryz.underlying152 rfl ?_
  refine KO.mv rfl rfl ?_
  refine KO.nil ?_
  repeat (first | (with_reducible refine KQ.next ?_) | (with_reducible refine K.block ?_))
  have hjl : js.length = V1.ps.length := by have := hjs.length_eq; simpa using this
  refine K.loop (fun k : Nat => [(0, ptrV bh), (1, .int .i64 u), (6, v6), (12, .string (writeS (x.puts.map (·.1)))), (90, .slice ad (js.map fun j => V1.ps.getD j 0).length cap), (91, .int .i64 ((js.map fun j => V1.ps.getD j 0).length : Nat)), (92, .int .i64 (k : Nat))])
    (fun k => ptrsS (.slice ad (js.map fun j => V1.ps.getD j 0).length cap) (js.map fun j => V1.ps.getD j 0) :: fam quP V1.ps (endsL u H1.all (js.take k)) :: blk bh (.cells (hoC bd V1 H1).toArray 133 (0, 0)) :: nmS V1.nv H1.names :: omapK Value.string V1.mb (mapE V1 H1) :: fam putsS (V1.us.map (·.1)) (H1.units.map (·.puts)) :: fam getsS (V1.us.map (·.2)) (H1.units.map (·.gets)) :: fam batS V1.bs H1.batch :: strS v6 (x.gets.map gotT) :: dkP bd (logD H D (recU x)) :: L)
    (fun k => k ≤ js.length) (fun k => js.length - k) 0 (Nat.zero_le _) ⟨rfl, rfl, rfl, rfl, rfl, rfl, rfl, trivial⟩ (fun _ h => h.all (by repeat (first | exact PAll.refl | refine PAll.cons (by repeat (first | exact Pick.head | apply Pick.tail)) ?_ | apply PAll.drop))) ?_
  rintro k hk
  repeat ((with_reducible refine K.seq ?_))
  refine K.reg ?_
  refine KO.lss rfl rfl rfl ?_
  refine KO.nil ?_
  repeat (first | (with_reducible refine K.seq ?_) | (with_reducible refine KQ.next ?_))
  refine K.condD rfl (fun h8 => ?_) (fun h8 => ?_)
  · rw [List.length_map] at h8
    obtain ⟨j, hj⟩ : ∃ e, js[k]? = some e := ⟨js[k], List.getElem?_eq_getElem (by omega)⟩
    have hjr : j < V1.ps.length := by have := hjs.mem_iff.1 (List.mem_of_getElem? hj); simpa using this
    obtain ⟨p, hp⟩ : ∃ e, V1.ps[j]? = some e := ⟨_, List.getElem?_eq_getElem hjr⟩
    have hpj : (js.map fun j => V1.ps.getD j 0)[k]? = some p := by rw [List.getElem?_map, hj, Option.map_some, List.getD_eq_getElem?_getD, hp]; rfl
    obtain ⟨g, rfl⟩ := had (by rw [List.length_map]; omega)
    have hal := all_len hV1.ways
    have hle := endsL_len u (js.take k) H1.all
    have hq : (endsL u H1.all (js.take k))[j]? = some ((endsL u H1.all (js.take k)).getD j default) := by rw [List.getD_eq_getElem?_getD, List.getElem?_eq_getElem (by omega)]; rfl
    have hqb := endsL_QB u (js.take k) H1.all hB1.qs _ (List.mem_of_getElem? hq)
    have hqn := hqb.len
    have hsucc := endsL_succ (u := u) (l := H1.all) hj
    generalize endsL u H1.all (js.take k) = lk at hq hqn hsucc
    generalize lk.getD j default = q at hq hqn hsucc
    repeat (first | (with_reducible refine K.seq ?_) | (with_reducible refine KQ.next ?_) | (with_reducible refine K.skip ?_) | (with_reducible refine K.block ?_))
    refine K.reg ?_
    refine KO.idx0 (i := k) rfl rfl Tryz.runUnderlying152 Tryz.sizeOf119 rfl (by rw [List.length_map]; omega) rfl ?_
    refine KO.ldE0 (i := k) (sz := 1) (cf := ptrC) (e := p) rfl rfl Tryz.isAgg119 .head (fun _ => rfl) hpj (by exact rfl) (by exact rfl) rfl ?_
    refine KO.as rfl rfl ?_
    refine KO.nil ?_
    repeat ((with_reducible refine KQ.next ?_))
    refine K.reg ?_
    refine KO.mv rfl rfl ?_
    refine KO.mv rfl rfl ?_
    refine KO.cl (cp := []) rfl rfl rfl Tryz.call64 rfl (KC.famC (φ := fun v => v = .tuple #[]) hp hq (by with_reducible (repeat (first | exact Pick.head | apply Pick.tail))) (fun L => ends_c w0 L p q u true (by omega))) ?_; rintro v' L' ⟨rfl, rfl⟩
    refine KO.nil ?_
    repeat (first | (with_reducible refine KQ.next ?_) | (with_reducible refine KQ.blk_normal ?_))
    refine K.reg ?_
    refine KO.add rfl rfl rfl (by omega) rfl ?_
    refine KO.mv rfl rfl ?_
    refine KO.nil ?_
    refine KQ.round (k + 1) (by omega) (by omega) ⟨rfl, rfl, rfl, rfl, rfl, rfl, rfl, trivial⟩ (fun _ h => ?_)
    rw [hsucc]
    exact h.all (by with_reducible repeat (first | exact PAll.refl | refine PAll.cons (by with_reducible repeat (first | exact Pick.head | apply Pick.tail)) ?_))
  have hkl : k = js.length := by rw [List.length_map] at h8; omega
  subst hkl
  rw [List.take_length, endsL_map u (by rw [all_len hV1.ways, ← hps1]; exact hjs)]
  repeat (first | (with_reducible refine K.seq ?_) | (with_reducible refine KQ.next ?_) | (with_reducible refine KQ.then_exit ?_) | (with_reducible refine KQ.blk_exit ?_) | (with_reducible refine K.exit ?_))
  refine K.reg ?_
  refine KO.mv rfl rfl ?_
  refine KO.mv rfl rfl ?_
  refine KO.bldN (pl := [(0, 1), (1, 1)]) rfl Tryz.zeroValue130 Tryz.runUnderlying130 (by intro w; simp [Tryz.sizeOf127, Tryz.sizeOf128]) (by exact rfl) rfl ?_
  refine KO.nc rfl rfl ?_
  refine KO.fo0 (off := 12) rfl Tryz.runUnderlying133 rfl rfl Tryz.sizeOf131 rfl ?_
  refine KO.idxA (i := u.toNat) rfl rfl Tryz.runUnderlying131 Tryz.sizeOf130 hui (by omega) rfl ?_
  refine KO.stoAt (b := bh) (off := 12 + 2 * u.toNat) (us := [.slice none 0 0, .slice none 0 0]) rfl rfl (by simp only [Addr.add_lit]; (simp; done)) rfl (by exact rfl) (by exact Tryz.sizeOf130) (by exact rfl) (by with_reducible (repeat (first | exact Pick.head | apply Pick.tail))) (by rw [hoC_len hV1]; simp; omega) (hoC_wipe hV1 hul) ?_
  refine KO.nil ?_
  repeat (first | (with_reducible refine K.seq ?_) | (with_reducible refine KQ.next ?_))
  refine K.conv (L' := hoP bh bd (putU (hEnds H1 u) u.toNat noUnit) :: strS v6 (x.gets.map gotT) :: dkP bd (logD H D (recU x)) :: L) (fun w hw => hoP_wiped hV1 u hul (hw.all (by with_reducible repeat (first | exact PAll.refl | refine PAll.cons (by with_reducible repeat (first | exact Pick.head | apply Pick.tail)) ?_ | apply PAll.drop)))) ?_
  have hB2 : HoB n (putU (hEnds H1 u) u.toNat noUnit) := (hB1.hEnds u).putU _ _
  have hrd : ∀ l, mrd (cutB 47 (recB x)).1 = some l → n + l.length ≤ 90000 := fun l hl2 => by
    rw [hxo.read] at hl2
    simp only [Option.some.injEq] at hl2
    subst hl2
    simp; omega
  refine K.reg ?_
  refine KO.mv rfl rfl ?_
  refine KO.mv rfl rfl ?_
  refine KO.cat rfl rfl (by omega) rfl ?_
  refine KO.mv rfl rfl ?_
  refine KO.ce (cp := []) rfl rfl rfl Tryz.call62 rfl (join_e w0 _ _ v6 (x.gets.map gotT) plus (by with_reducible (repeat (first | exact Pick.head | apply Pick.tail))) (by simp; omega) (by omega)) ?_; rintro v' L' ⟨rfl, rfl⟩
  refine KO.cat rfl rfl (by omega) rfl ?_
  refine KO.cl (cp := []) rfl rfl rfl Tryz.call65 rfl (KC.pk1 (by with_reducible (repeat (exact Pick.head))) (hends_c w0 _ bh bd n (putU (hEnds H1 u) u.toNat noUnit) (recB x) hT hM (by omega) hB2 hrd (by omega))) ?_; rintro v' L' ⟨rfl, rfl⟩
  refine KO.nil ?_
  repeat (first | (with_reducible refine K.seq ?_) | (with_reducible refine KQ.next ?_))
  refine K.reg ?_
  refine KO.as rfl rfl ?_
  refine KO.nil ?_
  repeat (first | (with_reducible refine KQ.next ?_) | (with_reducible refine K.ret ?_))
  refine KQ.ret1 rfl rfl (fun w' hs' => ⟨_, _, rfl, ⟨by rw [hcmE, h220]; rfl, rfl⟩, ?_⟩)
  rw [hcmH, hcmD]
  exact hs'.all (by repeat (first | exact PAll.refl | refine PAll.cons (by repeat (first | exact Pick.head | apply Pick.tail)) ?_ | apply PAll.drop))
end Go.Proofs.YtjhogocabcdjbabGreatDoor
/- sort.Slice at structs, told by parts -/
namespace WB
open Go Go.RowKit Go.Sort Go.Shelf Go.Proofs
section
variable {w0 w : World} {L R : List HP} {E : TypeId} {α : Type} [Inhabited α] {cf : α → List Value} {k : Nat} {xs ys : List α} {v : Value} {g n cap : Nat}
theorem flatK_get (hk : ∀ x, (cf x).length = k) (xs : List α) (j : Nat) (hj : j < xs.length * k) : (xs.flatMap cf)[j]? = some (flatK cf k xs.toArray)[j]! := by
  have hk0 : 0 < k := by rcases Nat.eq_zero_or_pos k with h | h; · subst h; simp at hj
                         · exact h
  have hd : j / k < xs.length := (Nat.div_lt_iff_lt_mul hk0).2 hj
  have hm : j % k < k := Nat.mod_lt _ hk0
  rw [get_flatK _ _ _ _ (by simpa using hj)]
  have := flat_get cf k hk default xs (j / k) (j % k) hd hm
  rw [Nat.div_add_mod'] at this
  rw [this]
  have e1 : xs.toArray[j / k]! = xs.getD (j / k) default := by simp [List.getD_eq_getElem?_getD, hd]
  rw [e1, List.getElem?_eq_getElem (by rw [hk]; exact hm), List.getElem!_eq_getElem?_getD, List.getElem?_eq_getElem (by rw [hk]; exact hm)]
  rfl
theorem holdsK_of (hk : ∀ x, (cf x).length = k) (h : St w0 (SL E k cf (.slice (some ⟨g, 0, none⟩) n cap) xs :: R) w) : HoldsK cf k w g 0 xs.toArray := by
  obtain ⟨rfl, h2, _, cur, h4, h5, h6⟩ := SL_open h
  intro j hj
  have hj' : j < xs.length * k := by simpa using hj
  have hl := h6.look.2
  refine ⟨?_, ?_⟩
  · rw [Nat.zero_add, World.cell?, hl]
    have := flatK_get (cf := cf) hk xs j hj'
    rw [← h5, List.getElem?_take, if_pos hj'] at this
    simpa using this
  · rw [World.frozen?, hl]; simp
theorem St.grow (h : St w0 L w) (q : Nat) (os : Array Obj) : St w0 L (Sort.grow (Sort.ahead w q) os) := h.below_step (Lib.below_grow w.heap.size w (Nat.le_refl _) q os)
theorem St.sorted (hk : ∀ x, (cf x).length = k) (h : St w0 (SL E k cf (.slice (some ⟨g, 0, none⟩) n cap) xs :: R) w) (hl : ys.length = xs.length) (q : Nat) (os : Array Obj) :
    St w0 (SL E k cf (.slice (some ⟨g, 0, none⟩) n cap) ys :: R) (Sort.grow (putRowK cf k (Sort.ahead w q) g 0 ys.toArray) os) := by
  obtain ⟨rfl, h2, h3, cur, h4, h5, h6⟩ := SL_open h
  have hlk := h6.look.2
  have hle : xs.length * k ≤ cap * k := Nat.mul_le_mul_right _ h2
  have hup : St w0 (blk g (.cells (putCells id 0 (flatK cf k ys.toArray) cur) E (0, 0)) :: R) (putRowK cf k (Sort.ahead w q) g 0 ys.toArray) := by
    refine h6.upd rfl rfl rfl (by simp [putRowK]) ?_ ?_
    · simp [putRowK, putRow, mapBlock, Array.getElem?_modify, hlk, onCells]
    · intro b hb
      simp [putRowK, putRow, mapBlock, Array.getElem?_modify, Ne.symm hb]
  have hs : (putCells id 0 (flatK cf k ys.toArray) cur).size = cap * k := by simp [putCells, h4]
  have hr := SL_mk (cf := cf) (sz := k) (xs := ys) hup (by omega) h3 hs ?_
  · rw [hl] at hr
    exact hr.grow 0 os
  · apply List.ext_getElem?
    intro j
    rw [List.getElem?_take]
    by_cases hj : j < ys.length * k
    · rw [if_pos hj, flatK_get hk ys j hj]
      have hjc : j < cur.size := by rw [h4]; rw [hl] at hj; omega
      simp [putCells, hjc, hj]
    · rw [if_neg hj, List.getElem?_eq_none (by rw [flatC_len hk]; omega)]
end
section
variable {P : Program} {ρ : Ren} {α : Type} [Inhabited α]
/-- the closure, wherever the row holds dk -/
def LessAt (P : Program) (f : Nat) (cf : α → List Value) (k : Nat) (lt : α → α → Bool) (Bs : Nat) : Prop :=
  ∀ (W : World) (g n c : Nat) (dk : Array α), dk.size = n → W.cell? ⟨Bs, 0, none⟩ = some (.slice (some ⟨g, 0, none⟩) n c) → HoldsK cf k W g 0 dk → ∀ i j : Nat, i < n → j < n →
    Calls P f #[.int .i64 i, .int .i64 j, .pointer (some ⟨Bs, 0, none⟩)] W fun e w' => e = .returned (.bool (lt dk[i]! dk[j]!)) ∧ ∃ q, w' = W.drewN q
end
end WB
/- the house: opened; its names sorted -/
namespace WB
open Go Go.RowKit
section
variable {κ : Type} [DecidableEq κ] {kv : κ → Value} {kd : TypeDesc}
variable {P : Program} {ops : Array Oper} {d : Bool} {Q : Exit → Act → World → Prop} {n : Nat} {D : List Deferred} {w0 : World} {G : Env} {L R : List HP} {l : List (Kd × Oper)} {k : Kd}
  {ty T KT E : TypeId} {pos : String} {af : Array Edge} {x y u : Operand} {v : Value} {b : Nat} {m : List (κ × Value)}
theorem KO.ins (K : KeyLaw kd kv) (s : κ) (hk : (!d || k == .write) = true) (hx : ev G x = some (.map (some b))) (hy : ev G y = some (kv s)) (hu : ev G u = some v) (hT : P.underlying T = some (.map KT E)) (hK : P.underlying KT = some kd) (hp : Pick L (omapK kv b m) R)
    (h : KO P ops d Q n D w0 G (omapK kv b (putK m s v) :: R) l) : KO P ops d Q n D w0 G L ((k, ⟨none, .insert T x y u, ty, pos, af, none⟩) :: l) :=
  KO.wrRun hk (fun a w ha hw => by
    obtain ⟨w', hr, hs⟩ := omapK_put (P := P) K (hw.pick hp) hT hK s v
    exact ⟨w', by simp [execOp, ha.eval hx, ha.eval hy, ha.eval hu, hr], hs⟩) h
end
theorem fam_nils {α β : Type} {f : α → β → HP} {w0 w : World} {L : List HP} {p : α} {x : β} (hf : ∀ L, St w0 L w → St w0 (f p x :: L) w) (n : Nat) (h : St w0 L w) : St w0 (fam f (List.replicate n p) (List.replicate n x) :: L) w := by
  refine fam_of ?_
  induction n with
  | zero => exact h
  | succ n ih => exact hf _ ih
/-- a new house -/
def hNew (id : Int) : Ho := ⟨id, 0, false, -1, 0, [], [(deadS, ⟨[], 0⟩)], List.replicate 4 ⟨[], 0⟩, List.replicate 5 ⟨[], []⟩, List.replicate 4 [], List.replicate 4 0, List.replicate 4 0⟩
theorem hNew_B {id : Int} (h : 0 ≤ id ∧ id < 4) : HoB 10 (hNew id) := by
  refine ⟨h, by simp [hNew], by simp [hNew], sorted_nil, by simp [hNew], by simp [hNew], fun q hq => ?_, by simp [hNew], rfl, rfl, rfl, rfl, rfl, (fun x hx => by simp [hNew] at hx), (fun x hx => by simp [hNew] at hx)⟩
  have : q = ⟨[], 0⟩ := by simp [hNew, Ho.all] at hq; exact hq
  subst this
  exact QB.nil
/-- what a record leaves as it was -/
structure Same (H H' : Ho) : Prop where
  id : H'.id = H.id
  used : H'.used = H.used
  down : H'.down = H.down
  torn : H'.torn = H.torn
  units : H'.units = H.units
  batch : H'.batch = H.batch
  sent : H'.sent = H.sent
  arrived : H'.arrived = H.arrived
theorem Same.refl (H : Ho) : Same H H := ⟨rfl, rfl, rfl, rfl, rfl, rfl, rfl, rfl⟩
theorem Same.trans {A B C : Ho} (h : Same A B) (g : Same B C) : Same A C := ⟨g.id.trans h.id, g.used.trans h.used, g.down.trans h.down, g.torn.trans h.torn, g.units.trans h.units, g.batch.trans h.batch, g.sent.trans h.sent, g.arrived.trans h.arrived⟩
theorem hset_same (H : Ho) (x : Nm) : Same H (hset H x) := by unfold hset; split <;> exact ⟨rfl, rfl, rfl, rfl, rfl, rfl, rfl, rfl⟩
theorem hput1_same {H H1 : Ho} {m : Ms} (h : hput1 H m = some H1) : Same H H1 := by
  unfold hput1 at h
  dsimp only at h
  split at h
  · simp only [Option.some.injEq] at h; subst h; exact ⟨rfl, rfl, rfl, rfl, rfl, rfl, rfl, rfl⟩
  · split at h
    · cases h
    · simp only [Option.some.injEq] at h; subst h; exact ⟨rfl, rfl, rfl, rfl, rfl, rfl, rfl, rfl⟩
theorem hputs_same : ∀ (l : List Ms) (H : Ho), Same H (hputs H l).1
  | [], H => .refl H
  | m :: l, H => by
    unfold hputs
    cases hp : hput1 H m with
    | none => exact ⟨rfl, rfl, rfl, rfl, rfl, rfl, rfl, rfl⟩
    | some H1 => exact (hput1_same hp).trans (hputs_same l H1)
theorem hget1_same {H H1 : Ho} {s : ByteArray} (h : hget1 H s = some H1) : Same H H1 := by
  unfold hget1 at h
  split at h
  · cases h
  · split at h
    · cases h
    · split at h
      · simp only [Option.some.injEq] at h; subst h; exact ⟨rfl, rfl, rfl, rfl, rfl, rfl, rfl, rfl⟩
      · cases h
theorem hgets_same : ∀ (l : List ByteArray) (H : Ho), Same H (hgets H l).1
  | [], H => .refl H
  | s :: l, H => by
    unfold hgets
    cases hp : hget1 H s with
    | none => exact .refl H
    | some H1 => exact (hget1_same hp).trans (hgets_same l H1)
theorem hends_same (H : Ho) (s : ByteArray) : Same H (hends H s).1 := by
  unfold hends
  split
  · exact .refl H
  · split
    · exact .refl H
    · rename_i l hl
      split
      · exact hputs_same l H
      · split
        · exact hputs_same l H
        · exact (hputs_same l H).trans (hgets_same _ _)
theorem hplays_same (H : Ho) (s : ByteArray) : Same H (hplays H s).1 := by
  unfold hplays
  split
  · split
    · exact .refl H
    · exact hset_same H _
  · split
    · exact ⟨rfl, rfl, rfl, rfl, rfl, rfl, rfl, rfl⟩
    · exact hends_same H _
/-- a disk is gone through -/
def openN (D : Dk) : Nat → Ho → Ho
  | 0, H => H
  | f + 1, H => match openS (H.used : Nat) (D.places.getD H.used ⟨#[]⟩) with
    | none => H
    | some s => if (hplays H s).2 = false then (hplays H s).1 else openN D f { (hplays H s).1 with used := H.used + 1 }
def openH (id : Int) (D : Dk) : Ho := openN D 300 (hNew id)
/-- what may lie on a disk -/
structure DkOk (D : Dk) : Prop where
  len : D.places.length = 300
  left : -1000000 ≤ D.left ∧ D.left ≤ 9223372036854775807
  size : ∀ t ∈ D.places, t.size ≤ 800000
  recs : ∀ (k : Nat) t s, D.places[k]? = some t → openS (k : Nat) t = some s → RecOk 250 s
theorem HoB.used' {n : Nat} {H : Ho} (h : HoB n H) {k : Nat} (hk : k ≤ 300) : HoB n { H with used := k } := ⟨h.id, hk, h.next, h.sorted, h.nlen, h.qlen, h.qs, h.nodup, h.ways, h.units, h.batch, h.sent, h.arrived, h.right, h.loc⟩
theorem HoB.torn' {n : Nat} {H : Ho} (h : HoB n H) (k : Int) : HoB n { H with torn := k } := ⟨h.id, h.used, h.next, h.sorted, h.nlen, h.qlen, h.qs, h.nodup, h.ways, h.units, h.batch, h.sent, h.arrived, h.right, h.loc⟩
theorem openN_B {D : Dk} (hD : DkOk D) : ∀ (f : Nat) (H : Ho), H.used + f ≤ 300 → HoB (10 + 250 * H.used) H → HoB 76000 (openN D f H)
  | 0, H, hu, h => h.le (by omega)
  | f + 1, H, hu, h => by
    unfold openN
    obtain ⟨t, ht⟩ : ∃ t, D.places[H.used]? = some t := ⟨_, List.getElem?_eq_getElem (by rw [hD.len]; omega)⟩
    have e : D.places.getD H.used ⟨#[]⟩ = t := by rw [List.getD_eq_getElem?_getD, ht]; rfl
    rw [e]
    split
    · exact h.le (by omega)
    · rename_i s hs
      have hr := hD.recs _ t s ht hs
      have h1 := h.plays hr (by omega)
      split
      · exact h1.le (by omega)
      · have h2 := (h1.used' (k := H.used + 1) (by omega)).le (k := 10 + 250 * (H.used + 1)) (by omega)
        exact openN_B hD f _ (by dsimp only; omega) h2
def keptAt (H : Ho) (s : ByteArray) : List Ms := match H.qI s with
  | some i => qkept (H.qAt i)
  | none => []
def thereE (H : Ho) (s : ByteArray) : Int := match H.qI s with
  | none => 7
  | some _ => if s ≠ deadS ∧ localB H.names s = false then 7 else 0
def thereL (H : Ho) (s : ByteArray) : List Ms := if thereE H s = 0 then qthere (H.qAt ((H.qI s).getD 0)) else []
theorem openH_B {id : Int} (h : 0 ≤ id ∧ id < 4) {D : Dk} (hD : DkOk D) : HoB 76000 (openH id D) := openN_B hD 300 _ (by simp [hNew]) ((hNew_B h).le (by omega))
/-- strings, sorted -/
def sortB (xs : List ByteArray) : List ByteArray := ((xs.map (·.data.toList)).mergeSort fun x y => decide (x ≤ y)).map toB
theorem sortB_perm (xs : List ByteArray) : (sortB xs).Perm xs := by
  unfold sortB
  refine ((List.mergeSort_perm _ _).map toB).trans ?_
  rw [List.map_map]
  have : toB ∘ (fun x : ByteArray => x.data.toList) = id := by funext x; simp [toB]
  rw [this, List.map_id]
section
open Go.Sort Go.Shelf Go.Proofs
variable {w0 w : World} {L R : List HP} {E : TypeId} {xs ys : List ByteArray} {v : Value} {g n cap : Nat}
def cfL (l : List UInt8) : List Value := [encStr l]
def cfS (s : ByteArray) : List Value := [.string s]
theorem SL_str (E : TypeId) (v : Value) (xs : List ByteArray) : SL E 1 cfS v xs = SL E 1 cfL v (xs.map (·.data.toList)) := by
  unfold SL
  rw [List.length_map, List.flatMap_map]
  rfl
theorem flatK_one (d : Array (List UInt8)) (j : Nat) (hj : j < d.size) : (flatK cfL 1 d)[j]! = encStr d[j]! := by
  rw [get_flatK _ _ _ _ (by omega), Nat.div_one, Nat.mod_one]; rfl
theorem putRow_one (w : World) (g : Nat) (d : Array (List UInt8)) : putRow encStr w g 0 d = putRowK cfL 1 w g 0 d := by
  unfold putRowK putRow
  congr 1
  funext c
  unfold putCells
  congr 1
  funext k x
  have : (flatK cfL 1 d).size = d.size := by simp
  rw [this]
  by_cases h : 0 ≤ k ∧ k < 0 + d.size
  · rw [if_pos h, if_pos h, Nat.sub_zero, flatK_one d k (by omega)]; rfl
  · rw [if_neg h, if_neg h]
theorem holds_one {d : Array (List UInt8)} (h : HoldsK cfL 1 w g 0 d) : Holds encStr w g 0 d := fun j hj => by
  have := h j (by simpa using hj)
  rw [flatK_one d j hj] at this
  exact this
theorem sortStr_c {P : Program} {f : FuncId} (h0 : ∀ (p : Option Addr) (cap : Nat) (w : World), Calls P f #[.slice p 0 cap] w fun e w' => e = .returned (.tuple #[]) ∧ w' = w)
    (h1 : ∀ (blk off cap : Nat) (ss : List (List UInt8)) (w : World), Holds encStr w blk off ss.toArray → blk < w.heap.size → ss.length < 4611686018427387904 →
      Calls P f #[.slice (some ⟨blk, off, none⟩) ss.length cap] w fun e w' => e = .returned (.tuple #[]) ∧ ∃ n os, w' = Go.Sort.grow (putRow encStr (Go.Sort.ahead w n) blk off (ss.mergeSort fun x y => decide (x ≤ y)).toArray) os)
    (w0 : World) (L : List HP) (v : Value) (xs : List ByteArray) (hl : xs.length < 1000000) :
    KC P f #[v] w0 (SL E 1 cfS v xs :: L) (fun u M => u = .tuple #[] ∧ M = SL E 1 cfS v (sortB xs) :: L) := fun w hw => by
  obtain ⟨a, cap, rfl, ha⟩ := SL_form hw
  by_cases hz : xs = []
  · subst hz
    refine (h0 a cap w).mono ?_
    rintro e w' ⟨rfl, rfl⟩
    exact ⟨_, _, rfl, ⟨rfl, rfl⟩, by rw [show sortB [] = [] by simp [sortB]]; exact hw⟩
  · have hlen : 0 < xs.length := List.length_pos_iff.2 hz
    obtain ⟨g, rfl⟩ := ha hlen
    rw [SL_str] at hw
    have hH := holds_one (holdsK_of (cf := cfL) (fun _ => rfl) hw)
    obtain ⟨-, -, -, cur, -, -, h6⟩ := SL_open hw
    have hlt := h6.lt
    have hc := h1 g 0 cap (xs.map (·.data.toList)) w hH hlt (by rw [List.length_map]; omega)
    rw [List.length_map] at hc
    refine hc.mono ?_
    rintro e w' ⟨rfl, q, os, rfl⟩
    refine ⟨_, _, rfl, ⟨rfl, rfl⟩, ?_⟩
    rw [putRow_one]
    have hs := St.sorted (cf := cfL) (fun _ => rfl) hw (ys := (xs.map (·.data.toList)).mergeSort fun x y => decide (x ≤ y)) (by simp) q os
    rw [SL_str]
    have e : (sortB xs).map (·.data.toList) = (xs.map (·.data.toList)).mergeSort fun x y => decide (x ≤ y) := by
      unfold sortB
      rw [List.map_map]
      have : (fun x : ByteArray => x.data.toList) ∘ toB = id := by funext l; simp [toB]
      rw [this, List.map_id]
    rw [e]
    exact hs
end
end WB
/- house: Open, Torn, Used -/
namespace Go.Proofs.YtjhogocabcdjbabGreatDoor
open Go Go.RowKit WB
def nR : List Value := List.replicate 14 (.slice none 0 0) ++ List.replicate 8 (.int .i64 0)
def nC (id : Int) (bd mb : Nat) (ps : List Nat) : List Value :=
  [.int .i64 id, ptrV bd, .int .i64 0, .bool false, .int .i64 (-1), .int .i64 0, .slice none 0 0, .map (some mb)] ++ (ps.map ptrV ++ (List.replicate (4 - ps.length) (.pointer none) ++ nR))
theorem nC_set {id : Int} {bd mb : Nat} {ps : List Nat} (p : Nat) (h : ps.length < 4) : (nC id bd mb ps).set (8 + ps.length) (ptrV p) = nC id bd mb (ps ++ [p]) ∧ (nC id bd mb ps).length = 34 := by
  match ps, h with
  | [], _ => exact ⟨rfl, rfl⟩
  | [a], _ => exact ⟨rfl, rfl⟩
  | [a, b], _ => exact ⟨rfl, rfl⟩
  | [a, b, c], _ => exact ⟨rfl, rfl⟩
theorem hoP_new {w0 w : World} {L : List HP} {id : Int} {bh bd mb p0 : Nat} {ps : List Nat} (h4 : ps.length = 4)
    (h : St w0 (blk bh (.cells (nC id bd mb ps).toArray 133 (0, 0)) :: fam quP ps (List.replicate 4 ⟨[], 0⟩) :: quP p0 ⟨[], 0⟩ :: omapK Value.string mb [(deadS, ptrV p0)] :: L) w) : St w0 (hoP bh bd (hNew id) :: L) w := by
  have h1 := fam_snoc (f := quP) (ps := ps) (xs := List.replicate 4 ⟨[], 0⟩) (p := p0) (x := ⟨[], 0⟩) (by simpa using h4) (h.all (M := quP p0 ⟨[], 0⟩ :: fam quP ps (List.replicate 4 ⟨[], 0⟩) :: blk bh (.cells (nC id bd mb ps).toArray 133 (0, 0)) :: omapK Value.string mb [(deadS, ptrV p0)] :: L) (by with_reducible repeat (first | exact PAll.refl | refine PAll.cons (by with_reducible repeat (first | exact Pick.head | apply Pick.tail)) ?_)))
  have h2 := fam_nils (f := putsS) (p := .slice none 0 0) (x := []) (fun L h => SL_nil (E := 142) (sz := 6) (cf := putC) h) 5 h1
  have h3 := fam_nils (f := getsS) (p := .slice none 0 0) (x := []) (fun L h => SL_nil (E := 146) (sz := 2) (cf := gotC) h) 5 h2
  have h5 := fam_nils (f := batS) (p := .slice none 0 0) (x := []) (fun L h => roS_nil h) 4 h3
  have h6 := SL_nil (E := 75) (sz := 3) (cf := Nm.cells) h5
  refine hoP_mk ⟨.slice none 0 0, mb, ps ++ [p0], List.replicate 5 (.slice none 0 0, .slice none 0 0), List.replicate 4 (.slice none 0 0)⟩ ⟨by simp [hNew, h4], rfl, rfl, rfl, rfl, rfl, rfl, rfl⟩ ?_
  match ps, h4 with
  | [a, b, c, d], _ => exact h6.all (by repeat (first | exact PAll.refl | refine PAll.cons (by repeat (first | exact Pick.head | apply Pick.tail)) ?_))
set_option maxRecDepth 100000 in
set_option maxHeartbeats 4000000 in
theorem hopen_c (w0 : World) (L : List HP) (bd : Nat) (id : Int) (D : Dk) (hT : Tab w0) (hM : Lim w0) (hid : 0 ≤ id ∧ id < 4) (hD : DkOk D) :
    KC Tryz.prog 11 #[.int .i64 id, ptrV bd] w0 (dkP bd D :: L) (fun u M => ∃ bh, u = .tuple #[ptrV bh, .nilIface] ∧ M = hoP bh bd (openH id D) :: dkP bd D :: L) := by
  have hlen := hD.len
  refine KC.mk (n := 79) Tryz.func11 rfl Tryz.ntmps11 (by simp) ?_
  repeat ((with_reducible refine K.seq ?_))
  refine K.reg ?_
  refine KO.as rfl rfl ?_
  refine KO.as rfl rfl ?_
  refine KO.nil ?_
  repeat (first | (with_reducible refine K.seq ?_) | (with_reducible refine KQ.next ?_) | (with_reducible refine K.block ?_))
  refine K.reg ?_
  refine KO.mv rfl rfl ?_
  refine KO.lss rfl rfl rfl ?_
  refine KO.mv rfl rfl ?_
  (refine KO.on rfl rfl ?_ ?_; (focus (simp only [decide_eq_true_eq, decide_eq_false_iff_not, Bool.not_eq_true, Bool.not_true, Bool.not_false, ne_eq]; omega)); (refine KO.mv rfl rfl ?_))
  (refine KO.on rfl rfl ?_ ?_; (focus (simp only [decide_eq_true_eq, decide_eq_false_iff_not, Bool.not_eq_true, Bool.not_true, Bool.not_false, ne_eq]; omega)); (refine KO.geq rfl rfl rfl ?_))
  (refine KO.pickF rfl ?_ rfl rfl ?_; (focus (simp only [decide_eq_true_eq, decide_eq_false_iff_not, Bool.not_eq_true, Bool.not_true, Bool.not_false, ne_eq]; omega)))
  refine KO.as rfl rfl ?_
  refine KO.nil ?_
  repeat ((with_reducible refine KQ.next ?_))
  refine K.condF rfl (by (simp; omega)) ?_
  repeat ((with_reducible refine K.seq ?_))
  refine K.reg ?_
  refine KO.mv rfl rfl ?_
  refine KO.eqPn rfl Tryz.underlying25 rfl ?_
  refine KO.as rfl rfl ?_
  refine KO.nil ?_
  repeat ((with_reducible refine KQ.next ?_))
  refine K.condF rfl rfl ?_
  repeat (first | (with_reducible refine K.seq ?_) | (with_reducible refine KQ.next ?_) | (with_reducible refine KQ.blk_normal ?_) | (with_reducible refine K.skip ?_))
  refine K.reg ?_
  refine KO.mv rfl rfl ?_
  refine KO.mv rfl rfl ?_
  refine KO.mkm (Value.string) rfl rfl ?_; intro b24
  refine KO.bldN (pl := [(0, 1), (1, 1)]) rfl Tryz.zeroValue122 Tryz.runUnderlying122 (by intro w; simp [Tryz.sizeOf3, Tryz.sizeOf120]) (by exact rfl) rfl ?_
  refine KO.box rfl rfl (by exact rfl) rfl ?_; intro b26
  refine KO.ins strKey deadS rfl rfl rfl rfl Tryz.underlying123 Tryz.underlying9 (by with_reducible (repeat (first | exact Pick.head | apply Pick.tail))) ?_
  refine KO.mv rfl rfl ?_
  refine KO.bldN (pl := [(0, 1), (1, 1), (2, 1), (3, 1), (4, 1), (5, 1), (6, 1), (7, 1), (8, 4), (12, 10), (22, 4), (26, 4), (30, 4)]) rfl Tryz.zeroValue133 Tryz.runUnderlying133 (by intro w; simp [Tryz.sizeOf3, Tryz.sizeOf4, Tryz.sizeOf25, Tryz.sizeOf94, Tryz.sizeOf95, Tryz.sizeOf123, Tryz.sizeOf125, Tryz.sizeOf126, Tryz.sizeOf131]) (by exact rfl) rfl ?_
  refine KO.box rfl rfl (by exact rfl) rfl ?_; intro b29
  refine KO.as rfl rfl ?_
  refine KO.nil ?_
  repeat (first | (with_reducible refine K.seq ?_) | (with_reducible refine KQ.next ?_))
  refine K.reg ?_
  refine KO.mv rfl rfl ?_
  refine KO.nil ?_
  repeat (first | (with_reducible refine KQ.next ?_) | (with_reducible refine K.block ?_))
  refine K.loop (fun k : List Nat => [(1, ptrV bd), (6, ptrV b29), (30, .int .i64 (k.length : Nat))])
    (fun k => blk b29 (.cells (nC id bd b24 k).toArray 133 (0, 0)) :: fam quP k (List.replicate k.length ⟨[], 0⟩) :: quP b26 ⟨[], 0⟩ :: omapK Value.string b24 [(deadS, ptrV b26)] :: dkP bd D :: L) (fun k => k.length ≤ 4) (fun k => 4 - k.length) []
    (by simp) ⟨rfl, rfl, rfl, trivial⟩ (fun w h => ?_) ?_
  · have h1 := SL_nil (E := 243) (sz := 8) (cf := itC) h
    have h2 : St w0 (quP b26 ⟨[], 0⟩ :: blk b29 (.cells (nC id bd b24 []).toArray 133 (0, 0)) :: omapK Value.string b24 [(deadS, ptrV b26)] :: dkP bd D :: L) w := quP_mk (h1.all (by repeat (first | exact PAll.refl | refine PAll.cons (by repeat (first | exact Pick.head | apply Pick.tail)) ?_)))
    exact (fam_nil (f := quP) h2).all (by repeat (first | exact PAll.refl | refine PAll.cons (by repeat (first | exact Pick.head | apply Pick.tail)) ?_))
  rintro ps hk
  repeat ((with_reducible refine K.seq ?_))
  refine K.reg ?_
  refine KO.lss rfl rfl rfl ?_
  refine KO.nil ?_
  repeat (first | (with_reducible refine K.seq ?_) | (with_reducible refine KQ.next ?_))
  refine K.condD rfl (fun h7 => ?_) (fun h7 => ?_)
  · have hk4 : ps.length < 4 := by omega
    repeat (first | (with_reducible refine K.seq ?_) | (with_reducible refine KQ.next ?_) | (with_reducible refine K.skip ?_) | (with_reducible refine K.block ?_))
    refine K.reg ?_
    refine KO.mv rfl rfl ?_
    refine KO.as rfl rfl ?_
    refine KO.nil ?_
    repeat ((with_reducible refine KQ.next ?_))
    refine K.reg ?_
    refine KO.mv rfl rfl ?_
    refine KO.mv rfl rfl ?_
    refine KO.bldN (pl := [(0, 1), (1, 1)]) rfl Tryz.zeroValue122 Tryz.runUnderlying122 (by intro w; simp [Tryz.sizeOf3, Tryz.sizeOf120]) (by exact rfl) rfl ?_
    refine KO.box rfl rfl (by exact rfl) rfl ?_; intro b36
    refine KO.nc rfl rfl ?_
    refine KO.fo0 (off := 8) rfl Tryz.runUnderlying133 rfl rfl Tryz.sizeOf126 rfl ?_
    refine KO.idxA (i := ps.length) rfl rfl Tryz.runUnderlying126 Tryz.sizeOf119 rfl (by omega) rfl ?_
    refine KO.stAt (b := b29) (i := 8 + ps.length) rfl rfl rfl (by exact rfl) (by exact Tryz.sizeOf119) rfl (by with_reducible (repeat (first | exact Pick.head | apply Pick.tail))) (by rw [Addr.add_lit]; simp) (by rw [(nC_set 0 hk4).2]; omega) ?_; rw [show Value.pointer (some ⟨b36, 0, none⟩) = ptrV b36 from rfl, (nC_set b36 hk4).1]
    refine KO.nil ?_
    repeat (first | (with_reducible refine KQ.next ?_) | (with_reducible refine KQ.blk_normal ?_))
    refine K.reg ?_
    refine KO.add rfl rfl rfl (by omega) rfl ?_
    refine KO.mv rfl rfl ?_
    refine KO.nil ?_
    refine KQ.round (ps ++ [b36]) (by simp; omega) (by simp; omega) ⟨rfl, rfl, by simp [envAt], trivial⟩ (fun w h => ?_)
    have h1 := SL_nil (E := 243) (sz := 8) (cf := itC) h
    have h2 : St w0 (quP b36 ⟨[], 0⟩ :: fam quP ps (List.replicate ps.length ⟨[], 0⟩) :: blk b29 (.cells (nC id bd b24 (ps ++ [b36])).toArray 133 (0, 0)) :: quP b26 ⟨[], 0⟩ :: omapK Value.string b24 [(deadS, ptrV b26)] :: dkP bd D :: L) w := quP_mk (h1.all (by repeat (first | exact PAll.refl | refine PAll.cons (by repeat (first | exact Pick.head | apply Pick.tail)) ?_)))
    have h3 := fam_snoc (by simp) h2
    rw [List.length_append, List.length_singleton, List.replicate_succ']
    exact h3.all (by with_reducible repeat (first | exact PAll.refl | refine PAll.cons (by with_reducible repeat (first | exact Pick.head | apply Pick.tail)) ?_))
  have hk4 : ps.length = 4 := by omega
  repeat (first | (with_reducible refine K.seq ?_) | (with_reducible refine KQ.next ?_) | (with_reducible refine KQ.then_exit ?_) | (with_reducible refine KQ.blk_exit ?_) | (with_reducible refine K.exit ?_) | (with_reducible refine K.block ?_))
  refine K.conv (L' := hoP b29 bd (hNew id) :: dkP bd D :: L) (fun w h => hoP_new hk4 (by rw [hk4] at h; exact h)) ?_
  refine K.loop (fun p : Nat × Ho => [(1, ptrV bd), (6, ptrV b29)]) (fun p => hoP b29 bd p.2 :: dkP bd D :: L) (fun p => p.1 ≤ 300 ∧ p.2.used = p.1 ∧ HoB (10 + 250 * p.1) p.2 ∧ openN D (300 - p.1) p.2 = openH id D) (fun p => 300 - p.1) (0, hNew id)
    ⟨Nat.zero_le _, rfl, hNew_B hid, rfl⟩ ⟨rfl, rfl, trivial⟩ (fun _ h => h) ?_
  rintro ⟨j, H⟩ ⟨hj, hju, hB, hop⟩
  dsimp only at hj hju hB hop ⊢
  have fin : ∀ w', St w0 (hoP b29 bd (openH id D) :: dkP bd D :: L) w' → ∃ v L', Ending.returned (.tuple #[ptrV b29, .nilIface]) = Ending.returned v ∧ (∃ bh, v = .tuple #[ptrV bh, .nilIface] ∧ L' = hoP bh bd (openH id D) :: dkP bd D :: L) ∧ St w0 L' w' := fun w' hs' => ⟨_, _, rfl, ⟨b29, rfl, rfl⟩, hs'⟩
  refine K.open' (fun _ h => hoP_open (h.pick (by with_reducible (repeat (exact Pick.head))))) ?_
  rintro ⟨V, hV⟩
  dsimp only
  repeat ((with_reducible refine K.seq ?_))
  refine K.reg ?_
  refine KO.mv rfl rfl ?_
  refine KO.nc rfl rfl ?_
  refine KO.fo0 (off := 2) rfl Tryz.runUnderlying133 rfl rfl Tryz.sizeOf3 rfl ?_
  refine KO.ldAt (i := 2) rfl rfl Tryz.isAgg3 (by with_reducible (repeat (exact Pick.head))) rfl rfl rfl ?_
  refine KO.lss rfl rfl rfl ?_
  refine KO.nil ?_
  repeat ((with_reducible refine KQ.next ?_))
  refine K.condD rfl (fun h11 => ?_) (fun h11 => ?_)
  · have hj3 : j < 300 := by omega
    obtain ⟨t, ht⟩ : ∃ t, D.places[H.used]? = some t := ⟨_, List.getElem?_eq_getElem (by omega)⟩
    have htz := hD.size t (List.mem_of_getElem? ht)
    have hcell := dkC_place ht
    have hg : D.places.getD H.used ⟨#[]⟩ = t := by rw [List.getD_eq_getElem?_getD, ht]; rfl
    obtain ⟨f, hf⟩ : ∃ f, 300 - j = f + 1 := ⟨299 - j, by omega⟩
    rw [hf, openN, hg] at hop
    repeat (first | (with_reducible refine K.seq ?_) | (with_reducible refine KQ.next ?_) | (with_reducible refine K.skip ?_) | (with_reducible refine K.block ?_))
    refine K.draw [.pure, .pure, .pure, .read, .pure, .pure, .pure, .pure, .read, .pure, .pure, .pure, .read, .keep, .pure, .pure, .pure, .pure, .pure] [0, 1, 2, 3, 4, 5, 6, 7, 8, 9, 10, 11, 12, 13, 14, 15, 16, 17, 18] (by kernel_rfl) (by kernel_rfl) ?_
    refine KO.mv rfl rfl ?_
    refine KO.nc rfl rfl ?_
    refine KO.fo0 (off := 2) rfl Tryz.runUnderlying133 rfl rfl Tryz.sizeOf3 rfl ?_
    refine KO.ldAt (i := 2) rfl rfl Tryz.isAgg3 (by with_reducible (repeat (exact Pick.head))) rfl rfl rfl ?_
    refine KO.mv rfl rfl ?_
    refine KO.mv rfl rfl ?_
    refine KO.nc rfl rfl ?_
    refine KO.fo0 (off := 2) rfl Tryz.runUnderlying133 rfl rfl Tryz.sizeOf3 rfl ?_
    refine KO.ldAt (i := 2) rfl rfl Tryz.isAgg3 (by with_reducible (repeat (exact Pick.head))) rfl rfl rfl ?_
    refine KO.nc rfl rfl ?_
    refine KO.fo0 (off := 0) rfl Tryz.runUnderlying28 rfl rfl Tryz.sizeOf26 rfl ?_
    refine KO.idxA (i := H.used) rfl rfl Tryz.runUnderlying26 Tryz.sizeOf9 rfl (by omega) rfl ?_
    refine KO.ldAt (b := bd) (cs := dkC D) (i := H.used) rfl rfl Tryz.isAgg9 (.tail (.tail (.tail (.tail (.tail (.tail (.tail .head))))))) (by rw [Addr.add_lit]; simp) hcell rfl ?_
    refine KO.ce (cp := []) rfl rfl rfl Tryz.call52 rfl (opened_e w0 _ (H.used : Nat) t ⟨by omega, by omega⟩ htz hT hM) ?_; rintro v' L' ⟨rfl, rfl⟩
    refine KO.mv rfl rfl ?_
    refine KO.extrL rfl (by exact rfl) rfl ?_
    refine KO.extrL rfl (by exact rfl) rfl ?_
    refine KO.as rfl rfl ?_
    refine KO.as rfl rfl ?_
    refine KO.nil ?_
    repeat (first | (with_reducible refine K.seq ?_) | (with_reducible refine KQ.next ?_))
    refine K.conv (L' := hoP b29 bd H :: dkP bd D :: L) (fun w h => hoP_mk V hV (h.all (by with_reducible repeat (exact PAll.refl)))) ?_
    cases hso : openS (H.used : Nat) t with
    | none =>
      rw [hso] at hop
      replace hop : H = openH id D := hop
      refine K.reg ?_
      refine KO.mv rfl rfl ?_
      refine KO.not rfl rfl ?_
      refine KO.mv rfl rfl ?_
      (refine KO.no rfl rfl ?_ rfl ?_; (focus rfl))
      (refine KO.no rfl rfl ?_ rfl ?_; (focus rfl))
      refine KO.no rfl rfl rfl rfl ?_
      (refine KO.no rfl rfl ?_ rfl ?_; (focus rfl))
      (refine KO.pickT rfl ?_ rfl rfl ?_; (focus rfl))
      refine KO.nil ?_
      repeat ((with_reducible refine KQ.next ?_))
      refine K.condT rfl rfl ?_
      repeat (first | (with_reducible refine K.seq ?_) | (with_reducible refine KQ.next ?_) | (with_reducible refine KQ.then_exit ?_) | (with_reducible refine KQ.blk_exit ?_) | (refine KQ.blk_pass rfl ?_) | (with_reducible refine K.exit ?_))
      rw [hop]
      refine K.reg ?_
      refine KO.mv rfl rfl ?_
      refine KO.as rfl rfl ?_
      refine KO.as rfl rfl ?_
      refine KO.nil ?_
      repeat (first | (with_reducible refine KQ.next ?_) | (with_reducible refine K.ret ?_))
      refine KQ.ret2 rfl rfl rfl (fun w' hs' => fin w' hs')
    | some s =>
      rw [hso] at hop
      have hr := hD.recs _ t s ht hso
      have hB2 := (hB.plays hr (by omega)).le (show 10 + 250 * j + 250 ≤ 10 + 250 * (j + 1) by omega)
      have hsm := hplays_same H s
      refine K.reg ?_
      refine KO.mv rfl rfl ?_
      refine KO.not rfl rfl ?_
      refine KO.mv rfl rfl ?_
      (refine KO.on rfl rfl ?_ ?_; (focus rfl); (refine KO.mv rfl rfl ?_))
      (refine KO.on rfl rfl ?_ ?_; (focus rfl); (refine KO.mv rfl rfl ?_))
      refine KO.on rfl rfl rfl ?_; refine KO.cl (cp := []) rfl rfl rfl Tryz.call53 rfl (KC.pk1 (by with_reducible (repeat (exact Pick.head))) (hplays_c w0 _ b29 bd (10 + 250 * j) 250 H s hT hM hB hr (by omega))) ?_; rintro v' L' ⟨rfl, rfl⟩
      (refine KO.on rfl rfl ?_ ?_; (focus rfl); (refine KO.not rfl rfl ?_))
      (refine KO.pickF rfl ?_ rfl rfl ?_; (focus rfl))
      refine KO.nil ?_
      repeat ((with_reducible refine KQ.next ?_))
      cases hpl : (hplays H s).2 with
      | false =>
        simp only [hpl, if_true] at hop
        refine K.condT rfl rfl ?_
        repeat (first | (with_reducible refine K.seq ?_) | (with_reducible refine KQ.next ?_) | (with_reducible refine KQ.then_exit ?_) | (with_reducible refine KQ.blk_exit ?_) | (refine KQ.blk_pass rfl ?_) | (with_reducible refine K.exit ?_))
        rw [hop]
        refine K.reg ?_
        refine KO.mv rfl rfl ?_
        refine KO.as rfl rfl ?_
        refine KO.as rfl rfl ?_
        refine KO.nil ?_
        repeat (first | (with_reducible refine KQ.next ?_) | (with_reducible refine K.ret ?_))
        refine KQ.ret2 rfl rfl rfl (fun w' hs' => fin w' (hs'.all (by with_reducible repeat (exact PAll.refl))))
      | true =>
        simp only [hpl, Bool.true_eq_false, if_false] at hop
        refine K.condF rfl rfl ?_
        generalize hH2 : (hplays H s).1 = H2 at hop hB2 hsm
        repeat (first | (with_reducible refine KQ.next ?_) | (with_reducible refine K.skip ?_))
        refine K.open' (fun _ h => hoP_open (h.pick (by with_reducible (repeat (exact Pick.head))))) ?_
        rintro ⟨V2, hV2⟩
        dsimp only
        have hu2 : H2.used = H.used := hsm.used
        refine K.reg ?_
        refine KO.mv rfl rfl ?_
        refine KO.nc rfl rfl ?_
        refine KO.fo0 (off := 2) rfl Tryz.runUnderlying133 rfl rfl Tryz.sizeOf3 rfl ?_
        refine KO.ldAt (i := 2) rfl rfl Tryz.isAgg3 (by with_reducible (repeat (exact Pick.head))) rfl rfl rfl ?_
        refine KO.add rfl rfl rfl (by omega) rfl ?_
        refine KO.nc rfl rfl ?_
        refine KO.fo0 (off := 2) rfl Tryz.runUnderlying133 rfl rfl Tryz.sizeOf3 rfl ?_
        refine KO.stAt (i := 2) rfl rfl rfl (by exact rfl) (by exact Tryz.sizeOf3) rfl (by with_reducible (repeat (exact Pick.head))) rfl (by rw [hoC_len hV2]; omega) ?_; rw [show (hoC bd V2 H2).set 2 (.int .i64 ((H2.used : Nat) + 1 : Int)) = hoC bd V2 { H2 with used := H2.used + 1 } from rfl]
        refine KO.nil ?_
        repeat ((with_reducible refine KQ.blk_normal ?_))
        refine KQ.round (j + 1, { H2 with used := H2.used + 1 }) ⟨by dsimp only; omega, by dsimp only; omega, (hB2.used' (by omega)), ?_⟩ (by dsimp only; omega) ⟨rfl, rfl, trivial⟩ (fun w h => ?_)
        · dsimp only
          rw [show 300 - (j + 1) = f by omega, hu2]; exact hop
        · exact hoP_mk V2 ⟨hV2.ps, hV2.us, hV2.bs, hV2.ways, hV2.units, hV2.batch, hV2.sent, hV2.arrived⟩ (h.all (by repeat (exact PAll.refl)))
  · have hj3 : j = 300 := by omega
    subst hj3
    rw [Nat.sub_self, openN] at hop
    repeat (first | (with_reducible refine K.seq ?_) | (with_reducible refine KQ.next ?_) | (with_reducible refine KQ.then_exit ?_) | (with_reducible refine KQ.blk_exit ?_) | (with_reducible refine K.exit ?_))
    refine K.conv (L' := hoP b29 bd H :: dkP bd D :: L) (fun w h => hoP_mk V hV (h.all (by with_reducible repeat (exact PAll.refl)))) ?_
    rw [hop]
    refine K.reg ?_
    refine KO.mv rfl rfl ?_
    refine KO.as rfl rfl ?_
    refine KO.as rfl rfl ?_
    refine KO.nil ?_
    repeat (first | (with_reducible refine KQ.next ?_) | (with_reducible refine K.ret ?_))
    refine KQ.ret2 rfl rfl rfl (fun w' hs' => fin w' hs')
theorem htorn_c (w0 : World) (L : List HP) (bh bd : Nat) (H : Ho) (n : Int) : KC Tryz.prog 19 #[ptrV bh, .int .i64 n] w0 (hoP bh bd H :: L) (fun u M => u = .tuple #[] ∧ M = hoP bh bd { H with torn := n } :: L) := by
  refine KC.mk (n := 8) Tryz.func19 rfl Tryz.ntmps19 (by simp) ?_
  refine K.open' (fun _ h => hoP_open h) ?_
  rintro ⟨V, hV⟩
  dsimp only
  refine K.reg ?_
  refine KO.mv rfl rfl ?_
  refine KO.mv rfl rfl ?_
  refine KO.nc rfl rfl ?_
  refine KO.fo0 (off := 4) rfl Tryz.runUnderlying133 rfl rfl Tryz.sizeOf3 rfl ?_
  refine KO.stAt (i := 4) rfl rfl rfl (by exact rfl) (by exact Tryz.sizeOf3) rfl (by with_reducible (repeat (exact Pick.head))) rfl (by rw [hoC_len hV]; omega) ?_; rw [show (hoC bd V H).set 4 (.int .i64 n) = hoC bd V { H with torn := n } from rfl]
  refine KO.nil ?_
  refine KQ.end0 rfl (fun w' hs' => ⟨_, _, rfl, ⟨rfl, rfl⟩, hoP_mk V ⟨hV.ps, hV.us, hV.bs, hV.ways, hV.units, hV.batch, hV.sent, hV.arrived⟩ (hs'.all (by repeat (exact PAll.refl)))⟩)
theorem hused_e (w0 : World) (L R : List HP) (bh bd : Nat) (H : Ho) (hp : Pick L (hoP bh bd H) R) : KE Tryz.prog 51 #[ptrV bh] w0 L (fun u M => u = .int .i64 (H.used : Nat) ∧ M = L) := by
  refine KE.mk (n := 7) Tryz.func51 rfl Tryz.ntmps51 (by simp) ?_
  intro w hw
  obtain ⟨V, hV, hc⟩ := hoP_cells hw hp
  have hc2 := hc 2 _ rfl
  repeat ((with_reducible refine K.seq ?_))
  refine K.reg ?_
  refine KO.as rfl rfl ?_
  refine KO.nil ?_
  repeat (first | (with_reducible refine K.seq ?_) | (with_reducible refine KQ.next ?_))
  refine K.reg ?_
  refine KO.mv rfl rfl ?_
  refine KO.nc rfl rfl ?_
  refine KO.fo0 (off := 2) rfl Tryz.runUnderlying133 rfl rfl Tryz.sizeOf3 rfl ?_
  refine KO.ld0 rfl rfl Tryz.isAgg3 hc2 rfl ?_
  refine KO.as rfl rfl ?_
  refine KO.nil ?_
  repeat (first | (with_reducible refine KQ.next ?_) | (with_reducible refine K.ret ?_))
  refine KQ.ret1 rfl rfl (fun w' hs => ⟨_, _, rfl, ⟨rfl, rfl⟩, hw.below_step hs.below, hs.below⟩)
end Go.Proofs.YtjhogocabcdjbabGreatDoor
/- house: Kept, There -/
namespace Go.Proofs.YtjhogocabcdjbabGreatDoor
open Go Go.RowKit WB
theorem mapE_key {V : HoV} {H : Ho} (hV : HoVL V H) {r : Nat} {x : ByteArray × Qu} (hx : H.queues[r]? = some x) : ∃ v, (mapE V H).getD r default = (x.1, v) := by
  have hps := hV.ps
  have hr := (List.getElem?_eq_some_iff.1 hx).1
  obtain ⟨p, hp⟩ : ∃ e, V.ps[4 + r]? = some e := ⟨_, List.getElem?_eq_getElem (by omega)⟩
  refine ⟨ptrV p, ?_⟩
  unfold mapE mEnt
  rw [List.getD_eq_getElem?_getD, List.getElem?_zipWith, hx, List.getElem?_drop, hp]
  rfl
set_option maxRecDepth 100000 in
set_option maxHeartbeats 2000000 in
theorem hkept_c (w0 : World) (L : List HP) (bh bd n : Nat) (H : Ho) (hB : HoB n H) (hn : n ≤ 30000) :
    KC Tryz.prog 20 #[ptrV bh] w0 (hoP bh bd H :: L) (fun u M => ∃ ns : List ByteArray, ns.Perm (H.queues.map (·.1)) ∧ M = SL 44 5 msC u ((sortB ns).flatMap (keptAt H)) :: hoP bh bd H :: L) := by
  have hql := hB.qlen
  refine KC.mk (n := 40) Tryz.func20 rfl Tryz.ntmps20 (by simp) ?_
  repeat ((with_reducible refine K.seq ?_))
  refine K.open' (fun _ h => hoP_open h) ?_
  rintro ⟨V, hV⟩
  dsimp only
  have hps := hV.ps
  refine K.reg ?_
  refine KO.as rfl rfl ?_
  refine KO.nil ?_
  repeat (first | (with_reducible refine K.seq ?_) | (with_reducible refine KQ.next ?_))
  refine K.reg ?_
  refine KO.as rfl rfl ?_
  refine KO.nil ?_
  repeat (first | (with_reducible refine K.seq ?_) | (with_reducible refine KQ.next ?_))
  refine K.reg ?_
  refine KO.mv rfl rfl ?_
  refine KO.nc rfl rfl ?_
  refine KO.fo0 (off := 7) rfl Tryz.runUnderlying133 rfl rfl Tryz.sizeOf123 rfl ?_
  refine KO.ldAt (i := 7) rfl rfl Tryz.isAgg123 (by with_reducible (repeat (exact Pick.head))) rfl rfl rfl ?_
  refine KO.rng rfl rfl Tryz.underlying123 (by with_reducible (repeat (first | exact Pick.head | apply Pick.tail))) rfl ?_; intro r12
  refine KO.nil ?_
  repeat (first | (with_reducible refine KQ.next ?_) | (with_reducible refine K.block ?_))
  refine K.loop (fun p : List Nat × List Nat × Value × Option (ByteArray × Value) => [(0, ptrV bh), (3, p.2.2.1), (12, .pointer (some ⟨r12, 0, none⟩))])
    (fun p => SL 9 1 cfS p.2.2.1 (p.2.1.map fun r => (H.queues.getD r (⟨#[]⟩, default)).1) :: itK Value.string V.mb r12 (mapE V H) (p.1.map fun r => (mapE V H).getD r default) p.2.2.2 :: blk bh (.cells (hoC bd V H).toArray 133 (0, 0)) :: nmS V.nv H.names :: fam quP V.ps H.all :: fam putsS (V.us.map (·.1)) (H.units.map (·.puts)) :: fam getsS (V.us.map (·.2)) (H.units.map (·.gets)) :: fam batS V.bs H.batch :: L)
    (fun p => (p.2.1 ++ p.1).Perm (List.range H.queues.length)) (fun p => p.1.length) (List.range H.queues.length, [], .slice none 0 0, none)
    (by simp) ⟨rfl, rfl, rfl, trivial⟩ (fun _ h => ?_) ?_
  · have h1 := SL_nil (E := 9) (sz := 1) (cf := cfS) h
    have e1 : (List.range H.queues.length).map (fun r => (mapE V H).getD r default) = mapE V H := by
      have hl : (mapE V H).length = H.queues.length := by unfold mapE mEnt; rw [List.length_zipWith, List.length_drop]; omega
      rw [← hl]
      apply List.ext_getElem
      · simp
      · intro i h1 h2; simp [List.getD_eq_getElem?_getD, List.getElem?_eq_getElem h2]
    dsimp only
    rw [e1]
    exact h1.all (by repeat (exact PAll.refl))
  rintro ⟨rest, done, v, cur⟩ hperm
  dsimp only at hperm ⊢
  have hdl : done.length ≤ 30000 := by have := hperm.length_eq; simp at this; omega
  repeat ((with_reducible refine K.seq ?_))
  refine K.reg ?_
  refine KO.nxt rfl rfl (by with_reducible (repeat (first | exact Pick.head | apply Pick.tail))) rfl (fun h0 => ?_) (fun i e he => ?_)
  refine KO.extrL rfl (by exact rfl) rfl ?_
  refine KO.nil ?_
  repeat (first | (with_reducible refine K.seq ?_) | (with_reducible refine KQ.next ?_))
  have hrest : rest = [] := by simpa using h0
  subst hrest
  rw [List.append_nil] at hperm
  have hns : (done.map fun r => (H.queues.getD r (⟨#[]⟩, default)).1).Perm (H.queues.map (·.1)) := by
    refine (hperm.map _).trans ?_
    have : (List.range H.queues.length).map (fun r => (H.queues.getD r (⟨#[]⟩, default)).1) = H.queues.map (·.1) := by
      apply List.ext_getElem
      · simp
      · intro i h1 h2
        simp only [List.length_map] at h2
        simp [List.getD_eq_getElem?_getD, List.getElem?_eq_getElem h2]
    rw [this]
  generalize hgn : (done.map fun r => (H.queues.getD r (⟨#[]⟩, default)).1) = ns at hns
  have hnsl : ns.length ≤ 30000 := by rw [← hgn, List.length_map]; exact hdl
  have hsl : (sortB ns).length = ns.length := (sortB_perm ns).length_eq
  have hsm : ∀ s ∈ sortB ns, ∃ i, H.qI s = some i := fun s hs => by
    have h1 : s ∈ H.queues.map (·.1) := hns.mem_iff.1 ((sortB_perm ns).mem_iff.1 hs)
    cases hq : H.qI s with
    | some i => exact ⟨i, rfl⟩
    | none =>
      rw [qI_fst, List.findIdx?_eq_none_iff] at hq
      have := hq s h1
      simp at this
  refine K.condF rfl rfl ?_
  repeat (first | (with_reducible refine K.seq ?_) | (with_reducible refine KQ.next ?_) | (with_reducible refine KQ.then_exit ?_) | (with_reducible refine KQ.blk_exit ?_) | (with_reducible refine K.exit ?_))
  refine K.reg ?_
  refine KO.mv rfl rfl ?_
  refine KO.cl (cp := []) rfl rfl rfl Tryz.call66 rfl (KC.pk1 (.tail .head) (sortStr_c (E := 9) Tryz.slices_Sort_string_none Tryz.slices_Sort_string w0 _ v ns (by omega))) ?_; rintro v' L' ⟨rfl, rfl⟩
  refine KO.nil ?_
  repeat (first | (with_reducible refine K.seq ?_) | (with_reducible refine KQ.next ?_))
  refine K.fact (fun w hw => SL_form (E := 9) (sz := 1) (cf := cfS) (hw.pick .head)) ?_
  rintro ⟨ad, cap, rfl, had⟩
  refine K.reg ?_
  refine KO.as rfl rfl ?_
  refine KO.nil ?_
  repeat (first | (with_reducible refine K.seq ?_) | (with_reducible refine KQ.next ?_))
  refine K.reg ?_
  refine KO.mv rfl rfl ?_
  refine KO.len rfl Tryz.underlying115 rfl ?_
  refine KO.mv rfl rfl ?_
  refine KO.nil ?_
  repeat (first | (with_reducible refine KQ.next ?_) | (with_reducible refine K.block ?_))
  refine K.loop (fun p : Nat × Value => [(0, ptrV bh), (5, p.2), (23, .slice ad (sortB ns).length cap), (24, .int .i64 ((sortB ns).length : Nat)), (25, .int .i64 (p.1 : Nat))])
    (fun p => SL 44 5 msC p.2 (((sortB ns).take p.1).flatMap (keptAt H)) :: SL 9 1 cfS (.slice ad (sortB ns).length cap) (sortB ns) :: omapK Value.string V.mb (mapE V H) :: blk bh (.cells (hoC bd V H).toArray 133 (0, 0)) :: nmS V.nv H.names :: fam quP V.ps H.all :: fam putsS (V.us.map (·.1)) (H.units.map (·.puts)) :: fam getsS (V.us.map (·.2)) (H.units.map (·.gets)) :: fam batS V.bs H.batch :: L) (fun p => p.1 ≤ (sortB ns).length ∧ (((sortB ns).take p.1).flatMap (keptAt H)).length ≤ p.1 * 30000) (fun p => (sortB ns).length - p.1) (0, .slice none 0 0)
    ⟨Nat.zero_le _, by simp⟩ ⟨rfl, rfl, rfl, rfl, rfl, trivial⟩ (fun _ h => ?_) ?_
  · have h1 := SL_nil (E := 44) (sz := 5) (cf := msC) h
    exact h1.all (by repeat (exact PAll.refl))
  rintro ⟨k, v5⟩ ⟨hk, hkl⟩
  dsimp only at hk hkl ⊢
  repeat ((with_reducible refine K.seq ?_))
  refine K.reg ?_
  refine KO.lss rfl rfl rfl ?_
  refine KO.nil ?_
  repeat (first | (with_reducible refine K.seq ?_) | (with_reducible refine KQ.next ?_))
  refine K.condD rfl (fun h9 => ?_) (fun h9 => ?_)
  · obtain ⟨s, hs⟩ : ∃ e, (sortB ns)[k]? = some e := ⟨(sortB ns)[k], List.getElem?_eq_getElem (by omega)⟩
    obtain ⟨ag, rfl⟩ := had (by omega)
    obtain ⟨i, hi⟩ := hsm s (List.mem_of_getElem? hs)
    have hil := (qI_lt hi).1
    have hg := mapE_get hV s
    obtain ⟨p, hp⟩ : ∃ p, V.ps[4 + i]? = some p := ⟨_, List.getElem?_eq_getElem (by omega)⟩
    rw [hi] at hg
    simp only [Option.bind_some, hp, Option.map_some] at hg
    have hka : keptAt H s = qkept (H.qAt i) := by unfold keptAt; rw [hi]
    have hqn := (hB.qa hil).len
    have hkn : (qkept (H.qAt i)).length ≤ 30000 := by
      unfold qkept
      have := List.length_filter_le (fun e : It => decide (e.put < 0)) (H.qAt i).l
      rw [List.length_map]; omega
    have hk3 : k * 30000 ≤ 899970000 := by omega
    repeat (first | (with_reducible refine K.seq ?_) | (with_reducible refine KQ.next ?_) | (with_reducible refine K.skip ?_) | (with_reducible refine K.block ?_))
    refine K.reg ?_
    refine KO.idx0 rfl rfl Tryz.runUnderlying115 Tryz.sizeOf9 (by exact rfl) (by omega) rfl ?_
    refine KO.ldE0 rfl rfl Tryz.isAgg9 (by with_reducible (repeat (first | exact Pick.head | apply Pick.tail))) (fun _ => rfl) (by assumption) (by exact rfl) (by exact rfl) rfl ?_
    refine KO.as rfl rfl ?_
    refine KO.nil ?_
    repeat ((with_reducible refine KQ.next ?_))
    refine K.reg ?_
    refine KO.mv rfl rfl ?_
    refine KO.mv rfl rfl ?_
    refine KO.nc rfl rfl ?_
    refine KO.fo0 (off := 7) rfl Tryz.runUnderlying133 rfl rfl Tryz.sizeOf123 rfl ?_
    refine KO.ldAt (i := 7) rfl rfl Tryz.isAgg123 (by with_reducible (repeat (first | exact Pick.head | apply Pick.tail))) rfl rfl rfl ?_
    refine KO.mv rfl rfl ?_
    refine KO.lkm strKey s rfl rfl rfl Tryz.underlying123 Tryz.underlying9 Tryz.zeroValue119 (by with_reducible (repeat (first | exact Pick.head | apply Pick.tail))) rfl ?_; rw [hg]
    refine KO.ce (cp := []) rfl rfl rfl Tryz.call67 rfl (KE.famE1 (A := fun v => SL 44 5 msC v (qkept (H.qAt i))) (φ := fun _ => True) hp (all_q hV.ways hil) (by with_reducible (repeat (first | exact Pick.head | apply Pick.tail))) (fun L => (kept_e w0 _ L p (H.qAt i) .head (by omega)).turn (by rintro v M rfl; exact ⟨_, ⟨trivial, rfl⟩, fun _ h => h⟩))) ?_; rintro vk L' ⟨-, rfl⟩
    refine KO.appS (cf := msC) (z := Value.agg #[.int .i64 0, .int .i64 0, .string ⟨#[]⟩, .string ⟨#[]⟩, .int .i64 0]) (sz := 5) (by' := 56) (xs := ((sortB ns).take k).flatMap (keptAt H)) (ys := qkept (H.qAt i)) rfl rfl rfl (.tail (.tail .head)) (fun w hw => Src.of (E := 44) (sz := 5) (cf := msC) .head w hw) Tryz.underlying49 (by kernel_rfl) rfl (fun _ => rfl) (fun _ => rfl) (by omega) (by decide) rfl ?_; intro v37
    refine KO.as rfl rfl ?_
    refine KO.nil ?_
    repeat (first | (with_reducible refine KQ.next ?_) | (with_reducible refine KQ.blk_normal ?_))
    refine K.reg ?_
    refine KO.add rfl rfl rfl (by omega) rfl ?_
    refine KO.mv rfl rfl ?_
    refine KO.nil ?_
    refine KQ.round (k + 1, v37) ⟨by dsimp only; omega, ?_⟩ (by dsimp only; omega) ⟨rfl, rfl, rfl, rfl, rfl, trivial⟩ (fun _ h => ?_)
    · dsimp only
      rw [take_succ_some hs, List.flatMap_append, List.length_append]
      simp only [List.flatMap_cons, List.flatMap_nil, List.append_nil, hka]
      omega
    · dsimp only
      rw [take_succ_some hs, List.flatMap_append]
      simp only [List.flatMap_cons, List.flatMap_nil, List.append_nil, hka]
      exact h.all (by repeat (first | exact PAll.refl | refine PAll.cons (by repeat (first | exact Pick.head | apply Pick.tail)) ?_ | apply PAll.drop))
  have hkk : k = (sortB ns).length := by omega
  subst hkk
  rw [List.take_length]
  repeat (first | (with_reducible refine K.seq ?_) | (with_reducible refine KQ.next ?_) | (with_reducible refine KQ.then_exit ?_) | (with_reducible refine KQ.blk_exit ?_) | (with_reducible refine K.exit ?_))
  refine K.reg ?_
  refine KO.mv rfl rfl ?_
  refine KO.as rfl rfl ?_
  refine KO.nil ?_
  repeat (first | (with_reducible refine KQ.next ?_) | (with_reducible refine K.ret ?_))
  refine KQ.ret1 rfl rfl (fun w' hs' => ⟨_, _, rfl, ⟨ns, hns, rfl⟩, ?_⟩)
  exact (hoP_mk V hV (hs'.all (M := hoX bh bd V H (SL 44 5 msC v5 ((sortB ns).flatMap (keptAt H)) :: L)) (by with_reducible repeat (first | exact PAll.refl | refine PAll.cons (by with_reducible repeat (first | exact Pick.head | apply Pick.tail)) ?_ | apply PAll.drop)))).all (by with_reducible repeat (first | exact PAll.refl | refine PAll.cons (by with_reducible repeat (first | exact Pick.head | apply Pick.tail)) ?_))
  obtain ⟨r, hr, rfl⟩ : ∃ r, rest[i]? = some r ∧ (mapE V H).getD r default = e := by
    rw [List.getElem?_map] at he
    cases hr : rest[i]? with
    | none => rw [hr] at he; cases he
    | some r => rw [hr] at he; exact ⟨r, rfl, by simpa using he⟩
  have hrl : r < H.queues.length := by
    have : r ∈ List.range H.queues.length := hperm.mem_iff.1 (List.mem_append_right _ (List.mem_of_getElem? hr))
    simpa using this
  obtain ⟨x, hx⟩ : ∃ e, H.queues[r]? = some e := ⟨_, List.getElem?_eq_getElem hrl⟩
  have hxe : (H.queues.getD r (⟨#[]⟩, default)).1 = x.1 := by rw [List.getD_eq_getElem?_getD, hx]; rfl
  obtain ⟨pv, hs0⟩ := mapE_key hV hx
  rw [hs0]
  refine KO.extrL rfl (by exact rfl) rfl ?_
  refine KO.nil ?_
  repeat (first | (with_reducible refine K.seq ?_) | (with_reducible refine KQ.next ?_))
  refine K.condT rfl rfl ?_
  repeat (first | (with_reducible refine K.seq ?_) | (with_reducible refine KQ.next ?_) | (with_reducible refine K.skip ?_) | (with_reducible refine K.block ?_))
  refine K.reg ?_
  refine KO.ent rfl rfl (by with_reducible (repeat (exact Pick.head))) rfl ?_
  refine KO.extrL rfl (by exact rfl) rfl ?_
  refine KO.as rfl rfl ?_
  refine KO.nil ?_
  repeat ((with_reducible refine KQ.next ?_))
  refine K.reg ?_
  refine KO.mv rfl rfl ?_
  refine KO.mv rfl rfl ?_
  refine KO.bs1 (z := (Value.string ⟨#[]⟩)) (sz := 1) (by' := 16) rfl rfl Tryz.underlying115 (by kernel_rfl) (by exact rfl) (by exact rfl) (by decide) (by decide) rfl ?_; intro b19
  refine KO.app (cf := cfS) (z := Value.string ⟨#[]⟩) (sz := 1) (by' := 16) (xs := done.map fun r => (H.queues.getD r (⟨#[]⟩, default)).1) rfl rfl rfl (.tail (.tail .head)) .head Tryz.underlying115 str_info rfl x.1 rfl rfl rfl (by simp; omega) (by decide) rfl ?_; intro v20
  refine KO.as rfl rfl ?_
  refine KO.nil ?_
  repeat ((with_reducible refine KQ.blk_normal ?_))
  refine KQ.round (rest.eraseIdx i, done ++ [r], v20, some (x.1, pv)) ?_ ?_ ⟨rfl, rfl, rfl, trivial⟩ (fun _ h => ?_)
  · dsimp only
    refine List.Perm.trans ?_ hperm
    rw [List.append_assoc]
    refine (List.Perm.refl done).append ?_
    obtain ⟨hi, rfl⟩ := List.getElem?_eq_some_iff.1 hr
    exact perm_erase hi
  · dsimp only
    have hi := (List.getElem?_eq_some_iff.1 hr).1
    rw [List.length_eraseIdx, if_pos hi]; omega
  · dsimp only
    rw [List.map_append, ← map_erase, List.map_cons, List.map_nil, hxe]
    exact h.all (by repeat (exact PAll.refl))
end Go.Proofs.YtjhogocabcdjbabGreatDoor
/- house: There -/
namespace Go.Proofs.YtjhogocabcdjbabGreatDoor
open Go Go.RowKit WB
set_option maxRecDepth 100000 in
theorem hthere_c (w0 : World) (L : List HP) (bh bd n : Nat) (H : Ho) (s : ByteArray) (hB : HoB n H) (hn : n ≤ 80000) :
    KC Tryz.prog 28 #[ptrV bh, .string s] w0 (hoP bh bd H :: L) (fun u M => ∃ v, u = .tuple #[v, errV 70 (thereE H s)] ∧ M = SL 44 5 msC v (thereL H s) :: hoP bh bd H :: L) := by
  have hnl := hB.nlen
  have hso := hB.sorted
  have ends : thereE H s = 7 → ∀ w', St w0 (hoP bh bd H :: L) w' → ∃ v L', Ending.returned (.tuple #[.slice none 0 0, errV 70 7]) = Ending.returned v ∧ (∃ u, v = .tuple #[u, errV 70 (thereE H s)] ∧ L' = SL 44 5 msC u (thereL H s) :: hoP bh bd H :: L) ∧ St w0 L' w' := fun he w' hs' => by
    refine ⟨_, _, rfl, ⟨_, by rw [he], rfl⟩, ?_⟩
    unfold thereL
    rw [if_neg (by rw [he]; decide)]
    exact SL_nil hs'
  refine KC.mk (n := 34) Tryz.func28 rfl Tryz.ntmps28 (by simp) ?_
  repeat ((with_reducible refine K.seq ?_))
  refine K.open' (fun _ h => hoP_open h) ?_
  rintro ⟨V, hV⟩
  dsimp only
  have hps := hV.ps
  have hg := mapE_get hV s
  refine K.reg ?_
  refine KO.as rfl rfl ?_
  refine KO.as rfl rfl ?_
  refine KO.nil ?_
  repeat (first | (with_reducible refine K.seq ?_) | (with_reducible refine KQ.next ?_))
  cases hq : H.qI s with
  | none =>
    have he : thereE H s = 7 := by unfold thereE; rw [hq]
    rw [hq] at hg
    refine K.reg ?_
    refine KO.mv rfl rfl ?_
    refine KO.nc rfl rfl ?_
    refine KO.fo0 (off := 7) rfl Tryz.runUnderlying133 rfl rfl Tryz.sizeOf123 rfl ?_
    refine KO.ldAt (i := 7) rfl rfl Tryz.isAgg123 (by with_reducible (repeat (exact Pick.head))) rfl rfl rfl ?_
    refine KO.mv rfl rfl ?_
    refine KO.lkmOk strKey s rfl rfl rfl Tryz.underlying123 Tryz.underlying9 Tryz.zeroValue119 (by with_reducible (repeat (first | exact Pick.head | apply Pick.tail))) rfl ?_; rw [hg]
    refine KO.mv rfl rfl ?_
    refine KO.extrL rfl (by exact rfl) rfl ?_
    refine KO.extrL rfl (by exact rfl) rfl ?_
    refine KO.as rfl rfl ?_
    refine KO.as rfl rfl ?_
    refine KO.nil ?_
    repeat (first | (with_reducible refine K.seq ?_) | (with_reducible refine KQ.next ?_))
    refine K.reg ?_
    refine KO.mv rfl rfl ?_
    refine KO.not rfl rfl ?_
    refine KO.mv rfl rfl ?_
    (refine KO.no rfl rfl ?_ rfl ?_; (focus rfl))
    (refine KO.no rfl rfl ?_ rfl ?_; (focus rfl))
    (refine KO.no rfl rfl ?_ rfl ?_; (focus rfl))
    refine KO.no2 rfl rfl rfl ?_
    refine KO.no2 rfl rfl rfl ?_
    refine KO.no2 rfl rfl rfl ?_
    refine KO.no2 rfl rfl rfl ?_
    refine KO.no2 rfl rfl rfl ?_
    refine KO.no2 rfl rfl rfl ?_
    (refine KO.no rfl rfl ?_ rfl ?_; (focus rfl))
    (refine KO.pickT rfl ?_ rfl rfl ?_; (focus rfl))
    refine KO.nil ?_
    repeat ((with_reducible refine KQ.next ?_))
    refine K.condT rfl (by simp) ?_
    repeat ((with_reducible refine K.seq ?_))
    refine K.reg ?_
    refine KO.mki rfl (by kernel_rfl) rfl ?_
    refine KO.as rfl rfl ?_
    refine KO.as rfl rfl ?_
    refine KO.nil ?_
    repeat (first | (with_reducible refine KQ.next ?_) | (with_reducible refine KQ.then_ret ?_) | (with_reducible refine K.ret ?_))
    refine KQ.ret2 rfl rfl rfl (fun w' hs' => ends he w' (hoP_mk V hV (hs'.all (by with_reducible repeat (exact PAll.refl)))))
  | some i =>
  have hil := (qI_lt hq).1
  obtain ⟨p, hp⟩ : ∃ p, V.ps[4 + i]? = some p := ⟨_, List.getElem?_eq_getElem (by omega)⟩
  rw [hq] at hg
  simp only [Option.bind_some, hp, Option.map_some] at hg
  have heq : thereE H s = if s ≠ deadS ∧ localB H.names s = false then 7 else 0 := by unfold thereE; rw [hq]
  refine K.reg ?_
  refine KO.mv rfl rfl ?_
  refine KO.nc rfl rfl ?_
  refine KO.fo0 (off := 7) rfl Tryz.runUnderlying133 rfl rfl Tryz.sizeOf123 rfl ?_
  refine KO.ldAt (i := 7) rfl rfl Tryz.isAgg123 (by with_reducible (repeat (exact Pick.head))) rfl rfl rfl ?_
  refine KO.mv rfl rfl ?_
  refine KO.lkmOk strKey s rfl rfl rfl Tryz.underlying123 Tryz.underlying9 Tryz.zeroValue119 (by with_reducible (repeat (first | exact Pick.head | apply Pick.tail))) rfl ?_; rw [hg]
  refine KO.mv rfl rfl ?_
  refine KO.extrL rfl (by exact rfl) rfl ?_
  refine KO.extrL rfl (by exact rfl) rfl ?_
  refine KO.as rfl rfl ?_
  refine KO.as rfl rfl ?_
  refine KO.nil ?_
  repeat (first | (with_reducible refine K.seq ?_) | (with_reducible refine KQ.next ?_))
  refine K.cut (fun _ : Unit => [(0, ptrV bh), (6, ptrV p), (30, .bool (decide (s ≠ deadS ∧ localB H.names s = false)))]) (fun _ => hoX bh bd V H L) (fun _ => True) ?_ ?_
  · by_cases hsd : s = deadS
    · have hsd2 : s = ⟨#[100, 101, 97, 100]⟩ := hsd
      have hsd3 : (!decide (s = ⟨#[100, 101, 97, 100]⟩)) = false := by rw [hsd2]; rfl
      clear hsd
      refine K.reg ?_
      refine KO.mv rfl rfl ?_
      refine KO.not rfl rfl ?_
      refine KO.mv rfl rfl ?_
      (refine KO.on rfl rfl ?_ ?_; (focus rfl); (refine KO.mv rfl rfl ?_))
      (refine KO.on rfl rfl ?_ ?_; (focus rfl); (refine KO.neS rfl rfl rfl ?_))
      (refine KO.on rfl rfl ?_ ?_; (focus rfl); (refine KO.mv rfl rfl ?_))
      (refine KO.no rfl rfl ?_ rfl ?_; (focus assumption))
      (refine KO.no rfl rfl ?_ rfl ?_; (focus assumption))
      (refine KO.no rfl rfl ?_ rfl ?_; (focus assumption))
      (refine KO.no rfl rfl ?_ rfl ?_; (focus assumption))
      refine KO.no rfl rfl hsd3 rfl ?_
      (refine KO.no rfl rfl ?_ rfl ?_; (focus assumption))
      (refine KO.on rfl rfl ?_ ?_; (focus rfl); ((refine KO.pickF rfl ?_ rfl rfl ?_; (focus assumption))))
      (refine KO.pickF rfl ?_ rfl rfl ?_; (focus rfl))
      refine KO.nil ?_
      exact KQ.mid () trivial ⟨rfl, rfl, by simp [hsd2, deadS, envAt], trivial⟩ (fun w' hs' => hs')
    · have hsd2 : ¬ s = ⟨#[100, 101, 97, 100]⟩ := hsd
      refine K.reg ?_
      refine KO.mv rfl rfl ?_
      refine KO.not rfl rfl ?_
      refine KO.mv rfl rfl ?_
      (refine KO.on rfl rfl ?_ ?_; (focus rfl); (refine KO.mv rfl rfl ?_))
      (refine KO.on rfl rfl ?_ ?_; (focus rfl); (refine KO.neS rfl rfl rfl ?_))
      (refine KO.on rfl rfl ?_ ?_; (focus rfl); (refine KO.mv rfl rfl ?_))
      (refine KO.on rfl rfl ?_ ?_; (focus (simp_all; done)); (refine KO.mv rfl rfl ?_))
      (refine KO.on rfl rfl ?_ ?_; (focus (simp_all; done)); (refine KO.nc rfl rfl ?_))
      (refine KO.on rfl rfl ?_ ?_; (focus (simp_all; done)); (refine KO.fo0 (off := 6) rfl Tryz.runUnderlying133 rfl rfl Tryz.sizeOf125 rfl ?_))
      (refine KO.on rfl rfl ?_ ?_; (focus (simp_all; done)); (refine KO.mv rfl rfl ?_))
      refine KO.on rfl rfl (by simp [hsd2]) ?_; refine KO.ce (cp := []) rfl rfl rfl Tryz.call57 rfl (local_e w0 _ _ _ bh 6 (hoC bd V H) 133 V.nv H.names s (by with_reducible (repeat (exact Pick.head))) (by with_reducible (repeat (exact Pick.head))) rfl (by omega) hso) ?_; rintro v' L' ⟨rfl, rfl⟩
      (refine KO.on rfl rfl ?_ ?_; (focus (simp_all; done)); (refine KO.not rfl rfl ?_))
      (refine KO.on rfl rfl ?_ ?_; (focus rfl); ((refine KO.pickT rfl ?_ rfl rfl ?_; (focus (simp_all; done)))))
      (refine KO.pickF rfl ?_ rfl rfl ?_; (focus rfl))
      refine KO.nil ?_
      exact KQ.mid () trivial ⟨rfl, rfl, by simp [hsd, envAt], trivial⟩ (fun w' hs' => hs')
  rintro ⟨⟩ -
  refine K.condD rfl (fun h4 => ?_) (fun h4 => ?_)
  · have he : thereE H s = 7 := by rw [heq, if_pos h4]
    repeat ((with_reducible refine K.seq ?_))
    refine K.reg ?_
    refine KO.mki rfl (by kernel_rfl) rfl ?_
    refine KO.as rfl rfl ?_
    refine KO.as rfl rfl ?_
    refine KO.nil ?_
    repeat (first | (with_reducible refine KQ.next ?_) | (with_reducible refine KQ.then_ret ?_) | (with_reducible refine K.ret ?_))
    refine KQ.ret2 rfl rfl rfl (fun w' hs' => ends he w' (hoP_mk V hV hs'))
  have he : thereE H s = 0 := by rw [heq, if_neg h4]
  have hql := (hB.qa hil).len
  have htl : thereL H s = qthere (H.qAt i) := by unfold thereL; rw [if_pos he, hq]; rfl
  repeat (first | (with_reducible refine K.seq ?_) | (with_reducible refine KQ.next ?_) | (with_reducible refine K.skip ?_))
  refine K.reg ?_
  refine KO.mv rfl rfl ?_
  refine KO.ce (cp := []) rfl rfl rfl Tryz.call80 rfl (KE.famE1 (A := fun v => SL 44 5 msC v (qthere (H.qAt i))) (φ := fun _ => True) hp (all_q hV.ways hil) (by with_reducible (repeat (first | exact Pick.head | apply Pick.tail))) (fun L => (there_e w0 _ L p (H.qAt i) .head (by omega)).turn (by rintro v M rfl; exact ⟨_, ⟨trivial, rfl⟩, fun _ h => h⟩))) ?_; rintro vk L' ⟨-, rfl⟩
  refine KO.as rfl rfl ?_
  refine KO.as rfl rfl ?_
  refine KO.nil ?_
  repeat (first | (with_reducible refine KQ.next ?_) | (with_reducible refine K.ret ?_))
  refine KQ.ret2 rfl rfl rfl (fun w' hs' => ⟨_, _, rfl, ⟨vk, by rw [he]; rfl, rfl⟩, ?_⟩)
  rw [htl]
  exact (hoP_mk V hV (hs'.all (M := hoX bh bd V H (SL 44 5 msC vk (qthere (H.qAt i)) :: L)) (by with_reducible repeat (first | exact PAll.refl | refine PAll.cons (by with_reducible repeat (first | exact Pick.head | apply Pick.tail)) ?_)))).all (by with_reducible repeat (first | exact PAll.refl | refine PAll.cons (by with_reducible repeat (first | exact Pick.head | apply Pick.tail)) ?_))
end Go.Proofs.YtjhogocabcdjbabGreatDoor
/- a house as a bag of messages: each with its queue, the unit that puts it, the unit that takes it -/
namespace WB
open Go
structure En where
  j : Nat
  m : Ms
  put : Int
  got : Int
def enOf (j : Nat) (e : It) : En := ⟨j, e.m, e.put, e.got⟩
def ent (j : Nat) (l : List It) : List En := l.map (enOf j)
def vw (l : List Qu) : List En := l.zipIdx.flatMap fun x => ent x.2 x.1.l
def vr (l : List Qu) (j : Nat) : List En := (l.zipIdx.eraseIdx j).flatMap fun x => ent x.2 x.1.l
theorem perm_take {α : Type} : ∀ {l : List α} {i : Nat} {x : α}, l[i]? = some x → l.Perm (x :: l.eraseIdx i)
  | [], i, x, h => by simp at h
  | a :: l, 0, x, h => by simp at h; subst h; exact .refl _
  | a :: l, i + 1, x, h => ((perm_take (l := l) (by simpa using h)).cons a).trans (.swap _ _ _)
theorem perm_set {α : Type} : ∀ {l : List α} {i : Nat} {x : α} (y : α), l[i]? = some x → (l.set i y).Perm (y :: l.eraseIdx i)
  | [], i, x, y, h => by simp at h
  | a :: l, 0, x, y, h => .refl _
  | a :: l, i + 1, x, y, h => ((perm_set (l := l) y (by simpa using h)).cons a).trans (.swap _ _ _)
theorem perm_flatMap {α β : Type} {f : α → List β} {l l' : List α} (h : l.Perm l') : (l.flatMap f).Perm (l'.flatMap f) := by
  induction h with
  | nil => exact .refl _
  | cons a _ ih => rw [List.flatMap_cons, List.flatMap_cons]; exact (List.Perm.refl _).append ih
  | swap a b l =>
    rw [List.flatMap_cons, List.flatMap_cons, List.flatMap_cons, List.flatMap_cons, ← List.append_assoc, ← List.append_assoc]
    exact List.perm_append_comm.append (.refl _)
  | trans _ _ h1 h2 => exact h1.trans h2
theorem flatMap_congr' {α β : Type} {f g : α → List β} : ∀ {l : List α}, (∀ x ∈ l, f x = g x) → l.flatMap f = l.flatMap g
  | [], _ => rfl
  | a :: l, h => by rw [List.flatMap_cons, List.flatMap_cons, h a (by simp), flatMap_congr' fun x hx => h x (by simp [hx])]
theorem vw_split {l : List Qu} {j : Nat} {q : Qu} (h : l[j]? = some q) : (vw l).Perm (ent j q.l ++ vr l j) := by
  unfold vw vr
  have h1 : l.zipIdx[j]? = some (q, j) := by rw [List.getElem?_zipIdx, h]; simp
  exact perm_flatMap (perm_take h1)
theorem zipIdx_set (l : List Qu) (j : Nat) (q : Qu) : (l.set j q).zipIdx = l.zipIdx.set j (q, j) := by
  apply List.ext_getElem?
  intro i
  rw [List.getElem?_zipIdx, List.getElem?_set, List.getElem?_set, List.getElem?_zipIdx, List.length_zipIdx]
  by_cases e : j = i
  · subst e
    rw [if_pos rfl, if_pos rfl]
    split <;> simp
  · rw [if_neg e, if_neg e]
theorem vr_set (l : List Qu) (j : Nat) (q : Qu) : vr (l.set j q) j = vr l j := by
  unfold vr
  rw [zipIdx_set, List.eraseIdx_set_eq]
theorem vw_set {l : List Qu} {j : Nat} {q : Qu} (q' : Qu) (h : l[j]? = some q) : (vw (l.set j q')).Perm (ent j q'.l ++ vr l j) := by
  have h1 : (l.set j q')[j]? = some q' := by rw [List.getElem?_set_self (List.getElem?_eq_some_iff.1 h).1]
  have := vw_split h1
  rwa [vr_set] at this
theorem vw_mem {l : List Qu} {e : En} : e ∈ vw l ↔ ∃ q, l[e.j]? = some q ∧ ∃ x ∈ q.l, e = enOf e.j x := by
  unfold vw ent
  rw [List.mem_flatMap]
  constructor
  · rintro ⟨⟨q, j⟩, h1, h2⟩
    rw [List.mem_map] at h2
    obtain ⟨x, hx, rfl⟩ := h2
    rw [List.mem_zipIdx_iff_getElem?] at h1
    exact ⟨q, h1, x, hx, rfl⟩
  · rintro ⟨q, h1, x, hx, he⟩
    refine ⟨(q, e.j), List.mem_zipIdx_iff_getElem?.2 h1, ?_⟩
    rw [List.mem_map]
    exact ⟨x, hx, he.symm⟩
/-- one put -/
theorem vw_push {l : List Qu} {j : Nat} {q : Qu} (m : Ms) (u : Int) (h : l[j]? = some q) : (vw (l.set j (qpush q m u))).Perm (⟨j, m, max u (-1), -1⟩ :: vw l) := by
  refine (vw_set _ h).trans (List.Perm.trans ?_ (((vw_split h).symm).cons _))
  have h1 : (qpush q m u).l.Perm (qitem q m u :: q.l) := by
    unfold qpush
    dsimp only
    refine List.perm_middle.trans ?_
    rw [List.take_append_drop]
  have h2 := h1.map (enOf j)
  exact h2.append (.refl _)
/-- one taken -/
theorem vw_erase {l : List Qu} {j k : Nat} {q : Qu} {x : It} (h : l[j]? = some q) (hx : q.l[k]? = some x) (nx : Int) : (vw l).Perm (enOf j x :: vw (l.set j ⟨q.l.eraseIdx k, nx⟩)) := by
  refine (vw_split h).trans (List.Perm.trans ?_ ((vw_set _ h).symm.cons _))
  exact ((perm_take hx).map (enOf j)).append (.refl _)
theorem vw_change {l : List Qu} {j k : Nat} {q : Qu} {x : It} (y : It) (h : l[j]? = some q) (hx : q.l[k]? = some x) (nx : Int) : ∃ R, (vw l).Perm (enOf j x :: R) ∧ (vw (l.set j ⟨q.l.set k y, nx⟩)).Perm (enOf j y :: R) := by
  refine ⟨ent j (q.l.eraseIdx k) ++ vr l j, ?_, ?_⟩
  · exact (vw_split h).trans (((perm_take hx).map (enOf j)).append (.refl _))
  · exact (vw_set _ h).trans (((perm_set y hx).map (enOf j)).append (.refl _))
def freeE (u : Int) (e : En) : En := ⟨e.j, e.m, if e.put = u then -1 else e.put, if e.got = u then -1 else e.got⟩
theorem vw_ends {l : List Qu} {u : Int} (hu : 0 ≤ u) : vw (l.map fun q => qends q u true) = ((vw l).filter fun e => !decide (e.put = u)).map (freeE u) := by
  unfold vw
  rw [List.zipIdx_map, List.flatMap_map, List.filter_flatMap, List.map_flatMap]
  congr 1
  funext x
  unfold ent
  dsimp only [Prod.map]
  rw [show (qends x.1 u true).l = (x.1.l.filter fun e => !endB u true e).map (freeIt u) by unfold qends; rw [if_neg (by omega)]]
  rw [List.map_map, List.filter_map, List.map_map]
  have : (fun e => !endB u true e) = ((fun e : En => !decide (e.put = u)) ∘ enOf x.2) := by
    funext e; unfold endB enOf; simp
  rw [this]
  rfl
def idE (e : En) : Int := e.m.id
/-- a house's bag -/
def hv (H : Ho) : List En := vw H.all
def keptB (e : En) : Bool := decide (e.put < 0)
def jmE (e : En) : Nat × Ms := (e.j, e.m)
/-- those that are there, or taken by units that are not over -/
def hk (H : Ho) : List (Nat × Ms) := ((hv H).filter keptB).map jmE
/-- by their queues' names -/
def keyJ (H : Ho) (s : ByteArray) : Option Nat := (H.qI s).map (4 + ·)
theorem kept_keys {H : Ho} {n : Nat} (hB : HoB n H) (hw : ∀ j, j < 4 → (H.wAt j).l = []) {ns : List ByteArray} (hp : ns.Perm (H.queues.map (·.1))) : ((ns.flatMap (keptAt H)).map (·.id)).Perm ((hk H).map (·.2.id)) := by
  have h1 : (ns.flatMap (keptAt H)).Perm ((H.queues.map (·.1)).flatMap (keptAt H)) := perm_flatMap hp
  refine (h1.map _).trans ?_
  have h2 : (H.queues.map (·.1)).flatMap (keptAt H) = (H.queues.map (·.2)).flatMap qkept := by
    rw [List.flatMap_map, List.flatMap_map]
    apply flatMap_congr'
    intro x hx
    obtain ⟨i, hi, rfl⟩ := List.getElem_of_mem hx
    have hq : H.qI (H.queues[i]).1 = some i := by
      unfold Ho.qI
      rw [List.findIdx?_eq_some_iff_getElem]
      refine ⟨hi, by simp, fun k hk => ?_⟩
      have hnd := hB.nodup
      rw [List.nodup_iff_pairwise_ne, List.pairwise_map] at hnd
      have := List.pairwise_iff_getElem.1 hnd k i (by omega) hi hk
      simpa using this
    unfold keptAt
    rw [hq]
    unfold Ho.qAt
    simp [List.getD_eq_getElem?_getD, List.getElem?_eq_getElem hi]
  rw [h2]
  have h3 : (hk H).map (·.2.id) = (H.all.flatMap qkept).map (·.id) := by
    unfold hk hv vw
    rw [List.filter_flatMap, List.map_flatMap, List.map_flatMap, List.map_flatMap]
    have : ∀ (l : List Qu) (k : Nat), ((l.zipIdx k).flatMap fun x => List.map (fun y : Nat × Ms => y.2.id) (List.map jmE (List.filter keptB (ent x.2 x.1.l)))) = l.flatMap fun q => List.map (fun y : Ms => y.id) (qkept q) := by
      intro l
      induction l with
      | nil => intro k; rfl
      | cons q l ih =>
        intro k
        rw [List.zipIdx_cons, List.flatMap_cons, List.flatMap_cons, ih]
        congr 1
        unfold ent qkept
        rw [List.filter_map, List.map_map, List.map_map, List.map_map]
        rfl
    exact this _ 0
  rw [h3]
  unfold Ho.all
  rw [List.flatMap_append]
  have h4 : H.ways.flatMap qkept = [] := by
    rw [List.flatMap_eq_nil_iff]
    intro q hq
    obtain ⟨i, hi, rfl⟩ := List.getElem_of_mem hq
    have := hw i (by rw [← hB.ways]; exact hi)
    unfold Ho.wAt at this
    rw [List.getD_eq_getElem?_getD, List.getElem?_eq_getElem hi] at this
    unfold qkept
    simp at this
    rw [this]; rfl
  rw [h4]
  exact .refl _
end WB
/- what a unit's record does to a house's bag -/
namespace WB
open Go
def keysOf (H : Ho) : List ByteArray := H.queues.map (·.1)
theorem qI_keys {H H' : Ho} (h : keysOf H' = keysOf H) (s : ByteArray) : H'.qI s = H.qI s := by rw [qI_fst, qI_fst]; unfold keysOf at h; rw [h]
theorem bag_q {n : Nat} {H : Ho} (hB : HoB n H) {i : Nat} (hi : i < H.queues.length) : H.all[4 + i]? = some (H.qAt i) := all_q hB.ways hi
/-- a message of this house's queues comes in -/
theorem put1_bag {n : Nat} {H : Ho} (hB : HoB n H) {m : Ms} {i : Nat} (hm : m.house = H.id) (hq : H.qI m.queue = some i) : ∃ H1, hput1 H m = some H1 ∧ (hv H1).Perm (⟨4 + i, m, -1, -1⟩ :: hv H) ∧ keysOf H1 = keysOf H ∧ H1.names = H.names ∧ H1.ways = H.ways ∧ H1.next = max H.next (m.id / 4 + 1) ∧ Same H H1 := by
  have hi := (qI_lt hq).1
  let H0 : Ho := { H with next := max H.next (m.id / 4 + 1) }
  refine ⟨H0.setQ i (qpush (H0.qAt i) m (-1)), ?_, ?_, ?_, rfl, rfl, rfl, ⟨rfl, rfl, rfl, rfl, rfl, rfl, rfl, rfl⟩⟩
  · unfold hput1
    dsimp only
    rw [if_neg (by rw [hm]; simp)]
    rw [hq]
    rfl
  · unfold hv
    rw [all_setQ (H := H0) hB.ways]
    have := vw_push (l := H0.all) m (-1) (bag_q hB hi)
    exact this
  · unfold keysOf; exact setQ_fst (H := H0) i _
theorem puts_bag {n : Nat} : ∀ (l : List Ms) {H : Ho}, HoB n H → (∀ m ∈ l, msRight m = true ∧ m.house = H.id ∧ ∃ i, H.qI m.queue = some i) →
    ∃ H1, hputs H l = (H1, true) ∧ (hv H1).Perm (l.map (fun m => ⟨4 + (H.qI m.queue).getD 0, m, -1, -1⟩) ++ hv H) ∧ keysOf H1 = keysOf H ∧ H1.names = H.names ∧ H1.ways = H.ways ∧ Same H H1 ∧ H.next ≤ H1.next ∧ (∀ m ∈ l, m.id / 4 < H1.next) ∧ HoB (n + l.length) H1
  | [], H, hB, _ => ⟨H, rfl, .refl _, rfl, rfl, rfl, .refl _, Int.le_refl _, (fun m hm => by cases hm), hB⟩
  | m :: l, H, hB, h => by
    obtain ⟨hr, hm, i, hi⟩ := h m (by simp)
    obtain ⟨H1, e1, p1, k1, n1, w1, x1, s1⟩ := put1_bag hB hm hi
    have hB1 := hB.put1 hr e1
    obtain ⟨H2, e2, p2, k2, n2, w2, s2, x2, y2, hB2⟩ := puts_bag (n := n + 1) l hB1 fun m' hm' => by
      obtain ⟨a, b, j, c⟩ := h m' (by simp [hm'])
      exact ⟨a, by rw [s1.id]; exact b, j, by rw [qI_keys k1]; exact c⟩
    refine ⟨H2, ?_, ?_, k2.trans k1, n2.trans n1, w2.trans w1, s1.trans s2, by omega, fun m' hm' => ?_, hB2.le (by simp; omega)⟩
    · rw [hputs, e1]; exact e2
    · refine p2.trans ?_
      rw [List.map_cons, hi, Option.getD_some]
      have : (l.map fun m' => (⟨4 + (H1.qI m'.queue).getD 0, m', -1, -1⟩ : En)) = l.map fun m' => ⟨4 + (H.qI m'.queue).getD 0, m', -1, -1⟩ := by
        apply List.map_congr_left
        intro m' _
        rw [qI_keys k1]
      rw [this]
      refine ((List.Perm.refl _).append p1).trans ?_
      rw [List.cons_append]
      exact List.perm_middle
    · rcases List.mem_cons.1 hm' with rfl | hm'
      · omega
      · exact y2 m' hm'
theorem nodup_inj {α β : Type} {f : α → β} {l : List α} (h : (l.map f).Nodup) {x y : α} (hx : x ∈ l) (hy : y ∈ l) (e : f x = f y) : x = y := by
  induction l with
  | nil => cases hx
  | cons a l ih =>
    rw [List.map_cons, List.nodup_cons] at h
    rcases List.mem_cons.1 hx with h1 | h1 <;> rcases List.mem_cons.1 hy with h2 | h2
    · rw [h1, h2]
    · exact absurd (by rw [← h1, e]; exact List.mem_map_of_mem (f := f) h2) h.1
    · exact absurd (by rw [← h2, ← e]; exact List.mem_map_of_mem (f := f) h1) h.1
    · exact ih h.2 h1 h2
theorem filter_ne {l R : List En} {e : En} (h : (l.map idE).Nodup) (hp : l.Perm (e :: R)) : R.Perm (l.filter fun x => !decide (idE x = idE e)) := by
  have h1 := hp.filter (fun x => !decide (idE x = idE e))
  have h2 : (e :: R).filter (fun x => !decide (idE x = idE e)) = R := by
    rw [List.filter_cons, if_neg (by simp)]
    rw [List.filter_eq_self]
    intro x hx
    have hn := (hp.map idE).nodup_iff.1 h
    rw [List.map_cons, List.nodup_cons] at hn
    have : idE x ≠ idE e := fun e2 => hn.1 (e2 ▸ List.mem_map_of_mem (f := idE) hx)
    simpa using this
  rw [h2] at h1
  exact h1.symm
theorem cut_got (g : Int × ByteArray) : cutB 32 (gotT g) = (itoaS g.1, g.2, true) := by
  unfold gotT
  rw [show (sp : ByteArray) = chr1 32 from rfl]
  exact cutB_hit (itoa_noB _ (by decide)) _
/-- a message goes -/
theorem get1_bag {n : Nat} {H : Ho} (hB : HoB n H) {g : Int × ByteArray} (hg : 0 ≤ g.1 ∧ g.1 ≤ 1099511627776 ∧ wordB g.2 = true) {i : Nat} (hq : H.qI g.2 = some i) (hn : ((hv H).map idE).Nodup) {e : En} (he : e ∈ hv H) (hj : e.j = 4 + i) (hid : idE e = g.1) :
    ∃ H1, hget1 H (gotT g) = some H1 ∧ (hv H1).Perm ((hv H).filter fun x => !decide (idE x = g.1)) ∧ keysOf H1 = keysOf H ∧ H1.names = H.names ∧ H1.ways = H.ways ∧ H1.next = H.next ∧ Same H H1 := by
  have hi := (qI_lt hq).1
  obtain ⟨q, h1, x, hx, hex⟩ := vw_mem.1 he
  rw [hj] at h1
  have h2 := bag_q hB hi
  rw [h2] at h1
  simp only [Option.some.injEq] at h1
  subst h1
  have hxid : x.m.id = g.1 := by rw [← hid, hex]; rfl
  obtain ⟨k, hk⟩ : ∃ k, qtakeI (H.qAt i) g.1 = some k := by
    unfold qtakeI
    cases hf : (H.qAt i).l.findIdx? (idB g.1) with
    | some k => exact ⟨k, rfl⟩
    | none =>
      rw [List.findIdx?_eq_none_iff] at hf
      have := hf x hx
      unfold idB at this
      simp [hxid] at this
  obtain ⟨hkl, hkp, -⟩ := List.findIdx?_eq_some_iff_getElem.1 hk
  have hkx : (H.qAt i).l[k]? = some (H.qAt i).l[k] := List.getElem?_eq_getElem hkl
  have hkid : ((H.qAt i).l[k]).m.id = g.1 := by unfold idB at hkp; simpa using hkp
  refine ⟨H.setQ i (qtake (H.qAt i) g.1), ?_, ?_, by unfold keysOf; exact setQ_fst i _, rfl, rfl, rfl, ⟨rfl, rfl, rfl, rfl, rfl, rfl, rfl, rfl⟩⟩
  · unfold hget1
    rw [cut_got]
    dsimp only
    rw [numO_itoa ⟨by omega, by omega⟩]
    dsimp only
    rw [hq]
    dsimp only
    rw [if_pos (by unfold qtakeE; rw [hk])]
  · unfold hv
    rw [all_setQ hB.ways]
    have e1 : qtake (H.qAt i) g.1 = ⟨(H.qAt i).l.eraseIdx k, (H.qAt i).next⟩ := by unfold qtake; rw [hk]
    rw [e1]
    have hp := vw_erase (l := H.all) h2 hkx (H.qAt i).next
    have := filter_ne hn hp
    rw [show idE (enOf (4 + i) (H.qAt i).l[k]) = g.1 from hkid] at this
    exact this
theorem gets_bag {n : Nat} : ∀ (l : List (Int × ByteArray)) {H : Ho}, HoB n H → ((hv H).map idE).Nodup → (l.map (·.1)).Nodup → (∀ g ∈ l, (0 ≤ g.1 ∧ g.1 ≤ 1099511627776 ∧ wordB g.2 = true) ∧ ∃ i, H.qI g.2 = some i ∧ ∃ e ∈ hv H, e.j = 4 + i ∧ idE e = g.1) →
    ∃ H1, hgets H (l.map gotT) = (H1, true) ∧ (hv H1).Perm ((hv H).filter fun x => !decide (idE x ∈ l.map (·.1))) ∧ keysOf H1 = keysOf H ∧ H1.names = H.names ∧ H1.ways = H.ways ∧ H1.next = H.next ∧ Same H H1 ∧ HoB n H1
  | [], H, hB, _, _, _ => ⟨H, rfl, by rw [List.filter_eq_self.2 (fun _ _ => by simp)], rfl, rfl, rfl, rfl, .refl _, hB⟩
  | g :: l, H, hB, hn, hd, h => by
    obtain ⟨hr, i, hi, e, he, hj, hid⟩ := h g (by simp)
    obtain ⟨H1, e1, p1, k1, n1, w1, x1, s1⟩ := get1_bag hB hr hi hn he hj hid
    have hB1 := hB.get1 e1
    rw [List.map_cons, List.nodup_cons] at hd
    have hn1 : ((hv H1).map idE).Nodup := by
      refine (p1.map idE).nodup_iff.2 ?_
      exact hn.sublist (List.filter_sublist.map _)
    obtain ⟨H2, e2, p2, k2, n2, w2, x2, s2, hB2⟩ := gets_bag l hB1 hn1 hd.2 fun g' hg' => by
      obtain ⟨hr', i', hi', e', he', hj', hid'⟩ := h g' (by simp [hg'])
      refine ⟨hr', i', by rw [qI_keys k1]; exact hi', e', ?_, hj', hid'⟩
      rw [p1.mem_iff, List.mem_filter]
      refine ⟨he', ?_⟩
      have : idE e' ≠ g.1 := by rw [hid']; exact fun e => hd.1 (e ▸ List.mem_map_of_mem (f := (·.1)) hg')
      simpa using this
    refine ⟨H2, ?_, ?_, k2.trans k1, n2.trans n1, w2.trans w1, x2.trans x1, s1.trans s2, hB2⟩
    · rw [List.map_cons, hgets, e1]; exact e2
    · refine p2.trans ((p1.filter _).trans ?_)
      rw [List.filter_filter]
      refine List.Perm.of_eq (List.filter_congr fun x _ => ?_)
      rw [List.map_cons]
      by_cases h1 : idE x = g.1 <;> by_cases h2 : idE x ∈ l.map (·.1) <;> simp [h1, h2]
/-- texts put together and cut again -/
theorem pcs_joinS {c : UInt8} : ∀ {l : List ByteArray}, l ≠ [] → (∀ p ∈ l, noB c p) → pcs c (joinS l (chr1 c)) = l
  | [], h, _ => absurd rfl h
  | [p], _, h => by rw [joinS_one]; exact pcs_free (h p (by simp))
  | p :: q :: l, _, h => by
    rw [joinS_cons2, pcs_app (h p (by simp)), pcs_joinS (by simp) fun x hx => h x (by simp [hx])]
theorem gotT_noB {g : Int × ByteArray} (h : wordB g.2 = true) {c : UInt8} (h1 : c.toNat ≠ 45 ∧ (c.toNat < 48 ∨ 57 < c.toNat)) (h2 : isLet c = false) (h3 : c ≠ 32) : noB c (gotT g) := by
  unfold gotT
  refine noB_app (noB_app (itoa_noB _ h1) ?_) ?_
  · exact fun b hb => by simp [sp] at hb; subst hb; exact fun e => h3 e.symm
  · intro b hb e
    subst e
    have hw := word_let h
    unfold allLet at hw
    rw [List.all_eq_true] at hw
    rw [hw b hb] at h2; cases h2
theorem gets_text {l : List (Int × ByteArray)} (h : ∀ g ∈ l, wordB g.2 = true) (h0 : l ≠ []) : joinS (l.map gotT) plus ≠ ⟨#[]⟩ ∧ pcs 43 (joinS (l.map gotT) plus) = l.map gotT := by
  have h2 : pcs 43 (joinS (l.map gotT) plus) = l.map gotT := by
    rw [show (plus : ByteArray) = chr1 43 from rfl]
    refine pcs_joinS (by simpa using h0) fun p hp => ?_
    obtain ⟨g, hg, rfl⟩ := List.mem_map.1 hp
    exact gotT_noB (h g hg) (by decide) (by decide) (by decide)
  refine ⟨fun e => ?_, h2⟩
  rw [e, show pcs 43 ⟨#[]⟩ = [⟨#[]⟩] from pcs_free (fun b hb => by simp at hb)] at h2
  match l, h0 with
  | g :: l, _ =>
    rw [List.map_cons, List.cons.injEq] at h2
    have := congrArg ByteArray.size h2.1
    unfold gotT at this
    have h3 : sp.size = 1 := rfl
    simp only [ByteArray.size_append] at this
    have h4 : (⟨#[]⟩ : ByteArray).size = 0 := rfl
    omega
/-- a unit's record -/
theorem ends_bag {n : Nat} {H : Ho} {x : Unt} (hB : HoB n H) (hx : UntOk x) (hn : ((hv H).map idE).Nodup)
    (hp : ∀ p ∈ x.puts, p.1.house = H.id ∧ ∃ i, H.qI p.1.queue = some i) (hpn : (x.puts.map fun p => p.1.id).Nodup) (hpf : ∀ p ∈ x.puts, ∀ e ∈ hv H, idE e ≠ p.1.id)
    (hgn : (x.gets.map (·.1)).Nodup) (hg : ∀ g ∈ x.gets, ∃ i, H.qI g.2 = some i ∧ ∃ e ∈ hv H, e.j = 4 + i ∧ idE e = g.1) :
    ∃ H1, hends H (recB x) = (H1, true) ∧ (hv H1).Perm ((x.puts.map (fun p => (⟨4 + (H.qI p.1.queue).getD 0, p.1, -1, -1⟩ : En)) ++ hv H).filter fun e => !decide (idE e ∈ x.gets.map (·.1))) ∧ keysOf H1 = keysOf H ∧ H1.names = H.names ∧ H1.ways = H.ways ∧ Same H H1 ∧ H.next ≤ H1.next ∧ (∀ p ∈ x.puts, p.1.id / 4 < H1.next) ∧ HoB (n + x.puts.length) H1 := by
  obtain ⟨H1, e1, p1, k1, n1, w1, s1, x1, y1, hB1⟩ := puts_bag (x.puts.map (·.1)) hB fun m hm => by
    obtain ⟨p, hp', rfl⟩ := List.mem_map.1 hm
    exact ⟨hx.puts p hp', hp p hp'⟩
  rw [List.map_map] at p1
  have y2 : ∀ p ∈ x.puts, p.1.id / 4 < H1.next := fun p hp => y1 _ (List.mem_map_of_mem (f := (·.1)) hp)
  rw [List.length_map] at hB1
  have hn1 : ((hv H1).map idE).Nodup := by
    refine (p1.map idE).nodup_iff.2 ?_
    rw [List.map_append, List.map_map, List.nodup_append]
    refine ⟨?_, hn, fun a ha b hb => ?_⟩
    · exact hpn
    · obtain ⟨p, hp', rfl⟩ := List.mem_map.1 ha
      obtain ⟨e, he, rfl⟩ := List.mem_map.1 hb
      exact fun e2 => hpf p hp' e he e2.symm
  have hds : hends H (recB x) = if joinS (x.gets.map gotT) plus = ⟨#[]⟩ then (H1, true) else hgets H1 (pcs 43 (joinS (x.gets.map gotT) plus)) := by
    unfold hends
    have hrd := hx.read
    rw [hx.cut] at hrd ⊢
    dsimp only at hrd ⊢
    rw [if_neg (by simp), hrd]
    dsimp only
    rw [e1]
    rfl
  by_cases h0 : x.gets = []
  · refine ⟨H1, ?_, ?_, k1, n1, w1, s1, x1, y2, hB1⟩
    · rw [hds, h0]; rfl
    · rw [h0]
      refine p1.trans ?_
      rw [List.filter_eq_self.2 (fun a _ => by simp)]
      exact .refl _
  · obtain ⟨t1, t2⟩ := gets_text (fun g hg => (hx.gets g hg).2.2) h0
    rw [if_neg t1, t2] at hds
    obtain ⟨H2, e2, p2, k2, n2, w2, x2, s2, hB2⟩ := gets_bag x.gets hB1 hn1 hgn fun g hg' => by
      obtain ⟨i, hi, e, he, hj, hid⟩ := hg g hg'
      exact ⟨hx.gets g hg', i, by rw [qI_keys k1]; exact hi, e, p1.mem_iff.2 (List.mem_append_right _ he), hj, hid⟩
    exact ⟨H2, hds.trans e2, p2.trans (p1.filter _), k2.trans k1, n2.trans n1, w2.trans w1, s1.trans s2, by omega, fun p hp => by rw [x2]; exact y2 p hp, hB2⟩
end WB
