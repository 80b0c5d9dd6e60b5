/- waybillkeep.HouseCrashes: for every list of acts and every list of torn lengths the law returns true, and the lists read as they did. No condition. -/
import Derived.Conc.Holds
import Derived.Leaving
import Derived.SevenTiedAt
import Derived.Test.YtjhogocabcdjbabGreatDoorCards
import Derived.Test.YtjhogocabcdjbabGreatDoorTie
import Derived.Stop.LaidErr
import Derived.ChangeMaps5
import Derived.Test.YtjhogocabcdjbabGreatDoorB4
set_option linter.unusedSimpArgs false
set_option linter.unusedVariables false
/- what lies on a disk, and what a house that is opened has of it -/
namespace WB
open Go
inductive Plays : Ho → List ByteArray → Ho → Prop
  | nil (H : Ho) : Plays H [] H
  | cons {H H1 H' : Ho} {s : ByteArray} {R : List ByteArray} (h : hplays H s = (H1, true)) (t : Plays { H1 with used := H.used + 1 } R H') : Plays H (s :: R) H'
theorem Plays.snoc {H H' H1 : Ho} {R : List ByteArray} {s : ByteArray} (h : Plays H R H') (hs : hplays H' s = (H1, true)) : Plays H (R ++ [s]) { H1 with used := H'.used + 1 } := by
  induction h with
  | nil H => exact .cons hs (.nil _)
  | cons e _ ih => exact .cons e (ih hs)
theorem Plays.used {H H' : Ho} {R : List ByteArray} (h : Plays H R H') : H'.used = H.used + R.length := by
  induction h with
  | nil H => rfl
  | cons e _ ih => rw [ih]; simp; omega
theorem Plays.same {H H' : Ho} {R : List ByteArray} (h : Plays H R H') : H'.id = H.id ∧ H'.down = H.down ∧ H'.torn = H.torn ∧ H'.units = H.units := by
  induction h with
  | nil H => exact ⟨rfl, rfl, rfl, rfl⟩
  | @cons H H1 H' s R e _ ih =>
    have := hplays_same H s
    rw [e] at this
    obtain ⟨a, b, c, d⟩ := ih
    exact ⟨a.trans this.id, b.trans this.down, c.trans this.torn, d.trans this.units⟩
theorem Plays.bound {H H' : Ho} {R : List ByteArray} (h : Plays H R H') : ∀ {n : Nat}, HoB n H → (∀ s ∈ R, RecOk 250 s) → H.used + R.length ≤ 300 → HoB (n + 250 * R.length) H' := by
  induction h with
  | nil H => exact fun h _ _ => h
  | @cons H H1 H' s R e _ ih =>
    intro n hB hr hl
    have h1 := hB.plays (hr s (by simp)) (by omega)
    rw [e] at h1
    simp only [List.length_cons] at hl
    exact (ih (h1.used' (k := H.used + 1) (by omega)) (fun x hx => hr x (by simp [hx])) (by dsimp only; omega)).le (by simp; omega)
structure DkInv (D : Dk) (R : List ByteArray) : Prop where
  len : D.places.length = 300
  many : R.length ≤ 300
  on : ∀ (k : Nat) s, R[k]? = some s → D.places[k]? = some (sealS (k : Nat) s)
  off : ∀ (k : Nat) t, R.length ≤ k → D.places[k]? = some t → openS (k : Nat) t = none
  size : ∀ t ∈ D.places, t.size ≤ 800000
  recs : ∀ s ∈ R, RecOk 250 s ∧ noB 124 s
theorem DkInv.ok {D : Dk} {R : List ByteArray} (h : DkInv D R) (hl : -1000000 ≤ D.left ∧ D.left ≤ 9223372036854775807) : DkOk D := by
  refine ⟨h.len, hl, h.size, fun k t s ht hs => ?_⟩
  rcases Nat.lt_or_ge k R.length with hk | hk
  · have h1 := h.on k R[k] (List.getElem?_eq_getElem hk)
    rw [ht] at h1
    simp only [Option.some.injEq] at h1
    rw [h1, openS_seal (h.recs _ (List.getElem_mem hk)).2] at hs
    simp only [Option.some.injEq] at hs
    rw [← hs]; exact (h.recs _ (List.getElem_mem hk)).1
  · rw [h.off k t hk ht] at hs; cases hs
theorem open_go {D : Dk} {R : List ByteArray} (h : DkInv D R) {H H' : Ho} {R2 : List ByteArray} (hp : Plays H R2 H') : ∀ {pre : List ByteArray}, R = pre ++ R2 → H.used = pre.length → ∀ f, f + H.used = 300 → openN D f H = H' := by
  induction hp with
  | nil H =>
    intro pre he hu f hf
    rw [List.append_nil] at he
    subst he
    match f with
    | 0 => rfl
    | f + 1 =>
      unfold openN
      obtain ⟨t, ht⟩ : ∃ t, D.places[H.used]? = some t := ⟨_, List.getElem?_eq_getElem (by rw [h.len]; omega)⟩
      have e : D.places.getD H.used ⟨#[]⟩ = t := by rw [List.getD_eq_getElem?_getD, ht]; rfl
      rw [e, h.off H.used t (by omega) ht]
  | @cons H H1 H' s R2 e hp ih =>
    intro pre he hu f hf
    have hm := h.many
    have hl : R.length = pre.length + (R2.length + 1) := by rw [he]; simp
    have hk : R[H.used]? = some s := by rw [he, List.getElem?_append_right (by omega), hu]; simp
    obtain ⟨f', rfl⟩ : ∃ f', f = f' + 1 := ⟨f - 1, by omega⟩
    unfold openN
    have ht := h.on _ _ hk
    have e2 : D.places.getD H.used ⟨#[]⟩ = sealS (H.used : Nat) s := by rw [List.getD_eq_getElem?_getD, ht]; rfl
    have hs : s ∈ R := List.mem_of_getElem? hk
    rw [e2, openS_seal (h.recs s hs).2]
    dsimp only
    rw [e]
    dsimp only
    rw [if_neg (by simp)]
    exact ih (pre := pre ++ [s]) (by rw [he]; simp) (by simp; omega) f' (by dsimp only; omega)
theorem open_plays {D : Dk} {R : List ByteArray} (h : DkInv D R) {id : Int} {H' : Ho} (hp : Plays (hNew id) R H') : openH id D = H' := open_go h hp (pre := []) rfl rfl 300 rfl
/-! what is written -/
theorem dkTorn_size (s : ByteArray) (torn : Int) : (dkTorn s torn).size ≤ s.size := by unfold dkTorn; simp; omega
theorem DkInv.cut {D : Dk} {R : List ByteArray} (h : DkInv D R) (n : Int) : DkInv (dkCut D n) R := ⟨h.len, h.many, h.on, h.off, h.size, h.recs⟩
theorem DkInv.bad {D : Dk} {R : List ByteArray} (h : DkInv D R) {s : ByteArray} (hs : s.size ≤ 700000) (hb : noB 124 s) {torn : Int} (ho : dkOff D = true) (hr : R.length < 300) : DkInv (dkWrite D R.length (sealS (R.length : Nat) s) torn) R := by
  unfold dkWrite
  rw [if_pos ho]
  split
  · rename_i ht
    refine ⟨by simpa using h.len, h.many, fun k x hk => ?_, fun k t hk hx => ?_, fun t hx => ?_, h.recs⟩
    · have := (List.getElem?_eq_some_iff.1 hk).1
      dsimp only
      rw [List.getElem?_set_ne (by omega)]
      exact h.on k x hk
    · dsimp only at hx
      rw [List.getElem?_set] at hx
      split at hx
      · rename_i e
        subst e
        split at hx
        · simp only [Option.some.injEq] at hx
          subst hx
          unfold dkTorn
          have h0 := sealS_size (R.length : Nat) s
          exact openS_torn hb (by omega)
        · cases hx
      · exact h.off k t hk hx
    · dsimp only at hx
      rcases List.mem_or_eq_of_mem_set hx with h1 | rfl
      · exact h.size t h1
      · have := dkTorn_size (sealS (R.length : Nat) s) torn
        have := sealS_le (k := (R.length : Nat)) ⟨by omega, by omega⟩ hs
        omega
  · exact h
theorem DkInv.good {D : Dk} {R : List ByteArray} (h : DkInv D R) {s : ByteArray} (hs : s.size ≤ 700000) (hb : noB 124 s) (hrec : RecOk 250 s) {torn : Int} (ho : ¬ dkOff D = true) (hr : R.length < 300) : DkInv (dkWrite D R.length (sealS (R.length : Nat) s) torn) (R ++ [s]) := by
  unfold dkWrite
  rw [if_neg ho]
  have hl := h.len
  refine ⟨by simpa using h.len, by simp; omega, fun k x hk => ?_, fun k t hk hx => ?_, fun t hx => ?_, fun x hx => ?_⟩
  · dsimp only
    rcases Nat.lt_or_ge k R.length with hlt | hge
    · rw [List.getElem?_append_left hlt] at hk
      rw [List.getElem?_set_ne (by omega)]
      exact h.on k x hk
    · have := (List.getElem?_eq_some_iff.1 hk).1
      simp at this
      obtain rfl : k = R.length := by omega
      rw [List.getElem?_append_right (Nat.le_refl _)] at hk
      simp at hk
      subst hk
      rw [List.getElem?_set_self (by omega)]
  · dsimp only at hx
    simp at hk
    rw [List.getElem?_set_ne (by omega)] at hx
    exact h.off k t (by omega) hx
  · dsimp only at hx
    rcases List.mem_or_eq_of_mem_set hx with h1 | rfl
    · exact h.size t h1
    · have := sealS_le (k := (R.length : Nat)) ⟨by omega, by omega⟩ hs
      omega
  · rcases List.mem_append.1 hx with hx | hx
    · exact h.recs x hx
    · simp at hx; subst hx; exact ⟨hrec, hb⟩
theorem dkNew_inv : DkInv dkNew [] := by
  refine ⟨List.length_replicate, by simp, fun k s h => by simp at h, fun k t _ ht => ?_, fun t ht => ?_, fun s h => by cases h⟩
  · have : t = ⟨#[]⟩ := List.eq_of_mem_replicate (List.mem_of_getElem? ht)
    subst this
    exact openS_nil _
  · have : t = ⟨#[]⟩ := List.eq_of_mem_replicate ht
    subst this; decide
theorem noB_let {c : UInt8} (h2 : isLet c = false) {s : ByteArray} (h : allLet s = true) : noB c s := fun b hb e => by
  subst e
  unfold allLet at h
  rw [List.all_eq_true] at h
  rw [h b hb] at h2; cases h2
theorem bar_rec {x : Unt} (h : UntOk x) : noB 124 (recU x) := by
  rw [recU_eq]
  unfold recB
  refine noB_app (noB_app (noB_chr (by decide)) (noB_chr (by decide))) (noB_app (noB_app (noB_write (by decide) (by decide) (by decide) fun m hm => ?_) (noB_chr (by decide))) fun b hb => ?_)
  · obtain ⟨p, hp, rfl⟩ := List.mem_map.1 hm
    exact h.puts p hp
  · rcases mem_joinS hb with hb | ⟨y, hy, hb⟩
    · simp [plus] at hb; subst hb; decide
    · obtain ⟨g, hg, rfl⟩ := List.mem_map.1 hy
      exact gotT_noB (h.gets g hg).2.2 (by decide) (by decide) (by decide) b hb
theorem bar_name {x : Nm} (h : rightNm x = true) : noB 124 (nameR x) := by
  obtain ⟨h1, h2, -, -⟩ := right_word h
  rw [nameR_eq]
  have hd : noB 124 (dash1 x.tgt) := by
    unfold dash1
    split
    · exact noB_chr (by decide)
    · rename_i h3
      rcases h2 with h2 | h2
      · exact noB_let (by decide) (word_let h2)
      · exact absurd h2 h3
  exact noB_app (noB_app (noB_chr (by decide)) (noB_chr (by decide))) (noB_app (noB_app (noB_let (by decide) (word_let h1)) (noB_chr (by decide))) (noB_app (noB_app hd (noB_chr (by decide))) (itoa_noB _ (by decide))))
theorem UntOk.recK {x : Unt} (h : UntOk x) {k : Nat} (hk : x.puts.length ≤ k) : RecOk k (recU x) := by
  have h1 := h.recO
  refine ⟨h1.kind, h1.size, fun _ l hl => ?_⟩
  rw [cutB_recU, h.read] at hl
  simp only [Option.some.injEq] at hl
  subst hl
  simpa using hk
theorem RecOk.mono {k m : Nat} {s : ByteArray} (h : RecOk k s) (hk : k ≤ m) : RecOk m s := ⟨h.kind, h.size, fun e l hl => Nat.le_trans (h.many e l hl) hk⟩
/-- a record of a name, played -/
theorem hnameR_ok {x : Nm} (h : rightNm x = true) : hnameR (x.name ++ chr1 32 ++ (dash1 x.tgt ++ chr1 32 ++ itoaS x.house)) = some x := by
  obtain ⟨h1, h2, h5, h6⟩ := right_word h
  have hd : noB 32 (dash1 x.tgt) := by
    unfold dash1
    split
    · exact noB_chr (by decide)
    · rename_i h3
      rcases h2 with h2 | h2
      · exact noB_let (by decide) (word_let h2)
      · exact absurd h2 h3
  unfold hnameR
  rw [pcs_app (noB_let (by decide) (word_let h1)), pcs_app hd, pcs_free (itoa_noB _ (by decide))]
  dsimp only
  rw [numO_itoa ⟨by omega, by omega⟩]
  have hda : dash (dash1 x.tgt) = x.tgt := by
    unfold dash1
    split
    · rename_i h3; rw [h3]; decide
    · rename_i h3
      unfold dash Lib.trimPrefix
      rw [if_neg]
      · rfl
      · rcases h2 with h2 | h2
        · have hl := word_let h2
          unfold allLet at hl
          rw [List.all_eq_true] at hl
          intro hp
          cases ht : x.tgt.data.toList with
          | nil => rw [ht] at hp; revert hp; decide
          | cons b r =>
            rw [ht] at hp
            have hb : (45 : UInt8) = b := by unfold Lib.hasPrefix at hp; simpa using hp
            have := hl b (by rw [ht]; simp)
            rw [← hb] at this
            revert this; decide
        · exact absurd h2 h3
  rw [hda]
  rfl
theorem hplays_name {H : Ho} {x : Nm} (h : setErr H.names x = 0) : hplays H (nameR x) = (hset H x, true) := by
  unfold hplays
  rw [cutB_nameR]
  dsimp only
  rw [if_pos rfl, hnameR_ok (setErr_right h)]
  dsimp only
  unfold hsetE
  rw [h]; rfl
theorem hplays_unit {H : Ho} (x : Unt) : hplays H (recU x) = hends H (recB x) := by
  unfold hplays
  rw [cutB_recU]
  dsimp only
  rw [if_neg (by decide), if_neg (by decide)]
end WB
/- a house and its disk, whatever units do: what holds all the time -/
namespace WB
open Go
structure UI (H : Ho) (u : Nat) (x : Unt) (c : Nat) : Prop where
  many : x.puts.length + x.gets.length ≤ c
  puts : ∀ p ∈ x.puts, msRight p.1 = true ∧ p.1.house = H.id ∧ ∃ i, H.qI p.1.queue = some i ∧ ∃ e ∈ hv H, e.j = 4 + i ∧ e.m = p.1 ∧ e.put = (u : Int)
  pn : (x.puts.map fun p => p.1.id).Nodup
  gets : ∀ g ∈ x.gets, wordB g.2 = true ∧ ∃ i, H.qI g.2 = some i ∧ ∃ e ∈ hv H, e.j = 4 + i ∧ idE e = g.1 ∧ e.put < 0 ∧ e.got = (u : Int)
  gn : (x.gets.map (·.1)).Nodup
structure LInv (W : ByteArray → Prop) (id : Int) (c : Nat) (H H0 : Ho) (D : Dk) (R : List ByteArray) (T : List Int) (P G : Nat → List Int) : Prop where
  hid : H.id = id
  B : HoB (1000 + 250 * c) H
  dk : DkInv D R
  rl : R.length ≤ 3 + c
  left : -(10 + (c : Int)) ≤ D.left ∧ D.left ≤ 10
  pl : Plays (hNew id) R H0
  used : H.used = R.length
  names : H0.names = H.names
  keys : keysOf H0 = keysOf H
  ways : (∀ q ∈ H.ways, q.l = []) ∧ ∀ q ∈ H0.ways, q.l = []
  free0 : ∀ e ∈ hv H0, e.put = -1 ∧ e.got = -1
  sim : (hk H).Perm ((hv H0).map jmE)
  nod : ((hv H).map idE).Nodup
  lt : ∀ e ∈ hv H, 0 ≤ e.m.id ∧ e.m.id ≤ 1099511627776 ∧ e.m.id / 4 < H.next
  lt0 : ∀ e ∈ hv H0, e.m.id / 4 < H0.next
  unit : ∀ (u : Nat) x, H.units[u]? = some x → UI H u x c ∧ (x.puts.map fun p => p.1.id) = P u ∧ x.gets.map (·.1) = G u
  tn : T.Nodup
  te : T.Perm ((hk H).map (·.2.id))
  loc : ∀ s, W s → wordB s = true ∧ plR H s = (s, -1, 0)
section
variable {W : ByteArray → Prop} {id : Int} {c : Nat} {H H0 : Ho} {D : Dk} {R : List ByteArray} {T : List Int} {P G : Nat → List Int}
theorem UI.up {u : Nat} {x : Unt} (h : UI H u x c) : UI H u x (c + 1) := ⟨Nat.le_succ_of_le h.many, h.puts, h.pn, h.gets, h.gn⟩
theorem LInv.up (h : LInv W id c H H0 D R T P G) : LInv W id (c + 1) H H0 D R T P G :=
  ⟨h.hid, h.B.le (by omega), h.dk, by have := h.rl; omega, by have := h.left; omega, h.pl, h.used, h.names, h.keys, h.ways, h.free0, h.sim, h.nod, h.lt, h.lt0, fun u x hx => ⟨(h.unit u x hx).1.up, (h.unit u x hx).2⟩, h.tn, h.te, h.loc⟩
theorem LInv.ok (h : LInv W id c H H0 D R T P G) (hc : c ≤ 200) : DkOk D := h.dk.ok (by have := h.left; omega)
theorem UI.ok {u : Nat} {x : Unt} (h : LInv W id c H H0 D R T P G) (hx : H.units[u]? = some x) (hc : c ≤ 200) : UntOk x := by
  obtain ⟨hu, -, -⟩ := h.unit u x hx
  refine ⟨fun p hp => (hu.puts p hp).1, fun g hg => ?_, by have := hu.many; omega⟩
  obtain ⟨h1, i, -, e, he, -, hid, -⟩ := hu.gets g hg
  have := h.lt e he
  unfold idE at hid
  rw [hid] at this
  exact ⟨this.1, this.2.1, h1⟩
theorem LInv.units (h : LInv W id c H H0 D R T P G) (hc : c ≤ 200) : ∀ x ∈ H.units, UntOk x := fun x hx => by
  obtain ⟨u, hu, rfl⟩ := List.getElem_of_mem hx
  exact UI.ok h (List.getElem?_eq_getElem hu) hc
theorem plR_same {H H' : Ho} (h1 : H'.names = H.names) (h2 : H'.id = H.id) (s : ByteArray) : plR H' s = plR H s := by unfold plR; rw [h1, h2]
theorem hk_ids (H : Ho) : (hk H).map (·.2.id) = ((hv H).filter keptB).map idE := by unfold hk; rw [List.map_map]; rfl
theorem unit_set {us : List Unt} {u v : Nat} {x y : Unt} (hu : u < us.length) (h : (us.set u y)[v]? = some x) : (v = u ∧ x = y) ∨ (v ≠ u ∧ us[v]? = some x) := by
  rw [List.getElem?_set] at h
  split at h
  · rename_i e; simp only [hu, if_true, Option.some.injEq] at h; exact .inl ⟨e.symm, h.symm⟩
  · rename_i e; exact .inr ⟨fun e2 => e e2.symm, h⟩
def upd (P : Nat → List Int) (u : Nat) (l : List Int) : Nat → List Int := fun v => if v = u then l else P v
theorem upd_eq (P : Nat → List Int) (u : Nat) (l : List Int) : upd P u l u = l := if_pos rfl
theorem upd_ne {P : Nat → List Int} {u v : Nat} {l : List Int} (h : v ≠ u) : upd P u l v = P v := if_neg h
theorem uAt_of {u : Nat} (h : HoB c H) (hu : u < 5) : H.units[u]? = some (H.uAt u) := by
  unfold Ho.uAt
  rw [List.getD_eq_getElem?_getD, List.getElem?_eq_getElem (by rw [h.units]; exact hu)]; rfl
/-- Put -/
theorem LInv.put (h : LInv W id c H H0 D R T P G) (hi4 : 0 ≤ id ∧ id < 4) {u : Nat} (hu : u < 5) {s : ByteArray} (hs : W s) (pri : Int) (body : ByteArray) :
    LInv W id (c + 1) (putH H u s pri body) H0 D R T (if putE H u s pri body = 0 then upd P u (P u ++ [putI H u s pri body]) else P) G := by
  by_cases he : putE H u s pri body = 0
  · rw [if_pos he]
    obtain ⟨hw, hpl⟩ := h.loc s hs
    have hB := h.B
    obtain ⟨hj, h2, -⟩ := plJ_lt hB (s := s) (by rw [hpl])
    obtain ⟨-, i, hqi, hji⟩ := h2 (by rw [hpl]; exact (by decide : (-1 : Int) < 0))
    rw [hpl] at hqi
    dsimp only at hqi
    have hq0 : qputE (H.aAt (plJ H s)) (putM H s pri body) = 0 := by
      have h0 := he
      unfold putE at h0
      split at h0
      · cases h0
      · split at h0
        · cases h0
        · split at h0
          · exact absurd h0 (by assumption)
          · split at h0
            · cases h0
            · exact h0
    have hmr : msRight (putM H s pri body) = true := by
      unfold qputE at hq0
      cases hr : msRight (putM H s pri body) with
      | true => rfl
      | false => rw [if_pos hr] at hq0; cases hq0
    have hm : putM H s pri body = ⟨H.next * 4 + H.id, pri, body, s, H.id⟩ := by unfold putM; rw [hpl]; rfl
    generalize hmm : putM H s pri body = m at hq0 hmr hm
    have hmid : m.id = H.next * 4 + id := by rw [hm, ← h.hid]
    have hmq : m.queue = s := by rw [hm]
    have hmh : m.house = H.id := by rw [hm]
    have hpI : putI H u s pri body = m.id := by unfold putI; rw [if_pos he, hmm]
    have hux := uAt_of hB hu
    generalize hx : H.uAt u = x at hux
    have e1 : putH H u s pri body = putU { H.setA (plJ H s) (qpush (H.aAt (plJ H s)) m u) with next := H.next + 1 } u ⟨x.puts ++ [(m, -1)], x.gets⟩ := by
      unfold putH
      rw [if_pos he, hmm]
      unfold qput
      rw [if_pos hq0, Int.toNat_natCast, hx, hpl]
    have hBp := hB.put u s pri body
    rw [e1] at hBp ⊢
    rw [hpI]
    have hall : H.all[plJ H s]? = some (H.aAt (plJ H s)) := all_a hj
    generalize hH' : putU { H.setA (plJ H s) (qpush (H.aAt (plJ H s)) m u) with next := H.next + 1 } u ⟨x.puts ++ [(m, -1)], x.gets⟩ = H' at hBp
    have hv' : (hv H').Perm (⟨4 + i, m, (u : Int), -1⟩ :: hv H) := by
      have h3 : H'.all = (H.setA (plJ H s) (qpush (H.aAt (plJ H s)) m u)).all := by rw [← hH']; rfl
      unfold hv
      rw [h3, all_setA hB.ways]
      have := vw_push m u hall
      rw [hji, show max (u : Int) (-1) = u by omega] at this
      rw [hji]; exact this
    have hks : keysOf H' = keysOf H := by rw [← hH']; exact setA_fst _ _
    have hnm : H'.names = H.names := by rw [← hH']; exact setA_names _ _
    have hidd : H'.id = H.id := by rw [← hH']; exact setA_id _ _
    have hus : H'.used = H.used := by rw [← hH']; exact setA_used _ _
    have hnx : H'.next = H.next + 1 := by rw [← hH']; rfl
    have hun : H'.units = H.units.set u ⟨x.puts ++ [(m, -1)], x.gets⟩ := by rw [← hH']; unfold putU; dsimp only; rw [setA_units]
    have hway : H'.ways = H.ways := by
      rw [← hH']; unfold putU; dsimp only
      unfold Ho.setA
      rw [if_neg (by omega)]; rfl
    have hkk : (hk H').Perm (hk H) := by
      unfold hk
      refine ((hv'.filter _).map _).trans (List.Perm.of_eq ?_)
      rw [List.filter_cons, if_neg (by unfold keptB; simp)]
    have hmem : ∀ e ∈ hv H, e ∈ hv H' := fun e he => hv'.mem_iff.2 (List.mem_cons_of_mem _ he)
    have hnew : ∀ e ∈ hv H, idE e ≠ m.id := fun e he e2 => by
      have := (h.lt e he).2.2
      unfold idE at e2
      rw [e2, hmid] at this
      omega
    obtain ⟨m1, m2, -⟩ := msRight_parts hmr
    refine ⟨by rw [hidd, h.hid], hBp.le (by omega), h.dk, by have := h.rl; omega, by have := h.left; omega, h.pl, by rw [hus, h.used], by rw [hnm, h.names], by rw [hks, h.keys], by rw [hway]; exact h.ways, h.free0, hkk.trans h.sim, ?_, ?_, h.lt0, ?_, h.tn, h.te.trans (hkk.map _).symm, fun s' hs' => by rw [plR_same hnm hidd]; exact h.loc s' hs'⟩
    · refine (hv'.map idE).nodup_iff.2 ?_
      rw [List.map_cons, List.nodup_cons]
      refine ⟨fun hm2 => ?_, h.nod⟩
      obtain ⟨e, he2, he3⟩ := List.mem_map.1 hm2
      exact hnew e he2 he3
    · intro e he2
      rw [hnx]
      rcases List.mem_cons.1 (hv'.mem_iff.1 he2) with rfl | he3
      · refine ⟨m1, m2, ?_⟩
        dsimp only; rw [hmid]; omega
      · obtain ⟨a, b, d⟩ := h.lt e he3
        exact ⟨a, b, by omega⟩
    · intro v y hy
      rw [hun] at hy
      rcases unit_set (by rw [hB.units]; exact hu) hy with ⟨rfl, rfl⟩ | ⟨hne, hy⟩
      · obtain ⟨ui, up, ug⟩ := h.unit v x hux
        refine ⟨⟨by have := ui.many; simp; omega, fun p hp => ?_, ?_, fun g hg => ?_, ui.gn⟩, ?_, ug⟩
        · rcases List.mem_append.1 hp with hp | hp
          · obtain ⟨a, b, i', d, e, he2, e3⟩ := ui.puts p hp
            exact ⟨a, by rw [hidd]; exact b, i', by rw [qI_keys hks]; exact d, e, hmem e he2, e3⟩
          · simp at hp; subst hp
            refine ⟨hmr, by rw [hidd]; exact hmh, i, by rw [qI_keys hks, hmq]; exact hqi, _, hv'.mem_iff.2 List.mem_cons_self, rfl, rfl, rfl⟩
        · dsimp only
          rw [List.map_append, List.nodup_append]
          refine ⟨ui.pn, by simp, fun a ha b hb => ?_⟩
          obtain ⟨p, hp, rfl⟩ := List.mem_map.1 ha
          obtain ⟨-, -, i', -, e, he2, -, e3, -⟩ := ui.puts p hp
          simp at hb
          subst hb
          have := hnew e he2
          unfold idE at this
          rw [e3] at this; exact this
        · obtain ⟨a, i', d, e, he2, e3⟩ := ui.gets g hg
          exact ⟨a, i', by rw [qI_keys hks]; exact d, e, hmem e he2, e3⟩
        · rw [upd_eq]; dsimp only; rw [List.map_append, up]; rfl
      · obtain ⟨ui, up, ug⟩ := h.unit v y hy
        refine ⟨⟨by have := ui.many; omega, fun p hp => ?_, ui.pn, fun g hg => ?_, ui.gn⟩, by rw [upd_ne hne]; exact up, ug⟩
        · obtain ⟨a, b, i', d, e, he2, e3⟩ := ui.puts p hp
          exact ⟨a, by rw [hidd]; exact b, i', by rw [qI_keys hks]; exact d, e, hmem e he2, e3⟩
        · obtain ⟨a, i', d, e, he2, e3⟩ := ui.gets g hg
          exact ⟨a, i', by rw [qI_keys hks]; exact d, e, hmem e he2, e3⟩
  · rw [if_neg he]
    have : putH H u s pri body = H := by unfold putH; rw [if_neg he]
    rw [this]
    exact h.up
/-- Get -/
theorem LInv.get (h : LInv W id c H H0 D R T P G) {u : Nat} (hu : u < 5) {s : ByteArray} (hs : W s) :
    LInv W id (c + 1) (getH H u s) H0 D R T P (if getE H u s = 0 then upd G u (G u ++ [(getM H u s).id]) else G) ∧ (getE H u s = 0 → (getM H u s).id ∈ T) := by
  by_cases he : getE H u s = 0
  · rw [if_pos he]
    obtain ⟨hw, hpl⟩ := h.loc s hs
    have hB := h.B
    obtain ⟨i, hqi, hq0⟩ : ∃ i, H.qI s = some i ∧ qgetE (H.qAt i) = 0 := by
      have h0 := he
      unfold getE at h0
      split at h0
      · cases h0
      · cases hq : H.qI s with
        | none => rw [hq] at h0; cases h0
        | some i =>
          rw [hq] at h0
          dsimp only at h0
          split at h0
          · cases h0
          · split at h0
            · cases h0
            · exact ⟨i, rfl, h0⟩
    have hil := (qI_lt hqi).1
    obtain ⟨k, hik⟩ : ∃ k, qgetI (H.qAt i) = some k := by
      unfold qgetE at hq0
      split at hq0
      · cases hq0
      · rename_i k hk1; exact ⟨k, hk1⟩
    obtain ⟨hkl, hka, -⟩ := List.findIdx?_eq_some_iff_getElem.1 hik
    have hkx : (H.qAt i).l[k]? = some (H.qAt i).l[k] := List.getElem?_eq_getElem hkl
    generalize hy : (H.qAt i).l[k] = y at hkx hka
    have hit : itAt (H.qAt i).l k = y := itAt_of hkx
    have hgm : qgetM (H.qAt i) = y.m := by unfold qgetM; rw [hik]; dsimp only; rw [hit]
    have hgq : qget (H.qAt i) u = ⟨(H.qAt i).l.set k { y with got := (u : Int) }, (H.qAt i).next⟩ := by unfold qget; rw [hik]; dsimp only; rw [if_neg (by omega), hit]
    have hM : getM H u s = y.m := by unfold getM; rw [if_pos he, hqi]; exact hgm
    unfold availB at hka
    simp only [Bool.and_eq_true, decide_eq_true_eq] at hka
    obtain ⟨Rr, p1, p2⟩ := vw_change { y with got := (u : Int) } (bag_q hB hil) hkx (H.qAt i).next
    have hux := uAt_of hB hu
    generalize hx : H.uAt u = x at hux
    have e1 : getH H u s = putU (H.setQ i (qget (H.qAt i) u)) u ⟨x.puts, x.gets ++ [(y.m.id, s)]⟩ := by
      unfold getH
      rw [if_pos he, Int.toNat_natCast, hx, hqi]
      simp only [Option.getD_some]
      rw [hgm]
    have hBp := hB.get u s
    rw [e1] at hBp ⊢
    rw [hM]
    generalize hH' : putU (H.setQ i (qget (H.qAt i) u)) u ⟨x.puts, x.gets ++ [(y.m.id, s)]⟩ = H' at hBp
    have hv' : (hv H').Perm (enOf (4 + i) { y with got := (u : Int) } :: Rr) := by
      have h3 : H'.all = (H.setQ i (qget (H.qAt i) u)).all := by rw [← hH']; rfl
      unfold hv
      rw [h3, all_setQ hB.ways, hgq]
      exact p2
    have hvH : (hv H).Perm (enOf (4 + i) y :: Rr) := p1
    have hks : keysOf H' = keysOf H := by rw [← hH']; exact setQ_fst _ _
    have hnm : H'.names = H.names := by rw [← hH']; rfl
    have hidd : H'.id = H.id := by rw [← hH']; rfl
    have hus : H'.used = H.used := by rw [← hH']; rfl
    have hnx : H'.next = H.next := by rw [← hH']; rfl
    have hun : H'.units = H.units.set u ⟨x.puts, x.gets ++ [(y.m.id, s)]⟩ := by rw [← hH']; rfl
    have hway : H'.ways = H.ways := by rw [← hH']; rfl
    have hkk : (hk H').Perm (hk H) := by
      unfold hk
      refine ((hv'.filter _).map _).trans (List.Perm.trans (List.Perm.of_eq ?_) ((hvH.filter _).map _).symm)
      rw [List.filter_cons, List.filter_cons]
      have : keptB (enOf (4 + i) y) = true := by unfold keptB enOf; simpa using hka.1
      rw [if_pos this, if_pos (show keptB (enOf (4 + i) { y with got := (u : Int) }) = true from this)]
      rfl
    have hids : ((hv H').map idE).Perm ((hv H).map idE) := (hv'.map idE).trans (hvH.map idE).symm
    have hmem : ∀ e ∈ hv H, e ∈ hv H' ∨ e = enOf (4 + i) y := fun e he => by
      rcases List.mem_cons.1 (hvH.mem_iff.1 he) with rfl | h1
      · exact .inr rfl
      · exact .inl (hv'.mem_iff.2 (List.mem_cons_of_mem _ h1))
    have hyv : enOf (4 + i) y ∈ hv H := hvH.mem_iff.2 List.mem_cons_self
    have hyv' : enOf (4 + i) { y with got := (u : Int) } ∈ hv H' := hv'.mem_iff.2 List.mem_cons_self
    have hput : ∀ v p (i' : Nat) (e : En), e ∈ hv H → e.j = 4 + i' → e.m = p → e.put = ((v : Nat) : Int) → ∃ e ∈ hv H', e.j = 4 + i' ∧ e.m = p ∧ e.put = ((v : Nat) : Int) := fun v p i' e he a b d => by
      rcases hmem e he with h1 | rfl
      · exact ⟨e, h1, a, b, d⟩
      · have : y.put = (v : Int) := d
        omega
    have hget : ∀ (v : Nat) k' (i' : Nat) (e : En), e ∈ hv H → e.j = 4 + i' → idE e = k' → e.put < 0 → e.got = ((v : Nat) : Int) → ∃ e ∈ hv H', e.j = 4 + i' ∧ idE e = k' ∧ e.put < 0 ∧ e.got = ((v : Nat) : Int) := fun v k' i' e he a b d f => by
      rcases hmem e he with h1 | rfl
      · exact ⟨e, h1, a, b, d, f⟩
      · have : y.got = (v : Int) := f
        omega
    refine ⟨⟨by rw [hidd, h.hid], hBp.le (by omega), h.dk, by have := h.rl; omega, by have := h.left; omega, h.pl, by rw [hus, h.used], by rw [hnm, h.names], by rw [hks, h.keys], by rw [hway]; exact h.ways, h.free0, hkk.trans h.sim, hids.nodup_iff.2 h.nod, ?_, h.lt0, ?_, h.tn, h.te.trans (hkk.map _).symm, fun s' hs' => by rw [plR_same hnm hidd]; exact h.loc s' hs'⟩, fun _ => ?_⟩
    · intro e he2
      rw [hnx]
      rcases List.mem_cons.1 (hv'.mem_iff.1 he2) with rfl | he3
      · have := h.lt (enOf (4 + i) y) hyv
        exact this
      · exact h.lt e (hvH.mem_iff.2 (List.mem_cons_of_mem _ he3))
    · intro v z hz
      rw [hun] at hz
      rcases unit_set (by rw [hB.units]; exact hu) hz with ⟨rfl, rfl⟩ | ⟨hne, hz⟩
      · obtain ⟨ui, up, ug⟩ := h.unit v x hux
        refine ⟨⟨by have := ui.many; simp; omega, fun p hp => ?_, ui.pn, fun g hg => ?_, ?_⟩, up, ?_⟩
        · obtain ⟨a, b, i', d, e, he2, e3, e4, e5⟩ := ui.puts p hp
          exact ⟨a, by rw [hidd]; exact b, i', by rw [qI_keys hks]; exact d, hput v _ i' e he2 e3 e4 e5⟩
        · rcases List.mem_append.1 hg with hg | hg
          · obtain ⟨a, i', d, e, he2, e3, e4, e5, e6⟩ := ui.gets g hg
            exact ⟨a, i', by rw [qI_keys hks]; exact d, hget v _ i' e he2 e3 e4 e5 e6⟩
          · simp at hg; subst hg
            exact ⟨hw, i, by rw [qI_keys hks]; exact hqi, _, hyv', rfl, rfl, hka.1, rfl⟩
        · dsimp only
          rw [List.map_append, List.nodup_append]
          refine ⟨ui.gn, by simp, fun a ha b hb => ?_⟩
          obtain ⟨g, hg, rfl⟩ := List.mem_map.1 ha
          obtain ⟨-, i', -, e, he2, -, e4, -, e6⟩ := ui.gets g hg
          simp at hb
          subst hb
          intro e7
          have : e = enOf (4 + i) y := nodup_inj h.nod he2 hyv (by rw [e4, e7]; rfl)
          rw [this] at e6
          have : y.got = (v : Int) := e6
          omega
        · rw [upd_eq]; dsimp only; rw [List.map_append, ug]; rfl
      · obtain ⟨ui, up, ug⟩ := h.unit v z hz
        refine ⟨⟨by have := ui.many; omega, fun p hp => ?_, ui.pn, fun g hg => ?_, ui.gn⟩, up, by rw [upd_ne hne]; exact ug⟩
        · obtain ⟨a, b, i', d, e, he2, e3, e4, e5⟩ := ui.puts p hp
          exact ⟨a, by rw [hidd]; exact b, i', by rw [qI_keys hks]; exact d, hput v _ i' e he2 e3 e4 e5⟩
        · obtain ⟨a, i', d, e, he2, e3, e4, e5, e6⟩ := ui.gets g hg
          exact ⟨a, i', by rw [qI_keys hks]; exact d, hget v _ i' e he2 e3 e4 e5 e6⟩
    · rw [h.te.mem_iff, hk_ids]
      exact List.mem_map.2 ⟨enOf (4 + i) y, List.mem_filter.2 ⟨hyv, by unfold keptB enOf; simpa using hka.1⟩, rfl⟩
  · rw [if_neg he]
    have : getH H u s = H := by unfold getH; rw [if_neg he]
    rw [this]
    exact ⟨h.up, fun h0 => absurd h0 he⟩
end
end WB
/- a house and its disk: units that are over, or taken back; the power; opened anew -/
namespace WB
open Go
section
variable {W : ByteArray → Prop} {id : Int} {c : Nat} {H H0 : Ho} {D : Dk} {R : List ByteArray} {T : List Int} {P G : Nat → List Int}
theorem LInv.torn (h : LInv W id c H H0 D R T P G) (n : Int) : LInv W id c { H with torn := n } H0 D R T P G :=
  ⟨h.hid, h.B.torn' n, h.dk, h.rl, h.left, h.pl, h.used, h.names, h.keys, h.ways, h.free0, h.sim, h.nod, h.lt, h.lt0, fun u x hx => ⟨⟨(h.unit u x hx).1.many, (h.unit u x hx).1.puts, (h.unit u x hx).1.pn, (h.unit u x hx).1.gets, (h.unit u x hx).1.gn⟩, (h.unit u x hx).2⟩, h.tn, h.te, h.loc⟩
theorem LInv.downed (h : LInv W id c H H0 D R T P G) : LInv W id c { H with down := true } H0 D R T P G :=
  ⟨h.hid, ⟨h.B.id, h.B.used, h.B.next, h.B.sorted, h.B.nlen, h.B.qlen, h.B.qs, h.B.nodup, h.B.ways, h.B.units, h.B.batch, h.B.sent, h.B.arrived, h.B.right, h.B.loc⟩, h.dk, h.rl, h.left, h.pl, h.used, h.names, h.keys, h.ways, h.free0, h.sim, h.nod, h.lt, h.lt0, fun u x hx => ⟨⟨(h.unit u x hx).1.many, (h.unit u x hx).1.puts, (h.unit u x hx).1.pn, (h.unit u x hx).1.gets, (h.unit u x hx).1.gn⟩, (h.unit u x hx).2⟩, h.tn, h.te, h.loc⟩
theorem LInv.disk (h : LInv W id c H H0 D R T P G) {D' : Dk} (hd : DkInv D' R) (hl : -(10 + (c : Int)) ≤ D'.left ∧ D'.left ≤ 10) : LInv W id c H H0 D' R T P G :=
  ⟨h.hid, h.B, hd, h.rl, hl, h.pl, h.used, h.names, h.keys, h.ways, h.free0, h.sim, h.nod, h.lt, h.lt0, h.unit, h.tn, h.te, h.loc⟩
theorem LInv.cut (h : LInv W id c H H0 D R T P G) {n : Int} (hn : n ≤ 10) : LInv W id c H H0 (dkCut D n) R T P G := h.disk (h.dk.cut n) (by unfold dkCut; dsimp only; omega)
/-- a house that is opened has what is written -/
theorem LInv.opened (h : LInv W id c H H0 D R T P G) : openH id D = H0 := open_plays h.dk h.pl
theorem LInv.B0 (h : LInv W id c H H0 D R T P G) (hi4 : 0 ≤ id ∧ id < 4) (hc : c ≤ 200) : HoB (10 + 250 * R.length) H0 :=
  h.pl.bound (hNew_B hi4) (fun s hs => (h.dk.recs s hs).1) (by have := h.rl; simp only [hNew]; omega)
theorem LInv.hk0 (h : LInv W id c H H0 D R T P G) : hk H0 = (hv H0).map jmE := by
  unfold hk
  rw [List.filter_eq_self.2]
  intro e he
  have := (h.free0 e he).1
  unfold keptB; simp [this]
theorem LInv.kept (h : LInv W id c H H0 D R T P G) (hi4 : 0 ≤ id ∧ id < 4) (hc : c ≤ 200) {ns : List ByteArray} (hp : ns.Perm (H0.queues.map (·.1))) : ((ns.flatMap (keptAt H0)).map (·.id)).Perm T := by
  refine (kept_keys (h.B0 hi4 hc) (fun j hj => ?_) hp).trans (List.Perm.trans ?_ h.te.symm)
  · refine h.ways.2 _ ?_
    unfold Ho.wAt
    rw [List.getD_eq_getElem?_getD, List.getElem?_eq_getElem (by rw [(h.B0 hi4 hc).ways]; exact hj)]
    exact List.getElem_mem _
  · rw [h.hk0]
    exact (h.sim.map _).symm
theorem LInv.units0 (h : LInv W id c H H0 D R T P G) {u : Nat} {x : Unt} (hx : H0.units[u]? = some x) : x = ⟨[], []⟩ := by
  rw [h.pl.same.2.2.2] at hx
  have := List.mem_of_getElem? hx
  exact List.eq_of_mem_replicate this
theorem UI.nil (H : Ho) (u : Nat) (c : Nat) : UI H u ⟨[], []⟩ c := ⟨Nat.zero_le _, (fun p hp => by cases hp), List.nodup_nil, (fun p hp => by cases hp), List.nodup_nil⟩
theorem LInv.ids0 (h : LInv W id c H H0 D R T P G) : ((hv H0).map idE).Nodup := by
  have h1 : ((hv H0).map idE).Perm ((hk H).map (·.2.id)) := by
    refine List.Perm.trans (List.Perm.of_eq ?_) (h.sim.map (·.2.id)).symm
    rw [List.map_map]; rfl
  rw [h1.nodup_iff, hk_ids]
  exact h.nod.sublist (List.filter_sublist.map _)
theorem LInv.in0 (h : LInv W id c H H0 D R T P G) {e : En} (he : e ∈ hv H0) : ∃ e' ∈ hv H, e'.j = e.j ∧ e'.m = e.m ∧ e'.put < 0 := by
  have h1 : jmE e ∈ hk H := h.sim.mem_iff.2 (List.mem_map_of_mem he)
  unfold hk at h1
  obtain ⟨e', h2, h3⟩ := List.mem_map.1 h1
  obtain ⟨h4, h5⟩ := List.mem_filter.1 h2
  unfold jmE at h3
  simp only [Prod.mk.injEq] at h3
  exact ⟨e', h4, h3.1, h3.2, by unfold keptB at h5; simpa using h5⟩
theorem LInv.to0 (h : LInv W id c H H0 D R T P G) {e : En} (he : e ∈ hv H) (hp : e.put < 0) : ∃ e' ∈ hv H0, e'.j = e.j ∧ e'.m = e.m := by
  have h1 : jmE e ∈ (hv H0).map jmE := h.sim.mem_iff.1 (by
    unfold hk
    exact List.mem_map_of_mem (List.mem_filter.2 ⟨he, by unfold keptB; simpa using hp⟩))
  obtain ⟨e', h2, h3⟩ := List.mem_map.1 h1
  unfold jmE at h3
  simp only [Prod.mk.injEq] at h3
  exact ⟨e', h2, h3.1, h3.2⟩
/-- opened anew -/
theorem LInv.reopen (h : LInv W id c H H0 D R T P G) (hi4 : 0 ≤ id ∧ id < 4) (hc : c ≤ 200) : LInv W id c H0 H0 D R T (fun _ => []) (fun _ => []) := by
  have hB0 := h.B0 hi4 hc
  refine ⟨h.pl.same.1, hB0.le (by have := h.rl; omega), h.dk, h.rl, h.left, h.pl, by rw [h.pl.used]; simp [hNew], rfl, rfl, ⟨h.ways.2, h.ways.2⟩, h.free0, by rw [h.hk0], h.ids0, fun e he => ?_, h.lt0, fun u x hx => ?_, h.tn, ?_, fun s hs => ?_⟩
  · obtain ⟨e', h1, -, h2, -⟩ := h.in0 he
    have := h.lt e' h1
    rw [h2] at this
    exact ⟨this.1, this.2.1, h.lt0 e he⟩
  · have := h.units0 hx
    subst this
    exact ⟨UI.nil _ _ _, rfl, rfl⟩
  · rw [h.hk0]
    exact h.te.trans (h.sim.map _)
  · rw [plR_same h.names (by rw [h.pl.same.1, h.hid]; rfl)]
    exact h.loc s hs
def addT (T : List Int) (k : Int) : List Int := if k ∈ T then T else T ++ [k]
def delT (T : List Int) (k : Int) : List Int := T.filter fun x => !decide (x = k)
theorem addT_mem {T : List Int} {k x : Int} : x ∈ addT T k ↔ x = k ∨ x ∈ T := by
  unfold addT
  split
  · rename_i h; exact ⟨.inr, fun h1 => h1.elim (fun e => e ▸ h) id⟩
  · rw [List.mem_append, List.mem_singleton, or_comm]
theorem addT_nodup {T : List Int} (h : T.Nodup) (k : Int) : (addT T k).Nodup := by
  unfold addT
  split
  · exact h
  · rename_i h1
    rw [List.nodup_append]
    exact ⟨h, by simp, fun a ha b hb => by simp at hb; subst hb; rintro rfl; exact h1 ha⟩
theorem delT_mem {T : List Int} {k x : Int} : x ∈ delT T k ↔ x ≠ k ∧ x ∈ T := by
  unfold delT; rw [List.mem_filter]; simp [and_comm]
theorem adds_mem {x : Int} : ∀ (l T : List Int), x ∈ l.foldl addT T ↔ x ∈ l ∨ x ∈ T
  | [], T => by simp
  | k :: l, T => by
    rw [List.foldl_cons, adds_mem l, addT_mem, List.mem_cons]
    constructor
    · rintro (h | h | h)
      · exact .inl (.inr h)
      · exact .inl (.inl h)
      · exact .inr h
    · rintro ((h | h) | h)
      · exact .inr (.inl h)
      · exact .inl h
      · exact .inr (.inr h)
theorem adds_nodup : ∀ (l : List Int) {T : List Int}, T.Nodup → (l.foldl addT T).Nodup
  | [], _, h => h
  | k :: l, _, h => adds_nodup l (addT_nodup h k)
theorem dels_mem {x : Int} : ∀ (l T : List Int), x ∈ l.foldl delT T ↔ x ∉ l ∧ x ∈ T
  | [], T => by simp
  | k :: l, T => by
    rw [List.foldl_cons, dels_mem l, delT_mem, List.mem_cons]
    constructor
    · rintro ⟨h, h1, h2⟩
      exact ⟨fun h3 => h3.elim h1 h, h2⟩
    · rintro ⟨h, h1⟩
      exact ⟨fun h3 => h (.inr h3), fun h3 => h (.inl h3), h1⟩
theorem dels_nodup : ∀ (l : List Int) {T : List Int}, T.Nodup → (l.foldl delT T).Nodup
  | [], _, h => h
  | k :: l, _, h => dels_nodup l (h.sublist List.filter_sublist)
def doneT (T p g : List Int) : List Int := g.foldl delT (p.foldl addT T)
theorem hEnds_hv (H : Ho) {u : Int} (hu : 0 ≤ u) : hv (hEnds H u) = ((hv H).filter fun e => !decide (e.put = u)).map (freeE u) := by
  unfold hv
  rw [hEnds_all, vw_ends hu]
/-- Backout -/
theorem LInv.back (h : LInv W id c H H0 D R T P G) {u : Nat} (hu : u < 5) :
    LInv W id (c + 1) (bkH H u) H0 D R T (if bkE H u = 0 then upd P u [] else P) (if bkE H u = 0 then upd G u [] else G) := by
  by_cases he : bkE H u = 0
  · rw [if_pos he, if_pos he]
    have hB := h.B
    have hBp := hB.bk (u : Int)
    have e1 : bkH H u = putU (hEnds H u) u noUnit := by unfold bkH; rw [if_pos he, Int.toNat_natCast]
    rw [e1] at hBp ⊢
    have hv' : hv (putU (hEnds H u) u noUnit) = ((hv H).filter fun e => !decide (e.put = (u : Int))).map (freeE u) := hEnds_hv H (by omega)
    have hks : keysOf (putU (hEnds H u) u noUnit) = keysOf H := by unfold keysOf putU hEnds; simp
    have hqs := qI_keys hks
    generalize hH' : putU (hEnds H u) u noUnit = H' at hBp hv' hks hqs
    have hnm : H'.names = H.names := by rw [← hH']; rfl
    have hidd : H'.id = H.id := by rw [← hH']; rfl
    have hus : H'.used = H.used := by rw [← hH']; rfl
    have hnx : H'.next = H.next := by rw [← hH']; rfl
    have hun : H'.units = H.units.set u noUnit := by rw [← hH']; rfl
    have hway : H'.ways = H.ways.map fun q => qends q u true := by rw [← hH']; rfl
    have hmem : ∀ e ∈ hv H, e.put ≠ (u : Int) → freeE u e ∈ hv H' := fun e he hp => by
      rw [hv']; exact List.mem_map_of_mem (List.mem_filter.2 ⟨he, by simpa using hp⟩)
    have hkk : hk H' = hk H := by
      unfold hk
      rw [hv', List.filter_map, List.map_map, List.filter_filter]
      rw [show (jmE ∘ freeE u) = jmE from rfl]
      congr 1
      apply List.filter_congr
      intro e _
      unfold keptB freeE
      dsimp only [Function.comp]
      by_cases e1 : e.put = (u : Int)
      · have : ¬ e.put < 0 := by omega
        simp [e1]
      · simp [e1]
    refine ⟨by rw [hidd, h.hid], hBp.le (by omega), h.dk, by have := h.rl; omega, by have := h.left; omega, h.pl, by rw [hus, h.used], by rw [hnm, h.names], by rw [hks, h.keys], ⟨fun q hq => ?_, h.ways.2⟩, h.free0, by rw [hkk]; exact h.sim, ?_, ?_, h.lt0, ?_, h.tn, by rw [hkk]; exact h.te, fun s' hs' => by rw [plR_same hnm hidd]; exact h.loc s' hs'⟩
    · rw [hway] at hq
      obtain ⟨q0, h0, rfl⟩ := List.mem_map.1 hq
      have := h.ways.1 q0 h0
      unfold qends
      split
      · exact this
      · dsimp only; rw [this]; rfl
    · rw [hv', List.map_map, show (idE ∘ freeE u) = idE from rfl]
      exact h.nod.sublist (List.filter_sublist.map _)
    · intro e he2
      rw [hv'] at he2
      obtain ⟨e', h1, rfl⟩ := List.mem_map.1 he2
      rw [hnx]
      exact h.lt e' (List.mem_filter.1 h1).1
    · intro v y hy
      rw [hun] at hy
      rcases unit_set (by rw [hB.units]; exact hu) hy with ⟨rfl, rfl⟩ | ⟨hne, hy⟩
      · exact ⟨UI.nil _ _ _, by rw [upd_eq]; rfl, by rw [upd_eq]; rfl⟩
      · obtain ⟨ui, up, ug⟩ := h.unit v y hy
        have hvu : ((v : Nat) : Int) ≠ (u : Int) := fun e => hne (by omega)
        refine ⟨⟨by have := ui.many; omega, fun p hp => ?_, ui.pn, fun g hg => ?_, ui.gn⟩, by rw [upd_ne hne]; exact up, by rw [upd_ne hne]; exact ug⟩
        · obtain ⟨a, b, i', d, e, he2, e3, e4, e5⟩ := ui.puts p hp
          refine ⟨a, by rw [hidd]; exact b, i', by rw [hqs]; exact d, _, hmem e he2 (by rw [e5]; exact hvu), e3, e4, ?_⟩
          unfold freeE; dsimp only; rw [if_neg (by rw [e5]; exact hvu)]; exact e5
        · obtain ⟨a, i', d, e, he2, e3, e4, e5, e6⟩ := ui.gets g hg
          have hpu : e.put ≠ (u : Int) := by omega
          refine ⟨a, i', by rw [hqs]; exact d, _, hmem e he2 hpu, e3, e4, ?_, ?_⟩
          · unfold freeE; dsimp only; rw [if_neg hpu]; exact e5
          · unfold freeE; dsimp only; rw [if_neg (by rw [e6]; exact hvu)]; exact e6
  · rw [if_neg he, if_neg he]
    have : bkH H u = H := by unfold bkH; rw [if_neg he]
    rw [this]
    exact h.up
end
end WB
/- a house and its disk: a unit that is over -/
namespace WB
open Go
section
variable {W : ByteArray → Prop} {id : Int} {c : Nat} {H H0 : Ho} {D : Dk} {R : List ByteArray} {T : List Int} {P G : Nat → List Int}
theorem dkOff_err {D : Dk} : dkErr D = 0 ↔ ¬ dkOff D = true := by
  unfold dkErr
  split <;> simp_all
theorem dkWrite_left {D : Dk} {k : Nat} {s : ByteArray} {torn : Int} : (dkWrite D k s torn).left = if dkOff D = true then D.left else D.left - 1 := by
  unfold dkWrite
  split
  · split <;> rfl
  · rfl
/-- a record that is not written -/
theorem LInv.fail (h : LInv W id c H H0 D R T P G) {s : ByteArray} (hs : s.size ≤ 700000) (hb : noB 124 s) (he : logE H D ≠ 0) : LInv W id c (logH H D) H0 (logD H D s) R T P G := by
  unfold logE at he
  unfold logH logD
  by_cases h1 : roomE H ≠ 0
  · rw [if_pos h1, if_pos h1]; exact h
  · rw [if_neg h1] at he
    rw [if_neg h1, if_neg h1, if_pos he]
    have hr := (roomE_z (H := H) (by simpa using h1)).2
    have ho : dkOff D = true := by
      cases hd : dkOff D with
      | true => rfl
      | false => exact absurd (dkOff_err.2 (by rw [hd]; simp)) he
    refine (h.downed.disk (D' := dkWrite D H.used (sealS H.used s) H.torn) ?_ ?_)
    · rw [h.used]
      exact h.dk.bad hs hb ho (by rw [← h.used]; exact hr)
    · rw [dkWrite_left, if_pos ho]
      exact h.left
set_option maxHeartbeats 1000000 in
/-- Commit -/
theorem LInv.commit (h : LInv W id c H H0 D R T P G) (hi4 : 0 ≤ id ∧ id < 4) (hc : c ≤ 200) {u : Nat} (hu : u < 5) :
    ∃ H0' R', LInv W id (c + 1) (cmH H D u) H0' (cmD H D u) R' (if cmE H D u = 0 then doneT T (P u) (G u) else T) (if cmE H D u = 0 then upd P u [] else P) (if cmE H D u = 0 then upd G u [] else G) := by
  unfold cmE cmH cmD
  by_cases h1 : cmPE H u ≠ 0
  · rw [if_pos h1, if_pos h1, if_pos h1, if_neg h1, if_neg h1, if_neg h1]
    exact ⟨H0, R, h.up⟩
  rw [if_neg h1, if_neg h1, if_neg h1]
  have hux := uAt_of h.B hu
  rw [Int.toNat_natCast]
  generalize hx : H.uAt u = x at hux
  have hox := UI.ok h hux hc
  have hsz := hox.size
  have hrs : (recU x).size ≤ 700000 := by
    rw [recU_eq]
    have e1 : (chr1 117).size = 1 := rfl
    have e2 : (chr1 58).size = 1 := rfl
    simp only [ByteArray.size_append]; omega
  by_cases h2 : logE H D ≠ 0
  · rw [if_pos h2, if_neg h2, if_neg h2, if_neg h2]
    exact ⟨H0, R, (h.fail hrs (bar_rec hox) h2).up⟩
  rw [if_neg h2]
  have h2 : logE H D = 0 := by simpa using h2
  rw [if_pos h2, if_pos h2, if_pos h2]
  have h3 : roomE H = 0 := by
    unfold logE at h2
    by_cases h4 : roomE H = 0
    · exact h4
    · rw [if_pos h4] at h2; exact absurd h2 h4
  have h4 : dkErr D = 0 := by unfold logE at h2; rw [if_neg (by simpa using h3)] at h2; exact h2
  have ho : ¬ dkOff D = true := dkOff_err.1 h4
  have eL : logH H D = { H with used := H.used + 1 } := by
    unfold logH; rw [if_neg (by simpa using h3), if_neg (by simpa using h4)]
  have eD : logD H D (recU x) = dkWrite D H.used (sealS H.used (recU x)) H.torn := by
    unfold logD; rw [if_neg (by simpa using h3)]
  rw [eL, eD]
  obtain ⟨ui, up, ug⟩ := h.unit u x hux
  have hB := h.B
  have hB1 : HoB (1000 + 250 * c) (putU (hEnds { H with used := H.used + 1 } u) u noUnit) := by
    have := hB.log (D := D)
    rw [eL] at this
    exact (this.hEnds _).putU _ _
  have hv1 : hv (putU (hEnds { H with used := H.used + 1 } u) u noUnit) = ((hv H).filter fun e => !decide (e.put = (u : Int))).map (freeE u) := hEnds_hv { H with used := H.used + 1 } (by omega)
  have hks : keysOf (putU (hEnds { H with used := H.used + 1 } u) u noUnit) = keysOf H := by unfold keysOf putU hEnds; simp
  generalize hH1 : putU (hEnds { H with used := H.used + 1 } u) u noUnit = H1 at hB1 hv1 hks
  have hnm : H1.names = H.names := by rw [← hH1]; rfl
  have hidd : H1.id = H.id := by rw [← hH1]; rfl
  have hus : H1.used = H.used + 1 := by rw [← hH1]; rfl
  have hnx : H1.next = H.next := by rw [← hH1]; rfl
  have hun : H1.units = H.units.set u noUnit := by rw [← hH1]; rfl
  have hway : H1.ways = H.ways.map fun q => qends q u true := by rw [← hH1]; rfl
  have hmem : ∀ e ∈ hv H, e.put ≠ (u : Int) → freeE u e ∈ hv H1 := fun e he hp => by
    rw [hv1]; exact List.mem_map_of_mem (List.mem_filter.2 ⟨he, by simpa using hp⟩)
  have hfrom : ∀ e ∈ hv H1, ∃ e' ∈ hv H, e'.put ≠ (u : Int) ∧ e = freeE u e' := fun e he => by
    rw [hv1] at he
    obtain ⟨e', h5, rfl⟩ := List.mem_map.1 he
    obtain ⟨h6, h7⟩ := List.mem_filter.1 h5
    exact ⟨e', h6, by simpa using h7, rfl⟩
  have hn1 : ((hv H1).map idE).Nodup := by
    rw [hv1, List.map_map, show (idE ∘ freeE u) = idE from rfl]
    exact h.nod.sublist (List.filter_sublist.map _)
  obtain ⟨H2, e2, p2, k2, n2, w2, s2, x2, y2, hB2⟩ := ends_bag hB1 hox hn1
    (fun p hp => by
      obtain ⟨-, b, i, d, -⟩ := ui.puts p hp
      exact ⟨by rw [hidd]; exact b, i, by rw [qI_keys hks]; exact d⟩) ui.pn
    (fun p hp e he e3 => by
      obtain ⟨e', h5, h6, rfl⟩ := hfrom e he
      obtain ⟨-, -, i, -, e4, h7, -, h8, h9⟩ := ui.puts p hp
      have : e' = e4 := nodup_inj h.nod h5 h7 (by rw [show idE e' = p.1.id from e3]; unfold idE; rw [h8])
      rw [this] at h6; exact h6 h9) ui.gn
    (fun g hg => by
      obtain ⟨-, i, d, e, h5, h6, h7, h8, -⟩ := ui.gets g hg
      exact ⟨i, by rw [qI_keys hks]; exact d, _, hmem e h5 (by omega), h6, h7⟩)
  have hB0 := h.B0 hi4 hc
  have hid0 : H0.id = H.id := by rw [h.pl.same.1, h.hid]; rfl
  obtain ⟨H3, e3, p3, k3, n3, w3, s3, x3, y3, hB3⟩ := ends_bag hB0 hox h.ids0
    (fun p hp => by
      obtain ⟨-, b, i, d, -⟩ := ui.puts p hp
      exact ⟨by rw [hid0]; exact b, i, by rw [qI_keys h.keys]; exact d⟩) ui.pn
    (fun p hp e he e3 => by
      obtain ⟨e', h5, -, h6, h7⟩ := h.in0 he
      obtain ⟨-, -, i, -, e4, h8, -, h9, h10⟩ := ui.puts p hp
      have : e' = e4 := nodup_inj h.nod h5 h8 (by unfold idE at *; rw [h6, h9]; exact e3)
      rw [this, h10] at h7; omega) ui.gn
    (fun g hg => by
      obtain ⟨-, i, d, e, h5, h6, h7, h8, -⟩ := ui.gets g hg
      obtain ⟨e', h9, h10, h11⟩ := h.to0 h5 h8
      exact ⟨i, by rw [qI_keys h.keys]; exact d, e', h9, by rw [h10]; exact h6, by unfold idE at *; rw [h11]; exact h7⟩)
  rw [e2]
  dsimp only
  have hp4 : H3.used = H0.used := s3.used
  have hu0 : H0.used = R.length := by rw [h.pl.used]; simp [hNew]
  have hpl : Plays (hNew id) (R ++ [recU x]) { H3 with used := H0.used + 1 } := h.pl.snoc (by rw [hplays_unit]; exact e3)
  have hpm : x.puts.length ≤ c := by have := ui.many; omega
  have hrlen : R.length < 300 := by have := h.rl; omega
  have hdk : DkInv (dkWrite D H.used (sealS H.used (recU x)) H.torn) (R ++ [recU x]) := by
    rw [h.used]
    exact h.dk.good hrs (bar_rec hox) (hox.recK (by omega)) ho hrlen
  have hksq : (x.puts.map fun p => (⟨4 + (H1.qI p.1.queue).getD 0, p.1, -1, -1⟩ : En)) = x.puts.map fun p => ⟨4 + (H0.qI p.1.queue).getD 0, p.1, -1, -1⟩ := by
    apply List.map_congr_left
    intro p _
    rw [qI_keys hks, qI_keys h.keys]
  rw [hksq] at p2
  generalize hN : (x.puts.map fun p => (⟨4 + (H0.qI p.1.queue).getD 0, p.1, -1, -1⟩ : En)) = N at p2 p3
  have hNk : ∀ e ∈ N, e.put = -1 ∧ e.got = -1 ∧ ∃ p ∈ x.puts, e.m = p.1 := fun e he => by
    rw [← hN] at he
    obtain ⟨p, hp, rfl⟩ := List.mem_map.1 he
    exact ⟨rfl, rfl, p, hp, rfl⟩
  have hNi : N.map idE = x.puts.map fun p => p.1.id := by rw [← hN, List.map_map]; rfl
  have hk1 : ((hv H1).filter keptB).map jmE = hk H := by
    unfold hk
    rw [hv1, List.filter_map, List.map_map, List.filter_filter]
    rw [show (jmE ∘ freeE u) = jmE from rfl]
    congr 1
    apply List.filter_congr
    intro e _
    unfold keptB freeE
    dsimp only [Function.comp]
    by_cases e1 : e.put = (u : Int)
    · have : ¬ e.put < 0 := by omega
      simp [e1]
    · simp [e1]
  have hsim : (hk H2).Perm ((hv H3).map jmE) := by
    let g : Nat × Ms → Bool := fun y => !decide (y.2.id ∈ x.gets.map (·.1))
    have a1 : (hk H2).Perm ((((N ++ hv H1).filter keptB).map jmE).filter g) := by
      unfold hk
      refine ((p2.filter keptB).map jmE).trans (List.Perm.of_eq ?_)
      rw [List.filter_map, List.filter_filter, List.filter_filter]
      congr 1
      apply List.filter_congr
      intro e _
      rw [Bool.and_comm]; rfl
    have a2 : ((hv H3).map jmE).Perm (((N ++ hv H0).map jmE).filter g) := by
      refine (p3.map jmE).trans (List.Perm.of_eq ?_)
      rw [List.filter_map]; rfl
    refine a1.trans (List.Perm.trans (List.Perm.filter g ?_) a2.symm)
    rw [List.filter_append, List.map_append, List.map_append, hk1]
    rw [List.filter_eq_self.2 (fun e he => by unfold keptB; simp [(hNk e he).1])]
    exact (List.Perm.refl _).append h.sim
  have hnod2 : ((hv H2).map idE).Nodup := by
    refine (p2.map idE).nodup_iff.2 (List.Nodup.sublist (List.filter_sublist.map _) ?_)
    rw [List.map_append, List.nodup_append, hNi]
    refine ⟨ui.pn, hn1, fun a ha b hb => ?_⟩
    obtain ⟨p, hp, rfl⟩ := List.mem_map.1 ha
    obtain ⟨e, he, rfl⟩ := List.mem_map.1 hb
    obtain ⟨e', h5, h6, rfl⟩ := hfrom e he
    obtain ⟨-, -, i, -, e4, h7, -, h8, h9⟩ := ui.puts p hp
    intro e5
    have : e' = e4 := nodup_inj h.nod h5 h7 (by unfold idE at *; rw [h8]; exact e5.symm)
    rw [this] at h6; exact h6 h9
  have hm2 : ∀ e ∈ hv H2, (∃ p ∈ x.puts, e.m = p.1) ∨ ∃ e' ∈ hv H, e.m = e'.m := fun e he => by
    rw [p2.mem_iff, List.mem_filter] at he
    rcases List.mem_append.1 he.1 with h5 | h5
    · exact .inl (hNk e h5).2.2
    · obtain ⟨e', h6, -, rfl⟩ := hfrom e h5
      exact .inr ⟨e', h6, rfl⟩
  have hstay : ∀ e ∈ hv H, e.put ≠ (u : Int) → idE e ∉ x.gets.map (·.1) → freeE u e ∈ hv H2 := fun e he h5 h6 => by
    rw [p2.mem_iff, List.mem_filter]
    exact ⟨List.mem_append_right _ (hmem e he h5), by rw [show idE (freeE u e) = idE e from rfl]; simpa using h6⟩
  have hgot : ∀ e ∈ hv H, idE e ∈ x.gets.map (·.1) → e.put < 0 ∧ e.got = (u : Int) := fun e he h5 => by
    obtain ⟨g, hg, h6⟩ := List.mem_map.1 h5
    obtain ⟨-, i, -, e4, h7, -, h8, h9, h10⟩ := ui.gets g hg
    have : e = e4 := nodup_inj h.nod he h7 (by rw [h8]; exact h6.symm)
    rw [this]; exact ⟨h9, h10⟩
  refine ⟨{ H3 with used := H0.used + 1 }, R ++ [recU x], by rw [s2.id, hidd, h.hid], hB2.le (by omega), hdk, by have := h.rl; simp; omega, ?_, hpl, by rw [s2.used, hus, h.used]; simp, by rw [n2, hnm]; exact n3.trans h.names, ?_, ⟨fun q hq => ?_, fun q hq => ?_⟩, fun e he => ?_, hsim, hnod2, fun e he => ?_, fun e he => ?_, fun v y hy => ?_, dels_nodup _ (adds_nodup _ h.tn), ?_, fun s' hs' => ?_⟩
  · rw [dkWrite_left, if_neg ho]; have := h.left; omega
  · rw [k2, hks]; exact k3.trans h.keys
  · rw [w2, hway] at hq
    obtain ⟨q0, h0, rfl⟩ := List.mem_map.1 hq
    have := h.ways.1 q0 h0
    unfold qends
    split
    · exact this
    · dsimp only; rw [this]; rfl
  · exact h.ways.2 q (by rw [← w3]; exact hq)
  · have he : e ∈ hv H3 := he
    rw [p3.mem_iff, List.mem_filter] at he
    rcases List.mem_append.1 he.1 with h5 | h5
    · exact ⟨(hNk e h5).1, (hNk e h5).2.1⟩
    · exact h.free0 e h5
  · have hle : H.next ≤ H2.next := by rw [← hnx]; exact x2
    rcases hm2 e he with ⟨p, hp, h5⟩ | ⟨e', h6, h5⟩
    · rw [h5]
      obtain ⟨-, -, i, -, e4, h7, -, h8, -⟩ := ui.puts p hp
      have := h.lt e4 h7
      rw [h8] at this
      exact ⟨this.1, this.2.1, by omega⟩
    · rw [h5]
      have := h.lt e' h6
      exact ⟨this.1, this.2.1, by omega⟩
  · have he : e ∈ hv H3 := he
    show e.m.id / 4 < H3.next
    rw [p3.mem_iff, List.mem_filter] at he
    rcases List.mem_append.1 he.1 with h5 | h5
    · obtain ⟨-, -, p, hp, h6⟩ := hNk e h5
      rw [h6]; exact y3 p hp
    · have := h.lt0 e h5; omega
  · rw [s2.units, hun] at hy
    rcases unit_set (by rw [hB.units]; exact hu) hy with ⟨rfl, rfl⟩ | ⟨hne, hy⟩
    · exact ⟨UI.nil _ _ _, by rw [upd_eq]; rfl, by rw [upd_eq]; rfl⟩
    · obtain ⟨vi, vp, vg⟩ := h.unit v y hy
      have hvu : ((v : Nat) : Int) ≠ (u : Int) := fun e => hne (by omega)
      have hq2 : ∀ s, H2.qI s = H.qI s := fun s => by rw [qI_keys k2, qI_keys hks]
      refine ⟨⟨by have := vi.many; omega, fun p hp => ?_, vi.pn, fun g hg => ?_, vi.gn⟩, by rw [upd_ne hne]; exact vp, by rw [upd_ne hne]; exact vg⟩
      · obtain ⟨a, b, i', d, e, he2, e3, e4, e5⟩ := vi.puts p hp
        have hpu : e.put ≠ (u : Int) := by rw [e5]; exact hvu
        refine ⟨a, by rw [s2.id, hidd]; exact b, i', by rw [hq2]; exact d, _, hstay e he2 hpu (fun hh => ?_), e3, e4, ?_⟩
        · have := (hgot e he2 hh).1; omega
        · unfold freeE; dsimp only; rw [if_neg hpu]; exact e5
      · obtain ⟨a, i', d, e, he2, e3, e4, e5, e6⟩ := vi.gets g hg
        have hpu : e.put ≠ (u : Int) := by omega
        refine ⟨a, i', by rw [hq2]; exact d, _, hstay e he2 hpu (fun hh => ?_), e3, e4, ?_, ?_⟩
        · have := (hgot e he2 hh).2
          exact hvu (by rw [← e6, this])
        · unfold freeE; dsimp only; rw [if_neg hpu]; exact e5
        · unfold freeE; dsimp only; rw [if_neg (by rw [e6]; exact hvu)]; exact e6
  · have hnk : ((hk H2).map (·.2.id)).Nodup := by rw [hk_ids]; exact hnod2.sublist (List.filter_sublist.map _)
    unfold doneT
    refine (List.perm_ext_iff_of_nodup (dels_nodup _ (adds_nodup _ h.tn)) hnk).2 fun a => ?_
    rw [dels_mem, adds_mem, ← up, ← ug, ← hNi]
    have a1 : ((hk H2).map (·.2.id)).Perm (((N ++ hv H0).filter fun e => !decide (idE e ∈ x.gets.map (·.1))).map idE) := by
      refine (hsim.map _).trans ?_
      rw [List.map_map]
      exact p3.map _
    rw [a1.mem_iff]
    have a2 : a ∈ T ↔ a ∈ (hv H0).map idE := by
      rw [(h.te.trans (h.sim.map _)).mem_iff, List.map_map]; rfl
    rw [a2]
    constructor
    · rintro ⟨h5, h6⟩
      have h7 : a ∈ (N ++ hv H0).map idE := by rw [List.map_append, List.mem_append]; exact h6
      obtain ⟨e, h8, rfl⟩ := List.mem_map.1 h7
      exact List.mem_map.2 ⟨e, List.mem_filter.2 ⟨h8, by simpa using h5⟩, rfl⟩
    · intro h10
      obtain ⟨e, h5, rfl⟩ := List.mem_map.1 h10
      obtain ⟨h6, h7⟩ := List.mem_filter.1 h5
      refine ⟨by simpa using h7, ?_⟩
      rw [← List.mem_append, ← List.map_append]
      exact List.mem_map_of_mem h6
  · rw [plR_same (H := H) (by rw [n2, hnm]) (by rw [s2.id, hidd])]
    exact h.loc s' hs'
end
end WB
/- a house that has just been opened, and has its names -/
namespace WB
open Go
theorem HoB.name {n : Nat} {H : Ho} (h : HoB n H) (D : Dk) (x : Nm) : HoB (n + 1) (nameH H D x) := by
  unfold nameH
  split
  · exact h.le (by omega)
  · rename_i h1
    have hr : rightNm x = true := by
      cases hr : rightNm x with
      | true => rfl
      | false =>
        have : setErr H.names x ≠ 0 := fun h0 => by rw [setErr_right h0] at hr; cases hr
        unfold namePE at h1
        rw [if_pos this] at h1
        exact absurd this h1
    unfold wrH
    split
    · exact (h.log (D := D)).plays (recOk_name hr) (by omega)
    · exact (h.log (D := D)).le (by omega)
theorem dkWrite_cut {D : Dk} {k : Nat} {s : ByteArray} {torn : Int} : (dkWrite D k s torn).cut = D.cut := by
  unfold dkWrite
  split
  · split <;> rfl
  · rfl
theorem name_step {H : Ho} {D : Dk} {x : Nm} {R : List ByteArray} (hd : DkInv D R) (hc : D.cut = false) (hu : H.used = R.length) (hr : R.length < 300) (hdn : H.down = false) (hs : setErr H.names x = 0) (hn : x.name ≠ deadS) :
    nameE H D x = 0 ∧ nameH H D x = hset { H with used := H.used + 1 } x ∧ DkInv (nameD H D x) (R ++ [nameR x]) ∧ (nameD H D x).cut = false ∧ (nameD H D x).left = D.left - 1 := by
  have e1 : namePE H x = 0 := by unfold namePE; rw [if_neg (by simpa using hs), if_neg hn]
  have e2 : roomE H = 0 := by unfold roomE; rw [if_neg (by simp [hdn]), if_neg (by omega)]
  have ho : ¬ dkOff D = true := by unfold dkOff; simp [hc]
  have e3 : dkErr D = 0 := dkOff_err.2 ho
  have e4 : logE H D = 0 := by unfold logE; rw [if_neg (by simpa using e2)]; exact e3
  have e5 : logH H D = { H with used := H.used + 1 } := by unfold logH; rw [if_neg (by simpa using e2), if_neg (by simpa using e3)]
  have e6 : nameD H D x = dkWrite D H.used (sealS H.used (nameR x)) H.torn := by unfold nameD logD; rw [if_neg (by simpa using e1), if_neg (by simpa using e2)]
  have hright := setErr_right hs
  have hrec := recOk_name hright
  refine ⟨by unfold nameE; rw [if_neg (by simpa using e1)]; exact e4, ?_, ?_, ?_, ?_⟩
  · unfold nameH wrH
    rw [if_neg (by simpa using e1), if_pos e4, e5, hplays_name (H := { H with used := H.used + 1 }) hs]
  · rw [e6, hu]
    exact hd.good (by have := hrec.size; omega) (bar_name hright) (hrec.mono (by omega)) ho hr
  · rw [e6, dkWrite_cut]; exact hc
  · rw [e6, dkWrite_left, if_neg ho]
def inS : ByteArray := ⟨#[105, 110]⟩
def outS : ByteArray := ⟨#[111, 117, 116]⟩
def farS : ByteArray := ⟨#[102, 97, 114]⟩
/-- the names that a house gets -/
def nms (j : Int) (i : Nat) : Nm := if i = 0 then ⟨inS, ⟨#[]⟩, -1⟩ else if i = 1 then ⟨outS, ⟨#[]⟩, -1⟩ else ⟨farS, inS, j⟩
def nmH (j : Int) (s : Ho × Dk) : Nat → Ho × Dk
  | 0 => s
  | i + 1 => (nameH (nmH j s i).1 (nmH j s i).2 (nms j i), nameD (nmH j s i).1 (nmH j s i).2 (nms j i))
def namedAt (id j : Int) (u : Nat) (ns : List Nm) (qs : List (ByteArray × Qu)) : Ho := ⟨id, u, false, -1, 0, ns, qs, List.replicate 4 ⟨[], 0⟩, List.replicate 5 ⟨[], []⟩, List.replicate 4 [], List.replicate 4 0, List.replicate 4 0⟩
def namedH (id j : Int) : Ho := namedAt id j 3 [⟨farS, inS, j⟩, ⟨inS, ⟨#[]⟩, -1⟩, ⟨outS, ⟨#[]⟩, -1⟩] [(deadS, ⟨[], 0⟩), (inS, ⟨[], 0⟩), (outS, ⟨[], 0⟩)]
def namedR (j : Int) : List ByteArray := [nameR (nms j 0), nameR (nms j 1), nameR (nms j 2)]
set_option maxRecDepth 20000 in
theorem named_all (id j : Int) (hj : 0 ≤ j ∧ j < 4) :
    (∀ i, i < 3 → nameE (nmH j (hNew id, dkNew) i).1 (nmH j (hNew id, dkNew) i).2 (nms j i) = 0) ∧ (nmH j (hNew id, dkNew) 3).1 = namedH id j ∧ DkInv (nmH j (hNew id, dkNew) 3).2 (namedR j) ∧ (nmH j (hNew id, dkNew) 3).2.left = -3 ∧ (nmH j (hNew id, dkNew) 3).2.cut = false := by
  have s0 : setErr (hNew id).names (nms j 0) = 0 := by show setErr [] ⟨inS, ⟨#[]⟩, -1⟩ = 0; decide +kernel
  obtain ⟨a1, b1, c1, d1, l1⟩ := name_step (H := hNew id) (x := nms j 0) dkNew_inv rfl rfl (by simp) rfl s0 (by show ¬ inS = deadS; decide)
  have b1' : nameH (hNew id) dkNew (nms j 0) = namedAt id j 1 [⟨inS, ⟨#[]⟩, -1⟩] [(deadS, ⟨[], 0⟩), (inS, ⟨[], 0⟩)] := b1.trans (by kernel_rfl)
  have s1 : setErr (namedAt id j 1 [⟨inS, ⟨#[]⟩, -1⟩] [(deadS, ⟨[], 0⟩), (inS, ⟨[], 0⟩)]).names (nms j 1) = 0 := by show setErr [⟨inS, ⟨#[]⟩, -1⟩] ⟨outS, ⟨#[]⟩, -1⟩ = 0; decide +kernel
  obtain ⟨a2, b2, c2, d2, l2⟩ := name_step (H := namedAt id j 1 [⟨inS, ⟨#[]⟩, -1⟩] [(deadS, ⟨[], 0⟩), (inS, ⟨[], 0⟩)]) (x := nms j 1) c1 d1 rfl (by simp) rfl s1 (by show ¬ outS = deadS; decide)
  have b2' : nameH (namedAt id j 1 [⟨inS, ⟨#[]⟩, -1⟩] [(deadS, ⟨[], 0⟩), (inS, ⟨[], 0⟩)]) (nameD (hNew id) dkNew (nms j 0)) (nms j 1) = namedAt id j 2 [⟨inS, ⟨#[]⟩, -1⟩, ⟨outS, ⟨#[]⟩, -1⟩] [(deadS, ⟨[], 0⟩), (inS, ⟨[], 0⟩), (outS, ⟨[], 0⟩)] := b2.trans (by kernel_rfl)
  have hj4 : j = 0 ∨ j = 1 ∨ j = 2 ∨ j = 3 := by omega
  have s2 : setErr (namedAt id j 2 [⟨inS, ⟨#[]⟩, -1⟩, ⟨outS, ⟨#[]⟩, -1⟩] [(deadS, ⟨[], 0⟩), (inS, ⟨[], 0⟩), (outS, ⟨[], 0⟩)]).names (nms j 2) = 0 := by
    show setErr [⟨inS, ⟨#[]⟩, -1⟩, ⟨outS, ⟨#[]⟩, -1⟩] ⟨farS, inS, j⟩ = 0
    rcases hj4 with rfl | rfl | rfl | rfl <;> decide +kernel
  obtain ⟨a3, b3, c3, d3, l3⟩ := name_step (H := namedAt id j 2 [⟨inS, ⟨#[]⟩, -1⟩, ⟨outS, ⟨#[]⟩, -1⟩] [(deadS, ⟨[], 0⟩), (inS, ⟨[], 0⟩), (outS, ⟨[], 0⟩)]) (x := nms j 2) c2 d2 rfl (by simp) rfl s2 (by show ¬ farS = deadS; decide)
  have b3' : hset { namedAt id j 2 [⟨inS, ⟨#[]⟩, -1⟩, ⟨outS, ⟨#[]⟩, -1⟩] [(deadS, ⟨[], 0⟩), (inS, ⟨[], 0⟩), (outS, ⟨[], 0⟩)] with used := (namedAt id j 2 [⟨inS, ⟨#[]⟩, -1⟩, ⟨outS, ⟨#[]⟩, -1⟩] [(deadS, ⟨[], 0⟩), (inS, ⟨[], 0⟩), (outS, ⟨[], 0⟩)]).used + 1 } (nms j 2) = namedH id j := by
    rcases hj4 with rfl | rfl | rfl | rfl <;> kernel_rfl
  have e0 : nmH j (hNew id, dkNew) 0 = (hNew id, dkNew) := rfl
  have e1 : nmH j (hNew id, dkNew) 1 = (namedAt id j 1 [⟨inS, ⟨#[]⟩, -1⟩] [(deadS, ⟨[], 0⟩), (inS, ⟨[], 0⟩)], nameD (hNew id) dkNew (nms j 0)) := by
    rw [nmH, e0]; dsimp only; rw [b1']
  have e2 : nmH j (hNew id, dkNew) 2 = (namedAt id j 2 [⟨inS, ⟨#[]⟩, -1⟩, ⟨outS, ⟨#[]⟩, -1⟩] [(deadS, ⟨[], 0⟩), (inS, ⟨[], 0⟩), (outS, ⟨[], 0⟩)], nameD (namedAt id j 1 [⟨inS, ⟨#[]⟩, -1⟩] [(deadS, ⟨[], 0⟩), (inS, ⟨[], 0⟩)]) (nameD (hNew id) dkNew (nms j 0)) (nms j 1)) := by
    rw [nmH, e1]; dsimp only; rw [b2']
  rw [show nmH j (hNew id, dkNew) 3 = (nameH (nmH j (hNew id, dkNew) 2).1 (nmH j (hNew id, dkNew) 2).2 (nms j 2), nameD (nmH j (hNew id, dkNew) 2).1 (nmH j (hNew id, dkNew) 2).2 (nms j 2)) from rfl, e2]
  dsimp only
  refine ⟨fun i hi => ?_, b3.trans b3', c3, by rw [l3, l2, l1]; rfl, d3⟩
  match i, hi with
  | 0, _ => rw [e0]; exact a1
  | 1, _ => rw [e1]; exact a2
  | 2, _ => rw [e2]; exact a3
theorem named_B {id : Int} (h : 0 ≤ id ∧ id < 4) (j : Int) : ∀ i, HoB (10 + i) (nmH j (hNew id, dkNew) i).1
  | 0 => hNew_B h
  | i + 1 => ((named_B h j i).name _ _).le (by omega)
theorem namedH_plays (id j : Int) (hj : 0 ≤ j ∧ j < 4) : Plays (hNew id) (namedR j) (namedH id j) := by
  have hj4 : j = 0 ∨ j = 1 ∨ j = 2 ∨ j = 3 := by omega
  refine .cons (hplays_name (x := nms j 0) (by show setErr [] ⟨inS, ⟨#[]⟩, -1⟩ = 0; decide +kernel)) ?_
  rw [show ({ hset (hNew id) (nms j 0) with used := (hNew id).used + 1 } : Ho) = namedAt id j 1 [⟨inS, ⟨#[]⟩, -1⟩] [(deadS, ⟨[], 0⟩), (inS, ⟨[], 0⟩)] by kernel_rfl]
  refine .cons (hplays_name (x := nms j 1) (by show setErr [⟨inS, ⟨#[]⟩, -1⟩] ⟨outS, ⟨#[]⟩, -1⟩ = 0; decide +kernel)) ?_
  rw [show ({ hset (namedAt id j 1 [⟨inS, ⟨#[]⟩, -1⟩] [(deadS, ⟨[], 0⟩), (inS, ⟨[], 0⟩)]) (nms j 1) with used := (namedAt id j 1 [⟨inS, ⟨#[]⟩, -1⟩] [(deadS, ⟨[], 0⟩), (inS, ⟨[], 0⟩)]).used + 1 } : Ho) = namedAt id j 2 [⟨inS, ⟨#[]⟩, -1⟩, ⟨outS, ⟨#[]⟩, -1⟩] [(deadS, ⟨[], 0⟩), (inS, ⟨[], 0⟩), (outS, ⟨[], 0⟩)] by kernel_rfl]
  refine .cons (hplays_name (x := nms j 2) (by show setErr [⟨inS, ⟨#[]⟩, -1⟩, ⟨outS, ⟨#[]⟩, -1⟩] ⟨farS, inS, j⟩ = 0; rcases hj4 with rfl | rfl | rfl | rfl <;> decide +kernel)) ?_
  rw [show ({ hset (namedAt id j 2 [⟨inS, ⟨#[]⟩, -1⟩, ⟨outS, ⟨#[]⟩, -1⟩] [(deadS, ⟨[], 0⟩), (inS, ⟨[], 0⟩), (outS, ⟨[], 0⟩)]) (nms j 2) with used := (namedAt id j 2 [⟨inS, ⟨#[]⟩, -1⟩, ⟨outS, ⟨#[]⟩, -1⟩] [(deadS, ⟨[], 0⟩), (inS, ⟨[], 0⟩), (outS, ⟨[], 0⟩)]).used + 1 } : Ho) = namedH id j by rcases hj4 with rfl | rfl | rfl | rfl <;> kernel_rfl]
  exact .nil _
/-- what units put, and take from, in HouseCrashes -/
def wInOut (s : ByteArray) : Prop := s = inS ∨ s = outS
theorem LInv.start {id j : Int} (hi4 : 0 ≤ id ∧ id < 4) (hj : 0 ≤ j ∧ j < 4) : LInv wInOut id 0 (namedH id j) (namedH id j) (nmH j (hNew id, dkNew) 3).2 (namedR j) [] (fun _ => []) (fun _ => []) := by
  obtain ⟨-, hH, hD, hl, -⟩ := named_all id j hj
  have hB : HoB 13 (namedH id j) := by rw [← hH]; exact named_B hi4 j 3
  have hv0 : hv (namedH id j) = [] := by kernel_rfl
  have hk0 : hk (namedH id j) = [] := by unfold hk; rw [hv0]; rfl
  refine ⟨rfl, hB.le (by omega), hD, by simp [namedR], by rw [hl]; decide, namedH_plays id j hj, rfl, rfl, rfl, ⟨fun q hq => ?_, fun q hq => ?_⟩, fun e he => ?_, by rw [hk0, hv0]; exact .refl _, by rw [hv0]; exact .nil, fun e he => ?_, fun e he => ?_, fun u x hx => ?_, .nil, by rw [hk0]; exact .refl _, fun s hs => ?_⟩
  · have : q = ⟨[], 0⟩ := List.eq_of_mem_replicate hq
    rw [this]
  · have : q = ⟨[], 0⟩ := List.eq_of_mem_replicate hq
    rw [this]
  · rw [hv0] at he; cases he
  · rw [hv0] at he; cases he
  · rw [hv0] at he; cases he
  · have : x = ⟨[], []⟩ := List.eq_of_mem_replicate (List.mem_of_getElem? hx)
    subst this
    exact ⟨UI.nil _ _ _, rfl, rfl⟩
  · have hj4 : j = 0 ∨ j = 1 ∨ j = 2 ∨ j = 3 := by omega
    rcases hs with rfl | rfl
    · refine ⟨by decide +kernel, ?_⟩
      rcases hj4 with rfl | rfl | rfl | rfl <;> kernel_rfl
    · refine ⟨by decide +kernel, ?_⟩
      rcases hj4 with rfl | rfl | rfl | rfl <;> kernel_rfl
end WB
/- maps that the call has made: a key is taken out -/
namespace WB
open Go Go.RowKit Go.ChangeMaps Go.MapKept
section
variable {κ : Type} [DecidableEq κ] {d : TypeDesc} {kv : κ → Value} {w0 w : World} {L : List HP} {P : Program} {b : Nat} {m : List (κ × Value)}
theorem omapK_del (K : KeyLaw d kv) (h : St w0 (omapK kv b m :: L) w) {t k E ty : TypeId} (ht : P.underlying t = some (.map k E)) (hk : P.underlying k = some d) (s : κ) :
    ∃ w', (Builtin.delete_ #[t, k] ty #[.map (some b), kv s]).run P w = .ok (.tuple #[]) w' ∧ St w0 (omapK kv b (delK m s) :: L) w' := by
  obtain ⟨es, h⟩ := h.exs
  obtain ⟨clk, h⟩ := h.exs
  obtain ⟨hr, h⟩ := h.split.purs
  obtain ⟨_, hb⟩ := h.look
  have up : ∀ (o : Obj), St w0 (blk b o :: L) { w with heap := w.heap.setIfInBounds b o } := fun o =>
    h.upd rfl rfl rfl (by simp) (by have := h.lt; simp [this]) (fun k hk => by simp [Array.getElem?_setIfInBounds, Ne.symm hk])
  rcases findK K s _ m 0 hr.ents with ⟨h2, h3, h4, h5⟩ | ⟨j, e, _, h3, h4, h5, _, h6⟩
  · refine ⟨{ w with heap := w.heap.setIfInBounds b (.map es clk) }, ?_, ?_⟩
    · simp [Builtin.delete_, run_underlying ht, run_getObj_map hb, run_checkKey hk (K.isKey s), run_findKey hk h3, run_setObj_map _ hb, Result.andThen]
    · rw [h5]
      exact St.exi es (St.exi clk (St.join (St.puri hr (up (.map es clk)))))
  · have hj : j < es.size := by have := (List.getElem?_eq_some_iff.1 h3).1; simpa using this
    have e1 : (es.eraseIdx j hj).toList = es.toList.eraseIdx j := by simp
    refine ⟨_, ?_, St.exi (es.eraseIdx j hj) (St.exi clk (St.join (St.puri (p := esB kv (es.eraseIdx j hj).toList clk (delK m s)) ?_ (up (.map (es.eraseIdx j hj) clk)))))⟩
    · simp [Builtin.delete_, run_underlying ht, run_getObj_map hb, run_checkKey hk (K.isKey s), run_findKey hk h5, run_setObj_map _ hb, Result.andThen, Array.eraseIdxIfInBounds, hj]
    · rw [e1]
      exact ⟨h6, fun e he => hr.old e ((List.eraseIdx_sublist _ _).subset he), hr.nodup.sublist ((List.eraseIdx_sublist _ _).map _)⟩
end
section
variable {κ : Type} [DecidableEq κ] {kd : TypeDesc} {kv : κ → Value}
variable {P : Program} {ops : Array Oper} {d : Bool} {Q : Exit → Act → World → Prop} {n : Nat} {D : List Deferred} {w0 : World} {G : Env} {L R : List HP} {l : List (Kd × Oper)} {k : Kd}
  {t : Nat} {ty T KT E : TypeId} {pos : String} {af : Array Edge} {x y u : Operand} {v z : Value} {b : Nat} {m : List (κ × Value)}
theorem KO.delm (K : KeyLaw kd kv) (s : κ) (hk : (!d || k == .write) = true) (hx : ev G x = some (.map (some b))) (hy : ev G y = some (kv s)) (hT : P.underlying T = some (.map KT E)) (hK : P.underlying KT = some kd) (hp : Pick L (omapK kv b m) R)
    (h : KO P ops d Q n D w0 G (omapK kv b (delK m s) :: R) l) : KO P ops d Q n D w0 G L ((k, ⟨none, .call ⟨.builtin .delete, #[x, y], #[T, KT]⟩, ty, pos, af, none⟩) :: l) :=
  KO.wn hk (fun a w ha hw => by
    obtain ⟨w', hr, hs⟩ := omapK_del (P := P) (ty := ty) K (hw.pick hp) hT hK s
    exact ⟨w', .tuple #[], by simp [execOp, resolve, invoke, builtin, ha.eval hx, ha.eval hy, hr], hs⟩) h
end
/-! a set of numbers as a map -/
def setM (T : List Int) : List (Int × Value) := T.map fun k => (k, .bool true)
theorem setM_get (T : List Int) (k : Int) : getK (setM T) k = if k ∈ T then some (.bool true) else none := by
  unfold setM
  induction T with
  | nil => rfl
  | cons a T ih =>
    rw [List.map_cons, getK]
    dsimp only
    by_cases h : a = k
    · rw [if_pos h, if_pos (by simp [h])]
    · rw [if_neg h, ih]
      have : k ≠ a := fun e => h e.symm
      simp [this]
end WB
/- a part of an array's value that is a struct; three names one by one -/
namespace WB
open Go Go.RowKit
section
variable {P : Program} {ops : Array Oper} {d : Bool} {Q : Exit → Act → World → Prop} {n : Nat} {D : List Deferred} {w0 : World} {G : Env} {L R : List HP} {l : List (Kd × Oper)} {k : Kd}
  {t : Nat} {ty T : TypeId} {pos : String} {af : Array Edge} {x y z : Operand} {i : Nat} {a c : Int} {kk kk' : IntKind}
theorem KO.idxAgN {cs us : List Value} {len sz : Nat} {E : TypeId} (hx : ev G x = some (.agg cs.toArray)) (hy : ev G y = some (.int kk a)) (hT : P.underlying T = some (.array len E)) (hA : ∀ w, (isAgg E).run P w = .ok true w) (hs : ∀ w, (Go.sizeOf E).run P w = .ok sz w) (ha : a = (i : Int)) (hi : i < len) (hv : (cs.drop (i * sz)).take sz = us) (ht : Nat.blt t n = true)
    (h : KO P ops d Q n D w0 ((t, .agg us.toArray) :: G) L l) : KO P ops d Q n D w0 G L ((k, ⟨some t, .index T x y, ty, pos, af, none⟩) :: l) :=
  KO.val (fun a' w ha' => by
    subst ha
    have h1 : (0 : Int) ≤ (i : Int) ∧ (i : Int) < (len : Int) := ⟨by omega, by omega⟩
    have h2 : cs.toArray.extract (i * sz) (i * sz + sz) = us.toArray := by rw [← hv, List.extract_toArray, List.extract_eq_take_drop, Nat.add_sub_cancel_left]
    simp [execOp, ha'.eval hx, ha'.eval hy, Instr.index, asIntOf, run_underlying hT, h1, hs w, part, hA w]
    rw [← h2]
    simp
    intro h3; omega
    ) ht h
end
theorem nms_size (j : Int) (i : Nat) : (nms j i).name.size ≤ 3 ∧ (nms j i).tgt.size ≤ 3 := by
  unfold nms
  split
  · exact ⟨by decide, by decide⟩
  · split
    · exact ⟨by decide, by decide⟩
    · exact ⟨by show farS.size ≤ 3; decide, by show inS.size ≤ 3; decide⟩
theorem nmsC (j : Int) : [(nms j 0), (nms j 1), (nms j 2)].flatMap Nm.cells = [Value.string ⟨#[105, 110]⟩, .string ⟨#[]⟩, .int .i64 (-1), .string ⟨#[111, 117, 116]⟩, .string ⟨#[]⟩, .int .i64 (-1), .string ⟨#[102, 97, 114]⟩, .string ⟨#[105, 110]⟩, .int .i64 j] := rfl
theorem nms_cut (j : Int) : ∀ i, i < 3 → (([(nms j 0), (nms j 1), (nms j 2)].flatMap Nm.cells).drop (i * 3)).take 3 = (nms j i).cells
  | 0, _ => rfl
  | 1, _ => rfl
  | 2, _ => rfl
end WB
namespace WB
open Go
theorem nameD_ok (H : Ho) (D : Dk) (x : Nm) : (nameD H D x).places.length = D.places.length ∧ D.left - 1 ≤ (nameD H D x).left ∧ (nameD H D x).left ≤ D.left := by
  unfold nameD
  split
  · exact ⟨rfl, by omega, Int.le_refl _⟩
  · unfold logD
    split
    · exact ⟨rfl, by omega, Int.le_refl _⟩
    · refine ⟨?_, ?_, ?_⟩
      · unfold dkWrite
        split
        · split
          · simp
          · rfl
        · simp
      · rw [dkWrite_left]; split <;> omega
      · rw [dkWrite_left]; split <;> omega
theorem nmD_ok (id j : Int) : ∀ i, (nmH j (hNew id, dkNew) i).2.places.length = 300 ∧ -(i : Int) ≤ (nmH j (hNew id, dkNew) i).2.left ∧ (nmH j (hNew id, dkNew) i).2.left ≤ 0
  | 0 => ⟨List.length_replicate, by show -((0 : Nat) : Int) ≤ 0; omega, Int.le_refl 0⟩
  | i + 1 => by
    obtain ⟨a, b, c⟩ := nmD_ok id j i
    obtain ⟨a', b', c'⟩ := nameD_ok (nmH j (hNew id, dkNew) i).1 (nmH j (hNew id, dkNew) i).2 (nms j i)
    exact ⟨a'.trans a, by simp only [nmH]; push_cast; omega, by simp only [nmH]; omega⟩
end WB
/- what the laws ask of a house: pick, named -/
namespace Go.Proofs.YtjhogocabcdjbabGreatDoor
open Go Go.RowKit WB
set_option maxRecDepth 100000 in
theorem named_c (w0 : World) (L : List HP) (bh bd : Nat) (id k m : Int) (hT : Tab w0) (hM : Lim w0) (hid : 0 ≤ id ∧ id < 4) (hk : 0 ≤ k ∧ k < 4) (hm : 1 ≤ m ∧ m ≤ 4) :
    KC Tryz.prog 12 #[ptrV bh, .int .i64 k, .int .i64 m] w0 (hoP bh bd (hNew id) :: dkP bd dkNew :: L) (fun u M => u = .bool true ∧ M = hoP bh bd (nmH ((k + 1) % m) (hNew id, dkNew) 3).1 :: dkP bd (nmH ((k + 1) % m) (hNew id, dkNew) 3).2 :: L) := by
  have hj : 0 ≤ (k + 1) % m ∧ (k + 1) % m < 4 := ⟨Int.emod_nonneg _ (by omega), by have := Int.emod_lt_of_pos (k + 1) (show 0 < m by omega); omega⟩
  obtain ⟨he, -⟩ := named_all id ((k + 1) % m) hj
  have hB := named_B hid ((k + 1) % m)
  have hD := nmD_ok id ((k + 1) % m)
  have hz := nms_size ((k + 1) % m)
  have hcut := nms_cut ((k + 1) % m)
  have hcs := nmsC ((k + 1) % m)
  generalize hjd : (k + 1) % m = j at hj he hB hD hz hcut hcs ⊢
  have hmx : (1000000 : Nat) ≤ maxLen := by decide
  generalize hcs' : [nms j 0, nms j 1, nms j 2].flatMap Nm.cells = cs at hcut hcs
  refine KC.mk (n := 25) Tryz.func12 rfl Tryz.ntmps12 (by simp) ?_
  repeat ((with_reducible refine K.seq ?_))
  refine K.reg ?_
  refine KO.as rfl rfl ?_
  refine KO.nil ?_
  repeat (first | (with_reducible refine K.seq ?_) | (with_reducible refine KQ.next ?_))
  refine K.reg ?_
  refine KO.bldN (pl := [(0, 1), (1, 1), (2, 1)]) rfl Tryz.zeroValue75 Tryz.runUnderlying75 (by intro w; simp [Tryz.sizeOf3, Tryz.sizeOf9]) (by exact rfl) rfl ?_
  refine KO.bldN (pl := [(0, 1), (1, 1), (2, 1)]) rfl Tryz.zeroValue75 Tryz.runUnderlying75 (by intro w; simp [Tryz.sizeOf3, Tryz.sizeOf9]) (by exact rfl) rfl ?_
  refine KO.mv rfl rfl ?_
  refine KO.add rfl rfl rfl (by omega) rfl ?_
  refine KO.mv rfl rfl ?_
  refine KO.rem rfl rfl (by omega) (by omega) rfl ?_; rw [hjd]
  refine KO.bldN (pl := [(0, 1), (1, 1), (2, 1)]) rfl Tryz.zeroValue75 Tryz.runUnderlying75 (by intro w; simp [Tryz.sizeOf3, Tryz.sizeOf9]) (by exact rfl) rfl ?_
  refine KO.bld (v := .agg cs.toArray) rfl (by intro w; rw [hcs]; go_simp; rfl) rfl ?_
  refine KO.mv rfl rfl ?_
  refine KO.nil ?_
  repeat (first | (with_reducible refine KQ.next ?_) | (with_reducible refine K.block ?_))
  refine K.loop (fun i : Nat => [(0, ptrV bh), (16, .agg cs.toArray), (17, .int .i64 (i : Nat))])
    (fun i => hoP bh bd (nmH j (hNew id, dkNew) i).1 :: dkP bd (nmH j (hNew id, dkNew) i).2 :: L) (fun i => i ≤ 3) (fun i => 3 - i) 0
    (Nat.zero_le _) ⟨rfl, rfl, rfl, trivial⟩ (fun _ h => h) ?_
  intro i hi
  repeat ((with_reducible refine K.seq ?_))
  refine K.reg ?_
  refine KO.lss rfl rfl rfl ?_
  refine KO.nil ?_
  repeat (first | (with_reducible refine K.seq ?_) | (with_reducible refine KQ.next ?_))
  refine K.condD rfl (fun h => ?_) (fun h => ?_)
  · have hi3 : i < 3 := by omega
    obtain ⟨hz1, hz2⟩ := hz i
    obtain ⟨d1, d2, d3⟩ := hD i
    have hei := he i hi3
    have hci := hcut i hi3
    have hBi := hB i
    have hst : nmH j (hNew id, dkNew) (i + 1) = (nameH (nmH j (hNew id, dkNew) i).1 (nmH j (hNew id, dkNew) i).2 (nms j i), nameD (nmH j (hNew id, dkNew) i).1 (nmH j (hNew id, dkNew) i).2 (nms j i)) := rfl
    generalize nms j i = x at hz1 hz2 hei hci hst
    generalize nmH j (hNew id, dkNew) i = s at d1 d2 d3 hei hBi hst
    obtain ⟨Hi, Di⟩ := s
    obtain ⟨xn, xt, xh⟩ := x
    dsimp only at hz1 hz2 hei d1 d2 d3 hBi hst
    repeat (first | (with_reducible refine K.seq ?_) | (with_reducible refine KQ.next ?_) | (with_reducible refine K.skip ?_) | (with_reducible refine K.block ?_))
    refine K.reg ?_
    refine KO.idxAgN (i := i) rfl rfl Tryz.underlying137 Tryz.isAgg75 Tryz.sizeOf75 rfl hi3 hci rfl ?_
    refine KO.alloc rfl Tryz.zeroValue75 (by exact rfl) rfl ?_; intro b8
    refine KO.sto0 rfl rfl rfl (by exact rfl) (by exact Tryz.sizeOf75) (by exact rfl) (by with_reducible (repeat (exact Pick.head))) (by exact rfl) ?_
    refine KO.nil ?_
    repeat (first | (with_reducible refine K.seq ?_) | (with_reducible refine KQ.next ?_))
    refine K.reg ?_
    refine KO.mv rfl rfl ?_
    refine KO.ldB0 rfl rfl Tryz.isAgg75 Tryz.sizeOf75 (by with_reducible (repeat (exact Pick.head))) (by exact rfl) rfl ?_
    refine KO.cl (cp := []) rfl rfl rfl Tryz.call31 rfl (KC.pk2 (by with_reducible (repeat (first | exact Pick.head | apply Pick.tail))) (by with_reducible (repeat (first | exact Pick.head | apply Pick.tail))) (hname_c w0 _ bh bd (10 + i) Hi Di ⟨xn, xt, xh⟩ hT hM hBi (by omega) d1 ⟨by omega, by omega⟩ (by dsimp only; omega) (by dsimp only; omega))) ?_; rintro v' L' ⟨rfl, rfl⟩; rw [hei]
    refine KO.neN rfl (by kernel_rfl) rfl ?_
    refine KO.nil ?_
    repeat ((with_reducible refine KQ.next ?_))
    refine K.condF rfl rfl ?_
    repeat (first | (with_reducible refine KQ.next ?_) | (with_reducible refine KQ.blk_normal ?_) | (with_reducible refine K.skip ?_))
    refine K.reg ?_
    refine KO.add rfl rfl rfl (by omega) rfl ?_
    refine KO.mv rfl rfl ?_
    refine KO.nil ?_
    refine KQ.round (i + 1) (by omega) (by omega) ⟨rfl, rfl, rfl, trivial⟩ (fun _ h => ?_)
    rw [hst]
    exact h.all (by with_reducible repeat (first | exact PAll.refl | refine PAll.cons (by with_reducible repeat (first | exact Pick.head | apply Pick.tail)) ?_ | apply PAll.drop))
  · obtain rfl : i = 3 := by omega
    repeat (first | (with_reducible refine K.seq ?_) | (with_reducible refine KQ.next ?_) | (with_reducible refine KQ.then_exit ?_) | (with_reducible refine KQ.blk_exit ?_) | (with_reducible refine K.exit ?_))
    refine K.reg ?_
    refine KO.as rfl rfl ?_
    refine KO.nil ?_
    repeat (first | (with_reducible refine KQ.next ?_) | (with_reducible refine K.ret ?_))
    refine KQ.ret1 rfl rfl (fun w' hs' => ⟨_, _, rfl, ⟨rfl, rfl⟩, hs'⟩)
end Go.Proofs.YtjhogocabcdjbabGreatDoor
/- a house with one queue: what the law's fact says -/
namespace WB
open Go
def qS : ByteArray := ⟨#[113]⟩
def aS : ByteArray := ⟨#[97]⟩
def bS : ByteArray := ⟨#[98]⟩
def nmQ : Nm := ⟨qS, ⟨#[]⟩, -1⟩
def ka (u : Nat) (nx : Int) (q : Qu) (u0 u2 : Unt) : Ho := ⟨1, u, false, -1, nx, [nmQ], [(deadS, ⟨[], 0⟩), (qS, q)], List.replicate 4 ⟨[], 0⟩, [u0, ⟨[], []⟩, u2, ⟨[], []⟩, ⟨[], []⟩], List.replicate 4 [], List.replicate 4 0, List.replicate 4 0⟩
def kaM : Ms := ⟨1, 3, aS, qS, 1⟩
def kbM : Ms := ⟨5, 3, bS, qS, 1⟩
def k1 : Ho := ka 1 0 ⟨[], 0⟩ ⟨[], []⟩ ⟨[], []⟩
def k2 : Ho := ka 1 1 ⟨[⟨kaM, 0, 0, -1⟩], 1⟩ ⟨[(kaM, -1)], []⟩ ⟨[], []⟩
def k3 : Ho := ka 2 1 ⟨[⟨kaM, 1, -1, -1⟩], 2⟩ ⟨[], []⟩ ⟨[], []⟩
def k4 : Ho := ka 2 2 ⟨[⟨kaM, 1, -1, -1⟩, ⟨kbM, 2, 2, -1⟩], 3⟩ ⟨[], []⟩ ⟨[(kbM, -1)], []⟩
def k5 : Ho := ka 2 1 ⟨[⟨kaM, 0, -1, -1⟩], 1⟩ ⟨[], []⟩ ⟨[], []⟩
def kd1 : Dk := nameD (hNew 1) dkNew nmQ
def kd3 : Dk := cmD k2 kd1 0
theorem kq_set : setErr (hNew 1).names nmQ = 0 := by show setErr [] ⟨qS, ⟨#[]⟩, -1⟩ = 0; decide +kernel
theorem kq_step : nameE (hNew 1) dkNew nmQ = 0 ∧ nameH (hNew 1) dkNew nmQ = hset { hNew 1 with used := (hNew 1).used + 1 } nmQ ∧ DkInv (nameD (hNew 1) dkNew nmQ) ([] ++ [nameR nmQ]) ∧ (nameD (hNew 1) dkNew nmQ).cut = false ∧ (nameD (hNew 1) dkNew nmQ).left = dkNew.left - 1 := name_step (H := hNew 1) (x := nmQ) dkNew_inv rfl rfl (by simp) rfl kq_set (by show ¬ qS = deadS; decide)
theorem k_name : nameE (hNew 1) dkNew nmQ = 0 ∧ nameH (hNew 1) dkNew nmQ = k1 := ⟨kq_step.1, kq_step.2.1.trans (by kernel_rfl)⟩
theorem k_put : putE k1 0 qS 3 aS = 0 ∧ putI k1 0 qS 3 aS = 1 ∧ putH k1 0 qS 3 aS = k2 := ⟨by decide +kernel, by decide +kernel, by kernel_rfl⟩
theorem kd1_cut : kd1.cut = false := kq_step.2.2.2.1
theorem k_off : ¬ dkOff kd1 = true := by unfold dkOff; simp [kd1_cut]
theorem k_err : dkErr kd1 = 0 := dkOff_err.2 k_off
theorem k_log : logE k2 kd1 = 0 := by
  unfold logE
  rw [if_neg (by decide)]
  exact k_err
theorem k_logH : logH k2 kd1 = { k2 with used := 2 } := by
  unfold logH
  rw [if_neg (by decide), if_neg (by simp [k_err])]
  rfl
theorem k_com : cmE k2 kd1 0 = 0 ∧ cmH k2 kd1 0 = k3 := by
  have h0 : cmPE k2 0 = 0 := by decide
  refine ⟨?_, ?_⟩
  · unfold cmE; rw [if_neg (by simp [h0]), k_log]
  · unfold cmH
    rw [if_neg (by simp [h0]), if_neg (by simp [k_log]), k_logH]
    kernel_rfl
theorem k_put2 : putE k3 2 qS 3 bS = 0 ∧ putI k3 2 qS 3 bS = 5 ∧ putH k3 2 qS 3 bS = k4 := ⟨by decide +kernel, by decide +kernel, by kernel_rfl⟩
def kU : Unt := ⟨[(kaM, -1)], []⟩
theorem kU_ok : UntOk kU := ⟨fun p hp => (by
  simp [kU] at hp; subst hp; show msRight kaM = true; decide +kernel), (fun g hg => by cases hg), by decide⟩
theorem kd3_eq : kd3 = dkWrite kd1 1 (sealS (1 : Nat) (recU kU)) (-1) := by
  have h0 : cmPE k2 0 = 0 := by decide
  unfold kd3 cmD
  rw [if_neg (by simp [h0])]
  unfold logD
  rw [if_neg (by decide)]
  rfl
theorem kd3_inv : DkInv kd3 [nameR nmQ, recU kU] := by
  have h1 : DkInv kd1 [nameR nmQ] := kq_step.2.2.1
  rw [kd3_eq]
  have := h1.good (s := recU kU) (torn := -1) (by have := kU_ok.recO.size; omega) (bar_rec kU_ok) (kU_ok.recK (by decide)) k_off (by simp)
  exact this
theorem k_open : openH 1 kd3 = k5 := open_plays kd3_inv (.cons (hplays_name (x := nmQ) kq_set) (.cons (H1 := { k5 with used := 1 }) (by rw [hplays_unit]; kernel_rfl) (by
  rw [show ({ ({ k5 with used := 1 } : Ho) with used := ({ hset (hNew 1) nmQ with used := (hNew 1).used + 1 } : Ho).used + 1 } : Ho) = k5 from rfl]
  exact .nil _)))
theorem k_there : thereE k5 qS = 0 ∧ thereL k5 qS = [kaM] := ⟨by decide +kernel, by kernel_rfl⟩
theorem k1_B : HoB 11 k1 := by rw [← k_name.2]; exact (hNew_B (by decide)).name _ _
theorem k2_B : HoB 12 k2 := by rw [← k_put.2.2]; exact k1_B.put _ _ _ _
theorem k2_U : ∀ x ∈ k2.units, UntOk x := fun x hx => by
  have h0 : UntOk ⟨[], []⟩ := ⟨(fun p hp => by cases hp), (fun p hp => by cases hp), by decide⟩
  simp [k2, ka] at hx
  rcases hx with rfl | rfl
  · exact kU_ok
  · exact h0
theorem k3_B : HoB 13 k3 := by rw [← k_com.2]; exact k2_B.cm 0 k2_U
theorem kd1_ok : kd1.places.length = 300 ∧ -1000000 ≤ kd1.left ∧ kd1.left ≤ 9223372036854775807 := by
  obtain ⟨a, b, c⟩ := nameD_ok (hNew 1) dkNew nmQ
  have h0 : dkNew.left = 0 := rfl
  exact ⟨a.trans List.length_replicate, by show -1000000 ≤ (nameD (hNew 1) dkNew nmQ).left; omega, by show (nameD (hNew 1) dkNew nmQ).left ≤ _; omega⟩
theorem kd3_ok : DkOk kd3 := kd3_inv.ok (by
  have h := kd1_ok.2
  rw [kd3_eq, dkWrite_left, if_neg k_off]
  have h0 : kd1.left = dkNew.left - 1 := kq_step.2.2.2.2
  have h1 : dkNew.left = 0 := rfl
  omega)
theorem k5_B : HoB 76000 k5 := by rw [← k_open]; exact openH_B (by decide) kd3_ok
theorem dkNew_ok : DkOk dkNew := dkNew_inv.ok ⟨by show (-1000000 : Int) ≤ 0; omega, by show (0 : Int) ≤ 9223372036854775807; omega⟩
theorem open_new (id : Int) : openH id dkNew = hNew id := open_plays dkNew_inv (.nil _)
end WB
/- waybillkeep.kept: the fact -/
namespace Go.Proofs.YtjhogocabcdjbabGreatDoor
open Go Go.RowKit WB
set_option maxRecDepth 100000 in
theorem keptfact_e (w0 : World) (L : List HP) (hT : Tab w0) (hM : Lim w0) : KE Tryz.prog 10 #[] w0 L (fun u M => u = .bool true ∧ M = L) := by
  refine KE.mk (n := 86) Tryz.func10 rfl Tryz.ntmps10 (by simp) ?_
  intro w hw
  have hTw : Tab w := hT.ext (Ext.of_below hw.below)
  have hMw : Lim w := hM.ext (Ext.of_below hw.below)
  have hmx : (1000000 : Nat) ≤ maxLen := by decide
  repeat ((with_reducible refine K.seq ?_))
  refine K.reg ?_
  refine KO.as rfl rfl ?_
  refine KO.nil ?_
  repeat (first | (with_reducible refine K.seq ?_) | (with_reducible refine KQ.next ?_))
  refine K.reg ?_
  refine KO.bldN (pl := [(0, 300), (300, 1), (301, 1)]) rfl Tryz.zeroValue28 Tryz.runUnderlying28 (by intro w; simp [Tryz.sizeOf3, Tryz.sizeOf4, Tryz.sizeOf26]) (by exact rfl) rfl ?_
  refine KO.box rfl rfl (by exact rfl) rfl ?_; intro b10
  refine KO.as rfl rfl ?_
  refine KO.nil ?_
  repeat (first | (with_reducible refine K.seq ?_) | (with_reducible refine KQ.next ?_))
  refine K.conv (L' := [dkP b10 dkNew]) (fun w' h => h) ?_
  refine K.reg ?_
  refine KO.mv rfl rfl ?_
  refine KO.cl (cp := []) rfl rfl rfl Tryz.call11 rfl (KC.pk1 (by with_reducible (repeat (exact Pick.head))) (hopen_c w _ b10 1 dkNew hTw hMw (by decide) dkNew_ok)) ?_; rintro v' L' ⟨bh, rfl, rfl⟩; rw [open_new]
  refine KO.mv rfl rfl ?_
  refine KO.extrL rfl (by exact rfl) rfl ?_
  refine KO.extrL rfl (by exact rfl) rfl ?_
  refine KO.as rfl rfl ?_
  refine KO.as rfl rfl ?_
  refine KO.nil ?_
  repeat (first | (with_reducible refine K.seq ?_) | (with_reducible refine KQ.next ?_))
  refine K.reg ?_
  refine KO.mv rfl rfl ?_
  refine KO.neI0 rfl (by kernel_rfl) rfl ?_
  refine KO.mv rfl rfl ?_
  (refine KO.on rfl rfl ?_ ?_; (focus rfl); (refine KO.mv rfl rfl ?_))
  (refine KO.on rfl rfl ?_ ?_; (focus rfl); (refine KO.eqPn rfl Tryz.underlying29 rfl ?_))
  (refine KO.pickF rfl ?_ rfl rfl ?_; (focus rfl))
  refine KO.mv rfl rfl ?_
  (refine KO.on rfl rfl ?_ ?_; (focus rfl); (refine KO.mv rfl rfl ?_))
  (refine KO.on rfl rfl ?_ ?_; (focus rfl); (refine KO.bldN (pl := [(0, 1), (1, 1), (2, 1)]) rfl Tryz.zeroValue75 Tryz.runUnderlying75 (by intro w; simp [Tryz.sizeOf3, Tryz.sizeOf9]) (by exact rfl) rfl ?_))
  refine KO.on rfl rfl (by rfl) ?_; refine KO.cl (cp := []) rfl rfl rfl Tryz.call31 rfl (KC.pk2 (by with_reducible (repeat (exact Pick.head))) (by with_reducible (repeat (exact Pick.head))) (hname_c w _ bh b10 10 (hNew 1) dkNew nmQ hTw hMw (hNew_B (by decide)) (by omega) List.length_replicate dkNew_ok.left (by decide) (by decide))) ?_; rintro v' L' ⟨rfl, rfl⟩; rw [k_name.1, k_name.2, show nameD (hNew 1) dkNew nmQ = kd1 from rfl]
  (refine KO.on rfl rfl ?_ ?_; (focus rfl); (refine KO.neN rfl (by kernel_rfl) rfl ?_))
  (refine KO.pickF rfl ?_ rfl rfl ?_; (focus rfl))
  refine KO.nil ?_
  repeat ((with_reducible refine KQ.next ?_))
  refine K.condF rfl rfl ?_
  repeat (first | (with_reducible refine K.seq ?_) | (with_reducible refine KQ.next ?_) | (with_reducible refine K.skip ?_))
  refine K.reg ?_
  refine KO.mv rfl rfl ?_
  refine KO.cl (cp := []) rfl rfl rfl Tryz.call14 rfl (KC.pk1 (by with_reducible (repeat (exact Pick.head))) (hput_c w _ bh b10 11 k1 0 qS 3 aS k1_B (by omega) (by decide) (by decide) (fun x hx => by have : x = ⟨[], []⟩ := List.eq_of_mem_replicate (n := 5) hx; subst this; exact Nat.zero_le _))) ?_; rintro v' L' ⟨rfl, rfl⟩; rw [k_put.1, k_put.2.1, k_put.2.2]
  refine KO.mv rfl rfl ?_
  refine KO.extrL rfl (by exact rfl) rfl ?_
  refine KO.extrL rfl (by exact rfl) rfl ?_
  refine KO.as rfl rfl ?_
  refine KO.as rfl rfl ?_
  refine KO.nil ?_
  repeat (first | (with_reducible refine K.seq ?_) | (with_reducible refine KQ.next ?_))
  refine K.reg ?_
  refine KO.mv rfl rfl ?_
  refine KO.neN rfl (by kernel_rfl) rfl ?_
  refine KO.mv rfl rfl ?_
  (refine KO.on rfl rfl ?_ ?_; (focus rfl); (refine KO.mv rfl rfl ?_))
  (refine KO.on rfl rfl ?_ ?_; (focus rfl); (refine KO.neI rfl rfl rfl ?_))
  (refine KO.pickF rfl ?_ rfl rfl ?_; (focus rfl))
  refine KO.mv rfl rfl ?_
  (refine KO.on rfl rfl ?_ ?_; (focus rfl); (refine KO.mv rfl rfl ?_))
  refine KO.on rfl rfl (by rfl) ?_; refine KO.cl (cp := []) rfl rfl rfl Tryz.call16 rfl (KC.pk2 (by with_reducible (repeat (exact Pick.head))) (by with_reducible (repeat (exact Pick.head))) (hcommit_c w _ bh b10 12 k2 kd1 0 hTw hMw k2_B (by omega) k2_U kd1_ok.1 kd1_ok.2)) ?_; rintro v' L' ⟨rfl, rfl⟩; rw [k_com.1, k_com.2, show cmD k2 kd1 0 = kd3 from rfl]
  (refine KO.on rfl rfl ?_ ?_; (focus rfl); (refine KO.neN rfl (by kernel_rfl) rfl ?_))
  (refine KO.pickF rfl ?_ rfl rfl ?_; (focus rfl))
  refine KO.nil ?_
  repeat ((with_reducible refine KQ.next ?_))
  refine K.condF rfl rfl ?_
  repeat (first | (with_reducible refine K.seq ?_) | (with_reducible refine KQ.next ?_) | (with_reducible refine K.skip ?_))
  refine K.reg ?_
  refine KO.mv rfl rfl ?_
  refine KO.cl (cp := []) rfl rfl rfl Tryz.call14 rfl (KC.pk1 (by with_reducible (repeat (exact Pick.head))) (hput_c w _ bh b10 13 k3 2 qS 3 bS k3_B (by omega) (by decide) (by decide) (fun x hx => by have : x = ⟨[], []⟩ := List.eq_of_mem_replicate (n := 5) hx; subst this; exact Nat.zero_le _))) ?_; rintro v' L' ⟨rfl, rfl⟩; rw [k_put2.1, k_put2.2.1, k_put2.2.2]
  refine KO.mv rfl rfl ?_
  refine KO.extrL rfl (by exact rfl) rfl ?_
  refine KO.extrL rfl (by exact rfl) rfl ?_
  refine KO.as rfl rfl ?_
  refine KO.as rfl rfl ?_
  refine KO.nil ?_
  repeat (first | (with_reducible refine K.seq ?_) | (with_reducible refine KQ.next ?_))
  refine K.reg ?_
  refine KO.mv rfl rfl ?_
  refine KO.neN rfl (by kernel_rfl) rfl ?_
  refine KO.nil ?_
  repeat ((with_reducible refine KQ.next ?_))
  refine K.condF rfl rfl ?_
  repeat (first | (with_reducible refine K.seq ?_) | (with_reducible refine KQ.next ?_) | (with_reducible refine K.skip ?_))
  refine K.reg ?_
  refine KO.mv rfl rfl ?_
  refine KO.cl (cp := []) rfl rfl rfl Tryz.call11 rfl (KC.pk1 (by with_reducible (repeat (first | exact Pick.head | apply Pick.tail))) (hopen_c w _ b10 1 kd3 hTw hMw (by decide) kd3_ok)) ?_; rintro v' L' ⟨bg, rfl, rfl⟩; rw [k_open]
  refine KO.mv rfl rfl ?_
  refine KO.extrL rfl (by exact rfl) rfl ?_
  refine KO.extrL rfl (by exact rfl) rfl ?_
  refine KO.as rfl rfl ?_
  refine KO.as rfl rfl ?_
  refine KO.nil ?_
  repeat (first | (with_reducible refine K.seq ?_) | (with_reducible refine KQ.next ?_))
  refine K.reg ?_
  refine KO.mv rfl rfl ?_
  refine KO.neI0 rfl (by kernel_rfl) rfl ?_
  refine KO.mv rfl rfl ?_
  (refine KO.on rfl rfl ?_ ?_; (focus rfl); (refine KO.mv rfl rfl ?_))
  (refine KO.on rfl rfl ?_ ?_; (focus rfl); (refine KO.eqPn rfl Tryz.underlying29 rfl ?_))
  (refine KO.pickF rfl ?_ rfl rfl ?_; (focus rfl))
  refine KO.nil ?_
  repeat ((with_reducible refine KQ.next ?_))
  refine K.condF rfl rfl ?_
  repeat (first | (with_reducible refine K.seq ?_) | (with_reducible refine KQ.next ?_) | (with_reducible refine K.skip ?_))
  refine K.reg ?_
  refine KO.mv rfl rfl ?_
  refine KO.cl (cp := []) rfl rfl rfl Tryz.call28 rfl (KC.pk1 (by with_reducible (repeat (exact Pick.head))) (hthere_c w _ bg b10 76000 k5 qS k5_B (by omega))) ?_; rintro v' L' ⟨vl, rfl, rfl⟩; rw [k_there.1, k_there.2]
  refine KO.mv rfl rfl ?_
  refine KO.extrL rfl (by exact rfl) rfl ?_
  refine KO.extrL rfl (by exact rfl) rfl ?_
  refine KO.as rfl rfl ?_
  refine KO.as rfl rfl ?_
  refine KO.nil ?_
  repeat (first | (with_reducible refine K.seq ?_) | (with_reducible refine KQ.next ?_))
  refine K.fact (fun w hw => SL_form (E := 44) (sz := 5) (cf := msC) (v := vl) (xs := [kaM]) (hw.pick .head)) ?_
  rintro ⟨ad, cap, rfl, had⟩
  obtain ⟨g, rfl⟩ := had (by decide)
  have hka : [kaM][0]? = some kaM := rfl
  refine K.reg ?_
  refine KO.mv rfl rfl ?_
  refine KO.eqN rfl (by kernel_rfl) rfl ?_
  refine KO.mv rfl rfl ?_
  (refine KO.on rfl rfl ?_ ?_; (focus rfl); (refine KO.mv rfl rfl ?_))
  (refine KO.on rfl rfl ?_ ?_; (focus rfl); (refine KO.len rfl Tryz.underlying49 rfl ?_))
  (refine KO.on rfl rfl ?_ ?_; (focus rfl); (refine KO.eqI rfl rfl rfl ?_))
  (refine KO.pickT rfl ?_ rfl rfl ?_; (focus rfl))
  refine KO.mv rfl rfl ?_
  (refine KO.on rfl rfl ?_ ?_; (focus rfl); (refine KO.mv rfl rfl ?_))
  refine KO.on rfl rfl rfl ?_; refine KO.idx0 (i := 0) rfl rfl Tryz.runUnderlying49 Tryz.sizeOf44 rfl (by decide) rfl ?_
  (refine KO.on rfl rfl ?_ ?_; (focus rfl); (refine KO.fo0 (off := 2) rfl Tryz.runUnderlying44 rfl rfl Tryz.sizeOf9 rfl ?_))
  refine KO.on rfl rfl rfl ?_; refine KO.ldE (i := 0) (j := 2) (sz := 5) (cf := msC) (e := kaM) rfl rfl Tryz.isAgg9 (by with_reducible (repeat (exact Pick.head))) (fun _ => rfl) hka rfl rfl rfl ?_
  (refine KO.on rfl rfl ?_ ?_; (focus rfl); (refine KO.eqS rfl rfl rfl ?_))
  (refine KO.pickT rfl ?_ rfl rfl ?_; (focus rfl))
  refine KO.mv rfl rfl ?_
  (refine KO.on rfl rfl ?_ ?_; (focus rfl); (refine KO.mv rfl rfl ?_))
  refine KO.on rfl rfl (by rfl) ?_; refine KO.ce (cp := []) rfl rfl rfl Tryz.call51 rfl (hused_e w _ _ bg b10 k5 (by with_reducible (repeat (first | exact Pick.head | apply Pick.tail)))) ?_; rintro v' L' ⟨rfl, rfl⟩
  (refine KO.on rfl rfl ?_ ?_; (focus rfl); (refine KO.eqI rfl rfl rfl ?_))
  (refine KO.pickT rfl ?_ rfl rfl ?_; (focus rfl))
  refine KO.as rfl rfl ?_
  refine KO.nil ?_
  repeat (first | (with_reducible refine KQ.next ?_) | (with_reducible refine K.ret ?_))
  refine KQ.ret1 rfl rfl (fun w' hs => ⟨_, _, rfl, ⟨rfl, rfl⟩, hw.below_step hs.below, hs.below⟩)
end Go.Proofs.YtjhogocabcdjbabGreatDoor
/- what the law HouseCrashes keeps -/
namespace WB
open Go Go.RowKit
structure AcK where
  what : Int
  k : Int
  n : Int
  m : Int
  unit : Int
def ackC (x : AcK) : List Value := [.int .i64 x.what, .int .i64 x.k, .int .i64 x.n, .int .i64 x.m, .int .i64 x.unit]
def iC (x : Int) : List Value := [.int .i64 x]
theorem upd_set {P : List (List Int)} {u : Nat} (h : u < P.length) (l : List Int) : (fun v => (P.set u l).getD v []) = upd (fun v => P.getD v []) u l := by
  funext v
  unfold upd
  rw [List.getD_eq_getElem?_getD, List.getElem?_set]
  by_cases e : v = u
  · subst e
    rw [if_pos rfl, if_pos rfl, if_pos h]; rfl
  · rw [if_neg (fun e2 => e e2.symm), if_neg e]
    exact (List.getD_eq_getElem?_getD ..).symm
theorem setM_put (T : List Int) (k : Int) : putK (setM T) k (.bool true) = setM (addT T k) := by
  unfold setM addT
  induction T with
  | nil => rfl
  | cons a T ih =>
    rw [List.map_cons, putK]
    dsimp only
    by_cases h : a = k
    · rw [if_pos h, if_pos (by simp [h])]; rfl
    · rw [if_neg h, ih]
      have : k ≠ a := fun e => h e.symm
      by_cases hk : k ∈ T
      · simp [hk]
      · simp [hk, this]
theorem setM_del {T : List Int} (hn : T.Nodup) (k : Int) : delK (setM T) k = setM (delT T k) := by
  unfold setM delT
  induction T with
  | nil => rfl
  | cons a T ih =>
    rw [List.nodup_cons] at hn
    rw [List.map_cons, delK]
    dsimp only
    by_cases h : a = k
    · subst h
      rw [if_pos rfl, List.filter_cons, if_neg (by simp), List.filter_eq_self.2]
      intro x hx
      have : x ≠ a := fun e => hn.1 (e ▸ hx)
      simpa using this
    · rw [if_neg h, ih hn.2, List.filter_cons, if_pos (by simpa using h)]; rfl
theorem adds_take {P : List Int} {k : Nat} {x : Int} (hx : P[k]? = some x) (T : List Int) : (P.take (k + 1)).foldl addT T = addT ((P.take k).foldl addT T) x := by
  rw [take_succ_some hx, List.foldl_append]; rfl
theorem dels_take {P : List Int} {k : Nat} {x : Int} (hx : P[k]? = some x) (T : List Int) : (P.take (k + 1)).foldl delT T = delT ((P.take k).foldl delT T) x := by
  rw [take_succ_some hx, List.foldl_append]; rfl
structure Hs where
  i : Nat
  bh : Nat
  H : Ho
  H0 : Ho
  D : Dk
  R : List ByteArray
  T : List Int
  us : List Value
  P : List (List Int)
  vs : List Value
  G : List (List Int)
structure HsOk (c : Nat) (s : Hs) : Prop where
  L : LInv wInOut 0 c s.H s.H0 s.D s.R s.T (fun u => s.P.getD u []) (fun u => s.G.getD u [])
  us : s.us.length = 5
  P : s.P.length = 5
  vs : s.vs.length = 5
  G : s.G.length = 5
theorem five_funs (l : List (List Int)) (h : l = List.replicate 5 []) : (fun u => l.getD u []) = fun _ => ([] : List Int) := by
  subst h
  funext u
  rw [List.getD_eq_getElem?_getD, List.getElem?_replicate]
  split <;> rfl
/-- a unit's number -/
theorem unit_nat (x : Int) : ∃ u : Nat, pk x 5 = (u : Int) ∧ u < 5 := by
  obtain ⟨h1, h2⟩ := pk_lt x (n := 5) (by decide)
  exact ⟨(pk x 5).toNat, by omega, by omega⟩
theorem queue_nat (x : Int) : ∃ u : Nat, pk x 2 = (u : Int) ∧ u < 2 := by
  obtain ⟨h1, h2⟩ := pk_lt x (n := 2) (by decide)
  exact ⟨(pk x 2).toNat, by omega, by omega⟩
def qOf (k : Nat) : ByteArray := if k = 0 then inS else outS
theorem qOf_w (k : Nat) : wInOut (qOf k) := by
  unfold qOf wInOut
  split
  · exact .inl rfl
  · exact .inr rfl
theorem qOf_size (k : Nat) : (qOf k).size ≤ 3 := by
  unfold qOf
  split <;> decide
end WB
/- waybillkeep.HouseCrashes: the walk -/
namespace Go.Proofs.YtjhogocabcdjbabGreatDoor
open Go Go.RowKit WB
def Qs (w : World) : Prop := ∀ k, k < 2 → w.cell? ⟨0, k, none⟩ = some (.string (qOf k))
theorem Qs.ext {w w' : World} (h : Qs w) (e : Ext w w') : Qs w' := fun k hk => e.cell (h k hk)
abbrev arrB (b : Nat) (us : List Value) : HP := blk b (.cells us.toArray 36 (0, 0))
abbrev intS (v : Value) (l : List Int) : HP := SL 3 1 iC v l
set_option maxRecDepth 100000 in
set_option maxHeartbeats 2000000 in
theorem crashes_e (w0 : World) (L : List HP) (vl vt : Value) (xs : List AcK) (ts : List Int) (hin : ∀ w, St w0 L w → RdA w 5 ackC vl xs) (hin2 : ∀ w, St w0 L w → RdA w 1 iC vt ts) (hT : Tab w0) (hM : Lim w0) (hQ : Qs w0) :
    KE Tryz.prog 3 #[vl, vt] w0 L (fun u M => u = .bool true ∧ M = L) := by
  refine KE.mk (n := 235) Tryz.func3 rfl Tryz.ntmps3 (by simp) ?_
  intro w hw
  have hTw : Tab w := hT.ext (Ext.of_below hw.below)
  have hMw : Lim w := hM.ext (Ext.of_below hw.below)
  have hQw : Qs w := hQ.ext (Ext.of_below hw.below)
  have hmx : (1000000 : Nat) ≤ maxLen := by decide
  obtain ⟨sa, cap, rfl, hc⟩ := hin w hw
  obtain ⟨sb, capt, rfl, hct⟩ := hin2 w hw
  have fin : ∀ (w' : World) (M : List HP), St w M w' → ∃ v L', Ending.returned (.bool true) = Ending.returned v ∧ (v = .bool true ∧ L' = L) ∧ St w0 L' w' ∧ Below w.heap.size w w' := fun w' M hs => ⟨_, _, rfl, ⟨rfl, rfl⟩, hw.below_step hs.below, hs.below⟩
  repeat ((with_reducible refine K.seq ?_))
  refine K.reg ?_
  refine KO.as rfl rfl ?_
  refine KO.nil ?_
  repeat (first | (with_reducible refine K.seq ?_) | (with_reducible refine KQ.next ?_))
  by_cases hx1 : (xs.length : Int) > 100
  · refine K.reg ?_
    refine KO.mv rfl rfl ?_
    refine KO.len rfl Tryz.underlying22 rfl ?_
    refine KO.gtr rfl rfl rfl ?_
    refine KO.mv rfl rfl ?_
    (refine KO.no rfl rfl ?_ rfl ?_; (focus (simp only [decide_eq_true_eq, decide_eq_false_iff_not, Bool.not_eq_true, Bool.not_true, Bool.not_false, ne_eq]; omega)))
    (refine KO.no rfl rfl ?_ rfl ?_; (focus (simp only [decide_eq_true_eq, decide_eq_false_iff_not, Bool.not_eq_true, Bool.not_true, Bool.not_false, ne_eq]; omega)))
    (refine KO.no rfl rfl ?_ rfl ?_; (focus (simp only [decide_eq_true_eq, decide_eq_false_iff_not, Bool.not_eq_true, Bool.not_true, Bool.not_false, ne_eq]; omega)))
    (refine KO.pickT rfl ?_ rfl rfl ?_; (focus (simp only [decide_eq_true_eq, decide_eq_false_iff_not, Bool.not_eq_true, Bool.not_true, Bool.not_false, ne_eq]; omega)))
    refine KO.nil ?_
    repeat ((with_reducible refine KQ.next ?_))
    refine K.condT rfl rfl ?_
    repeat ((with_reducible refine K.seq ?_))
    refine K.reg ?_
    refine KO.as rfl rfl ?_
    refine KO.nil ?_
    repeat (first | (with_reducible refine KQ.next ?_) | (with_reducible refine KQ.then_ret ?_) | (with_reducible refine K.ret ?_))
    refine KQ.ret1 rfl rfl (fun w' hs => fin w' _ hs)
  refine K.reg ?_
  refine KO.mv rfl rfl ?_
  refine KO.len rfl Tryz.underlying22 rfl ?_
  refine KO.gtr rfl rfl rfl ?_
  refine KO.mv rfl rfl ?_
  (refine KO.on rfl rfl ?_ ?_; (focus (simp only [decide_eq_true_eq, decide_eq_false_iff_not, Bool.not_eq_true, Bool.not_true, Bool.not_false, ne_eq]; omega)); (refine KO.mv rfl rfl ?_))
  (refine KO.on rfl rfl ?_ ?_; (focus (simp only [decide_eq_true_eq, decide_eq_false_iff_not, Bool.not_eq_true, Bool.not_true, Bool.not_false, ne_eq]; omega)); (refine KO.len rfl Tryz.underlying23 rfl ?_))
  (refine KO.on rfl rfl ?_ ?_; (focus (simp only [decide_eq_true_eq, decide_eq_false_iff_not, Bool.not_eq_true, Bool.not_true, Bool.not_false, ne_eq]; omega)); (refine KO.gtr rfl rfl rfl ?_))
  (refine KO.pickF rfl ?_ rfl rfl ?_; (focus (simp only [decide_eq_true_eq, decide_eq_false_iff_not, Bool.not_eq_true, Bool.not_true, Bool.not_false, ne_eq]; omega)))
  refine KO.nil ?_
  repeat ((with_reducible refine KQ.next ?_))
  refine K.condD rfl (fun hx2 => ?_) (fun hx2 => ?_)
  · repeat ((with_reducible refine K.seq ?_))
    refine K.reg ?_
    refine KO.as rfl rfl ?_
    refine KO.nil ?_
    repeat (first | (with_reducible refine KQ.next ?_) | (with_reducible refine KQ.then_ret ?_) | (with_reducible refine K.ret ?_))
    refine KQ.ret1 rfl rfl (fun w' hs => fin w' _ hs)
  repeat (first | (with_reducible refine K.seq ?_) | (with_reducible refine KQ.next ?_) | (with_reducible refine K.skip ?_))
  refine K.reg ?_
  refine KO.ce (cp := []) rfl rfl rfl Tryz.call10 rfl (keptfact_e w _ hTw hMw) ?_; rintro v' L' ⟨rfl, rfl⟩
  refine KO.not rfl rfl ?_
  refine KO.nil ?_
  repeat ((with_reducible refine KQ.next ?_))
  refine K.condF rfl rfl ?_
  repeat (first | (with_reducible refine K.seq ?_) | (with_reducible refine KQ.next ?_) | (with_reducible refine K.skip ?_))
  refine K.reg ?_
  refine KO.bldN (pl := [(0, 300), (300, 1), (301, 1)]) rfl Tryz.zeroValue28 Tryz.runUnderlying28 (by intro w; simp [Tryz.sizeOf3, Tryz.sizeOf4, Tryz.sizeOf26]) (by exact rfl) rfl ?_
  refine KO.box rfl rfl (by exact rfl) rfl ?_; intro b38
  refine KO.as rfl rfl ?_
  refine KO.nil ?_
  repeat (first | (with_reducible refine K.seq ?_) | (with_reducible refine KQ.next ?_))
  refine K.conv (L' := [dkP b38 dkNew]) (fun w' h => h) ?_
  refine K.reg ?_
  refine KO.mv rfl rfl ?_
  refine KO.cl (cp := []) rfl rfl rfl Tryz.call11 rfl (KC.pk1 (by with_reducible (repeat (exact Pick.head))) (hopen_c w _ b38 0 dkNew hTw hMw (by decide) dkNew_ok)) ?_; rintro v' L' ⟨bh, rfl, rfl⟩; rw [open_new]
  refine KO.mv rfl rfl ?_
  refine KO.extrL rfl (by exact rfl) rfl ?_
  refine KO.extrL rfl (by exact rfl) rfl ?_
  refine KO.as rfl rfl ?_
  refine KO.as rfl rfl ?_
  refine KO.nil ?_
  repeat (first | (with_reducible refine K.seq ?_) | (with_reducible refine KQ.next ?_))
  refine K.reg ?_
  refine KO.mv rfl rfl ?_
  refine KO.neI0 rfl (by kernel_rfl) rfl ?_
  refine KO.mv rfl rfl ?_
  (refine KO.on rfl rfl ?_ ?_; (focus rfl); (refine KO.mv rfl rfl ?_))
  (refine KO.on rfl rfl ?_ ?_; (focus rfl); (refine KO.eqPn rfl Tryz.underlying29 rfl ?_))
  (refine KO.pickF rfl ?_ rfl rfl ?_; (focus rfl))
  refine KO.mv rfl rfl ?_
  (refine KO.on rfl rfl ?_ ?_; (focus rfl); (refine KO.mv rfl rfl ?_))
  refine KO.on rfl rfl (by rfl) ?_; refine KO.cl (cp := []) rfl rfl rfl Tryz.call12 rfl (KC.pk2 (by with_reducible (repeat (exact Pick.head))) (by with_reducible (repeat (exact Pick.head))) (named_c w _ bh b38 0 0 1 hTw hMw (by decide) (by decide) (by decide))) ?_; rintro v' L' ⟨rfl, rfl⟩
  (refine KO.on rfl rfl ?_ ?_; (focus rfl); (refine KO.not rfl rfl ?_))
  (refine KO.pickF rfl ?_ rfl rfl ?_; (focus rfl))
  refine KO.nil ?_
  repeat ((with_reducible refine KQ.next ?_))
  refine K.condF rfl rfl ?_
  repeat (first | (with_reducible refine K.seq ?_) | (with_reducible refine KQ.next ?_) | (with_reducible refine K.skip ?_))
  refine K.reg ?_
  refine KO.mkm (Value.int .i64) rfl rfl ?_; intro b55
  refine KO.as rfl rfl ?_
  refine KO.nil ?_
  repeat (first | (with_reducible refine K.seq ?_) | (with_reducible refine KQ.next ?_))
  refine K.reg ?_
  refine KO.alloc rfl Tryz.zeroValue36 (by exact rfl) rfl ?_; intro b9
  refine KO.alloc rfl Tryz.zeroValue36 (by exact rfl) rfl ?_; intro b10
  refine KO.nil ?_
  repeat (first | (with_reducible refine K.seq ?_) | (with_reducible refine KQ.next ?_))
  refine K.reg ?_
  refine KO.as rfl rfl ?_
  refine KO.nil ?_
  repeat (first | (with_reducible refine KQ.next ?_) | (with_reducible refine K.block ?_))
  have h00 : (0 + 1 : Int) % 1 = 0 := by decide
  obtain ⟨-, hNH, -⟩ := named_all 0 0 (by decide)
  have hL0 := LInv.start (id := 0) (j := 0) (by decide) (by decide)
  rw [h00, hNH]
  refine K.loop (fun s : Hs => [(0, .slice sa xs.length cap), (1, .slice sb ts.length capt), (4, .bool false), (5, ptrV b38), (6, ptrV s.bh), (8, .map (some b55)), (9, .pointer (some ⟨b9, 0, none⟩)), (10, .pointer (some ⟨b10, 0, none⟩)), (11, .int .i64 (s.i : Nat))]) (fun s => [dkP b38 s.D, hoP s.bh b38 s.H, omapK (Value.int .i64) b55 (setM s.T), arrB b9 s.us, arrB b10 s.vs, fam intS s.us s.P, fam intS s.vs s.G]) (fun s => s.i ≤ xs.length ∧ HsOk s.i s) (fun s => xs.length - s.i)
    ⟨0, bh, namedH 0 0, namedH 0 0, (nmH 0 (hNew 0, dkNew) 3).2, namedR 0, [], List.replicate 5 (.slice none 0 0), List.replicate 5 [], List.replicate 5 (.slice none 0 0), List.replicate 5 []⟩
    ⟨Nat.zero_le _, ⟨by dsimp only; rw [five_funs _ rfl]; exact hL0, rfl, rfl, rfl, rfl⟩⟩ ⟨rfl, rfl, rfl, rfl, rfl, rfl, rfl, rfl, rfl, trivial⟩ (fun w' h => ?_) ?_
  · have h1 := fam_nils (f := intS) (p := .slice none 0 0) (x := []) (fun L h => SL_nil h) 5 (fam_nils (f := intS) (p := .slice none 0 0) (x := []) (fun L h => SL_nil h) 5 h)
    exact h1.all (by repeat (first | exact PAll.refl | refine PAll.cons (by repeat (first | exact Pick.head | apply Pick.tail)) ?_))
  rintro s ⟨hi, hok⟩
  repeat ((with_reducible refine K.seq ?_))
  refine K.reg ?_
  refine KO.mv rfl rfl ?_
  refine KO.mv rfl rfl ?_
  refine KO.len rfl Tryz.underlying22 rfl ?_
  refine KO.lss rfl rfl rfl ?_
  refine KO.nil ?_
  repeat ((with_reducible refine KQ.next ?_))
  refine K.condD rfl (fun h1 => ?_) (fun h1 => ?_)
  · refine K.skip ?_
    refine KQ.next ?_
    refine K.mid (fun s : Hs => [(0, .slice sa xs.length cap), (1, .slice sb ts.length capt), (4, .bool false), (5, ptrV b38), (6, ptrV s.bh), (8, .map (some b55)), (9, .pointer (some ⟨b9, 0, none⟩)), (10, .pointer (some ⟨b10, 0, none⟩)), (11, .int .i64 (s.i : Nat))]) (fun s => [dkP b38 s.D, hoP s.bh b38 s.H, omapK (Value.int .i64) b55 (setM s.T), arrB b9 s.us, arrB b10 s.vs, fam intS s.us s.P, fam intS s.vs s.G]) (fun t => t.i = s.i ∧ HsOk (s.i + 1) t) ?_ ?_
    · refine K.block ?_
      obtain ⟨i, bh, H, H0, D, R, T, us, P, vs, G⟩ := s
      obtain ⟨hL, hus, hP, hvs, hG⟩ := hok
      dsimp only at hi h1 hL hus hP hvs hG ⊢
      have hil : i < xs.length := by omega
      have hi100 : i ≤ 100 := by omega
      obtain ⟨x, hx⟩ : ∃ e, xs[i]? = some e := ⟨xs[i], List.getElem?_eq_getElem hil⟩
      obtain ⟨ad, rfl, hcell⟩ := hc i x hx
      have hB := hL.B
      have hUk := hL.units (by omega)
      have hDk := hL.ok (by omega)
      have hle := hL.left
      repeat ((with_reducible refine K.seq ?_))
      refine K.reg ?_
      refine KO.mv rfl rfl ?_
      refine KO.mv rfl rfl ?_
      refine KO.idxH rfl rfl Tryz.runUnderlying22 Tryz.sizeOf38 (by exact rfl) (by omega) rfl ?_
      refine KO.ldN0 (cs := (ackC x).toArray) rfl rfl Tryz.isAgg38 Tryz.sizeOf38 rfl hcell rfl ?_
      refine KO.alloc rfl Tryz.zeroValue38 (by exact rfl) rfl ?_; intro b12
      refine KO.sto0 rfl rfl rfl (by exact rfl) (by exact Tryz.sizeOf38) (by exact rfl) (by with_reducible (repeat (exact Pick.head))) (by exact rfl) ?_
      refine KO.nil ?_
      repeat (first | (with_reducible refine K.seq ?_) | (with_reducible refine KQ.next ?_))
      obtain ⟨u, hu, hu5⟩ := unit_nat x.unit
      obtain ⟨k, hk, hk2⟩ := queue_nat x.k
      have hq : w.cell? ((⟨0, 0, none⟩ : Addr).add (k * 1)) = some (.string (qOf k)) := by rw [Addr.add_lit, Nat.zero_add, Nat.mul_one]; exact hQw k hk2
      have hqs := qOf_size k
      have hqw := qOf_w k
      refine K.draw [.pure, .read, .keep, .pure, .read, .keep, .pure, .read, .pure, .pure] [0, 1, 3, 4, 2, 5, 6, 7, 8, 9] (by kernel_rfl) (by kernel_rfl) ?_
      refine KO.fo0 (off := 4) rfl Tryz.runUnderlying38 rfl rfl Tryz.sizeOf3 rfl ?_
      refine KO.ld rfl rfl Tryz.isAgg3 (by with_reducible (repeat (exact Pick.head))) (by exact rfl) rfl ?_
      refine KO.fo0 (off := 1) rfl Tryz.runUnderlying38 rfl rfl Tryz.sizeOf3 rfl ?_
      refine KO.ld rfl rfl Tryz.isAgg3 (by with_reducible (repeat (exact Pick.head))) (by exact rfl) rfl ?_
      refine KO.ce (cp := []) rfl rfl rfl Tryz.call13 rfl (pick_e w _ x.unit 5 (by decide) (by decide)) ?_; rintro v' L' ⟨rfl, rfl⟩; rw [hu]
      refine KO.ce (cp := []) rfl rfl rfl Tryz.call13 rfl (pick_e w _ x.k 2 (by decide) (by decide)) ?_; rintro v' L' ⟨rfl, rfl⟩; rw [hk]
      refine KO.idxA (i := k) rfl rfl Tryz.runUnderlying40 Tryz.sizeOf9 rfl (by omega) rfl ?_
      refine KO.ld0 rfl rfl Tryz.isAgg9 hq rfl ?_
      refine KO.as rfl rfl ?_
      refine KO.as rfl rfl ?_
      refine KO.nil ?_
      repeat (first | (with_reducible refine K.seq ?_) | (with_reducible refine KQ.next ?_))
      generalize qOf k = q at hqs hqw ⊢
      obtain ⟨uv, huv⟩ : ∃ e, us[u]? = some e := ⟨us[u], List.getElem?_eq_getElem (by omega)⟩
      obtain ⟨Pu, hPu⟩ : ∃ e, P[u]? = some e := ⟨P[u], List.getElem?_eq_getElem (by omega)⟩
      obtain ⟨vv, hvv⟩ : ∃ e, vs[u]? = some e := ⟨vs[u], List.getElem?_eq_getElem (by omega)⟩
      obtain ⟨Gu, hGu⟩ : ∃ e, G[u]? = some e := ⟨G[u], List.getElem?_eq_getElem (by omega)⟩
      have hPd : P.getD u [] = Pu := by rw [List.getD_eq_getElem?_getD, hPu]; rfl
      have hGd : G.getD u [] = Gu := by rw [List.getD_eq_getElem?_getD, hGu]; rfl
      have hPl : Pu.length ≤ 100 ∧ Gu.length ≤ 100 := by
        obtain ⟨ui, up, ug⟩ := hL.unit u _ (uAt_of hB hu5)
        have h3 := ui.many
        have h4 := congrArg List.length up
        have h5 := congrArg List.length ug
        rw [hPd] at h4; rw [hGd] at h5
        simp only [List.length_map] at h4 h5
        omega
      have had9 : (⟨b9, 0, none⟩ : Addr).add (u * 1) = ⟨b9, u, none⟩ := by rw [Addr.add_lit, Nat.mul_one, Nat.zero_add]
      have had10 : (⟨b10, 0, none⟩ : Addr).add (u * 1) = ⟨b10, u, none⟩ := by rw [Addr.add_lit, Nat.mul_one, Nat.zero_add]
      refine K.reg ?_
      refine KO.fo0 (off := 0) rfl Tryz.runUnderlying38 rfl rfl Tryz.sizeOf3 rfl ?_
      refine KO.ld rfl rfl Tryz.isAgg3 (by with_reducible (repeat (exact Pick.head))) (by exact rfl) rfl ?_
      refine KO.nil ?_
      refine KQ.next ?_
      refine K.cut (fun s : Hs => [(0, .slice (some ad) xs.length cap), (1, .slice sb ts.length capt), (4, .bool false), (5, ptrV b38), (6, ptrV s.bh), (8, .map (some b55)), (9, .pointer (some ⟨b9, 0, none⟩)), (10, .pointer (some ⟨b10, 0, none⟩)), (11, .int .i64 (s.i : Nat))]) (fun s => [dkP b38 s.D, hoP s.bh b38 s.H, omapK (Value.int .i64) b55 (setM s.T), arrB b9 s.us, arrB b10 s.vs, fam intS s.us s.P, fam intS s.vs s.G]) (fun t => t.i = i ∧ HsOk (i + 1) t) ?_ ?_
      · refine K.block ?_
        repeat ((with_reducible refine K.seq ?_))
        refine K.reg ?_
        refine KO.eqI rfl rfl rfl ?_
        refine KO.as rfl rfl ?_
        refine KO.nil ?_
        repeat ((with_reducible refine KQ.next ?_))
        refine K.condD rfl (fun hw0 => ?_) (fun hw0 => ?_)
        · repeat ((with_reducible refine K.seq ?_))
          have hput := hL.put (by decide) hu5 hqw (pk x.m 10) ⟨#[120]⟩
          refine K.reg ?_
          refine KO.mv rfl rfl ?_
          refine KO.mv rfl rfl ?_
          refine KO.mv rfl rfl ?_
          refine KO.fo0 (off := 3) rfl Tryz.runUnderlying38 rfl rfl Tryz.sizeOf3 rfl ?_
          refine KO.ld rfl rfl Tryz.isAgg3 (by with_reducible (repeat (exact Pick.head))) (by exact rfl) rfl ?_
          refine KO.ce (cp := []) rfl rfl rfl Tryz.call13 rfl (pick_e w _ x.m 10 (by decide) (by decide)) ?_; rintro v' L' ⟨rfl, rfl⟩
          refine KO.cl (cp := []) rfl rfl rfl Tryz.call14 rfl (KC.pk1 (by with_reducible (repeat (first | exact Pick.head | apply Pick.tail))) (hput_c w _ bh b38 (1000 + 250 * i) H (u : Nat) q (pk x.m 10) ⟨#[120]⟩ hB (by omega) (by omega) (by decide) (fun y hy => by have := (hUk y hy).many; omega))) ?_; rintro v' L' ⟨rfl, rfl⟩
          refine KO.mv rfl rfl ?_
          refine KO.extrL rfl (by exact rfl) rfl ?_
          refine KO.extrL rfl (by exact rfl) rfl ?_
          refine KO.as rfl rfl ?_
          refine KO.as rfl rfl ?_
          refine KO.nil ?_
          repeat (first | (with_reducible refine K.seq ?_) | (with_reducible refine KQ.next ?_))
          refine K.reg ?_
          refine KO.mv rfl rfl ?_
          refine KO.eqN rfl (by kernel_rfl) rfl ?_
          refine KO.nil ?_
          repeat ((with_reducible refine KQ.next ?_))
          refine K.condD rfl (fun he => ?_) (fun he => ?_)
          · rw [if_pos he] at hput
            generalize putI H (u : Nat) q (pk x.m 10) ⟨#[120]⟩ = id at hput ⊢
            generalize putH H (u : Nat) q (pk x.m 10) ⟨#[120]⟩ = H1 at hput ⊢
            refine K.conv (fun w' hw' => fam_out huv hPu (hw'.pick (A := fam intS us P) (by with_reducible (repeat (first | exact Pick.head | apply Pick.tail))))) ?_
            refine K.reg ?_
            refine KO.mv rfl rfl ?_
            refine KO.mv rfl rfl ?_
            refine KO.idxA (i := u) rfl rfl Tryz.runUnderlying36 Tryz.sizeOf23 rfl (by omega) rfl ?_
            refine KO.ldAt (i := u) rfl rfl Tryz.isAgg23 (by with_reducible (repeat (first | exact Pick.head | apply Pick.tail))) had9 huv rfl ?_
            refine KO.mv rfl rfl ?_
            refine KO.bs1 (z := (Value.int .i64 0)) (sz := 1) (by' := 8) rfl rfl Tryz.underlying23 (by kernel_rfl) (by exact rfl) (by exact rfl) (by decide) (by decide) rfl ?_; intro b95
            refine KO.app (cf := iC) (z := Value.int .i64 0) (sz := 1) (by' := 8) (xs := Pu) rfl rfl rfl (.tail .head) .head Tryz.underlying23 (by kernel_rfl) (by exact rfl) id rfl rfl rfl (by omega) (by decide) rfl ?_; intro v96; refine KO.fact (fun _ hs => SL_form hs) ?_; rintro ⟨a96, k96, hv96, -⟩
            refine KO.idxA (i := u) rfl rfl Tryz.runUnderlying36 Tryz.sizeOf23 rfl (by omega) rfl ?_
            refine KO.stAt (i := u) rfl rfl rfl (by rw [hv96]; rfl) (by exact Tryz.sizeOf23) (by rw [hv96]; rfl) (by with_reducible (repeat (first | exact Pick.head | apply Pick.tail))) had9 (by omega) ?_
            refine KO.nil ?_
            repeat ((with_reducible refine KQ.blk_normal ?_))
            refine KQ.mid ⟨i, bh, H1, H0, D, R, T, us.set u v96, P.set u (Pu ++ [id]), vs, G⟩ ⟨rfl, ⟨?_, by simpa using hus, by simpa using hP, hvs, hG⟩⟩ ⟨rfl, rfl, rfl, rfl, rfl, rfl, rfl, rfl, rfl, trivial⟩ (fun w' hs' => ?_)
            · dsimp only
              rw [upd_set (by omega), ← hPd]
              exact hput
            · have hs2 := fam_in (f := intS) (ps := us) (xs := P) (i := u) (p := v96) (x := Pu ++ [id]) (by omega) (by omega) (hs'.all (M := intS v96 (Pu ++ [id]) :: fam intS (us.eraseIdx u) (P.eraseIdx u) :: [dkP b38 D, hoP bh b38 H1, omapK (Value.int .i64) b55 (setM T), arrB b9 (us.set u v96), arrB b10 vs, fam intS vs G]) (by repeat (first | exact PAll.nil | refine PAll.cons (by repeat (first | exact Pick.head | apply Pick.tail)) ?_)))
              exact hs2.all (by repeat (first | exact PAll.refl | refine PAll.cons (by repeat (first | exact Pick.head | apply Pick.tail)) ?_))
          · rw [if_neg he] at hput
            repeat (first | (with_reducible refine KQ.blk_normal ?_) | (with_reducible refine K.skip ?_))
            refine KQ.mid ⟨i, bh, putH H (u : Nat) q (pk x.m 10) ⟨#[120]⟩, H0, D, R, T, us, P, vs, G⟩ ⟨rfl, ⟨hput, hus, hP, hvs, hG⟩⟩ ⟨rfl, rfl, rfl, rfl, rfl, rfl, rfl, rfl, rfl, trivial⟩ (fun w' hs' => hs'.all (by repeat (first | exact PAll.nil | refine PAll.cons (by repeat (first | exact Pick.head | apply Pick.tail)) ?_)))
        repeat ((with_reducible refine K.seq ?_))
        refine K.reg ?_
        refine KO.eqI rfl rfl rfl ?_
        refine KO.as rfl rfl ?_
        refine KO.nil ?_
        repeat ((with_reducible refine KQ.next ?_))
        refine K.condD rfl (fun hw1 => ?_) (fun hw1 => ?_)
        · repeat ((with_reducible refine K.seq ?_))
          obtain ⟨hget, hgin⟩ := hL.get hu5 hqw
          refine K.reg ?_
          refine KO.mv rfl rfl ?_
          refine KO.mv rfl rfl ?_
          refine KO.mv rfl rfl ?_
          refine KO.cl (cp := []) rfl rfl rfl Tryz.call15 rfl (KC.pk1 (by with_reducible (repeat (first | exact Pick.head | apply Pick.tail))) (hget_c w _ bh b38 (1000 + 250 * i) H (u : Nat) q hB (by omega) (fun y hy => by have := (hUk y hy).many; omega))) ?_; rintro v' L' ⟨rfl, rfl⟩
          refine KO.mv rfl rfl ?_
          refine KO.extrL rfl (by exact rfl) rfl ?_
          refine KO.extrL rfl (by exact rfl) rfl ?_
          refine KO.alloc rfl Tryz.zeroValue44 (by exact rfl) rfl ?_; intro b17
          refine KO.sto0 rfl rfl rfl (by exact rfl) (by exact Tryz.sizeOf44) (by exact rfl) (by with_reducible (repeat (exact Pick.head))) (by exact rfl) ?_
          refine KO.as rfl rfl ?_
          refine KO.nil ?_
          repeat (first | (with_reducible refine K.seq ?_) | (with_reducible refine KQ.next ?_))
          refine K.reg ?_
          refine KO.mv rfl rfl ?_
          refine KO.eqN rfl (by kernel_rfl) rfl ?_
          refine KO.nil ?_
          repeat ((with_reducible refine KQ.next ?_))
          refine K.condD rfl (fun he => ?_) (fun he => ?_)
          · rw [if_pos he] at hget
            have hin3 := hgin he
            rcases hgm : getM H (u : Nat) q with ⟨mi, mp, mb, mq, mh⟩
            rw [hgm] at hin3 hget
            dsimp only at hin3 hget
            generalize getH H (u : Nat) q = H1 at hget ⊢
            repeat ((with_reducible refine K.seq ?_))
            refine K.reg ?_
            refine KO.mv rfl rfl ?_
            refine KO.fo0 (off := 0) rfl Tryz.runUnderlying44 rfl rfl Tryz.sizeOf3 rfl ?_
            refine KO.ld (v := .int .i64 mi) rfl rfl Tryz.isAgg3 (by with_reducible (repeat (exact Pick.head))) (by exact rfl) rfl ?_
            refine KO.lkm intKey mi rfl rfl rfl Tryz.underlying35 Tryz.underlying3 Tryz.zeroValue4 (by with_reducible (repeat (first | exact Pick.head | apply Pick.tail))) rfl ?_; rw [setM_get, if_pos hin3]
            refine KO.not rfl rfl ?_
            refine KO.nil ?_
            repeat ((with_reducible refine KQ.next ?_))
            refine K.condF rfl rfl ?_
            repeat (first | (with_reducible refine KQ.next ?_) | (with_reducible refine K.skip ?_))
            refine K.conv (fun w' hw' => fam_out hvv hGu (hw'.pick (A := fam intS vs G) (by with_reducible (repeat (first | exact Pick.head | apply Pick.tail))))) ?_
            refine K.draw [.pure, .pure, .pure, .read, .pure, .read, .keep, .write, .pure, .write] [0, 1, 2, 3, 4, 5, 6, 7, 8, 9] (by kernel_rfl) (by kernel_rfl) ?_
            refine KO.mv rfl rfl ?_
            refine KO.mv rfl rfl ?_
            refine KO.idxA (i := u) rfl rfl Tryz.runUnderlying36 Tryz.sizeOf23 rfl (by omega) rfl ?_
            refine KO.ldAt (i := u) rfl rfl Tryz.isAgg23 (by with_reducible (repeat (first | exact Pick.head | apply Pick.tail))) had10 hvv rfl ?_
            refine KO.fo0 (off := 0) rfl Tryz.runUnderlying44 rfl rfl Tryz.sizeOf3 rfl ?_
            refine KO.ld (v := .int .i64 mi) rfl rfl Tryz.isAgg3 (by with_reducible (repeat (first | exact Pick.head | apply Pick.tail))) (by exact rfl) rfl ?_
            refine KO.bs1 (z := (Value.int .i64 0)) (sz := 1) (by' := 8) rfl rfl Tryz.underlying23 (by kernel_rfl) (by exact rfl) (by exact rfl) (by decide) (by decide) rfl ?_; intro b120
            refine KO.app (cf := iC) (z := Value.int .i64 0) (sz := 1) (by' := 8) (xs := Gu) rfl rfl rfl (.tail .head) .head Tryz.underlying23 (by kernel_rfl) (by exact rfl) mi rfl rfl rfl (by omega) (by decide) rfl ?_; intro v96; refine KO.fact (fun _ hs => SL_form hs) ?_; rintro ⟨a96, k96, hv96, -⟩
            refine KO.idxA (i := u) rfl rfl Tryz.runUnderlying36 Tryz.sizeOf23 rfl (by omega) rfl ?_
            refine KO.stAt (i := u) rfl rfl rfl (by rw [hv96]; rfl) (by exact Tryz.sizeOf23) (by rw [hv96]; rfl) (by with_reducible (repeat (first | exact Pick.head | apply Pick.tail))) had10 (by omega) ?_
            refine KO.nil ?_
            repeat ((with_reducible refine KQ.blk_normal ?_))
            refine KQ.mid ⟨i, bh, H1, H0, D, R, T, us, P, vs.set u v96, G.set u (Gu ++ [mi])⟩ ⟨rfl, ⟨?_, hus, hP, by simpa using hvs, by simpa using hG⟩⟩ ⟨rfl, rfl, rfl, rfl, rfl, rfl, rfl, rfl, rfl, trivial⟩ (fun w' hs' => ?_)
            · dsimp only
              rw [upd_set (by omega), ← hGd]
              exact hget
            · have hs2 := fam_in (f := intS) (ps := vs) (xs := G) (i := u) (p := v96) (x := Gu ++ [mi]) (by omega) (by omega) (hs'.all (M := intS v96 (Gu ++ [mi]) :: fam intS (vs.eraseIdx u) (G.eraseIdx u) :: [dkP b38 D, hoP bh b38 H1, omapK (Value.int .i64) b55 (setM T), arrB b9 us, arrB b10 (vs.set u v96), fam intS us P]) (by repeat (first | exact PAll.nil | refine PAll.cons (by repeat (first | exact Pick.head | apply Pick.tail)) ?_)))
              exact hs2.all (by repeat (first | exact PAll.refl | refine PAll.cons (by repeat (first | exact Pick.head | apply Pick.tail)) ?_))
          · rw [if_neg he] at hget
            repeat (first | (with_reducible refine KQ.blk_normal ?_) | (with_reducible refine K.skip ?_))
            refine KQ.mid ⟨i, bh, getH H (u : Nat) q, H0, D, R, T, us, P, vs, G⟩ ⟨rfl, ⟨hget, hus, hP, hvs, hG⟩⟩ ⟨rfl, rfl, rfl, rfl, rfl, rfl, rfl, rfl, rfl, trivial⟩ (fun w' hs' => hs'.all (by repeat (first | exact PAll.nil | refine PAll.cons (by repeat (first | exact Pick.head | apply Pick.tail)) ?_)))
        repeat ((with_reducible refine K.seq ?_))
        refine K.reg ?_
        refine KO.eqI rfl rfl rfl ?_
        refine KO.as rfl rfl ?_
        refine KO.nil ?_
        repeat ((with_reducible refine KQ.next ?_))
        refine K.condD rfl (fun hw2 => ?_) (fun hw2 => ?_)
        · repeat ((with_reducible refine K.seq ?_))
          obtain ⟨H0', R', hcom⟩ := hL.commit (by decide) (by omega) hu5
          refine K.reg ?_
          refine KO.mv rfl rfl ?_
          refine KO.mv rfl rfl ?_
          refine KO.cl (cp := []) rfl rfl rfl Tryz.call16 rfl (KC.pk2 (by with_reducible (repeat (first | exact Pick.head | apply Pick.tail))) (by with_reducible (repeat (first | exact Pick.head | apply Pick.tail))) (hcommit_c w _ bh b38 (1000 + 250 * i) H D (u : Nat) hTw hMw hB (by omega) hUk hDk.len hDk.left)) ?_; rintro v' L' ⟨rfl, rfl⟩
          refine KO.eqN rfl (by kernel_rfl) rfl ?_
          refine KO.nil ?_
          repeat ((with_reducible refine KQ.next ?_))
          refine K.condD rfl (fun he => ?_) (fun he => ?_)
          · rw [if_pos he, if_pos he, if_pos he] at hcom
            generalize cmH H D (u : Nat) = H1 at hcom ⊢
            generalize cmD H D (u : Nat) = D1 at hcom ⊢
            repeat ((with_reducible refine K.seq ?_))
            refine K.conv (fun w' hw' => fam_out huv hPu (hw'.pick (A := fam intS us P) (by with_reducible (repeat (first | exact Pick.head | apply Pick.tail))))) ?_
            refine K.fact (fun _ hs => SL_form hs) ?_
            rintro ⟨au, ku, hauv, hag⟩
            refine K.conv (fun w' hw' => fam_out hvv hGu (hw'.pick (A := fam intS vs G) (by with_reducible (repeat (first | exact Pick.head | apply Pick.tail))))) ?_
            refine K.fact (fun _ hs => SL_form hs) ?_
            rintro ⟨av, kv, havv, hagv⟩
            refine K.reg ?_
            refine KO.mv rfl rfl ?_
            refine KO.idxA (i := u) rfl rfl Tryz.runUnderlying36 Tryz.sizeOf23 rfl (by omega) rfl ?_
            refine KO.ldAt (i := u) rfl rfl Tryz.isAgg23 (by with_reducible (repeat (first | exact Pick.head | apply Pick.tail))) had9 huv rfl ?_; rw [hauv]
            refine KO.len rfl Tryz.underlying23 rfl ?_
            refine KO.mv rfl rfl ?_
            refine KO.nil ?_
            repeat (first | (with_reducible refine KQ.next ?_) | (with_reducible refine K.block ?_))
            have hTn := hL.tn
            refine K.loop (fun j : Nat => (131, .slice au Pu.length ku) :: (132, .int .i64 (Pu.length : Nat)) :: (133, .int .i64 (j : Nat)) :: (13, .int .i64 (u : Nat)) :: [(0, .slice (some ad) xs.length cap), (1, .slice sb ts.length capt), (4, .bool false), (5, ptrV b38), (6, ptrV bh), (8, .map (some b55)), (9, .pointer (some ⟨b9, 0, none⟩)), (10, .pointer (some ⟨b10, 0, none⟩)), (11, .int .i64 (i : Nat))]) (fun j => [intS (.slice av Gu.length kv) Gu, fam intS (vs.eraseIdx u) (G.eraseIdx u), intS (.slice au Pu.length ku) Pu, fam intS (us.eraseIdx u) (P.eraseIdx u), dkP b38 D1, hoP bh b38 H1, omapK (Value.int .i64) b55 (setM ((Pu.take j).foldl addT T)), arrB b9 us, arrB b10 vs]) (fun j => j ≤ Pu.length) (fun j => Pu.length - j) 0 (Nat.zero_le _) ⟨rfl, rfl, rfl, rfl, rfl, rfl, rfl, rfl, rfl, rfl, rfl, rfl, rfl, trivial⟩ (fun w' hs' => by rw [← havv]; exact hs'.all (by repeat (first | exact PAll.nil | refine PAll.cons (by repeat (first | exact Pick.head | apply Pick.tail)) ?_))) ?_
            intro j hj
            repeat ((with_reducible refine K.seq ?_))
            refine K.reg ?_
            refine KO.lss rfl rfl rfl ?_
            refine KO.nil ?_
            repeat (first | (with_reducible refine K.seq ?_) | (with_reducible refine KQ.next ?_))
            refine K.condD rfl (fun h30 => ?_) (fun h30 => ?_)
            · obtain ⟨y, hy⟩ : ∃ e, Pu[j]? = some e := ⟨Pu[j], List.getElem?_eq_getElem (by omega)⟩
              obtain ⟨g, rfl⟩ := hag (by omega)
              repeat (first | (with_reducible refine K.seq ?_) | (with_reducible refine KQ.next ?_) | (with_reducible refine K.skip ?_) | (with_reducible refine K.block ?_))
              refine K.reg ?_
              refine KO.idx0 rfl rfl Tryz.runUnderlying23 Tryz.sizeOf3 (by exact rfl) (by omega) rfl ?_
              refine KO.ldE0 rfl rfl Tryz.isAgg3 (by with_reducible (repeat (first | exact Pick.head | apply Pick.tail))) (fun _ => rfl) (by assumption) (by exact rfl) (by exact rfl) rfl ?_
              refine KO.as rfl rfl ?_
              refine KO.nil ?_
              repeat ((with_reducible refine KQ.next ?_))
              refine K.reg ?_
              refine KO.mv rfl rfl ?_
              refine KO.mv rfl rfl ?_
              refine KO.upm intKey y rfl rfl rfl rfl Tryz.underlying35 Tryz.underlying3 (by with_reducible (repeat (first | exact Pick.head | apply Pick.tail))) ?_; rw [setM_put, ← adds_take hy]
              refine KO.nil ?_
              repeat (first | (with_reducible refine KQ.next ?_) | (with_reducible refine KQ.blk_normal ?_))
              refine K.reg ?_
              refine KO.add rfl rfl rfl (by omega) rfl ?_
              refine KO.mv rfl rfl ?_
              refine KO.nil ?_
              refine KQ.round (j + 1) (by omega) (by omega) ⟨rfl, rfl, rfl, rfl, rfl, rfl, rfl, rfl, rfl, rfl, rfl, rfl, rfl, trivial⟩ (fun _ hs' => hs'.all (by repeat (first | exact PAll.refl | refine PAll.cons (by repeat (first | exact Pick.head | apply Pick.tail)) ?_)))
            obtain rfl : j = Pu.length := by omega
            rw [List.take_length]
            repeat (first | (with_reducible refine K.seq ?_) | (with_reducible refine KQ.next ?_) | (with_reducible refine KQ.then_exit ?_) | (with_reducible refine KQ.blk_exit ?_) | (with_reducible refine K.exit ?_))
            refine K.reg ?_
            refine KO.mv rfl rfl ?_
            refine KO.idxA (i := u) rfl rfl Tryz.runUnderlying36 Tryz.sizeOf23 rfl (by omega) rfl ?_
            refine KO.ldAt (i := u) rfl rfl Tryz.isAgg23 (by with_reducible (repeat (first | exact Pick.head | apply Pick.tail))) had10 hvv rfl ?_; rw [havv]
            refine KO.len rfl Tryz.underlying23 rfl ?_
            refine KO.mv rfl rfl ?_
            refine KO.nil ?_
            repeat (first | (with_reducible refine KQ.next ?_) | (with_reducible refine K.block ?_))
            refine K.loop (fun j : Nat => (142, .slice av Gu.length kv) :: (143, .int .i64 (Gu.length : Nat)) :: (144, .int .i64 (j : Nat)) :: (13, .int .i64 (u : Nat)) :: [(0, .slice (some ad) xs.length cap), (1, .slice sb ts.length capt), (4, .bool false), (5, ptrV b38), (6, ptrV bh), (8, .map (some b55)), (9, .pointer (some ⟨b9, 0, none⟩)), (10, .pointer (some ⟨b10, 0, none⟩)), (11, .int .i64 (i : Nat))]) (fun j => [intS (.slice av Gu.length kv) Gu, fam intS (vs.eraseIdx u) (G.eraseIdx u), intS (.slice au Pu.length ku) Pu, fam intS (us.eraseIdx u) (P.eraseIdx u), dkP b38 D1, hoP bh b38 H1, omapK (Value.int .i64) b55 (setM ((Gu.take j).foldl delT (Pu.foldl addT T))), arrB b9 us, arrB b10 vs]) (fun j => j ≤ Gu.length) (fun j => Gu.length - j) 0 (Nat.zero_le _) ⟨rfl, rfl, rfl, rfl, rfl, rfl, rfl, rfl, rfl, rfl, rfl, rfl, rfl, trivial⟩ (fun w' hs' => hs'.all (by repeat (exact PAll.refl))) ?_
            intro j hj
            repeat ((with_reducible refine K.seq ?_))
            refine K.reg ?_
            refine KO.lss rfl rfl rfl ?_
            refine KO.nil ?_
            repeat (first | (with_reducible refine K.seq ?_) | (with_reducible refine KQ.next ?_))
            refine K.condD rfl (fun h30 => ?_) (fun h30 => ?_)
            · obtain ⟨y, hy⟩ : ∃ e, Gu[j]? = some e := ⟨Gu[j], List.getElem?_eq_getElem (by omega)⟩
              obtain ⟨g, rfl⟩ := hagv (by omega)
              repeat (first | (with_reducible refine K.seq ?_) | (with_reducible refine KQ.next ?_) | (with_reducible refine K.skip ?_) | (with_reducible refine K.block ?_))
              refine K.reg ?_
              refine KO.idx0 rfl rfl Tryz.runUnderlying23 Tryz.sizeOf3 (by exact rfl) (by omega) rfl ?_
              refine KO.ldE0 rfl rfl Tryz.isAgg3 (by with_reducible (repeat (exact Pick.head))) (fun _ => rfl) (by assumption) (by exact rfl) (by exact rfl) rfl ?_
              refine KO.as rfl rfl ?_
              refine KO.nil ?_
              repeat ((with_reducible refine KQ.next ?_))
              refine K.reg ?_
              refine KO.mv rfl rfl ?_
              refine KO.mv rfl rfl ?_
              refine KO.delm intKey y rfl rfl rfl Tryz.underlying35 Tryz.underlying3 (by with_reducible (repeat (first | exact Pick.head | apply Pick.tail))) ?_; rw [setM_del (dels_nodup _ (adds_nodup _ hTn)), ← dels_take hy]
              refine KO.nil ?_
              repeat (first | (with_reducible refine KQ.next ?_) | (with_reducible refine KQ.blk_normal ?_))
              refine K.reg ?_
              refine KO.add rfl rfl rfl (by omega) rfl ?_
              refine KO.mv rfl rfl ?_
              refine KO.nil ?_
              refine KQ.round (j + 1) (by omega) (by omega) ⟨rfl, rfl, rfl, rfl, rfl, rfl, rfl, rfl, rfl, rfl, rfl, rfl, rfl, trivial⟩ (fun _ hs' => hs'.all (by repeat (first | exact PAll.refl | refine PAll.cons (by repeat (first | exact Pick.head | apply Pick.tail)) ?_)))
            obtain rfl : j = Gu.length := by omega
            rw [List.take_length]
            repeat (first | (with_reducible refine KQ.next ?_) | (with_reducible refine KQ.then_exit ?_) | (with_reducible refine KQ.blk_exit ?_) | (with_reducible refine K.exit ?_))
            refine K.reg ?_
            refine KO.mv rfl rfl ?_
            refine KO.mv rfl rfl ?_
            refine KO.idxA (i := u) rfl rfl Tryz.runUnderlying36 Tryz.sizeOf23 rfl (by omega) rfl ?_
            refine KO.stAt (i := u) rfl rfl rfl rfl (by exact Tryz.sizeOf23) rfl (by with_reducible (repeat (first | exact Pick.head | apply Pick.tail))) had9 (by omega) ?_
            refine KO.idxA (i := u) rfl rfl Tryz.runUnderlying36 Tryz.sizeOf23 rfl (by omega) rfl ?_
            refine KO.stAt (i := u) rfl rfl rfl rfl (by exact Tryz.sizeOf23) rfl (by with_reducible (repeat (first | exact Pick.head | apply Pick.tail))) had10 (by omega) ?_
            refine KO.nil ?_
            repeat ((with_reducible refine KQ.blk_normal ?_))
            refine KQ.mid ⟨i, bh, H1, H0', D1, R', Gu.foldl delT (Pu.foldl addT T), us.set u (.slice none 0 0), P.set u [], vs.set u (.slice none 0 0), G.set u []⟩ ⟨rfl, ⟨?_, by simpa using hus, by simpa using hP, by simpa using hvs, by simpa using hG⟩⟩ ⟨rfl, rfl, rfl, rfl, rfl, rfl, rfl, rfl, rfl, trivial⟩ (fun w' hs' => ?_)
            · dsimp only at hcom ⊢
              rw [upd_set (by omega), upd_set (by omega)]
              rw [hPd, hGd] at hcom
              exact hcom
            · have hs2 := fam_in (f := intS) (ps := us) (xs := P) (i := u) (p := .slice none 0 0) (x := []) (by omega) (by omega) (SL_nil (hs'.all (M := fam intS (us.eraseIdx u) (P.eraseIdx u) :: fam intS (vs.eraseIdx u) (G.eraseIdx u) :: [dkP b38 D1, hoP bh b38 H1, omapK (Value.int .i64) b55 (setM (Gu.foldl delT (Pu.foldl addT T))), arrB b9 (us.set u (.slice none 0 0)), arrB b10 (vs.set u (.slice none 0 0))]) (by repeat (first | exact PAll.nil | refine PAll.cons (by repeat (first | exact Pick.head | apply Pick.tail)) ?_))))
              have hs3 := fam_in (f := intS) (ps := vs) (xs := G) (i := u) (p := .slice none 0 0) (x := []) (by omega) (by omega) (SL_nil (hs2.all (M := fam intS (vs.eraseIdx u) (G.eraseIdx u) :: [dkP b38 D1, hoP bh b38 H1, omapK (Value.int .i64) b55 (setM (Gu.foldl delT (Pu.foldl addT T))), arrB b9 (us.set u (.slice none 0 0)), arrB b10 (vs.set u (.slice none 0 0)), fam intS (us.set u (.slice none 0 0)) (P.set u [])]) (by repeat (first | exact PAll.refl | refine PAll.cons (by repeat (first | exact Pick.head | apply Pick.tail)) ?_))))
              exact hs3.all (by repeat (first | exact PAll.refl | refine PAll.cons (by repeat (first | exact Pick.head | apply Pick.tail)) ?_))
          · rw [if_neg he, if_neg he, if_neg he] at hcom
            repeat (first | (with_reducible refine KQ.blk_normal ?_) | (with_reducible refine K.skip ?_))
            refine KQ.mid ⟨i, bh, cmH H D (u : Nat), H0', cmD H D (u : Nat), R', T, us, P, vs, G⟩ ⟨rfl, ⟨hcom, hus, hP, hvs, hG⟩⟩ ⟨rfl, rfl, rfl, rfl, rfl, rfl, rfl, rfl, rfl, trivial⟩ (fun w' hs' => hs'.all (by repeat (first | exact PAll.nil | refine PAll.cons (by repeat (first | exact Pick.head | apply Pick.tail)) ?_)))
        repeat ((with_reducible refine K.seq ?_))
        refine K.reg ?_
        refine KO.eqI rfl rfl rfl ?_
        refine KO.as rfl rfl ?_
        refine KO.nil ?_
        repeat ((with_reducible refine KQ.next ?_))
        refine K.condD rfl (fun hw3 => ?_) (fun hw3 => ?_)
        · repeat ((with_reducible refine K.seq ?_))
          have hbk := hL.back hu5
          refine K.reg ?_
          refine KO.mv rfl rfl ?_
          refine KO.mv rfl rfl ?_
          refine KO.cl (cp := []) rfl rfl rfl Tryz.call17 rfl (KC.pk1 (by with_reducible (repeat (first | exact Pick.head | apply Pick.tail))) (hback_c w _ bh b38 (1000 + 250 * i) H (u : Nat) hB (by omega) (fun y hy => by have := (hUk y hy).many; omega))) ?_; rintro v' L' ⟨rfl, rfl⟩
          refine KO.eqN rfl (by kernel_rfl) rfl ?_
          refine KO.nil ?_
          repeat ((with_reducible refine KQ.next ?_))
          refine K.condD rfl (fun he => ?_) (fun he => ?_)
          · rw [if_pos he, if_pos he] at hbk
            generalize bkH H (u : Nat) = H1 at hbk ⊢
            refine K.conv (fun w' hw' => fam_out huv hPu (hw'.pick (A := fam intS us P) (by with_reducible (repeat (first | exact Pick.head | apply Pick.tail))))) ?_
            refine K.conv (fun w' hw' => fam_out hvv hGu (hw'.pick (A := fam intS vs G) (by with_reducible (repeat (first | exact Pick.head | apply Pick.tail))))) ?_
            refine K.reg ?_
            refine KO.mv rfl rfl ?_
            refine KO.mv rfl rfl ?_
            refine KO.idxA (i := u) rfl rfl Tryz.runUnderlying36 Tryz.sizeOf23 rfl (by omega) rfl ?_
            refine KO.stAt (i := u) rfl rfl rfl rfl (by exact Tryz.sizeOf23) rfl (by with_reducible (repeat (first | exact Pick.head | apply Pick.tail))) had9 (by omega) ?_
            refine KO.idxA (i := u) rfl rfl Tryz.runUnderlying36 Tryz.sizeOf23 rfl (by omega) rfl ?_
            refine KO.stAt (i := u) rfl rfl rfl rfl (by exact Tryz.sizeOf23) rfl (by with_reducible (repeat (first | exact Pick.head | apply Pick.tail))) had10 (by omega) ?_
            refine KO.nil ?_
            repeat ((with_reducible refine KQ.blk_normal ?_))
            refine KQ.mid ⟨i, bh, H1, H0, D, R, T, us.set u (.slice none 0 0), P.set u [], vs.set u (.slice none 0 0), G.set u []⟩ ⟨rfl, ⟨?_, by simpa using hus, by simpa using hP, by simpa using hvs, by simpa using hG⟩⟩ ⟨rfl, rfl, rfl, rfl, rfl, rfl, rfl, rfl, rfl, trivial⟩ (fun w' hs' => by
              have hs2 := fam_in (f := intS) (ps := us) (xs := P) (i := u) (p := .slice none 0 0) (x := []) (by omega) (by omega) (SL_nil (hs'.all (M := fam intS (us.eraseIdx u) (P.eraseIdx u) :: fam intS (vs.eraseIdx u) (G.eraseIdx u) :: [dkP b38 D, hoP bh b38 H1, omapK (Value.int .i64) b55 (setM T), arrB b9 (us.set u (.slice none 0 0)), arrB b10 (vs.set u (.slice none 0 0))]) (by repeat (first | exact PAll.nil | refine PAll.cons (by repeat (first | exact Pick.head | apply Pick.tail)) ?_))))
              have hs3 := fam_in (f := intS) (ps := vs) (xs := G) (i := u) (p := .slice none 0 0) (x := []) (by omega) (by omega) (SL_nil (hs2.all (M := fam intS (vs.eraseIdx u) (G.eraseIdx u) :: [dkP b38 D, hoP bh b38 H1, omapK (Value.int .i64) b55 (setM T), arrB b9 (us.set u (.slice none 0 0)), arrB b10 (vs.set u (.slice none 0 0)), fam intS (us.set u (.slice none 0 0)) (P.set u [])]) (by repeat (first | exact PAll.refl | refine PAll.cons (by repeat (first | exact Pick.head | apply Pick.tail)) ?_))))
              exact hs3.all (by repeat (first | exact PAll.refl | refine PAll.cons (by repeat (first | exact Pick.head | apply Pick.tail)) ?_)))
            · dsimp only
              rw [upd_set (by omega), upd_set (by omega)]
              exact hbk
          · rw [if_neg he, if_neg he] at hbk
            repeat (first | (with_reducible refine KQ.blk_normal ?_) | (with_reducible refine K.skip ?_))
            refine KQ.mid ⟨i, bh, bkH H (u : Nat), H0, D, R, T, us, P, vs, G⟩ ⟨rfl, ⟨hbk, hus, hP, hvs, hG⟩⟩ ⟨rfl, rfl, rfl, rfl, rfl, rfl, rfl, rfl, rfl, trivial⟩ (fun w' hs' => hs'.all (by repeat (first | exact PAll.nil | refine PAll.cons (by repeat (first | exact Pick.head | apply Pick.tail)) ?_)))
        repeat ((with_reducible refine K.seq ?_))
        refine K.reg ?_
        refine KO.eqI rfl rfl rfl ?_
        refine KO.as rfl rfl ?_
        refine KO.nil ?_
        repeat ((with_reducible refine KQ.next ?_))
        refine K.condD rfl (fun hw8 => ?_) (fun hw8 => ?_)
        · repeat ((with_reducible refine K.seq ?_))
          have hcl := (hL.cut (n := pk x.n 4) (by have := pk_lt x.n (n := 4) (by decide); omega)).up
          refine K.reg ?_
          refine KO.mv rfl rfl ?_
          refine KO.fo0 (off := 2) rfl Tryz.runUnderlying38 rfl rfl Tryz.sizeOf3 rfl ?_
          refine KO.ld rfl rfl Tryz.isAgg3 (by with_reducible (repeat (exact Pick.head))) (by exact rfl) rfl ?_
          refine KO.ce (cp := []) rfl rfl rfl Tryz.call13 rfl (pick_e w _ x.n 4 (by decide) (by decide)) ?_; rintro v' L' ⟨rfl, rfl⟩
          refine KO.cl (cp := []) rfl rfl rfl Tryz.call18 rfl (KC.pk1 (by with_reducible (repeat (first | exact Pick.head | apply Pick.tail))) (cut_c w _ b38 D (pk x.n 4) hDk.len)) ?_; rintro v' L' ⟨rfl, rfl⟩
          refine KO.nil ?_
          repeat (first | (with_reducible refine K.seq ?_) | (with_reducible refine KQ.next ?_))
          refine K.reg ?_
          refine KO.mv rfl rfl ?_
          refine KO.len rfl Tryz.underlying23 rfl ?_
          refine KO.gtr rfl rfl rfl ?_
          refine KO.nil ?_
          repeat ((with_reducible refine KQ.next ?_))
          refine K.condD rfl (fun ht => ?_) (fun ht => ?_)
          · have hil2 : i % ts.length < ts.length := Nat.mod_lt _ (by omega)
            obtain ⟨y, hy⟩ : ∃ e, ts[i % ts.length]? = some e := ⟨ts[i % ts.length], List.getElem?_eq_getElem hil2⟩
            obtain ⟨adt, rfl, hcc⟩ := hct _ y hy
            have hcy : w.cell? (adt.add (i % ts.length * 1)) = some (.int .i64 y) := by
              have := hcc 0 _ rfl
              rwa [Addr.add_add, Nat.add_zero] at this
            have hpk := pk_lt y (n := 200) (by decide)
            refine K.reg ?_
            refine KO.mv rfl rfl ?_
            refine KO.mv rfl rfl ?_
            refine KO.mv rfl rfl ?_
            refine KO.mv rfl rfl ?_
            refine KO.len rfl Tryz.underlying23 rfl ?_
            refine KO.rem rfl rfl (by omega) (by omega) rfl ?_
            refine KO.idxH (i := i % ts.length) rfl rfl Tryz.runUnderlying23 Tryz.sizeOf3 (by push_cast; rfl) hil2 rfl ?_
            refine KO.ld0 rfl rfl Tryz.isAgg3 hcy rfl ?_
            refine KO.ce (cp := []) rfl rfl rfl Tryz.call13 rfl (pick_e w _ y 200 (by decide) (by decide)) ?_; rintro v' L' ⟨rfl, rfl⟩
            refine KO.sub rfl rfl rfl (by omega) rfl ?_
            refine KO.cl (cp := []) rfl rfl rfl Tryz.call19 rfl (KC.pk1 (by with_reducible (repeat (first | exact Pick.head | apply Pick.tail))) (htorn_c w _ bh b38 H (pk y 200 - 1))) ?_; rintro v' L' ⟨rfl, rfl⟩
            refine KO.nil ?_
            repeat ((with_reducible refine KQ.blk_normal ?_))
            refine KQ.mid ⟨i, bh, { H with torn := pk y 200 - 1 }, H0, dkCut D (pk x.n 4), R, T, us, P, vs, G⟩ ⟨rfl, ⟨hcl.torn _, hus, hP, hvs, hG⟩⟩ ⟨rfl, rfl, rfl, rfl, rfl, rfl, rfl, rfl, rfl, trivial⟩ (fun w' hs' => hs'.all (by repeat (first | exact PAll.nil | refine PAll.cons (by repeat (first | exact Pick.head | apply Pick.tail)) ?_)))
          · repeat (first | (with_reducible refine KQ.blk_normal ?_) | (with_reducible refine K.skip ?_))
            refine KQ.mid ⟨i, bh, H, H0, dkCut D (pk x.n 4), R, T, us, P, vs, G⟩ ⟨rfl, ⟨hcl, hus, hP, hvs, hG⟩⟩ ⟨rfl, rfl, rfl, rfl, rfl, rfl, rfl, rfl, rfl, trivial⟩ (fun w' hs' => hs'.all (by repeat (first | exact PAll.nil | refine PAll.cons (by repeat (first | exact Pick.head | apply Pick.tail)) ?_)))
        repeat ((with_reducible refine K.seq ?_))
        refine K.reg ?_
        refine KO.eqI rfl rfl rfl ?_
        refine KO.as rfl rfl ?_
        refine KO.nil ?_
        repeat ((with_reducible refine KQ.next ?_))
        refine K.condD rfl (fun hw9 => ?_) (fun hw9 => ?_)
        · repeat ((with_reducible refine K.seq ?_))
          have hcl := hL.cut (n := -1) (by decide)
          have hre := (hcl.reopen (by decide) (by omega)).up
          refine K.reg ?_
          refine KO.mv rfl rfl ?_
          refine KO.cl (cp := []) rfl rfl rfl Tryz.call18 rfl (KC.pk1 (by with_reducible (repeat (first | exact Pick.head | apply Pick.tail))) (cut_c w _ b38 D (-1) hDk.len)) ?_; rintro v' L' ⟨rfl, rfl⟩
          refine KO.nil ?_
          repeat (first | (with_reducible refine K.seq ?_) | (with_reducible refine KQ.next ?_))
          refine K.reg ?_
          refine KO.mv rfl rfl ?_
          refine KO.cl (cp := []) rfl rfl rfl Tryz.call11 rfl (KC.pk1 (by with_reducible (repeat (exact Pick.head))) (hopen_c w _ b38 0 (dkCut D (-1)) hTw hMw (by decide) (hcl.ok (by omega)))) ?_; rintro v' L' ⟨bg, rfl, rfl⟩; rw [hcl.opened]
          refine KO.mv rfl rfl ?_
          refine KO.extrL rfl (by exact rfl) rfl ?_
          refine KO.extrL rfl (by exact rfl) rfl ?_
          refine KO.as rfl rfl ?_
          refine KO.as rfl rfl ?_
          refine KO.nil ?_
          repeat (first | (with_reducible refine K.seq ?_) | (with_reducible refine KQ.next ?_))
          refine K.reg ?_
          refine KO.mv rfl rfl ?_
          refine KO.neI0 rfl (by kernel_rfl) rfl ?_
          refine KO.mv rfl rfl ?_
          (refine KO.on rfl rfl ?_ ?_; (focus rfl); (refine KO.mv rfl rfl ?_))
          (refine KO.on rfl rfl ?_ ?_; (focus rfl); (refine KO.eqPn rfl Tryz.underlying29 rfl ?_))
          (refine KO.pickF rfl ?_ rfl rfl ?_; (focus rfl))
          refine KO.nil ?_
          repeat ((with_reducible refine KQ.next ?_))
          refine K.condF rfl rfl ?_
          repeat (first | (with_reducible refine KQ.next ?_) | (with_reducible refine K.skip ?_))
          refine K.reg ?_
          refine KO.bld rfl (by intro w; go_simp; rfl) rfl ?_
          refine KO.bld rfl (by intro w; go_simp; rfl) rfl ?_
          refine KO.sto0 rfl rfl rfl (by exact rfl) (by exact Tryz.sizeOf36) (by exact rfl) (by with_reducible (repeat (first | exact Pick.head | apply Pick.tail))) (by rw [hus]; rfl) ?_
          refine KO.sto0 rfl rfl rfl (by exact rfl) (by exact Tryz.sizeOf36) (by exact rfl) (by with_reducible (repeat (first | exact Pick.head | apply Pick.tail))) (by rw [hvs]; rfl) ?_
          refine KO.nil ?_
          repeat ((with_reducible refine KQ.blk_normal ?_))
          refine KQ.mid ⟨i, bg, H0, H0, dkCut D (-1), R, T, List.replicate 5 (.slice none 0 0), List.replicate 5 [], List.replicate 5 (.slice none 0 0), List.replicate 5 []⟩ ⟨rfl, ⟨?_, rfl, rfl, rfl, rfl⟩⟩ ⟨rfl, rfl, rfl, rfl, rfl, rfl, rfl, rfl, rfl, trivial⟩ (fun w' hs' => ?_)
          · dsimp only; rw [five_funs _ rfl]; exact hre
          · have h1 := fam_nils (f := intS) (p := .slice none 0 0) (x := []) (fun L h => SL_nil h) 5 (fam_nils (f := intS) (p := .slice none 0 0) (x := []) (fun L h => SL_nil h) 5 hs')
            exact h1.all (by repeat (first | exact PAll.nil | refine PAll.cons (by repeat (first | exact Pick.head | apply Pick.tail)) ?_))
        · repeat (first | (with_reducible refine KQ.blk_normal ?_) | (with_reducible refine K.skip ?_))
          refine KQ.mid ⟨i, bh, H, H0, D, R, T, us, P, vs, G⟩ ⟨rfl, ⟨hL.up, hus, hP, hvs, hG⟩⟩ ⟨rfl, rfl, rfl, rfl, rfl, rfl, rfl, rfl, rfl, trivial⟩ (fun w' hs' => hs'.all (by repeat (first | exact PAll.nil | refine PAll.cons (by repeat (first | exact Pick.head | apply Pick.tail)) ?_)))
      · rintro ⟨i', bh', H', H0', D', R', T', us', P', vs', G'⟩ ⟨hii, hok2⟩
        dsimp only at hii
        subst hii
        have hL2 := hok2.L
        dsimp only at hL2 hi h1 hil hi100 ⊢
        have hB0 := hL2.B0 (by decide) (by omega)
        have hrl := hL2.rl
        repeat ((with_reducible refine K.seq ?_))
        refine K.reg ?_
        refine KO.mv rfl rfl ?_
        refine KO.cl (cp := []) rfl rfl rfl Tryz.call11 rfl (KC.pk1 (by with_reducible (repeat (exact Pick.head))) (hopen_c w _ b38 0 D' hTw hMw (by decide) (hL2.ok (by omega)))) ?_; rintro v' L' ⟨bg, rfl, rfl⟩; rw [hL2.opened]
        refine KO.mv rfl rfl ?_
        refine KO.extrL rfl (by exact rfl) rfl ?_
        refine KO.extrL rfl (by exact rfl) rfl ?_
        refine KO.as rfl rfl ?_
        refine KO.as rfl rfl ?_
        refine KO.nil ?_
        repeat (first | (with_reducible refine K.seq ?_) | (with_reducible refine KQ.next ?_))
        refine K.reg ?_
        refine KO.mv rfl rfl ?_
        refine KO.neI0 rfl (by kernel_rfl) rfl ?_
        refine KO.mv rfl rfl ?_
        (refine KO.on rfl rfl ?_ ?_; (focus rfl); (refine KO.mv rfl rfl ?_))
        (refine KO.on rfl rfl ?_ ?_; (focus rfl); (refine KO.eqPn rfl Tryz.underlying29 rfl ?_))
        (refine KO.pickF rfl ?_ rfl rfl ?_; (focus rfl))
        refine KO.nil ?_
        repeat ((with_reducible refine KQ.next ?_))
        refine K.condF rfl rfl ?_
        repeat (first | (with_reducible refine K.seq ?_) | (with_reducible refine KQ.next ?_) | (with_reducible refine K.skip ?_))
        refine K.reg ?_
        refine KO.mv rfl rfl ?_
        refine KO.cl (cp := []) rfl rfl rfl Tryz.call20 rfl (KC.pk1 (by with_reducible (repeat (exact Pick.head))) (hkept_c w _ bg b38 (10 + 250 * R'.length) H0' hB0 (by omega))) ?_; rintro va L' ⟨ns, hns, rfl⟩
        refine KO.as rfl rfl ?_
        refine KO.nil ?_
        repeat (first | (with_reducible refine K.seq ?_) | (with_reducible refine KQ.next ?_))
        have hperm := hL2.kept (by decide) (by omega) ((sortB_perm ns).trans hns)
        generalize (sortB ns).flatMap (keptAt H0') = al at hperm ⊢
        have hlen : al.length = T'.length := by have := hperm.length_eq; simpa using this
        refine K.fact (fun _ hs => SL_form hs) ?_
        rintro ⟨aa, ka, rfl, haa⟩
        have hmx2 : maxLen ≤ 9223372036854775807 := by decide
        refine K.fact (p := al.length ≤ 9223372036854775807) (fun _ hs => ?_) ?_
        · rcases Nat.eq_zero_or_pos al.length with h0 | h0
          · omega
          · obtain ⟨g, rfl⟩ := haa h0
            obtain ⟨-, h2, h3, -⟩ := SL_open hs
            omega
        intro hal
        refine K.reg ?_
        refine KO.mv rfl rfl ?_
        refine KO.len rfl Tryz.underlying49 rfl ?_
        refine KO.mv rfl rfl ?_
        refine KO.lenM rfl rfl Tryz.underlying35 (by with_reducible (repeat (first | exact Pick.head | apply Pick.tail))) rfl ?_; rw [show (setM T').length = al.length by unfold setM; rw [List.length_map, hlen]]
        refine KO.neI rfl rfl rfl ?_
        refine KO.nil ?_
        repeat ((with_reducible refine KQ.next ?_))
        refine K.condF rfl (by simp) ?_
        repeat (first | (with_reducible refine K.seq ?_) | (with_reducible refine KQ.next ?_) | (with_reducible refine K.skip ?_))
        refine K.reg ?_
        refine KO.as rfl rfl ?_
        refine KO.nil ?_
        repeat (first | (with_reducible refine KQ.next ?_) | (with_reducible refine K.block ?_))
        refine K.loop (fun k : Nat => (25, .slice aa al.length ka) :: (26, .int .i64 (k : Nat)) :: [(0, .slice (some ad) xs.length cap), (1, .slice sb ts.length capt), (4, .bool false), (5, ptrV b38), (6, ptrV bh'), (8, .map (some b55)), (9, .pointer (some ⟨b9, 0, none⟩)), (10, .pointer (some ⟨b10, 0, none⟩)), (11, .int .i64 (i' : Nat))]) (fun _ => SL 44 5 msC (.slice aa al.length ka) al :: [dkP b38 D', hoP bh' b38 H', omapK (Value.int .i64) b55 (setM T'), arrB b9 us', arrB b10 vs', fam intS us' P', fam intS vs' G'])
          (fun k => k ≤ al.length) (fun k => al.length - k) 0 (Nat.zero_le _) ⟨rfl, rfl, rfl, rfl, rfl, rfl, rfl, rfl, rfl, rfl, rfl, trivial⟩ (fun w' hs' => hs'.all (by repeat (first | exact PAll.nil | refine PAll.cons (by repeat (first | exact Pick.head | apply Pick.tail)) ?_))) ?_
        intro k hk
        repeat ((with_reducible refine K.seq ?_))
        refine K.reg ?_
        refine KO.mv rfl rfl ?_
        refine KO.mv rfl rfl ?_
        refine KO.len rfl Tryz.underlying49 rfl ?_
        refine KO.lss rfl rfl rfl ?_
        refine KO.nil ?_
        repeat ((with_reducible refine KQ.next ?_))
        refine K.condD rfl (fun h60 => ?_) (fun h60 => ?_)
        · obtain ⟨m, hm⟩ : ∃ e, al[k]? = some e := ⟨al[k], List.getElem?_eq_getElem (by omega)⟩
          obtain ⟨g, rfl⟩ := haa (by omega)
          have hmT : m.id ∈ T' := hperm.mem_iff.1 (List.mem_map_of_mem (f := (·.id)) (List.mem_of_getElem? hm))
          obtain ⟨mi, mp, mb, mq, mh⟩ := m
          dsimp only at hmT
          repeat (first | (with_reducible refine K.seq ?_) | (with_reducible refine KQ.next ?_) | (with_reducible refine K.skip ?_) | (with_reducible refine K.block ?_))
          refine K.reg ?_
          refine KO.mv rfl rfl ?_
          refine KO.mv rfl rfl ?_
          refine KO.mv rfl rfl ?_
          refine KO.idx0 rfl rfl Tryz.runUnderlying49 Tryz.sizeOf44 (by exact rfl) (by omega) rfl ?_
          refine KO.fo (off := 0) rfl Tryz.runUnderlying44 rfl rfl Tryz.sizeOf3 rfl ?_
          refine KO.ldE rfl rfl Tryz.isAgg3 (by with_reducible (repeat (exact Pick.head))) (fun _ => rfl) (by assumption) (by exact rfl) (by exact rfl) rfl ?_
          refine KO.lkm intKey mi rfl rfl rfl Tryz.underlying35 Tryz.underlying3 Tryz.zeroValue4 (by with_reducible (repeat (first | exact Pick.head | apply Pick.tail))) rfl ?_; rw [setM_get, if_pos hmT]
          refine KO.not rfl rfl ?_
          refine KO.nil ?_
          repeat ((with_reducible refine KQ.next ?_))
          refine K.condF rfl rfl ?_
          repeat (first | (with_reducible refine KQ.next ?_) | (with_reducible refine KQ.blk_normal ?_) | (with_reducible refine K.skip ?_))
          refine K.reg ?_
          refine KO.mv rfl rfl ?_
          refine KO.add rfl rfl rfl (by omega) rfl ?_
          refine KO.as rfl rfl ?_
          refine KO.nil ?_
          refine KQ.round (k + 1) (by omega) (by omega) ⟨rfl, rfl, rfl, rfl, rfl, rfl, rfl, rfl, rfl, rfl, rfl, trivial⟩ (fun _ h => h)
        · repeat (first | (with_reducible refine KQ.then_exit ?_) | (with_reducible refine KQ.blk_exit ?_) | (with_reducible refine KQ.blk_normal ?_) | (with_reducible refine K.exit ?_))
          refine KQ.mid ⟨i', bh', H', H0', D', R', T', us', P', vs', G'⟩ ⟨rfl, hok2⟩ ⟨rfl, rfl, rfl, rfl, rfl, rfl, rfl, rfl, rfl, trivial⟩ (fun w' hs' => hs'.all (by repeat (first | exact PAll.nil | refine PAll.cons (by repeat (first | exact Pick.head | apply Pick.tail)) ?_)))
    · rintro t ⟨hti, hok2⟩
      refine K.reg ?_
      refine KO.mv rfl rfl ?_
      refine KO.add rfl rfl rfl (by omega) rfl ?_
      refine KO.as rfl rfl ?_
      refine KO.nil ?_
      refine KQ.round { t with i := t.i + 1 } ⟨by dsimp only; omega, ⟨by dsimp only; rw [hti]; exact hok2.L, hok2.us, hok2.P, hok2.vs, hok2.G⟩⟩ (by dsimp only; omega) ⟨rfl, rfl, rfl, rfl, rfl, rfl, rfl, rfl, by dsimp only; rfl, trivial⟩ (fun _ h => h)
  · repeat (first | (with_reducible refine K.seq ?_) | (with_reducible refine KQ.next ?_) | (with_reducible refine KQ.then_exit ?_) | (with_reducible refine KQ.blk_exit ?_) | (with_reducible refine K.exit ?_))
    refine K.reg ?_
    refine KO.as rfl rfl ?_
    refine KO.nil ?_
    repeat (first | (with_reducible refine KQ.next ?_) | (with_reducible refine K.ret ?_))
    refine KQ.ret1 rfl rfl (fun w' hs => fin w' _ hs)
end Go.Proofs.YtjhogocabcdjbabGreatDoor
/- a listed variable that is an array of texts -/
namespace WB
open Go Go.RowKit Go.Lib Go.ChangeShapes
theorem cells_of_strs {H : Type} {enc : TypeId × Value → H} {P : Program} {w : World} {base : Nat} {sp : Nat → Bool} {held : Bool} {fuel : Nat} {t e : TypeId} {n : Nat} {cs : List Value} {zs : List ByteArray} {p : List MemPlace}
    (ht : P.underlying t = some (.array n e)) (he : P.underlying e = some .string) (hce : P.cellsOf e = 1) (hct : P.cellsOf t = n)
    (h : DataW.trod enc P w base sp held fuel t cs = some (.agg (zs.map fun z => .lit (.string z.data.toList)), p)) : cs = zs.map Value.string := by
  cases fuel with
  | zero => simp [DataW.trod] at h
  | succ fuel =>
    simp only [DataW.trod, ht, hce, hct, Nat.mul_one] at h
    split at h
    · rename_i hl
      obtain ⟨xs, hm, hx⟩ := Option.map_eq_some_iff.1 h
      have hxs : xs.map (·.1) = zs.map fun z => (DataW.lit (.string z.data.toList) : DataW H) := by
        have := congrArg Prod.fst hx
        simpa using this
      have hxl : xs.length = n := by simpa using mapM_length hm
      have hzl : zs.length = n := by
        have := congrArg List.length hxs
        simp at this
        omega
      apply List.ext_getElem?
      intro i
      by_cases hi : i < n
      · obtain ⟨b, hb, hf⟩ := mapM_at hm i i (by simp [hi])
        obtain ⟨z, hc, rfl, _⟩ := DataW.trod_string he hf
        have h1 : cs[i]? = some (.string z) := by
          have := congrArg (·[0]?) hc
          simpa [List.getElem?_take, List.getElem?_drop] using this
        have h2 : (xs.map (·.1))[i]? = some (DataW.lit (.string z.data.toList) : DataW H) := by simp [hb]
        rw [hxs] at h2
        simp only [List.getElem?_map, Option.map_eq_some_iff, DataW.lit.injEq, Lit.string.injEq] at h2
        obtain ⟨z', hz', h3⟩ := h2
        have h4 : z' = z := by
          obtain ⟨⟨a⟩⟩ := z'
          obtain ⟨⟨b⟩⟩ := z
          dsimp only at h3
          rw [h3]
        rw [h1, List.getElem?_map, hz', h4]; rfl
      · rw [List.getElem?_eq_none (by omega), List.getElem?_eq_none (by simp; omega)]
    · cases h
theorem strs_of_laid {P : Program} {W : World} {name : String} {zs : List ByteArray} {l : List (String × DataW Unit)} {g : Nat} {t e : TypeId} {n : Nat}
    (h : laidMet P l W) (hm : (name, (.agg (zs.map fun z => .lit (.string z.data.toList)) : DataW Unit)) ∈ l) (hg : P.globalNamed name = some g) (hty : (P.globals[g]?).map (·.type) = some t) (ht : P.underlying t = some (.array n e)) (he : P.underlying e = some .string) (hce : P.cellsOf e = 1) (hct : P.cellsOf t = n) :
    ∀ k z, zs[k]? = some z → W.cell? ⟨g, k, none⟩ = some (.string z) := by
  obtain ⟨ps, hv, _⟩ := h
  obtain ⟨g', t', cs, fuel, p, h1, h2, h3, h4⟩ := laidVars_mem hv _ hm
  obtain rfl := Option.some.inj (hg.symm.trans h1)
  obtain rfl := Option.some.inj (hty.symm.trans h2)
  have h5 := cells_of_strs ht he hce hct h4
  intro k z hz
  have h6 := World.var?_cell hg h3 k
  rw [h6]
  have : cs.toList[k]? = some (.string z) := by rw [h5, List.getElem?_map, hz]; rfl
  simpa using this
end WB
/- rows that say 'leaving', of calls in which one goroutine runs from the first step to the last -/
namespace WB
open Go
theorem leaving_of_handed {a : Assume} {C : Checked} {os : Os} {f : FuncId} {r : Reach} {Pre : World → Array Value → Prop} {Post : World → Array Value → Value → World → Prop}
    (h : ReturnsInHanded a C os f r Pre Post) : ReturnsInLeavingWide a C os f r Pre Post := fun enter => by
  obtain ⟨h1, h2, h3, h4, h5⟩ := h enter
  refine ⟨h1, h2, h3, h4, fun w tape i hf => ?_⟩
  obtain ⟨n, v, w', k1, k2, k3, k4, ⟨j, last, k5, k6, k7⟩, k8⟩ := h5 w tape i hf
  exact ⟨n, v, w', k1, k2, k3, k4, ⟨j, last, k5, k6, k7.2.1, onlyLeaving_of_quiet k7.1, k7.2.2⟩, k8⟩
theorem holds_tied_goes (Lk : Looks) {p : Pinned} {s : OpenSpec} {c : OpenClaim} (kinds : List LaidKind) (tests : Bool) (har : Bool × String) (lk : Bool)
    (hc : c.holds p s) (hw : c.wfByText s = true) (htie : c.laidByTextAt Lk p kinds tests)
    (hst : c.start = .entering) (hnb : c.noBlocks = false ∧ c.again = false) (hm : p.checked.prog.mainIs = some (har.1, har.2.toList)) (hn : (!har.1 && har.2.isEmpty && !lk) = false)
    (hl : ∀ f fn, p.checked.prog.funcNamed c.func = some f → p.checked.prog.funcs[f]? = some fn → lk = p.checked.prog.looks [] ∧ ∀ (j : Nat) t, fn.params[j]? = some t → p.checked.prog.wantsStandIn t = false)
    (hg : true = c.goesBy p.checked.prog) :
    Claim7.holds p (.plain s) { stood := { row := c, standIns := [], harness := har, looks := lk }, kinds := [], alts := [], goes := true, laidByText := true, laidKinds := kinds, laidTests := tests, laidLooks := Lk } := by
  have h6 : Claim7.isSixth { stood := { row := c, standIns := [], harness := har, looks := lk }, kinds := [] } = false := by simpa [Claim7.isSixth] using hn
  exact ⟨Claim7.tied_new_at Lk kinds tests (Claim7.new_of_sixth hc har lk hst hnb hm h6 hl) hw, (fun D hD => by cases hD), htie, (fun h => by cases h), hg⟩
/-- the row's closed facts, reckoned apart -/
theorem joined_of {P : Program} {f : FuncId} {fn : Func} {s : ChangeSpec} {c : OpenClaim}
    (a1 : (c.wf (OpenSpec.ofChange s) && laidOutB P && mapsRowed P) = true)
    (a2 : (fn.params.all (P.readableRec ·) && namedTie P c.named s.vars && (c.stops == []) && (P.stops == []) && (c.knobs == []) && (P.stopKnobs == [])) = true)
    (a3 : (c.inPlace == P.inPlace f) = true) (a4 : (c.unfollowed == P.unfollowed f) = true) (a5 : (c.recurses == P.recurses f) = true) (a6 : (c.named == P.varsNamed f) = true)
    (a7 : ((c.maps == (fn.params.toList ++ s.plain.varTypes P).any (P.mapsRec ·)) && (c.ifaces == (fn.params.toList ++ s.plain.varTypes P).any (P.ifacesRec ·)) && (c.mapsOut == P.mapsAmong fn.resultTypes.toList) &&
      (c.loops == (fn.params.toList ++ s.plain.varTypes P).any (P.loopsFrom ·)) && (c.wideKeys == (fn.params.toList ++ s.plain.varTypes P ++ fn.resultTypes.toList).any (P.wideKeysFrom ·)) &&
      s.vars.all (P.varReadable ·) && fn.resultTypes.all (fun t => P.readableRec t && decide (t < P.types.size)) && (c.ifacesOut == fn.resultTypes.toList.any (P.ifacesRec ·)) && (c.loopsOut == fn.resultTypes.toList.any (P.loopsFrom ·)) && (c.plainKeys == P.plainKeys) && c.shortTexts.isNone) = true)
    (a8 : (P.stopsHeard && P.mayEnter && (c.lifted == P.liftsFinal) && (P.make == some c.make)) = true)
    (a9 : ((c.kinds == (if c.domain.isEmpty then [] else fn.params.toList.map fun t => match P.underlying t with | some (.int k) => some k | _ => none)) && (c.pinned == c.pinnedBy) &&
      (c.veiled == (fn.params.toList ++ s.plain.varTypes P ++ fn.resultTypes.toList).any (P.veiledRec ·)) && c.veiledFits P fn.params.toList (fn.params.toList ++ s.plain.varTypes P ++ fn.resultTypes.toList)) = true) :
    joinedFacts P f fn s c = true := by
  unfold joinedFacts
  simp only [Bool.and_eq_true] at a1 a2 a7 a8 a9 ⊢
  grind
end WB
/- waybillkeep.HouseCrashes: for every list of acts and every list of torn lengths the law returns true, and the lists read as they did. No condition. -/
namespace Go.Proofs.YtjhogocabcdjbabGreatDoor.hcrashes
open Go Go.RowKit Go.ChangeShapes Go.WideShapes Go.ChangeAt Go.Deep WB
theorem own : ownKnob Tryz.prog.godebug = none := by kernel_rfl
theorem laidOut : laidOutB Tryz.prog = true := by kernel_rfl
/-- a world in which the listed variables lie -/
noncomputable def hold (os : Os) : World := World.holding Tryz.prog os ⟨#[], #[], []⟩
def data : List (String × DataW Unit) := [("math/bits.deBruijn32tab", Rows.laid_math_bits_deBruijn32tab), ("math/bits.deBruijn64tab", Rows.laid_math_bits_deBruijn64tab), ("internal/strconv.uint64pow10", Rows.laid_internal_strconv_uint64pow10), ("unicode/utf8.acceptRanges", Rows.laid_unicode_utf8_acceptRanges), ("strconv.ErrRange", Rows.laid_strconv_ErrRange), ("strconv.ErrSyntax", Rows.laid_strconv_ErrSyntax), ("waybill/waybillkeep.queues", Rows.laid_waybill_waybillkeep_queues), ("unicode/utf8.first", Rows.laid_unicode_utf8_first)]
noncomputable def laidWorld (os : Os) : World := (hold os).layVars Tryz.prog data
theorem laidWorld_os (os : Os) : (laidWorld os).os = os := World.layVars_os _ _ _
set_option maxRecDepth 100000 in
theorem data_met (os : Os) (args : Array Value) : laidMet Tryz.prog data ((laidWorld os).forCall (fun _ _ => 0) ⟨#[], args, []⟩).memory := by
  have h : laidMet Tryz.prog data (laidWorld os) := laidMet_layVars (w0 := hold os) (data.map (·.1)) [] rfl (by kernel_rfl) (by kernel_rfl) LaidIn.none
  exact h.of_heap (by simp [World.memory, World.forCall, Input.heap])
set_option maxRecDepth 100000 in
theorem laid_met (os : Os) (args : Array Value) : laidMetH Tryz.prog Rows.houseCrashesRow.laid ((laidWorld os).forCall (fun _ _ => 0) ⟨#[], args, []⟩).memory :=
  laidMetH_of_parts (data_met os args) (by kernel_rfl)
set_option maxRecDepth 100000 in
theorem laid_of {W : World} (h : laidMetH Tryz.prog Rows.houseCrashesRow.laid W) : laidMet Tryz.prog data W := by
  have e : Rows.houseCrashesRow.laid = data := by kernel_rfl
  rw [e] at h
  exact h
set_option maxRecDepth 100000 in
theorem tab_of {W : World} (h : laidMetH Tryz.prog Rows.houseCrashesRow.laid W) : Tab W := by
  have h1 : laidMet Tryz.prog data W := laid_of h
  have hd : ("internal/strconv.uint64pow10", Lib.tabData .u64 Lib.pow10Tab) ∈ data := by
    have e : (Lib.tabData .u64 Lib.pow10Tab : DataW Unit) = Rows.laid_internal_strconv_uint64pow10 := by kernel_rfl
    rw [e]; unfold data; simp
  exact tab_of_laid h1 hd (g := 4) (by kernel_rfl) (by kernel_rfl) (n := 20) Tryz.underlying427 Tryz.underlying224 (by kernel_rfl) (by kernel_rfl)
theorem star : "*" ++ "errors.errorString" = "*errors.errorString" := by decide
theorem rowES (u : TypeId) (h : Tryz.prog.typeName? 3 u = some "*errors.errorString") : u = 449 :=
  typeName_ptr_named (nm := "errors.errorString") (by rw [star]; kernel_rfl) (by kernel_rfl) (by decide) u (by rw [star]; exact h)
set_option maxRecDepth 100000 in
theorem lim_of {W : World} (h : laidMetH Tryz.prog Rows.houseCrashesRow.laid W) (hSh : W.ShapedOpen Tryz.prog) : Lim W := by
  have h1 : laidMet Tryz.prog [("strconv.ErrRange", Rows.laid_strconv_ErrRange), ("strconv.ErrSyntax", Rows.laid_strconv_ErrSyntax), ("waybill/waybillkeep.queues", Rows.laid_waybill_waybillkeep_queues), ("unicode/utf8.first", Rows.laid_unicode_utf8_first)] W := (laid_of h).tail.tail.tail.tail
  obtain ⟨a0, s0, hv0, -, -, -⟩ := laid_sentinel h1 (show Tryz.prog.globalNamed "strconv.ErrRange" = some 3 by kernel_rfl) (show (Tryz.prog.globals[3]?).map (·.type) = some 31 by kernel_rfl) Tryz.underlying31 rowES Tryz.underlying449 Tryz.underlying451 rfl rfl Tryz.underlying9 (by kernel_rfl) (by kernel_rfl)
  obtain ⟨a1, s1, hv1, -, -, -⟩ := laid_sentinel h1.tail (show Tryz.prog.globalNamed "strconv.ErrSyntax" = some 2 by kernel_rfl) (show (Tryz.prog.globals[2]?).map (·.type) = some 31 by kernel_rfl) Tryz.underlying31 rowES Tryz.underlying449 Tryz.underlying451 rfl rfl Tryz.underlying9 (by kernel_rfl) (by kernel_rfl)
  exact ⟨Tryz.laysM146.s1_3 W hSh, ⟨_, _, by have := World.var?_cell (show Tryz.prog.globalNamed "strconv.ErrSyntax" = some 2 by kernel_rfl) hv1 0; simpa using this⟩, ⟨_, _, by have := World.var?_cell (show Tryz.prog.globalNamed "strconv.ErrRange" = some 3 by kernel_rfl) hv0 0; simpa using this⟩⟩
set_option maxRecDepth 100000 in
theorem open_ints {H : Type} {enc : TypeId × Value → H} {W : World} {r : Reach} {base : Nat} {v : Value} {d : DataW H} {p : List MemPlace} (hv : Value.okWide Tryz.prog W r base 23 v) (h : DataW.Trod enc Tryz.prog W 0 (fun _ => true) true 23 v d p) :
    ∃ xs : List Int, RdA W 1 iC v xs := by
  obtain ⟨xs, hx, _⟩ := open_sl (φ := fun _ : Int => True) (cf := iC) Tryz.underlying23 hv h (show Tryz.prog.cellsOf 3 = 1 by kernel_rfl) (fun n cs y h => by
    obtain ⟨z, hc, _, _⟩ := DataW.trod_int Tryz.underlying3 h
    exact ⟨z, trivial, hc⟩)
  exact ⟨xs, hx⟩
set_option maxRecDepth 100000 in
theorem rd_act {H : Type} {enc : TypeId × Value → H} {W : World} {n : Nat} {cs : List Value} {y : DataW H × List MemPlace} (h : DataW.trod enc Tryz.prog W 0 (fun _ => true) true n 38 cs = some y) : ∃ x : AcK, True ∧ cs = ackC x := by
  have hci : Tryz.prog.cellsOf 3 = 1 := by kernel_rfl
  have hlen := trod_len Tryz.underlying38 h (show Tryz.prog.cellsOf 38 = 5 by kernel_rfl)
  obtain ⟨s0, e0, _⟩ := trod_i Tryz.underlying38 h 0 0 3 rfl hci Tryz.underlying3
  obtain ⟨s1, e1, _⟩ := trod_i Tryz.underlying38 h 1 1 3 rfl hci Tryz.underlying3
  obtain ⟨s2, e2, _⟩ := trod_i Tryz.underlying38 h 2 2 3 rfl hci Tryz.underlying3
  obtain ⟨s3, e3, _⟩ := trod_i Tryz.underlying38 h 3 3 3 rfl hci Tryz.underlying3
  obtain ⟨s4, e4, _⟩ := trod_i Tryz.underlying38 h 4 4 3 rfl hci Tryz.underlying3
  match cs, hlen, e0, e1, e2, e3, e4 with
  | [c0, c1, c2, c3, c4], _, e0, e1, e2, e3, e4 =>
    simp only [List.getElem?_cons_zero, List.getElem?_cons_succ, Option.some.injEq] at e0 e1 e2 e3 e4
    exact ⟨⟨s0, s1, s2, s3, s4⟩, trivial, by rw [e0, e1, e2, e3, e4]; rfl⟩
theorem rdA_ext {α : Type} {sz : Nat} {cf : α → List Value} {W W' : World} {v : Value} {xs : List α} (h : RdA W sz cf v xs) (e : Ext W W') : RdA W' sz cf v xs := by
  obtain ⟨a, cap, rfl, hc⟩ := h
  exact ⟨a, cap, rfl, fun i x hx => by obtain ⟨ad, rfl, hh⟩ := hc i x hx; exact ⟨ad, rfl, hh.ext e⟩⟩
set_option maxRecDepth 100000 in
theorem qs_of {W : World} (h : laidMetH Tryz.prog Rows.houseCrashesRow.laid W) : Qs W := by
  have h1 : laidMet Tryz.prog data W := laid_of h
  have hd : ("waybill/waybillkeep.queues", (.agg (([⟨#[105, 110]⟩, ⟨#[111, 117, 116]⟩, ⟨#[102, 97, 114]⟩] : List ByteArray).map fun z => .lit (.string z.data.toList)) : DataW Unit)) ∈ data := by
    have e : (.agg (([⟨#[105, 110]⟩, ⟨#[111, 117, 116]⟩, ⟨#[102, 97, 114]⟩] : List ByteArray).map fun z => .lit (.string z.data.toList)) : DataW Unit) = Rows.laid_waybill_waybillkeep_queues := by kernel_rfl
    rw [e]; unfold data; simp
  have h2 := strs_of_laid h1 hd (g := 0) (by kernel_rfl) (by kernel_rfl) (n := 3) Tryz.underlying40 Tryz.underlying9 (by kernel_rfl) (by kernel_rfl)
  intro k hk
  match k, hk with
  | 0, _ => exact h2 0 _ rfl
  | 1, _ => exact h2 1 _ rfl
set_option maxRecDepth 100000 in
theorem contract (H : Type) (enc : TypeId × Value → H) (W : World) (base : Nat) (args : Array Value) (ds gs : List (DataW H)) (before : List MemPlace)
    (hval : ∀ (j : Nat) t v, Tryz.f3.params[j]? = some t → args[j]? = some v → Value.okWide Tryz.prog W .any base t v)
    (hW : DataW.Whole enc Tryz.prog Tryz.f3.params.toList Rows.houseCrashesSpec.vars false W args.toList ds gs before) (hL : laidMetH Tryz.prog Rows.houseCrashesRow.laid W) (hSh : W.ShapedOpen Tryz.prog) :
    Calls Tryz.prog 3 args W fun e W' => ∃ v, e = .returned v ∧ Rows.houseCrashesSpec.post enc Tryz.prog Tryz.f3 false true false false W args v W' := by
  have hW' := hW
  obtain ⟨p, q, hA0, hV, rfl, hfz, hnd⟩ := hW
  have hA : DataW.TrodAll enc Tryz.prog W 0 (fun _ => true) true Tryz.f3.params.toList args.toList ds p := hA0
  have hA2 := hA
  rw [Tryz.params3] at hA hval
  obtain ⟨v0, v1, d0, d1, p0, p1, rfl, rfl, rfl, h0, h1⟩ := trodAll_two hA
  obtain ⟨rfl, rfl⟩ := trodVars_none hV
  obtain ⟨xs, hx, _⟩ := open_sl (φ := fun _ : AcK => True) (cf := ackC) Tryz.underlying22 (hval 0 22 v0 rfl rfl) h0 (show Tryz.prog.cellsOf 38 = 5 by kernel_rfl) (fun n cs y h => rd_act h)
  obtain ⟨ts, ht⟩ := open_ints (hval 1 23 v1 rfl rfl) h1
  have hTab := tab_of hL
  have hLim := lim_of hL hSh
  have hQs := qs_of hL
  have hlt : ∀ x ∈ p0 ++ p1, x.block < W.heap.size := fun x hx => by
    have := hW'.lt x (List.mem_append_left _ hx)
    simpa using this
  have hwalk : Calls Tryz.prog 3 #[v0, v1] W fun e W' => e = .returned (.bool true) ∧ Below W.heap.size W W' := by
    refine (crashes_e W [] v0 v1 xs ts (fun w hw => rdA_ext hx (Ext.of_below hw.below)) (fun w hw => rdA_ext ht (Ext.of_below hw.below)) hTab hLim hQs W (St.init W)).mono ?_
    rintro e W' ⟨v, L', rfl, ⟨rfl, _⟩, _, hb⟩
    exact ⟨rfl, hb⟩
  refine hwalk.mono fun e W' ⟨he, hb⟩ => ?_
  subst he
  simp only [List.append_nil] at hW'
  exact ⟨_, rfl, _, _, _, [], p0 ++ p1, [], hW', trodAll_mk1 (shut_bool Tryz.underlying4 _), law_args laidOut hb (by kernel_rfl) hA2 hlt, rfl, hb.frame _, fun h => by cases h⟩
set_option maxRecDepth 100000 in
theorem reads (os : Os) {H : Type} (enc : TypeId × Value → H) : ∃ places, DataW.whole enc Tryz.prog ((laidWorld os).forCall (fun _ _ => 0) ⟨#[], #[.slice none 0 0, .slice none 0 0], []⟩).memory Tryz.f3.params.toList Rows.houseCrashesSpec.vars false (#[.slice none 0 0, .slice none 0 0] : Array Value).toList 8 = some ([.nil, .nil], [], places) :=
  ⟨[], by kernel_rfl⟩
set_option maxRecDepth 100000 in
theorem lifted (os : Os) (started : os.Started) (H : Type) (enc : TypeId × Value → H) (F : Stop.Interp) :
    ReturnsInHanded {} Tryz.checked os 3 .any ((OpenSpec.ofChange Rows.houseCrashesSpec).preRow enc Tryz.prog Tryz.f3 Rows.houseCrashesRow.domain false Rows.houseCrashesRow.laid) (((OpenSpec.ofChange Rows.houseCrashesSpec).at F).post enc Tryz.prog Tryz.f3 false true false false) := by
  obtain ⟨places, hx⟩ := reads os enc
  refine returnsInHanded_of_row (C := Tryz.checked) (s := OpenSpec.ofChange Rows.houseCrashesSpec) own started (by kernel_rfl) Tryz.func3
    (witness_row_sh (enc := enc) (C := Tryz.checked) false (laidWorld os) #[.slice none 0 0, .slice none 0 0] (laidWorld_os os) (World.shaped_of_ZipB (by kernel_rfl) (by kernel_rfl)) (by kernel_rfl)
      (OpenSpec.preRow_of_cond 8 hx (by kernel_rfl) (fun k hk => by cases hk) (by kernel_rfl) (laid_met os _))) ?_
  intro W base args ds gs before hval hW _ _ _ hL hSh _
  exact contract H enc W base args ds gs before hval hW hL hSh
theorem j1 : (Rows.houseCrashesRow.wf (OpenSpec.ofChange Rows.houseCrashesSpec) && laidOutB Tryz.prog && mapsRowed Tryz.prog) = true := by kernel_rfl
theorem j2 : (Tryz.f3.params.all (Tryz.prog.readableRec ·) && namedTie Tryz.prog Rows.houseCrashesRow.named Rows.houseCrashesSpec.vars && (Rows.houseCrashesRow.stops == []) && (Tryz.prog.stops == []) && (Rows.houseCrashesRow.knobs == []) && (Tryz.prog.stopKnobs == [])) = true := by kernel_rfl
theorem j3 : (Rows.houseCrashesRow.inPlace == Tryz.prog.inPlace 3) = true := by kernel_rfl
theorem j4 : (Rows.houseCrashesRow.unfollowed == Tryz.prog.unfollowed 3) = true := by kernel_rfl
theorem j5 : (Rows.houseCrashesRow.recurses == Tryz.prog.recurses 3) = true := by kernel_rfl
theorem j6 : (Rows.houseCrashesRow.named == Tryz.prog.varsNamed 3) = true := by kernel_rfl
theorem j8 : (Tryz.prog.stopsHeard && Tryz.prog.mayEnter && (Rows.houseCrashesRow.lifted == Tryz.prog.liftsFinal) && (Tryz.prog.make == some Rows.houseCrashesRow.make)) = true := by kernel_rfl
theorem closed : joinedFacts Tryz.prog 3 Tryz.f3 Rows.houseCrashesSpec Rows.houseCrashesRow = true := joined_of j1 j2 j3 j4 j5 j6 (by as_aux_lemma => kernel_rfl) j8 (by as_aux_lemma => kernel_rfl)
theorem said : Rows.HouseCrashesSaid :=
  OpenClaim.holds_of_wide_leaving 3 Tryz.f3 rfl rfl rfl rfl rfl rfl rfl ⟨rfl, rfl, rfl, rfl, rfl⟩ rfl rfl rfl rfl rfl (by kernel_rfl) Tryz.func3 closed
    (of_decide_eq_true (by kernel_rfl)) (by unfold Func.isWrapper; first | (rw [if_pos (by decide +kernel)]; kernel_rfl) | (rw [if_neg (by decide +kernel)]; exact ⟨rfl, rfl⟩))
    (fun os started H enc _ => by rw [OpenClaim.pre_eq_preRow]; exact leaving_of_handed (lifted os started H enc (fun _ _ _ => 0)))
set_option maxRecDepth 100000 in
theorem plain (f : FuncId) (fn : Func) (hf : Tryz.pinned.checked.prog.funcNamed "waybill/waybillkeep.HouseCrashes" = some f) (hfn : Tryz.pinned.checked.prog.funcs[f]? = some fn) :
    true = Tryz.pinned.checked.prog.looks [] ∧ ∀ (j : Nat) t, fn.params[j]? = some t → Tryz.pinned.checked.prog.wantsStandIn t = false := by
  obtain rfl : f = 3 := Option.some.inj ((show Tryz.prog.funcNamed "waybill/waybillkeep.HouseCrashes" = some 3 by kernel_rfl).symm.trans hf) |>.symm
  obtain rfl : fn = Tryz.f3 := (Option.some.inj (Tryz.func3.symm.trans hfn)).symm
  refine ⟨by kernel_rfl, fun j t ht => ?_⟩
  rw [Tryz.params3] at ht
  have hm : t ∈ [22, 23] := by simpa using Array.mem_of_getElem? ht
  have hall : ([22, 23].all fun u => !Tryz.prog.wantsStandIn u) = true := by kernel_rfl
  exact (show Tryz.prog.wantsStandIn t = false by simpa using List.all_eq_true.1 hall t hm)
set_option maxRecDepth 100000 in
/-- the card -/
theorem card : Rows.HouseCrashesCardSaid :=
  holds_tied_goes .later _ _ _ _ said (by kernel_rfl) houseCrashes_row_tie rfl ⟨rfl, rfl⟩ (by kernel_rfl) rfl plain (by kernel_rfl)
end Go.Proofs.YtjhogocabcdjbabGreatDoor.hcrashes
