/- Plain laws: what a run of Solve hands back is a partition of its domain. -/
import Derived.Test.YtcncobhdfflelaaIa
import Derived.Test.YtcncobhdfflelaaDa
namespace Go.Proofs.Ytcncobhdfflelaa
namespace Bx
def dm (b : Box) : Dm := (b.1, b.2.1)
theorem meet_false : ∀ {al ah bl bh : List Int}, meet al ah bl bh = false ↔ ∃ (i : Nat) (a b c d : Int), al[i]? = some a ∧ ah[i]? = some b ∧ bl[i]? = some c ∧ bh[i]? = some d ∧ (b < c ∨ d < a)
  | a :: al, b :: ah, c :: bl, d :: bh => by
    rw [meet]
    constructor
    · intro h
      by_cases h1 : b < c
      · exact ⟨0, a, b, c, d, rfl, rfl, rfl, rfl, .inl h1⟩
      · by_cases h2 : d < a
        · exact ⟨0, a, b, c, d, rfl, rfl, rfl, rfl, .inr h2⟩
        · simp only [h1, h2, decide_false, Bool.not_false, Bool.true_and] at h
          obtain ⟨i, a', b', c', d', q⟩ := meet_false.1 h
          exact ⟨i + 1, a', b', c', d', by simpa using q⟩
    · rintro ⟨i, a', b', c', d', q1, q2, q3, q4, q5⟩
      cases i with
      | zero =>
        simp at q1 q2 q3 q4
        subst q1 q2 q3 q4
        rcases q5 with q5 | q5 <;> simp [q5]
      | succ i =>
        rw [meet_false.2 ⟨i, a', b', c', d', by simpa using q1, by simpa using q2, by simpa using q3, by simpa using q4, q5⟩, Bool.and_false]
  | [], _, _, _ => by simp [meet]
  | _ :: _, [], _, _ => by simp [meet]
  | _ :: _, _ :: _, [], _ => by simp [meet]
  | _ :: _, _ :: _, _ :: _, [] => by simp [meet]
theorem Sub.self {D b : Dm} (h : Sub D b) (hl : D.2.length = D.1.length) : Sub b b := by
  refine ⟨rfl, by rw [h.l1, h.l2], fun i a c x y ha hc hx hy => ?_⟩
  rw [ha] at hx; rw [hc] at hy
  injection hx with hx; injection hy with hy
  have e1 := (List.getElem?_eq_some_iff.1 ha).1
  have e2 := h.l1
  have q1 : D.1[i]? = some (D.1[i]'(by omega)) := List.getElem?_eq_getElem _
  have q2 : D.2[i]? = some (D.2[i]'(by omega)) := List.getElem?_eq_getElem _
  have := h.in_ i _ _ _ _ q1 q2 ha hc
  omega
theorem Sub.meetR {b c x : Dm} (h : Sub b c) (hm : meetD x b = false) : meetD x c = false := by
  obtain ⟨i, p, q, r, s, h1, h2, h3, h4, h5⟩ := meet_false.1 hm
  have e1 := h.l1
  have e2 := h.l2
  have g3 := (List.getElem?_eq_some_iff.1 h3).1
  have q3 : c.1[i]? = some (c.1[i]'(by omega)) := List.getElem?_eq_getElem _
  have q4 : c.2[i]? = some (c.2[i]'(by omega)) := List.getElem?_eq_getElem _
  have := h.in_ i _ _ _ _ h3 h4 q3 q4
  exact meet_false.2 ⟨i, p, q, _, _, h1, h2, q3, q4, by omega⟩
theorem Sub.meetL {b c x : Dm} (h : Sub b c) (hm : meetD b x = false) : meetD c x = false := by
  obtain ⟨i, r, s, p, q, h3, h4, h1, h2, h5⟩ := meet_false.1 hm
  have e1 := h.l1
  have e2 := h.l2
  have g3 := (List.getElem?_eq_some_iff.1 h3).1
  have q3 : c.1[i]? = some (c.1[i]'(by omega)) := List.getElem?_eq_getElem _
  have q4 : c.2[i]? = some (c.2[i]'(by omega)) := List.getElem?_eq_getElem _
  have := h.in_ i _ _ _ _ h3 h4 q3 q4
  exact meet_false.2 ⟨i, _, _, p, q, q3, q4, h1, h2, by omega⟩
theorem halves_apart (b : Dm) {i : Nat} {m : Int} (h1 : i < b.1.length) (h2 : i < b.2.length) : meetD (b.1, b.2.set i m) (b.1.set i (m + 1), b.2) = false :=
  meet_false.2 ⟨i, b.1[i], m, m + 1, b.2[i], List.getElem?_eq_getElem h1, List.getElem?_set_self h2, List.getElem?_set_self h1, List.getElem?_eq_getElem h2, .inl (by omega)⟩
theorem pair_split {α : Type} {R : α → α → Prop} {b b1 b2 : α} (hx : ∀ x, R x b → R x b1 ∧ R x b2) (hy : ∀ x, R b x → R b1 x ∧ R b2 x) (h3 : R b1 b2) {A C : List α} (h : (A ++ b :: C).Pairwise R) : (A ++ b1 :: b2 :: C).Pairwise R := by
  rw [List.pairwise_append] at h ⊢
  obtain ⟨h1, h2, h4⟩ := h
  rw [List.pairwise_cons] at h2
  refine ⟨h1, ?_, fun a ha c hc => ?_⟩
  · rw [List.pairwise_cons, List.pairwise_cons]
    refine ⟨fun c hc => ?_, fun c hc => (hy c (h2.1 c hc)).2, h2.2⟩
    rcases List.mem_cons.1 hc with rfl | hc
    · exact h3
    · exact (hy c (h2.1 c hc)).1
  · have hb := hx a (h4 a ha b List.mem_cons_self)
    rcases List.mem_cons.1 hc with rfl | hc
    · exact hb.1
    · rcases List.mem_cons.1 hc with rfl | hc
      · exact hb.2
      · exact h4 a ha c (List.mem_cons_of_mem _ hc)
/-- boxes that partition a domain, in the run -/
structure Part (v : List Int → List Int → Int) (D : Dm) (ds : List Box) (st : List Dm) : Prop where
  sub : ∀ b ∈ ds.map dm ++ st, Sub D b
  dis : (ds.map dm ++ st).Pairwise fun b c => meetD b c = false
  sum : ∀ P, sumC P (ds.map dm ++ st) = cnt D P
  vd : ∀ b ∈ ds, v b.1 b.2.1 = if b.2.2 then 1 else 0
section
variable {v : List Int → List Int → Int} {D : Dm} {ds : List Box} {st : List Dm} {b : Dm}
theorem Part.dec (h : Part v D ds (b :: st)) (t : Bool) (hv : v b.1 b.2 = if t then 1 else 0) : Part v D (ds ++ [(b.1, b.2, t)]) st := by
  have e : (ds ++ [(b.1, b.2, t)]).map dm ++ st = ds.map dm ++ b :: st := by simp [dm]
  refine ⟨by rw [e]; exact h.sub, by rw [e]; exact h.dis, by rw [e]; exact h.sum, fun c hc => ?_⟩
  rcases List.mem_append.1 hc with hc | hc
  · exact h.vd c hc
  · rw [List.mem_singleton] at hc; subst hc; exact hv
theorem Part.cut (h : Part v D ds (b :: st)) (hl : D.2.length = D.1.length) (hw : ¬ widest b.1 b.2 < 0) : Part v D ds (cutLo b (wI b) :: cutHi b (wI b) :: st) := by
  have hb : Sub D b := h.sub b (List.mem_append.2 (.inr List.mem_cons_self))
  have hs := hb.self hl
  have s1 := hs.cutLo hw
  have s2 := hs.cutHi hw
  obtain ⟨x, y, h1, h2, _⟩ := widest_pos hw
  refine ⟨fun c hc => ?_, ?_, fun P => ?_, h.vd⟩
  · rcases List.mem_append.1 hc with hc | hc
    · exact h.sub c (List.mem_append.2 (.inl hc))
    · rcases List.mem_cons.1 hc with rfl | hc
      · exact hb.cutLo hw
      · rcases List.mem_cons.1 hc with rfl | hc
        · exact hb.cutHi hw
        · exact h.sub c (List.mem_append.2 (.inr (List.mem_cons_of_mem _ hc)))
  · exact pair_split (R := fun b c => meetD b c = false) (b := b) (fun x hx => ⟨s1.meetR hx, s2.meetR hx⟩) (fun x hx => ⟨s1.meetL hx, s2.meetL hx⟩) (halves_apart b (List.getElem?_eq_some_iff.1 h1).1 (List.getElem?_eq_some_iff.1 h2).1) h.dis
  · rw [← h.sum P, sumC_append, sumC_append, sumC, sumC, sumC, ← cnt_cut' b P hw]
    omega
end
/-- a run ends with a partition, or with too many boxes, or at a point that is not decided -/
theorem solveF_part {v : List Int → List Int → Int} {D : Dm} (hl : D.2.length = D.1.length) (hs : Sub D D) (most : Nat) (h1 : 1 ≤ most) (n : Nat) (hn : 2 * most + 1 ≤ n) :
    (∃ r, solveF v most n [] [D] = (r, 0) ∧ Part v D r [] ∧ r.length ≤ most) ∨ solveF v most n [] [D] = ([], 3) ∨ (solveF v most n [] [D] = ([], 16) ∧ ∃ b, Sub D b ∧ v b.1 b.2 ≠ 1 ∧ v b.1 b.2 ≠ 0 ∧ widest b.1 b.2 < 0) := by
  have key := solveF_inv (v := v) (most := most) (fun ds st => Part v D ds st ∧ ds.length + st.length ≤ most) (fun ds b st t h hv => ⟨h.1.dec t hv, by have := h.2; simp only [List.length_append, List.length_cons, List.length_nil] at this ⊢; omega⟩)
    (fun ds b st h _ _ hw hm => ⟨h.1.cut hl hw, by simp only [List.length_cons]; omega⟩)
    n [] [D] (by unfold meas; simp; omega) ⟨⟨fun b hb => by simp at hb; subst hb; exact hs, by simp, fun P => by simp [sumC], fun b hb => (List.not_mem_nil hb).elim⟩, by simpa using h1⟩
  rcases key with ⟨r, e, h, h2⟩ | e | ⟨e, ds, b, st, h, n1, n0, hw⟩
  · exact .inl ⟨r, e, h, by simpa using h2⟩
  · exact .inr (.inl e)
  · exact .inr (.inr ⟨e, b, h.1.sub b (List.mem_append.2 (.inr List.mem_cons_self)), n1, n0, hw⟩)
theorem inD_of : ∀ {lo hi bl bh : List Int}, (∀ (i : Nat) (a c x y : Int), lo[i]? = some a → hi[i]? = some c → bl[i]? = some x → bh[i]? = some y → a ≤ x ∧ x ≤ y ∧ y ≤ c) → inD lo hi bl bh = true
  | a :: lo, b :: hi, x :: bl, y :: bh, h => by
    have h0 := h 0 a b x y rfl rfl rfl rfl
    rw [inD, inD_of (fun i a' c' x' y' q1 q2 q3 q4 => h (i + 1) a' c' x' y' (by simpa using q1) (by simpa using q2) (by simpa using q3) (by simpa using q4))]
    simp
    omega
  | [], _, _, _, _ => rfl
  | _ :: _, [], _, _, _ => rfl
  | _ :: _, _ :: _, [], _, _ => rfl
  | _ :: _, _ :: _, _ :: _, [], _ => rfl
theorem Sub.within {D b : Dm} (h : Sub D b) : within D.1 D.2 b = true := by
  unfold Bx.within
  rw [inD_of h.in_, h.l1, h.l2]
  simp
theorem within_sub {lo hi : List Int} {b : Dm} (hw : within lo hi b = true) : Sub (lo, hi) b := by
  unfold Bx.within at hw
  simp only [Bool.and_eq_true, decide_eq_true_eq] at hw
  exact ⟨hw.1.1, hw.1.2, fun i a c x y h1 h2 h3 h4 => inD_get i hw.2 h1 h2 h3 h4⟩
theorem chkF_sum {lo hi : List Int} : ∀ {l : List Dm} {t : Nat}, (∀ b ∈ l, Sub (lo, hi) b) → chkF lo hi t l = some (t + sumC (fun _ => true) l)
  | [], t, _ => by simp [chkF, sumC]
  | b :: l, t, h => by
    rw [chkF, if_pos ((h b List.mem_cons_self).within), chkF_sum (fun c hc => h c (List.mem_cons_of_mem _ hc)), sumC, cnt_true]
    congr 1
    omega
theorem check_sub {lo hi : List Int} {l : List Dm} (hv : valid lo hi = true) (h : ∀ b ∈ l, Sub (lo, hi) b) : check lo hi l = (decide (sumC (fun _ => true) l = vol lo hi) && disj l) := by
  unfold check
  rw [hv, chkF_sum h, Nat.zero_add]
  rfl
theorem Part.check {v : List Int → List Int → Int} {lo hi : List Int} {r : List Box} (h : Part v (lo, hi) r []) (hv : valid lo hi = true) : check lo hi (r.map dm) = true := by
  have h1 := h.sub
  have h2 := h.dis
  have h3 := h.sum (fun _ => true)
  rw [List.append_nil] at h1 h2 h3
  rw [check_sub hv h1, (disj_iff _).2 h2, h3, cnt_true]
  simp
/-! the edits -/
theorem Sub.vol_pos {D b : Dm} (h : Sub D b) (hl : D.2.length = D.1.length) : 1 ≤ vol b.1 b.2 := by
  have hs := h.self hl
  unfold vol
  have key : ∀ l : List (Int × Int), (∀ p ∈ l, p.1 ≤ p.2) → 1 ≤ volF l := by
    intro l
    induction l with
    | nil => intro _; simp [volF]
    | cons p l ih =>
      intro h
      rw [volF]
      have h1 := h p List.mem_cons_self
      have h2 := ih fun q hq => h q (List.mem_cons_of_mem _ hq)
      exact Nat.mul_le_mul (show 1 ≤ (p.2 - p.1 + 1).toNat by omega) h2
  refine key _ fun p hp => ?_
  obtain ⟨i, hi, he⟩ := List.getElem_of_mem hp
  have h1 : (b.1.zip b.2)[i]? = some p := by rw [List.getElem?_eq_getElem hi, he]
  rw [List.getElem?_zip_eq_some] at h1
  exact (hs.in_ i _ _ _ _ h1.1 h1.2 h1.1 h1.2).2.1
theorem check_less {lo hi : List Int} {A C : List Dm} {b : Dm} (hv : valid lo hi = true) (h : ∀ c ∈ A ++ b :: C, Sub (lo, hi) c) (hs : sumC (fun _ => true) (A ++ b :: C) = vol lo hi) : check lo hi (A ++ C) = false := by
  obtain ⟨_, hl, _⟩ := sub_self' hv
  rw [check_sub hv (fun c hc => h c ((List.mem_append.1 hc).elim (fun hc => List.mem_append.2 (.inl hc)) (fun hc => List.mem_append.2 (.inr (List.mem_cons_of_mem _ hc)))))]
  have hb := (h b (List.mem_append.2 (.inr List.mem_cons_self))).vol_pos hl
  rw [sumC_append, sumC, cnt_true] at hs
  rw [sumC_append, decide_eq_false (by omega)]
  rfl
theorem check_twice {lo hi : List Int} {A : List Dm} {b : Dm} (hv : valid lo hi = true) (h : ∀ c ∈ A, Sub (lo, hi) c) (hb : b ∈ A) (hs : sumC (fun _ => true) A = vol lo hi) : check lo hi (A ++ [b]) = false := by
  obtain ⟨_, hl, _⟩ := sub_self' hv
  rw [check_sub hv (fun c hc => (List.mem_append.1 hc).elim (fun hc => h c hc) (fun hc => by rw [List.mem_singleton] at hc; subst hc; exact h c hb))]
  have hb := (h b hb).vol_pos hl
  rw [sumC_append, sumC, sumC, cnt_true, decide_eq_false (by omega)]
  rfl
theorem check_wide {lo hi : List Int} {A C : List Dm} {b : Dm} {i : Nat} {y z : Int} (hv : valid lo hi = true) (h : ∀ c ∈ A ++ b :: C, Sub (lo, hi) c) (hs : sumC (fun _ => true) (A ++ b :: C) = vol lo hi) (hy : b.2[i]? = some y) (hz : hi[i]? = some z) (hlt : y < z) : check lo hi (A ++ C ++ [(b.1, b.2.set i (y + 1))]) = false := by
  obtain ⟨_, hl, _⟩ := sub_self' hv
  have hb := h b (List.mem_append.2 (.inr List.mem_cons_self))
  have hbs := hb.self hl
  have e1 := hb.l1
  have e2 := hb.l2
  have hil := (List.getElem?_eq_some_iff.1 hy).1
  have q1 : b.1[i]? = some (b.1[i]'(by omega)) := List.getElem?_eq_getElem _
  have hxy := (hbs.in_ i _ _ _ _ q1 hy q1 hy).2.1
  have hw : Sub (lo, hi) (b.1, b.2.set i (y + 1)) := by
    refine ⟨e1, by simpa using e2, fun k a c p q ha hc hp hq => ?_⟩
    by_cases e : i = k
    · subst e
      simp only at hq hp ha hc
      rw [List.getElem?_set_self hil] at hq
      injection hq with hq
      have := hb.in_ _ a c p y ha hc hp hy
      rw [hz] at hc
      injection hc with hc
      omega
    · simp only at hq
      rw [List.getElem?_set_ne e] at hq
      exact hb.in_ k a c p q ha hc hp hq
  rw [check_sub hv (fun c hc => by
    rcases List.mem_append.1 hc with hc | hc
    · rcases List.mem_append.1 hc with hc | hc
      · exact h c (List.mem_append.2 (.inl hc))
      · exact h c (List.mem_append.2 (.inr (List.mem_cons_of_mem _ hc)))
    · rw [List.mem_singleton] at hc; subst hc; exact hw)]
  have hcut := cnt_cut (b.1, b.2.set i (y + 1)) (fun _ => true) (i := i) (m := y) q1 (List.getElem?_set_self hil) hxy (by omega)
  have e3 : (b.2.set i (y + 1)).set i y = b.2 := by
    rw [List.set_set]
    obtain ⟨_, e⟩ := List.getElem?_eq_some_iff.1 hy
    rw [← e]
    exact List.set_getElem_self _
  simp only [e3] at hcut
  have hpos : 1 ≤ vol (b.1.set i (y + 1)) (b.2.set i (y + 1)) := by
    refine Sub.vol_pos (D := (lo, hi)) (b := (b.1.set i (y + 1), b.2.set i (y + 1))) ⟨by simpa using e1, by simpa using e2, fun k a c p q ha hc hp hq => ?_⟩ hl
    by_cases e : i = k
    · subst e
      simp only at hq hp ha hc
      rw [List.getElem?_set_self hil] at hq
      rw [List.getElem?_set_self (by omega)] at hp
      injection hq with hq
      injection hp with hp
      have := hb.in_ _ a c _ y ha hc q1 hy
      rw [hz] at hc
      injection hc with hc
      omega
    · simp only at hq hp
      rw [List.getElem?_set_ne e] at hq hp
      exact hb.in_ k a c p q ha hc hp hq
  rw [cnt_true, cnt_true, cnt_true] at hcut
  rw [sumC_append, sumC, cnt_true] at hs
  rw [sumC_append, sumC_append, sumC, sumC, cnt_true]
  simp only at hcut ⊢
  rw [decide_eq_false (by omega)]
  rfl
theorem check_halves {lo hi : List Int} {A C : List Dm} {b : Dm} {i : Nat} {x y : Int} (hv : valid lo hi = true) (h : ∀ c ∈ A ++ b :: C, Sub (lo, hi) c) (hs : sumC (fun _ => true) (A ++ b :: C) = vol lo hi) (hd : (A ++ b :: C).Pairwise fun b c => meetD b c = false) (hx : b.1[i]? = some x) (hy : b.2[i]? = some y) (hlt : x < y) :
    check lo hi (A ++ C ++ [(b.1, b.2.set i x), (b.1.set i (x + 1), b.2)]) = true := by
  obtain ⟨_, hl, _⟩ := sub_self' hv
  have hb := h b (List.mem_append.2 (.inr List.mem_cons_self))
  have hbs := hb.self hl
  have e1 := hb.l1
  have e2 := hb.l2
  have hi1 := (List.getElem?_eq_some_iff.1 hx).1
  have hi2 := (List.getElem?_eq_some_iff.1 hy).1
  have key : ∀ {D : Dm}, Sub D b → Sub D (b.1, b.2.set i x) ∧ Sub D (b.1.set i (x + 1), b.2) := fun {D} hD => by
    refine ⟨⟨hD.l1, by simpa using hD.l2, fun k a c p q ha hc hp hq => ?_⟩, ⟨by simpa using hD.l1, hD.l2, fun k a c p q ha hc hp hq => ?_⟩⟩
    · by_cases e : i = k
      · subst e
        simp only at hq hp
        rw [List.getElem?_set_self hi2] at hq
        injection hq with hq
        have := hD.in_ _ a c x y ha hc hx hy
        rw [hx] at hp
        injection hp with hp
        omega
      · simp only at hq
        rw [List.getElem?_set_ne e] at hq
        exact hD.in_ k a c p q ha hc hp hq
    · by_cases e : i = k
      · subst e
        simp only at hq hp
        rw [List.getElem?_set_self hi1] at hp
        injection hp with hp
        have := hD.in_ _ a c x y ha hc hx hy
        rw [hy] at hq
        injection hq with hq
        omega
      · simp only at hp
        rw [List.getElem?_set_ne e] at hp
        exact hD.in_ k a c p q ha hc hp hq
  obtain ⟨s1, s2⟩ := key hbs
  obtain ⟨d1, d2⟩ := key hb
  have hsub : ∀ c ∈ A ++ C ++ [(b.1, b.2.set i x), (b.1.set i (x + 1), b.2)], Sub (lo, hi) c := fun c hc => by
    rcases List.mem_append.1 hc with hc | hc
    · rcases List.mem_append.1 hc with hc | hc
      · exact h c (List.mem_append.2 (.inl hc))
      · exact h c (List.mem_append.2 (.inr (List.mem_cons_of_mem _ hc)))
    · rcases List.mem_cons.1 hc with rfl | hc
      · exact d1
      · rw [List.mem_singleton] at hc; subst hc; exact d2
  rw [check_sub hv hsub]
  have hp : (A ++ (b.1, b.2.set i x) :: (b.1.set i (x + 1), b.2) :: C).Pairwise fun b c => meetD b c = false :=
    pair_split (R := fun b c => meetD b c = false) (b := b) (fun z hz => ⟨s1.meetR hz, s2.meetR hz⟩) (fun z hz => ⟨s1.meetL hz, s2.meetL hz⟩) (halves_apart b hi1 hi2) hd
  have hperm : (A ++ (b.1, b.2.set i x) :: (b.1.set i (x + 1), b.2) :: C).Perm (A ++ C ++ [(b.1, b.2.set i x), (b.1.set i (x + 1), b.2)]) := by
    rw [List.append_assoc]
    refine List.Perm.append_left A ?_
    exact List.perm_append_comm (l₁ := [(b.1, b.2.set i x), (b.1.set i (x + 1), b.2)]) (l₂ := C)
  have hdj := (disj_iff _).2 hp
  rw [disj_perm (n := lo.length) hperm (fun c hc => by have := hsub c (hperm.mem_iff.1 hc); exact ⟨this.l1, this.l2⟩)] at hdj
  have hcut := cnt_cut b (fun _ => true) hx hy (Int.le_refl x) (by omega)
  rw [sumC_append, sumC] at hs
  rw [hdj, Bool.and_true, decide_eq_true_eq, sumC_append, sumC_append, sumC, sumC, sumC]
  omega
end Bx
end Go.Proofs.Ytcncobhdfflelaa
