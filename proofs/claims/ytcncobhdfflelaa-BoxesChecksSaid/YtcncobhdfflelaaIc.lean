/- Plain laws: what the boxes of a run report at the points of the domain. -/
import Derived.Test.YtcncobhdfflelaaIb
import Derived.Test.YtcncobhdfflelaaGb
namespace Go.Proofs.Ytcncobhdfflelaa
namespace Bx
/-- the left side of a linear condition at a point -/
def valF : List Int → List Int → Int → Int
  | k :: cs, x :: p, r => valF cs p (r + k * x)
  | _, _, r => r
theorem valF_at {cs p : List Int} {i : Nat} {k x : Int} (r : Int) (h1 : cs[i]? = some k) (h2 : p[i]? = some x) : valF (cs.drop i) (p.drop i) r = valF (cs.drop (i + 1)) (p.drop (i + 1)) (r + k * x) := by
  obtain ⟨e1, rfl⟩ := List.getElem?_eq_some_iff.1 h1
  obtain ⟨e2, rfl⟩ := List.getElem?_eq_some_iff.1 h2
  rw [List.drop_eq_getElem_cons e1, List.drop_eq_getElem_cons e2, valF]
theorem valF_end {cs p : List Int} {i : Nat} (r : Int) (h : cs.length ≤ i ∨ p.length ≤ i) : valF (cs.drop i) (p.drop i) r = r := by
  rcases h with h | h
  · rw [List.drop_eq_nil_of_le h]; rfl
  · rw [List.drop_eq_nil_of_le h]; cases cs.drop i <;> rfl
/-- whether the conditions hold at a point -/
def allAt (cs : List (List Int × Int)) (p : List Int) : Bool := cs.all fun c => decide (valF c.1 p 0 ≤ c.2)
theorem mul_between {k a b x : Int} (h1 : a ≤ x) (h2 : x ≤ b) : min (k * a) (k * b) ≤ k * x ∧ k * x ≤ max (k * a) (k * b) := by
  rcases Int.le_total 0 k with h | h
  · have q1 := Int.mul_le_mul_of_nonneg_left h1 h
    have q2 := Int.mul_le_mul_of_nonneg_left h2 h
    omega
  · have q1 := Int.mul_le_mul_of_nonpos_left h h1
    have q2 := Int.mul_le_mul_of_nonpos_left h h2
    omega
theorem bounds_val : ∀ {lo hi cs p : List Int} {r : Int × Int} {s : Int}, lo.length = hi.length → InZ (lo.zip hi) p → r.1 ≤ s → s ≤ r.2 → (bounds lo hi cs r).1 ≤ valF cs p s ∧ valF cs p s ≤ (bounds lo hi cs r).2
  | a :: lo, b :: hi, k :: cs, x :: p, r, s, hl, hz, h1, h2 => by
    rw [bounds, valF]
    have hm : min (k * a) (k * b) ≤ k * x ∧ k * x ≤ max (k * a) (k * b) := mul_between (k := k) hz.1 hz.2.1
    exact bounds_val (by simpa using hl) hz.2.2 (by simp only; omega) (by simp only; omega)
  | a :: lo, b :: hi, k :: cs, [], r, s, _, hz, _, _ => hz.elim
  | [], [], cs, [], r, s, _, _, h1, h2 => by
    have e1 : bounds [] [] cs r = r := by cases cs <;> rfl
    have e2 : valF cs [] s = s := by cases cs <;> rfl
    rw [e1, e2]
    exact ⟨h1, h2⟩
  | [], [], cs, _ :: _, r, s, _, hz, _, _ => hz.elim
  | [], _ :: _, _, _, _, _, hl, _, _, _ => by simp at hl
  | _ :: _, [], _, _, _, _, hl, _, _, _ => by simp at hl
  | a :: lo, b :: hi, [], p, r, s, _, _, h1, h2 => by
    have e1 : bounds (a :: lo) (b :: hi) [] r = r := rfl
    have e2 : valF [] p s = s := by cases p <;> rfl
    rw [e1, e2]
    exact ⟨h1, h2⟩
theorem verd_sound {lo hi p : List Int} (hl : lo.length = hi.length) (hz : InZ (lo.zip hi) p) : ∀ (cs : List (List Int × Int)) (v : Int), (verd lo hi cs v = 1 → v = 1 ∧ allAt cs p = true) ∧ (verd lo hi cs v = 0 → v = 0 ∨ allAt cs p = false)
  | [], v => by simp [verd, allAt]
  | c :: cs, v => by
    obtain ⟨h1, h2⟩ := bounds_val (cs := c.1) (r := (0, 0)) (s := 0) hl hz (Int.le_refl 0) (Int.le_refl 0)
    obtain ⟨i1, i2⟩ := verd_sound hl hz cs (if c.2 < (bounds lo hi c.1 (0, 0)).2 then -1 else v)
    rw [verd]
    unfold allAt at *
    rw [List.all_cons]
    by_cases g1 : c.2 < (bounds lo hi c.1 (0, 0)).1
    · rw [if_pos g1]
      refine ⟨fun h => by simp at h, fun _ => .inr ?_⟩
      rw [decide_eq_false (by omega)]
      rfl
    · rw [if_neg g1]
      by_cases g2 : c.2 < (bounds lo hi c.1 (0, 0)).2
      · rw [if_pos g2] at i1 i2 ⊢
        refine ⟨fun h => absurd (i1 h).1 (by decide), fun h => ?_⟩
        rcases i2 h with h | h
        · exact absurd h (by decide)
        · right; rw [h, Bool.and_false]
      · rw [if_neg g2] at i1 i2 ⊢
        refine ⟨fun h => ⟨(i1 h).1, by rw [(i1 h).2, decide_eq_true (by omega)]; rfl⟩, fun h => ?_⟩
        rcases i2 h with h | h
        · exact .inl h
        · right; rw [h, Bool.and_false]
theorem cntF_point : ∀ (l : List (Int × Int)) (p : List Int), (InZ l p → cntF l (fun q => decide (q = p)) = 1) ∧ (¬ InZ l p → cntF l (fun q => decide (q = p)) = 0)
  | [], [] => ⟨fun _ => rfl, fun h => absurd trivial h⟩
  | [], x :: p => ⟨fun h => h.elim, fun _ => rfl⟩
  | r :: l, [] => by
    refine ⟨fun h => h.elim, fun _ => ?_⟩
    rw [cntF]
    have : ∀ x : Int, cntF l (fun p => decide (x :: p = [])) = 0 := fun x => by
      rw [cntF_ext l (R := fun _ => false) (fun p _ => by simp), cntF_false]
    simp only [this]
    unfold sumR
    rw [sumI_const, Nat.mul_zero]
  | r :: l, x :: p => by
    obtain ⟨i1, i2⟩ := cntF_point l p
    have e1 : cntF l (fun q => decide (x :: q = x :: p)) = cntF l (fun q => decide (q = p)) := cntF_ext l fun q _ => by simp
    have e2 : ∀ z : Int, z ≠ x → cntF l (fun q => decide (z :: q = x :: p)) = 0 := fun z hz => by
      rw [cntF_ext l (R := fun _ => false) (fun q _ => by simp [hz]), cntF_false]
    have e0 : ∀ a b : Int, (∀ z, a ≤ z → z ≤ b → z ≠ x) → sumR (fun z => cntF l fun q => decide (z :: q = x :: p)) a b = 0 := fun a b h => by
      rw [sumR_ext (g := fun _ => 0) (fun z h1 h2 => e2 z (h z h1 h2))]
      unfold sumR
      rw [sumI_const, Nat.mul_zero]
    rw [cntF]
    by_cases hx : r.1 ≤ x ∧ x ≤ r.2
    · have key : sumR (fun z => cntF l fun q => decide (z :: q = x :: p)) r.1 r.2 = cntF l (fun q => decide (q = p)) := by
        rw [← sumR_cut _ hx.1 hx.2, e0 (x + 1) r.2 (fun z h1 h2 => by omega), Nat.add_zero]
        by_cases h0 : r.1 = x
        · rw [h0]
          unfold sumR
          rw [show (x - x + 1).toNat = 1 by omega, sumI, sumI, e1, Nat.add_zero]
        · rw [← sumR_cut (m := x - 1) _ (by omega) (by omega), e0 r.1 (x - 1) (fun z h1 h2 => by omega), Nat.zero_add]
          rw [show x - 1 + 1 = x by omega]
          unfold sumR
          rw [show (x - x + 1).toNat = 1 by omega, sumI, sumI, e1, Nat.add_zero]
      rw [key]
      exact ⟨fun h => i1 h.2.2, fun h => i2 fun h' => h ⟨hx.1, hx.2, h'⟩⟩
    · rw [e0 r.1 r.2 (fun z h1 h2 => by omega)]
      exact ⟨fun h => absurd ⟨h.1, h.2.1⟩ hx, fun _ => rfl⟩
theorem inZ_contains : ∀ {lo hi p : List Int}, lo.length = hi.length → (InZ (lo.zip hi) p ↔ contains lo hi p = true)
  | [], [], [], _ => by simp [InZ, contains, inside]
  | [], [], _ :: _, _ => by simp [InZ, contains]
  | a :: lo, b :: hi, [], _ => by simp [InZ, contains]
  | a :: lo, b :: hi, x :: p, h => by
    have ih := inZ_contains (lo := lo) (hi := hi) (p := p) (by simpa using h)
    unfold contains at ih ⊢
    rw [List.zip_cons_cons, inside]
    show a ≤ x ∧ x ≤ b ∧ InZ (lo.zip hi) p ↔ _
    rw [ih]
    simp only [Bool.and_eq_true, decide_eq_true_eq, List.length_cons, Bool.not_eq_true', decide_eq_false_iff_not, Int.not_lt, Nat.add_right_cancel_iff]
    constructor
    · rintro ⟨h1, h2, ⟨h3, h4⟩, h5⟩
      exact ⟨⟨h3, h4⟩, ⟨h1, h2⟩, h5⟩
    · rintro ⟨⟨h3, h4⟩, ⟨h1, h2⟩, h5⟩
      exact ⟨h1, h2, ⟨h3, h4⟩, h5⟩
  | [], _ :: _, _, h => by simp at h
  | _ :: _, [], _, h => by simp at h
theorem holds_some {p : List Int} : ∀ {l : List Box}, (∃ b ∈ l, contains b.1 b.2.1 p = true) → ∃ b ∈ l, contains b.1 b.2.1 p = true ∧ holds p l = (b.2.2, true)
  | [], ⟨_, h, _⟩ => (List.not_mem_nil h).elim
  | c :: l, ⟨b, hb, h⟩ => by
    rw [holds]
    by_cases hc : contains c.1 c.2.1 p = true
    · rw [if_pos hc]; exact ⟨c, List.mem_cons_self, hc, rfl⟩
    · rw [if_neg hc]
      rcases List.mem_cons.1 hb with rfl | hb
      · exact absurd h hc
      · obtain ⟨d, h1, h2, h3⟩ := holds_some ⟨b, hb, h⟩
        exact ⟨d, List.mem_cons_of_mem _ h1, h2, h3⟩
theorem sumC_pos {P : List Int → Bool} : ∀ {l : List Dm}, 1 ≤ sumC P l → ∃ b ∈ l, 1 ≤ cnt b P
  | [], h => by simp [sumC] at h
  | b :: l, h => by
    rw [sumC] at h
    by_cases hb : 1 ≤ cnt b P
    · exact ⟨b, List.mem_cons_self, hb⟩
    · obtain ⟨c, h1, h2⟩ := sumC_pos (P := P) (l := l) (by omega)
      exact ⟨c, List.mem_cons_of_mem _ h1, h2⟩
/-- at every point of the domain the boxes report whether the conditions hold -/
theorem Part.holds {lo hi p : List Int} {cs : List (List Int × Int)} {r : List Box} (h : Part (fun a b => verd a b cs 1) (lo, hi) r []) (hl : hi.length = lo.length) (hp : contains lo hi p = true) : holds p r = (allAt cs p, true) := by
  have h1 := h.sub
  have h3 := h.sum (fun q => decide (q = p))
  rw [List.append_nil] at h1 h3
  have hz := (inZ_contains hl.symm).2 hp
  have h4 : 1 ≤ sumC (fun q => decide (q = p)) (r.map dm) := by rw [h3]; exact Nat.le_of_eq ((cntF_point _ p).1 hz).symm
  obtain ⟨b, hb, hc⟩ := sumC_pos h4
  obtain ⟨c, hc', rfl⟩ := List.mem_map.1 hb
  have hin : InZ (c.1.zip c.2.1) p := by
    by_cases e : InZ (c.1.zip c.2.1) p
    · exact e
    · have := (cntF_point _ p).2 e
      have hc2 : 1 ≤ cntF (c.1.zip c.2.1) (fun q => decide (q = p)) := hc
      omega
  have hlc : ∀ d ∈ r, d.1.length = d.2.1.length := fun d hd => by
    have := h1 (dm d) (List.mem_map.2 ⟨d, hd, rfl⟩)
    have a := this.l1
    have b := this.l2
    exact a.trans b.symm
  obtain ⟨d, d1, d2, d3⟩ := holds_some ⟨c, hc', (inZ_contains (hlc c hc')).1 hin⟩
  rw [d3]
  have hv : verd d.1 d.2.1 cs 1 = if d.2.2 then 1 else 0 := h.vd d d1
  have hs := verd_sound (hlc d d1) ((inZ_contains (hlc d d1)).2 d2) cs 1
  cases ht : d.2.2 with
  | true => rw [ht, if_pos rfl] at hv; rw [(hs.1 hv).2]
  | false =>
    rw [ht, if_neg (by decide)] at hv
    rcases hs.2 hv with h | h
    · exact absurd h (by decide)
    · rw [h]
/-- the number of points of the boxes that hold -/
def sumH : List Box → Nat
  | [] => 0
  | b :: l => (if b.2.2 = true then vol b.1 b.2.1 else 0) + sumH l
theorem sumH_eq {cs : List (List Int × Int)} : ∀ {r : List Box}, (∀ b ∈ r, b.1.length = b.2.1.length) → (∀ b ∈ r, verd b.1 b.2.1 cs 1 = if b.2.2 then 1 else 0) → sumH r = sumC (allAt cs) (r.map dm)
  | [], _, _ => rfl
  | b :: r, hl, hv => by
    rw [sumH, List.map_cons, sumC, sumH_eq (fun c hc => hl c (List.mem_cons_of_mem _ hc)) (fun c hc => hv c (List.mem_cons_of_mem _ hc))]
    congr 1
    have hb := hv b List.mem_cons_self
    have hlb := hl b List.mem_cons_self
    cases ht : b.2.2 with
    | true =>
      rw [ht, if_pos rfl] at hb
      rw [if_pos rfl]
      show _ = cntF (b.1.zip b.2.1) _
      rw [cntF_ext _ (R := fun _ => true) (fun p hp => ((verd_sound hlb hp cs 1).1 hb).2), cntF_true]
      rfl
    | false =>
      rw [ht, if_neg (by decide)] at hb
      rw [if_neg (by decide)]
      show _ = cntF (b.1.zip b.2.1) _
      rw [cntF_ext _ (R := fun _ => false) (fun p hp => ((verd_sound hlb hp cs 1).2 hb).elim (fun h => absurd h (by decide)) id), cntF_false]
theorem countF_sum : ∀ {l : List Box} {t : Int}, 0 ≤ t → (∀ b ∈ l, b.1.length = b.2.1.length ∧ ordered b.1 b.2.1 = true) → t + (sumH l : Int) ≤ 9007199254740992 → countF l t = t + (sumH l : Int)
  | [], t, _, _, _ => by simp [countF, sumH]
  | b :: l, t, h0, h, hs => by
    rw [sumH] at hs
    rw [countF, sumH]
    have hb := h b List.mem_cons_self
    by_cases ht : b.2.2 = true
    · rw [if_pos ht] at hs ⊢
      have hp : pts b.1 b.2.1 = vol b.1 b.2.1 := by
        unfold pts
        rw [if_pos hb]
        by_cases hv : vol b.1 b.2.1 ≤ 9007199254740992
        · exact Nat.min_eq_left hv
        · rw [Nat.min_def]; split <;> omega
      rw [hp, countF_sum (by omega) (fun c hc => h c (List.mem_cons_of_mem _ hc)) (by omega), if_pos ht]
      omega
    · rw [if_neg ht] at hs ⊢
      rw [countF_sum h0 (fun c hc => h c (List.mem_cons_of_mem _ hc)) (by omega), if_neg ht]
      omega
end Bx
end Go.Proofs.Ytcncobhdfflelaa
