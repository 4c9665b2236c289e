/- The plain laws of spans, the statements' own words: sound, exact, narrow, and the algebraic laws. -/
import Derived.Test.YtjdppnkmhgihnaaLaw
namespace Go.Proofs.Ytjdppnkmhgihnaa
namespace Sp

theorem soundB_mk {l h f n : Int} {ok : Bool} {fault : Int}
    (H : (f = 8 ∧ l = 0 ∧ h = 0) ∨ (f = 0 ∧ ok = true ∧ right l h = true ∧ l ≤ n ∧ n ≤ h) ∨ (f ≠ 8 ∧ f ≠ 0 ∧ ok = false ∧ f = fault ∧ l = 0 ∧ h = 0)) : soundB l h f n ok fault = true := by
  rcases H with ⟨rfl, rfl, rfl⟩ | ⟨rfl, rfl, h1, h2, h3⟩ | ⟨h8, h0, rfl, rfl, rfl, rfl⟩
  · simp [soundB, nilB]
  · simp [soundB, inB, h1, h2, h3]
  · simp [soundB, nilB, h8, h0]

theorem exactB_mk {l h f n : Int} {ok : Bool} {fault : Int}
    (H : (ok = true ∧ f = 0 ∧ l = n ∧ h = n) ∨ (ok = false ∧ f = fault ∧ l = 0 ∧ h = 0)) : exactB l h f n ok fault = true := by
  rcases H with ⟨rfl, rfl, rfl, h1⟩ | ⟨rfl, rfl, rfl, rfl⟩
  · simp [exactB, h1]
  · simp [exactB, nilB]

theorem narrowB_mk {sl sh f tl th g : Int} (H : g = 8 ∨ (f = g ∧ tl ≤ sl ∧ sh ≤ th)) : narrowB sl sh f tl th g = true := by
  rcases H with rfl | ⟨rfl, h1, h2⟩
  · simp [narrowB]
  · simp [narrowB, withinB, h1, h2]

section
variable {al ah bl bh x y : Int} (ha : right al ah = true) (hb : right bl bh = true) (x1 : al ≤ x) (x2 : x ≤ ah) (y1 : bl ≤ y) (y2 : y ≤ bh)
include ha hb x1 x2 y1 y2

theorem add_sound : soundB (add al ah bl bh).lo (add al ah bl bh).hi (add al ah bl bh).f (addV x y) (addOk x y) 1 = true := by
  have ha' := right_iff.1 ha
  have hb' := right_iff.1 hb
  have k1 := lo1 (al + bl) (ah + bh)
  have k2 := hi1 (al + bl) (ah + bh)
  have e : add al ah bl bh = fit (hullLo (al + bl) [ah + bh]) (hullHi (al + bl) [ah + bh]) := by simp [add, ha, hb]
  have i1 : inR x = true := inR_iff.2 (by omega)
  have i2 : inR y = true := inR_iff.2 (by omega)
  have eo : addOk x y = inR (x + y) := by simp [addOk, i1, i2]
  apply soundB_mk
  rw [e]
  rcases fit_cases (hullLo (al + bl) [ah + bh]) (hullHi (al + bl) [ah + bh]) with ⟨h, e'⟩ | ⟨h, e'⟩ | ⟨h, e'⟩ <;> rw [e']
  · right; right
    refine ⟨by decide, by decide, ?_, rfl, rfl, rfl⟩
    rw [eo, ← Bool.not_eq_true, inR_iff]; omega
  · left; exact ⟨rfl, rfl, rfl⟩
  · right; left
    have io : inR (x + y) = true := inR_iff.2 (by omega)
    refine ⟨rfl, by rw [eo, io], right_iff.2 (by dsimp only; omega), ?_, ?_⟩ <;> (unfold addV; rw [eo, io]; simp only [if_true]; omega)

theorem sub_sound : soundB (sub al ah bl bh).lo (sub al ah bl bh).hi (sub al ah bl bh).f (subV x y) (subOk x y) 1 = true := by
  have ha' := right_iff.1 ha
  have hb' := right_iff.1 hb
  have k1 := lo1 (al - bh) (ah - bl)
  have k2 := hi1 (al - bh) (ah - bl)
  have e : sub al ah bl bh = fit (hullLo (al - bh) [ah - bl]) (hullHi (al - bh) [ah - bl]) := by simp [sub, ha, hb]
  have i1 : inR x = true := inR_iff.2 (by omega)
  have i2 : inR y = true := inR_iff.2 (by omega)
  have eo : subOk x y = inR (x - y) := by simp [subOk, i1, i2]
  apply soundB_mk
  rw [e]
  rcases fit_cases (hullLo (al - bh) [ah - bl]) (hullHi (al - bh) [ah - bl]) with ⟨h, e'⟩ | ⟨h, e'⟩ | ⟨h, e'⟩ <;> rw [e']
  · right; right
    refine ⟨by decide, by decide, ?_, rfl, rfl, rfl⟩
    rw [eo, ← Bool.not_eq_true, inR_iff]; omega
  · left; exact ⟨rfl, rfl, rfl⟩
  · right; left
    have io : inR (x - y) = true := inR_iff.2 (by omega)
    refine ⟨rfl, by rw [eo, io], right_iff.2 (by dsimp only; omega), ?_, ?_⟩ <;> (unfold subV; rw [eo, io]; simp only [if_true]; omega)

theorem mul_sound : soundB (mul al ah bl bh).lo (mul al ah bl bh).hi (mul al ah bl bh).f (mulV x y) (mulOk x y) 1 = true := by
  have ha' := right_iff.1 ha
  have hb' := right_iff.1 hb
  obtain ⟨m1, m2⟩ := mul_in ha hb x1 x2 y1 y2
  have e : mul al ah bl bh = fit (hullLo (product al bl) [product al bh, product ah bl, product ah bh]) (hullHi (product al bl) [product al bh, product ah bl, product ah bh]) := by simp [mul, ha, hb]
  have i1 : inR x = true := inR_iff.2 (by omega)
  have i2 : inR y = true := inR_iff.2 (by omega)
  have c := product_clamp i1 i2
  have cb := clamp_bd (x * y)
  rw [← c] at cb
  apply soundB_mk
  rw [e]
  generalize hullLo (product al bl) [product al bh, product ah bl, product ah bh] = L at *
  generalize hullHi (product al bl) [product al bh, product ah bl, product ah bh] = H at *
  rcases fit_cases L H with ⟨h, e'⟩ | ⟨h, e'⟩ | ⟨h, e'⟩ <;> rw [e']
  · right; right
    refine ⟨by decide, by decide, ?_, rfl, rfl, rfl⟩
    rw [← Bool.not_eq_true]
    intro hm
    simp [mulOk] at hm
    omega
  · left; exact ⟨rfl, rfl, rfl⟩
  · right; left
    have io : mulOk x y = true := by simp [mulOk, i1, i2]; omega
    refine ⟨rfl, io, right_iff.2 (by dsimp only; omega), ?_, ?_⟩ <;> (unfold mulV; rw [io]; simp only [if_true]; omega)

theorem div_sound : soundB (div al ah bl bh).lo (div al ah bl bh).hi (div al ah bl bh).f (quo x y) (dvOk x y) (zeroV y) = true := by
  have ha' := right_iff.1 ha
  have hb' := right_iff.1 hb
  have i1 : inR x = true := inR_iff.2 (by omega)
  have i2 : inR y = true := inR_iff.2 (by omega)
  apply soundB_mk
  rcases divisor_cases hb'.2.1 with ⟨d1, d2, d⟩ | ⟨_, d1, d2, d⟩ | ⟨d1, d⟩
  · have e : div al ah bl bh = ⟨0, 0, 2⟩ := by simp [div, ha, hb, d]
    have y0 : y = 0 := by omega
    rw [e]; right; right
    exact ⟨by decide, by decide, by simp [dvOk, y0], by simp [zeroV, y0], rfl, rfl⟩
  · have e : div al ah bl bh = ⟨0, 0, 8⟩ := by simp [div, ha, hb, d]
    rw [e]; left; exact ⟨rfl, rfl, rfl⟩
  · rw [div_val ha hb d]
    obtain ⟨m1, m2⟩ := div_in ha hb d1 x1 x2 y1 y2
    have q1 := quo_in (x := al) (y := bl) (inR_iff.2 (by omega))
    have q2 := quo_in (x := al) (y := bh) (inR_iff.2 (by omega))
    have q3 := quo_in (x := ah) (y := bl) (inR_iff.2 (by omega))
    have q4 := quo_in (x := ah) (y := bh) (inR_iff.2 (by omega))
    have k1 := lo3 (quo al bl) (quo al bh) (quo ah bl) (quo ah bh)
    have k2 := hi3 (quo al bl) (quo al bh) (quo ah bl) (quo ah bh)
    right; left
    refine ⟨rfl, by simp [dvOk, i1, i2]; omega, right_iff.2 (by dsimp only; omega), m1, m2⟩

theorem mod_right (hd : divisor bl bh = 0) : right (mod al ah bl bh).lo (mod al ah bl bh).hi = true := by
  have ha' := right_iff.1 ha
  have hb' := right_iff.1 hb
  have q1 := rem_in (x := al) (y := bl) (inR_iff.2 (by omega))
  have q2 := rem_in (x := ah) (y := bl) (inR_iff.2 (by omega))
  have hz := divisor_zero hd hb'.2.1
  obtain ⟨_, m1, m2⟩ := mod_in ha hb hd x1 x2 y1 y2
  rw [right_iff]
  rcases mod_cases ha hb hd with ⟨e1, e2, e⟩ | ⟨e1, e2, e3, e⟩ | ⟨_, _, e⟩
  · rw [e] at *; dsimp only at *; omega
  · have k1 := lo1 (rem al bl) (rem ah bl)
    have k2 := hi1 (rem al bl) (rem ah bl)
    rw [e] at *; dsimp only at *; omega
  · have m := modM_bd bl bh
    have p1 := mx_bd al (-(modM bl bh))
    have p2 := mn_bd ah (modM bl bh)
    rw [e] at *; dsimp only at *
    refine ⟨?_, by omega, ?_⟩
    · split <;> omega
    · split <;> omega

theorem mod_sound : soundB (mod al ah bl bh).lo (mod al ah bl bh).hi (mod al ah bl bh).f (rem x y) (dvOk x y) (zeroV y) = true := by
  have ha' := right_iff.1 ha
  have hb' := right_iff.1 hb
  have i1 : inR x = true := inR_iff.2 (by omega)
  have i2 : inR y = true := inR_iff.2 (by omega)
  apply soundB_mk
  rcases divisor_cases hb'.2.1 with ⟨d1, d2, d⟩ | ⟨_, d1, d2, d⟩ | ⟨d1, d⟩
  · have e : mod al ah bl bh = ⟨0, 0, 2⟩ := by simp [mod, ha, hb, d]
    have y0 : y = 0 := by omega
    rw [e]; right; right
    exact ⟨by decide, by decide, by simp [dvOk, y0], by simp [zeroV, y0], rfl, rfl⟩
  · have e : mod al ah bl bh = ⟨0, 0, 8⟩ := by simp [mod, ha, hb, d]
    rw [e]; left; exact ⟨rfl, rfl, rfl⟩
  · obtain ⟨m0, m1, m2⟩ := mod_in ha hb d x1 x2 y1 y2
    right; left
    exact ⟨m0, by simp [dvOk, i1, i2]; omega, mod_right ha hb x1 x2 y1 y2 d, m1, m2⟩

omit hb y1 y2 in
theorem neg_sound : soundB (neg al ah).lo (neg al ah).hi (neg al ah).f (negV x) (inR x) 1 = true := by
  have ha' := right_iff.1 ha
  have i1 : inR x = true := inR_iff.2 (by omega)
  have e : neg al ah = ⟨-ah, -al, 0⟩ := by simp [neg, ha]
  have e2 : negV x = -x := by simp [negV, i1]
  apply soundB_mk
  rw [e, e2]
  right; left
  exact ⟨rfl, i1, right_iff.2 (by dsimp only; omega), by dsimp only; omega, by dsimp only; omega⟩

omit ha hb in
theorem less_sound : less al ah bl bh = -1 ∨ (less al ah bl bh = 1 ∧ x < y) ∨ (less al ah bl bh = 0 ∧ ¬ x < y) := by
  unfold less; split
  · omega
  · split <;> omega
omit ha hb in
theorem lessEq_sound : lessEq al ah bl bh = -1 ∨ (lessEq al ah bl bh = 1 ∧ x ≤ y) ∨ (lessEq al ah bl bh = 0 ∧ ¬ x ≤ y) := by
  unfold lessEq; split
  · omega
  · split <;> omega
omit ha hb in
theorem equal_sound : equal al ah bl bh = -1 ∨ (equal al ah bl bh = 1 ∧ x = y) ∨ (equal al ah bl bh = 0 ∧ ¬ x = y) := by
  unfold equal; split
  · omega
  · split <;> omega
end

end Sp
end Go.Proofs.Ytjdppnkmhgihnaa
