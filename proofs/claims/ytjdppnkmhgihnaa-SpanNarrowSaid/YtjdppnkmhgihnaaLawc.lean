/- The plain laws of spans: narrowing, points, the algebraic laws. -/
import Derived.Test.YtjdppnkmhgihnaaLawb
namespace Go.Proofs.Ytjdppnkmhgihnaa
namespace Sp

theorem fit_narrow {L H L' H' : Int} (h1 : L ≤ L') (h2 : L' ≤ H') (h3 : H' ≤ H) : narrowB (fit L' H').lo (fit L' H').hi (fit L' H').f (fit L H).lo (fit L H).hi (fit L H).f = true := by
  apply narrowB_mk
  rcases fit_cases L H with ⟨h, e⟩ | ⟨h, e⟩ | ⟨h, e⟩ <;> rw [e]
  · right
    rcases fit_cases L' H' with ⟨h', e'⟩ | ⟨h', e'⟩ | ⟨h', e'⟩ <;> rw [e']
    · exact ⟨rfl, Int.le_refl _, Int.le_refl _⟩
    · exfalso; omega
    · exfalso; omega
  · left; rfl
  · right
    rw [fit_in (by omega) (by omega) (by omega) (by omega)]
    exact ⟨rfl, h1, h3⟩

section
variable {al ah bl bh cl ch dl dh : Int} (ha : right al ah = true) (hb : right bl bh = true) (hc : right cl ch = true) (hd : right dl dh = true)
  (c1 : al ≤ cl) (c2 : ch ≤ ah) (d1 : bl ≤ dl) (d2 : dh ≤ bh)
include ha hb hc hd c1 c2 d1 d2

theorem add_narrow : narrowB (add cl ch dl dh).lo (add cl ch dl dh).hi (add cl ch dl dh).f (add al ah bl bh).lo (add al ah bl bh).hi (add al ah bl bh).f = true := by
  have hc' := right_iff.1 hc
  have hd' := right_iff.1 hd
  have k1 := lo1 (al + bl) (ah + bh)
  have k2 := hi1 (al + bl) (ah + bh)
  have k3 := lo1 (cl + dl) (ch + dh)
  have k4 := hi1 (cl + dl) (ch + dh)
  have e : add al ah bl bh = fit (hullLo (al + bl) [ah + bh]) (hullHi (al + bl) [ah + bh]) := by simp [add, ha, hb]
  have e' : add cl ch dl dh = fit (hullLo (cl + dl) [ch + dh]) (hullHi (cl + dl) [ch + dh]) := by simp [add, hc, hd]
  rw [e, e']
  exact fit_narrow (by omega) (by omega) (by omega)

theorem sub_narrow : narrowB (sub cl ch dl dh).lo (sub cl ch dl dh).hi (sub cl ch dl dh).f (sub al ah bl bh).lo (sub al ah bl bh).hi (sub al ah bl bh).f = true := by
  have hc' := right_iff.1 hc
  have hd' := right_iff.1 hd
  have k1 := lo1 (al - bh) (ah - bl)
  have k2 := hi1 (al - bh) (ah - bl)
  have k3 := lo1 (cl - dh) (ch - dl)
  have k4 := hi1 (cl - dh) (ch - dl)
  have e : sub al ah bl bh = fit (hullLo (al - bh) [ah - bl]) (hullHi (al - bh) [ah - bl]) := by simp [sub, ha, hb]
  have e' : sub cl ch dl dh = fit (hullLo (cl - dh) [ch - dl]) (hullHi (cl - dh) [ch - dl]) := by simp [sub, hc, hd]
  rw [e, e']
  exact fit_narrow (by omega) (by omega) (by omega)

theorem mul_narrow : narrowB (mul cl ch dl dh).lo (mul cl ch dl dh).hi (mul cl ch dl dh).f (mul al ah bl bh).lo (mul al ah bl bh).hi (mul al ah bl bh).f = true := by
  have hc' := right_iff.1 hc
  have hd' := right_iff.1 hd
  have m1 := mul_in (x := cl) (y := dl) ha hb (by omega) (by omega) (by omega) (by omega)
  have m2 := mul_in (x := cl) (y := dh) ha hb (by omega) (by omega) (by omega) (by omega)
  have m3 := mul_in (x := ch) (y := dl) ha hb (by omega) (by omega) (by omega) (by omega)
  have m4 := mul_in (x := ch) (y := dh) ha hb (by omega) (by omega) (by omega) (by omega)
  have k3 := lo3 (product cl dl) (product cl dh) (product ch dl) (product ch dh)
  have k4 := hi3 (product cl dl) (product cl dh) (product ch dl) (product ch dh)
  have e : mul al ah bl bh = fit (hullLo (product al bl) [product al bh, product ah bl, product ah bh]) (hullHi (product al bl) [product al bh, product ah bl, product ah bh]) := by simp [mul, ha, hb]
  have e' : mul cl ch dl dh = fit (hullLo (product cl dl) [product cl dh, product ch dl, product ch dh]) (hullHi (product cl dl) [product cl dh, product ch dl, product ch dh]) := by simp [mul, hc, hd]
  rw [e, e']
  exact fit_narrow (by omega) (by omega) (by omega)

theorem div_narrow : narrowB (div cl ch dl dh).lo (div cl ch dl dh).hi (div cl ch dl dh).f (div al ah bl bh).lo (div al ah bl bh).hi (div al ah bl bh).f = true := by
  have hb' := right_iff.1 hb
  have hc' := right_iff.1 hc
  have hd' := right_iff.1 hd
  apply narrowB_mk
  rcases divisor_cases hb'.2.1 with ⟨q1, q2, q⟩ | ⟨_, q1, q2, q⟩ | ⟨q1, q⟩
  · have e : div al ah bl bh = ⟨0, 0, 2⟩ := by simp [div, ha, hb, q]
    have z1 : dl = 0 := by omega
    have z2 : dh = 0 := by omega
    subst z1 z2
    have e' : div cl ch 0 0 = ⟨0, 0, 2⟩ := by simp [div, hc, hd, divisor]
    rw [e, e']; right; exact ⟨rfl, Int.le_refl _, Int.le_refl _⟩
  · have e : div al ah bl bh = ⟨0, 0, 8⟩ := by simp [div, ha, hb, q]
    rw [e]; left; rfl
  · have q' : divisor dl dh = 0 := by
      rcases divisor_cases hd'.2.1 with h | h | h
      · omega
      · omega
      · exact h.2
    have m1 := div_in (x := cl) (y := dl) ha hb q1 (by omega) (by omega) (by omega) (by omega)
    have m2 := div_in (x := cl) (y := dh) ha hb q1 (by omega) (by omega) (by omega) (by omega)
    have m3 := div_in (x := ch) (y := dl) ha hb q1 (by omega) (by omega) (by omega) (by omega)
    have m4 := div_in (x := ch) (y := dh) ha hb q1 (by omega) (by omega) (by omega) (by omega)
    have k3 := lo3 (quo cl dl) (quo cl dh) (quo ch dl) (quo ch dh)
    have k4 := hi3 (quo cl dl) (quo cl dh) (quo ch dl) (quo ch dh)
    rw [div_val ha hb q, div_val hc hd q']
    right
    refine ⟨rfl, ?_, ?_⟩ <;> dsimp only <;> omega

theorem mod_narrow : narrowB (mod cl ch dl dh).lo (mod cl ch dl dh).hi (mod cl ch dl dh).f (mod al ah bl bh).lo (mod al ah bl bh).hi (mod al ah bl bh).f = true := by
  have ha' := right_iff.1 ha
  have hb' := right_iff.1 hb
  have hc' := right_iff.1 hc
  have hd' := right_iff.1 hd
  apply narrowB_mk
  rcases divisor_cases hb'.2.1 with ⟨q1, q2, q⟩ | ⟨_, q1, q2, q⟩ | ⟨q1, q⟩
  · have e : mod al ah bl bh = ⟨0, 0, 2⟩ := by simp [mod, ha, hb, q]
    have z1 : dl = 0 := by omega
    have z2 : dh = 0 := by omega
    subst z1 z2
    have e' : mod cl ch 0 0 = ⟨0, 0, 2⟩ := by simp [mod, hc, hd, divisor]
    rw [e, e']; right; exact ⟨rfl, Int.le_refl _, Int.le_refl _⟩
  · have e : mod al ah bl bh = ⟨0, 0, 8⟩ := by simp [mod, ha, hb, q]
    rw [e]; left; rfl
  · have q' : divisor dl dh = 0 := by
      rcases divisor_cases hd'.2.1 with h | h | h
      · omega
      · omega
      · exact h.2
    right
    have m1 := mod_in (x := cl) (y := dl) ha hb q (by omega) (by omega) (by omega) (by omega)
    have m2 := mod_in (x := ch) (y := dl) ha hb q (by omega) (by omega) (by omega) (by omega)
    have k1 := lo1 (rem cl dl) (rem ch dl)
    have k2 := hi1 (rem cl dl) (rem ch dl)
    rcases mod_cases hc hd q' with ⟨e1, e2, e⟩ | ⟨e1, e2, e3, e⟩ | ⟨g1, g2, e⟩
    · rw [e]; exact ⟨m1.1.symm, m1.2.1, m1.2.2⟩
    · rw [e]; refine ⟨m1.1.symm, ?_, ?_⟩ <;> dsimp only <;> omega
    · rcases mod_cases ha hb q with ⟨f1, f2, f⟩ | ⟨f1, f2, f3, f⟩ | ⟨_, _, f⟩
      · exfalso; apply g1; omega
      · exfalso
        have ed : dl = bl := by omega
        have ed' : dh = bl := by omega
        subst ed
        apply g2
        refine ⟨by omega, by omega, ?_⟩
        have hq1 := bt_tdiv_r (x := cl) (a := al) (b := ah) (y := dl) (by omega) (by omega) (by omega)
        have hq2 := bt_tdiv_r (x := ch) (a := al) (b := ah) (y := dl) (by omega) (by omega) (by omega)
        rw [quo_eq (inR_iff.2 (by omega)) (inR_iff.2 (by omega)) (by omega), quo_eq (inR_iff.2 (by omega)) (inR_iff.2 (by omega)) (by omega)] at f3 ⊢
        unfold Bt at hq1 hq2
        omega
      · rw [e, f]
        have n1 := modM_bd bl bh
        have n2 := modM_bd dl dh
        have nm : modM dl dh ≤ modM bl bh := by clear e f g1 g2 m1 m2 k1 k2; omega
        have n0 : 0 ≤ modM dl dh := by clear e f g1 g2 m1 m2 k1 k2; omega
        clear n1 n2 e f g1 g2 m1 m2 k1 k2
        have p1 := mx_bd al (-(modM bl bh))
        have p2 := mn_bd ah (modM bl bh)
        have p3 := mx_bd cl (-(modM dl dh))
        have p4 := mn_bd ch (modM dl dh)
        refine ⟨rfl, ?_, ?_⟩ <;> dsimp only
        · clear p2 p4
          split <;> split <;> omega
        · clear p1 p3
          split <;> split <;> omega

omit ha hb in
theorem less_narrow : less al ah bl bh = -1 ∨ less al ah bl bh = less cl ch dl dh := by
  have hc' := right_iff.1 hc
  have hd' := right_iff.1 hd
  unfold less; repeat' split
  all_goals omega
omit ha hb in
theorem lessEq_narrow : lessEq al ah bl bh = -1 ∨ lessEq al ah bl bh = lessEq cl ch dl dh := by
  have hc' := right_iff.1 hc
  have hd' := right_iff.1 hd
  unfold lessEq; repeat' split
  all_goals omega
omit ha hb in
theorem equal_narrow : equal al ah bl bh = -1 ∨ equal al ah bl bh = equal cl ch dl dh := by
  have hc' := right_iff.1 hc
  have hd' := right_iff.1 hd
  unfold equal; repeat' split
  all_goals omega
end

section
variable {x y : Int} (hx : right x x = true) (hy : right y y = true)
include hx hy

theorem add_exact : exactB (add x x y y).lo (add x x y y).hi (add x x y y).f (addV x y) (addOk x y) 1 = true := by
  have hx' := right_iff.1 hx
  have hy' := right_iff.1 hy
  have e : add x x y y = fit (x + y) (x + y) := by simp [add, hx, hy, hullLo, hullHi, mn, mx]
  have i1 : inR x = true := inR_iff.2 (by omega)
  have i2 : inR y = true := inR_iff.2 (by omega)
  have eo : addOk x y = inR (x + y) := by simp [addOk, i1, i2]
  apply exactB_mk
  rw [e]
  rcases fit_cases (x + y) (x + y) with ⟨h, e'⟩ | ⟨h, e'⟩ | ⟨h, e'⟩ <;> rw [e']
  · right
    refine ⟨?_, rfl, rfl, rfl⟩
    rw [eo, ← Bool.not_eq_true, inR_iff]; omega
  · exfalso; omega
  · left
    have io : inR (x + y) = true := inR_iff.2 (by omega)
    have ev : addV x y = x + y := by simp [addV, eo, io]
    rw [ev, eo, io]; exact ⟨rfl, rfl, rfl, rfl⟩

theorem sub_exact : exactB (sub x x y y).lo (sub x x y y).hi (sub x x y y).f (subV x y) (subOk x y) 1 = true := by
  have hx' := right_iff.1 hx
  have hy' := right_iff.1 hy
  have e : sub x x y y = fit (x - y) (x - y) := by simp [sub, hx, hy, hullLo, hullHi, mn, mx]
  have i1 : inR x = true := inR_iff.2 (by omega)
  have i2 : inR y = true := inR_iff.2 (by omega)
  have eo : subOk x y = inR (x - y) := by simp [subOk, i1, i2]
  apply exactB_mk
  rw [e]
  rcases fit_cases (x - y) (x - y) with ⟨h, e'⟩ | ⟨h, e'⟩ | ⟨h, e'⟩ <;> rw [e']
  · right
    refine ⟨?_, rfl, rfl, rfl⟩
    rw [eo, ← Bool.not_eq_true, inR_iff]; omega
  · exfalso; omega
  · left
    have io : inR (x - y) = true := inR_iff.2 (by omega)
    have ev : subV x y = x - y := by simp [subV, eo, io]
    rw [ev, eo, io]; exact ⟨rfl, rfl, rfl, rfl⟩

theorem mul_exact : exactB (mul x x y y).lo (mul x x y y).hi (mul x x y y).f (mulV x y) (mulOk x y) 1 = true := by
  have hx' := right_iff.1 hx
  have hy' := right_iff.1 hy
  have e : mul x x y y = fit (product x y) (product x y) := by simp [mul, hx, hy, hullLo, hullHi, mn, mx]
  have i1 : inR x = true := inR_iff.2 (by omega)
  have i2 : inR y = true := inR_iff.2 (by omega)
  have c := product_clamp i1 i2
  have cb := clamp_bd (x * y)
  rw [← c] at cb
  apply exactB_mk
  rw [e]
  rcases fit_cases (product x y) (product x y) with ⟨h, e'⟩ | ⟨h, e'⟩ | ⟨h, e'⟩ <;> rw [e']
  · right
    refine ⟨?_, rfl, rfl, rfl⟩
    rw [← Bool.not_eq_true]
    intro hm
    simp [mulOk] at hm
    omega
  · exfalso; omega
  · left
    have io : mulOk x y = true := by simp [mulOk, i1, i2]; omega
    have ev : mulV x y = x * y := by simp [mulV, io]
    rw [ev, io]; refine ⟨rfl, rfl, ?_, ?_⟩ <;> dsimp only <;> omega

theorem div_exact : exactB (div x x y y).lo (div x x y y).hi (div x x y y).f (quo x y) (dvOk x y) (zeroV y) = true := by
  have hx' := right_iff.1 hx
  have hy' := right_iff.1 hy
  have i1 : inR x = true := inR_iff.2 (by omega)
  have i2 : inR y = true := inR_iff.2 (by omega)
  apply exactB_mk
  rcases divisor_cases (Int.le_refl y) with ⟨q1, q2, q⟩ | ⟨_, q1, q2, q⟩ | ⟨q1, q⟩
  · have e : div x x y y = ⟨0, 0, 2⟩ := by simp [div, hx, hy, q]
    rw [e]; right; exact ⟨by simp [dvOk, q1], by simp [zeroV, q1], rfl, rfl⟩
  · exfalso; omega
  · rw [div_val hx hy q]; left
    refine ⟨by simp [dvOk, i1, i2]; omega, rfl, ?_, ?_⟩ <;> simp [hullLo, hullHi, mn, mx]

theorem mod_exact : exactB (mod x x y y).lo (mod x x y y).hi (mod x x y y).f (rem x y) (dvOk x y) (zeroV y) = true := by
  have hx' := right_iff.1 hx
  have hy' := right_iff.1 hy
  have i1 : inR x = true := inR_iff.2 (by omega)
  have i2 : inR y = true := inR_iff.2 (by omega)
  apply exactB_mk
  rcases divisor_cases (Int.le_refl y) with ⟨q1, q2, q⟩ | ⟨_, q1, q2, q⟩ | ⟨q1, q⟩
  · have e : mod x x y y = ⟨0, 0, 2⟩ := by simp [mod, hx, hy, q]
    rw [e]; right; exact ⟨by simp [dvOk, q1], by simp [zeroV, q1], rfl, rfl⟩
  · exfalso; omega
  · rcases mod_cases hx hy q with ⟨_, _, e⟩ | ⟨_, _, _, e⟩ | ⟨g, _, _⟩
    · rw [e]; left; exact ⟨by simp [dvOk, i1, i2]; omega, rfl, rfl, rfl⟩
    · rw [e]; left
      refine ⟨by simp [dvOk, i1, i2]; omega, rfl, ?_, ?_⟩ <;> simp [hullLo, hullHi, mn, mx]
    · exact absurd ⟨rfl, rfl⟩ g

omit hy in
theorem neg_exact : exactB (neg x x).lo (neg x x).hi (neg x x).f (negV x) (inR x) 1 = true := by
  have hx' := right_iff.1 hx
  have i1 : inR x = true := inR_iff.2 (by omega)
  have e : neg x x = ⟨-x, -x, 0⟩ := by simp [neg, hx]
  have e2 : negV x = -x := by simp [negV, i1]
  apply exactB_mk
  rw [e, e2]
  left
  exact ⟨i1, rfl, rfl, rfl⟩
end

section
variable {al ah bl bh : Int} (ha : right al ah = true) (hb : right bl bh = true)

theorem product_comm (x y : Int) : product x y = product y x := by
  have h : mulOk x y = mulOk y x := by
    unfold mulOk
    rw [Int.mul_comm, Bool.and_comm (inR x) (inR y)]
  unfold product
  rw [h, Int.mul_comm x y]
  by_cases h1 : x < 0 <;> by_cases h2 : y < 0 <;> simp [h1, h2]

include ha hb in
theorem add_comm : add al ah bl bh = add bl bh al ah := by
  have e : add al ah bl bh = fit (hullLo (al + bl) [ah + bh]) (hullHi (al + bl) [ah + bh]) := by simp [add, ha, hb]
  have e' : add bl bh al ah = fit (hullLo (bl + al) [bh + ah]) (hullHi (bl + al) [bh + ah]) := by simp [add, ha, hb]
  rw [e, e', Int.add_comm al bl, Int.add_comm ah bh]

include ha hb in
theorem mul_comm : mul al ah bl bh = mul bl bh al ah := by
  have e : mul al ah bl bh = fit (hullLo (product al bl) [product al bh, product ah bl, product ah bh]) (hullHi (product al bl) [product al bh, product ah bl, product ah bh]) := by simp [mul, ha, hb]
  have e' : mul bl bh al ah = fit (hullLo (product bl al) [product bl ah, product bh al, product bh ah]) (hullHi (product bl al) [product bl ah, product bh al, product bh ah]) := by simp [mul, ha, hb]
  rw [e, e', product_comm bl al, product_comm bl ah, product_comm bh al, product_comm bh ah]
  have k1 := lo3 (product al bl) (product al bh) (product ah bl) (product ah bh)
  have k2 := hi3 (product al bl) (product al bh) (product ah bl) (product ah bh)
  have k3 := lo3 (product al bl) (product ah bl) (product al bh) (product ah bh)
  have k4 := hi3 (product al bl) (product ah bl) (product al bh) (product ah bh)
  have e1 : hullLo (product al bl) [product al bh, product ah bl, product ah bh] = hullLo (product al bl) [product ah bl, product al bh, product ah bh] := by omega
  have e2 : hullHi (product al bl) [product al bh, product ah bl, product ah bh] = hullHi (product al bl) [product ah bl, product al bh, product ah bh] := by omega
  rw [e1, e2]

include hb in
theorem neg_val : neg bl bh = ⟨-bh, -bl, 0⟩ := by simp [neg, hb]

include hb in
theorem neg_right : right (-bh) (-bl) = true := by
  have hb' := right_iff.1 hb
  exact right_iff.2 (by omega)

include ha hb in
theorem sub_add : sub al ah bl bh = add al ah (-bh) (-bl) := by
  have hn := neg_right hb
  have e : sub al ah bl bh = fit (hullLo (al - bh) [ah - bl]) (hullHi (al - bh) [ah - bl]) := by simp [sub, ha, hb]
  have e' : add al ah (-bh) (-bl) = fit (hullLo (al + -bh) [ah + -bl]) (hullHi (al + -bh) [ah + -bl]) := by simp [add, ha, hn]
  rw [e, e']; rfl

include ha hb in
theorem less_lessEq : ((less al ah bl bh == 1) == (lessEq bl bh al ah == 0)) = true ∧ ((less al ah bl bh == 0) == (lessEq bl bh al ah == 1)) = true := by
  have ha' := right_iff.1 ha
  have hb' := right_iff.1 hb
  unfold less lessEq; repeat' split
  all_goals first | exact ⟨rfl, rfl⟩ | (exfalso; omega)

theorem equal_comm : equal al ah bl bh = equal bl bh al ah := by
  unfold equal; repeat' split
  all_goals first | rfl | (exfalso; omega)
end

end Sp
end Go.Proofs.Ytjdppnkmhgihnaa
