/- The plain laws of spans: soundness, narrowing, the operations on points, the algebraic laws. No program in sight. -/
import Derived.Test.YtjdppnkmhgihnaaWh
namespace Go.Proofs.Ytjdppnkmhgihnaa
namespace Sp

theorem right_iff {l h : Int} : right l h = true ↔ -9007199254740992 ≤ l ∧ l ≤ h ∧ h ≤ 9007199254740992 := by simp [right]
theorem inR_iff {n : Int} : inR n = true ↔ -9007199254740992 ≤ n ∧ n ≤ 9007199254740992 := by simp [inR]

/-- z lies between a and b -/
def Bt (z a b : Int) : Prop := (a ≤ z ∧ z ≤ b) ∨ (b ≤ z ∧ z ≤ a)

theorem lo1 (a b : Int) : hullLo a [b] ≤ a ∧ hullLo a [b] ≤ b ∧ (hullLo a [b] = a ∨ hullLo a [b] = b) := by
  simp only [hullLo, mn]; split <;> omega
theorem hi1 (a b : Int) : a ≤ hullHi a [b] ∧ b ≤ hullHi a [b] ∧ (hullHi a [b] = a ∨ hullHi a [b] = b) := by
  simp only [hullHi, mx]; split <;> omega
theorem lo3 (a b c d : Int) : hullLo a [b, c, d] ≤ a ∧ hullLo a [b, c, d] ≤ b ∧ hullLo a [b, c, d] ≤ c ∧ hullLo a [b, c, d] ≤ d ∧ (hullLo a [b, c, d] = a ∨ hullLo a [b, c, d] = b ∨ hullLo a [b, c, d] = c ∨ hullLo a [b, c, d] = d) := by
  simp only [hullLo, mn]
  repeat' split
  all_goals omega
theorem hi3 (a b c d : Int) : a ≤ hullHi a [b, c, d] ∧ b ≤ hullHi a [b, c, d] ∧ c ≤ hullHi a [b, c, d] ∧ d ≤ hullHi a [b, c, d] ∧ (hullHi a [b, c, d] = a ∨ hullHi a [b, c, d] = b ∨ hullHi a [b, c, d] = c ∨ hullHi a [b, c, d] = d) := by
  simp only [hullHi, mx]
  repeat' split
  all_goals omega

/-- a value between values between the corners is within the hull of the corners -/
theorem bt4 {z p q a b c d : Int} (h : Bt z p q) (hp : Bt p a b) (hq : Bt q c d) : hullLo a [b, c, d] ≤ z ∧ z ≤ hullHi a [b, c, d] := by
  have h1 := lo3 a b c d
  have h2 := hi3 a b c d
  unfold Bt at *
  omega

theorem bt_mul_r {x a b y : Int} (h1 : a ≤ x) (h2 : x ≤ b) : Bt (x * y) (a * y) (b * y) := by
  unfold Bt
  by_cases hy : 0 ≤ y
  · exact Or.inl ⟨Int.mul_le_mul_of_nonneg_right h1 hy, Int.mul_le_mul_of_nonneg_right h2 hy⟩
  · exact Or.inr ⟨Int.mul_le_mul_of_nonpos_right h2 (by omega), Int.mul_le_mul_of_nonpos_right h1 (by omega)⟩
theorem bt_mul_l {x y a b : Int} (h1 : a ≤ y) (h2 : y ≤ b) : Bt (x * y) (x * a) (x * b) := by
  rw [Int.mul_comm x y, Int.mul_comm x a, Int.mul_comm x b]; exact bt_mul_r h1 h2

/-- the nearest integer out of range, or the integer itself -/
def clamp (t : Int) : Int := if t < -9007199254740992 then -9007199254740993 else if 9007199254740992 < t then 9007199254740993 else t
theorem product_clamp {x y : Int} (hx : inR x = true) (hy : inR y = true) : product x y = clamp (x * y) := by
  unfold product clamp
  by_cases h : mulOk x y
  · rw [if_pos h]
    simp [mulOk] at h
    rw [if_neg (by omega), if_neg (by omega)]
  · rw [if_neg h]
    have h' : ¬ (-9007199254740992 ≤ x * y ∧ x * y ≤ 9007199254740992) := by
      intro hh; apply h; simp [mulOk, hx, hy, hh]
    by_cases sx : x < 0 <;> by_cases sy : y < 0
    · have := Int.mul_pos_of_neg_of_neg sx sy
      have hs : ¬ (decide (x < 0) != decide (y < 0)) = true := by simp [sx, sy]
      rw [if_neg hs, if_neg (by omega), if_pos (by omega)]
    · have := Int.mul_nonneg (show 0 ≤ -x by omega) (show 0 ≤ y by omega)
      rw [Int.neg_mul] at this
      have hs : (decide (x < 0) != decide (y < 0)) = true := by simp [sx, sy]
      rw [if_pos hs, if_pos (by omega)]
    · have := Int.mul_nonneg (show 0 ≤ x by omega) (show 0 ≤ -y by omega)
      rw [Int.mul_neg] at this
      have hs : (decide (x < 0) != decide (y < 0)) = true := by simp [sx, sy]
      rw [if_pos hs, if_pos (by omega)]
    · have := Int.mul_nonneg (show 0 ≤ x by omega) (show 0 ≤ y by omega)
      have hs : ¬ (decide (x < 0) != decide (y < 0)) = true := by simp [sx, sy]
      rw [if_neg hs, if_neg (by omega), if_pos (by omega)]
theorem clamp_bd (t : Int) : (t < -9007199254740992 ∧ clamp t = -9007199254740993) ∨ (9007199254740992 < t ∧ clamp t = 9007199254740993) ∨ (-9007199254740992 ≤ t ∧ t ≤ 9007199254740992 ∧ clamp t = t) := by
  unfold clamp; split
  · omega
  · split <;> omega

/-- the three outcomes of fit -/
theorem fit_cases (lo hi : Int) : ((hi < -9007199254740992 ∨ 9007199254740992 < lo) ∧ fit lo hi = ⟨0, 0, 1⟩) ∨ ((-9007199254740992 ≤ hi ∧ lo ≤ 9007199254740992 ∧ (lo < -9007199254740992 ∨ 9007199254740992 < hi)) ∧ fit lo hi = ⟨0, 0, 8⟩) ∨ ((-9007199254740992 ≤ lo ∧ hi ≤ 9007199254740992 ∧ -9007199254740992 ≤ hi ∧ lo ≤ 9007199254740992) ∧ fit lo hi = ⟨lo, hi, 0⟩) := by
  unfold fit; split
  · left; exact ⟨by assumption, rfl⟩
  · split
    · right; left; exact ⟨by omega, rfl⟩
    · right; right; exact ⟨by omega, rfl⟩

/-- the division truncated toward zero lies between the ends, in its first argument -/
theorem tdiv_mono {x x' y : Int} (h : x ≤ x') (hy : 0 < y) : x.tdiv y ≤ x'.tdiv y := Int.tdiv_le_tdiv hy h
theorem bt_tdiv_r {x a b y : Int} (h1 : a ≤ x) (h2 : x ≤ b) (hy : y ≠ 0) : Bt (x.tdiv y) (a.tdiv y) (b.tdiv y) := by
  unfold Bt
  by_cases h : 0 < y
  · exact Or.inl ⟨tdiv_mono h1 h, tdiv_mono h2 h⟩
  · have e : ∀ t : Int, t.tdiv y = -(t.tdiv (-y)) := fun t => by rw [Int.tdiv_neg, Int.neg_neg]
    rw [e x, e a, e b]
    have k1 := tdiv_mono (y := -y) h1 (by omega)
    have k2 := tdiv_mono (y := -y) h2 (by omega)
    omega
theorem tdiv_anti {x y y' : Int} (hx : 0 ≤ x) (hy : 0 < y) (h : y ≤ y') : x.tdiv y' ≤ x.tdiv y := by
  rw [Int.tdiv_eq_ediv_of_nonneg hx, Int.tdiv_eq_ediv_of_nonneg hx]
  have h1 : x / y' * y' ≤ x := Int.ediv_mul_le x (by omega)
  have h0 : 0 ≤ x / y' := Int.ediv_nonneg hx (by omega)
  apply Int.le_ediv_of_mul_le hy
  exact Int.le_trans (Int.mul_le_mul_of_nonneg_left h h0) h1
theorem tdiv_pos_bt {x y a b : Int} (ha : 0 < a) (h1 : a ≤ y) (h2 : y ≤ b) : Bt (x.tdiv y) (x.tdiv a) (x.tdiv b) := by
  unfold Bt
  by_cases hx : 0 ≤ x
  · exact Or.inr ⟨tdiv_anti hx (by omega) h2, tdiv_anti hx ha h1⟩
  · have e : ∀ t : Int, x.tdiv t = -((-x).tdiv t) := fun t => by rw [Int.neg_tdiv, Int.neg_neg]
    rw [e y, e a, e b]
    have k1 := tdiv_anti (x := -x) (by omega) (show 0 < y by omega) h2
    have k2 := tdiv_anti (x := -x) (by omega) ha h1
    omega
theorem bt_tdiv_l {x y a b : Int} (h1 : a ≤ y) (h2 : y ≤ b) (hz : 0 < a ∨ b < 0) : Bt (x.tdiv y) (x.tdiv a) (x.tdiv b) := by
  rcases hz with h | h
  · exact tdiv_pos_bt h h1 h2
  · have k := tdiv_pos_bt (x := x) (y := -y) (a := -b) (b := -a) (by omega) (by omega) (by omega)
    simp only [Int.tdiv_neg] at k
    unfold Bt at *
    omega

theorem divisor_zero {l h : Int} (hd : divisor l h = 0) (_hle : l ≤ h) : 0 < l ∨ h < 0 := by
  unfold divisor at hd; split at hd
  · omega
  · split at hd <;> omega
theorem divisor_cases {l h : Int} (_hle : l ≤ h) : (l = 0 ∧ h = 0 ∧ divisor l h = 2) ∨ (¬ (l = 0 ∧ h = 0) ∧ l ≤ 0 ∧ 0 ≤ h ∧ divisor l h = 8) ∨ ((0 < l ∨ h < 0) ∧ divisor l h = 0) := by
  unfold divisor; split
  · left; omega
  · split
    · right; left; exact ⟨by assumption, by omega, by omega, rfl⟩
    · right; right; exact ⟨by omega, rfl⟩

theorem quo_eq {x y : Int} (hx : inR x = true) (hy : inR y = true) (h0 : y ≠ 0) : quo x y = x.tdiv y := by simp [quo, hx, hy, h0]
theorem rem_eq {x y : Int} (hx : inR x = true) (hy : inR y = true) (h0 : y ≠ 0) : rem x y = x.tmod y := by simp [rem, hx, hy, h0]
theorem quo_bd {x y : Int} (h1 : -9007199254740992 ≤ x) (h2 : x ≤ 9007199254740992) : -9007199254740992 ≤ x.tdiv y ∧ x.tdiv y ≤ 9007199254740992 := tdiv_bd h1 h2

/-- the remainder has the sign of the dividend, is no greater than it, and less than the divisor -/
theorem tmod_facts (x y : Int) (hy : y ≠ 0) : (0 ≤ x → 0 ≤ x.tmod y ∧ x.tmod y ≤ x) ∧ (x ≤ 0 → x ≤ x.tmod y ∧ x.tmod y ≤ 0) ∧ (0 < y → -y < x.tmod y ∧ x.tmod y < y) ∧ (y < 0 → y < x.tmod y ∧ x.tmod y < -y) := by
  have hn : (x.tmod y).natAbs < y.natAbs := by rw [Int.natAbs_tmod]; exact Nat.mod_lt _ (by omega)
  have hm : (x.tmod y).natAbs ≤ x.natAbs := by rw [Int.natAbs_tmod]; exact Nat.mod_le _ _
  have hp : 0 ≤ x → 0 ≤ x.tmod y := fun h => Int.tmod_nonneg y h
  have hq : x ≤ 0 → x.tmod y ≤ 0 := fun h => by
    have := Int.tmod_nonneg (a := -x) y (by omega)
    rw [Int.neg_tmod] at this; omega
  refine ⟨fun h => ?_, fun h => ?_, fun h => ?_, fun h => ?_⟩
  · have := hp h; omega
  · have := hq h; omega
  · omega
  · omega

/-- the hull of four clamped corners holds every clamped value between -/
theorem clamp4 {z a b c d : Int} (h1 : a ≤ z ∨ b ≤ z ∨ c ≤ z ∨ d ≤ z) (h2 : z ≤ a ∨ z ≤ b ∨ z ≤ c ∨ z ≤ d) :
    hullLo (clamp a) [clamp b, clamp c, clamp d] ≤ clamp z ∧ clamp z ≤ hullHi (clamp a) [clamp b, clamp c, clamp d] := by
  have k1 := lo3 (clamp a) (clamp b) (clamp c) (clamp d)
  have k2 := hi3 (clamp a) (clamp b) (clamp c) (clamp d)
  have mono : ∀ p q : Int, p ≤ q → clamp p ≤ clamp q := by
    intro p q h
    have e1 := clamp_bd p
    have e2 := clamp_bd q
    omega
  constructor
  · rcases h1 with h | h | h | h <;> have := mono _ _ h <;> omega
  · rcases h2 with h | h | h | h <;> have := mono _ _ h <;> omega

theorem bt_some {z p q a b c d : Int} (h : Bt z p q) (hp : Bt p a b) (hq : Bt q c d) : (a ≤ z ∨ b ≤ z ∨ c ≤ z ∨ d ≤ z) ∧ (z ≤ a ∨ z ≤ b ∨ z ≤ c ∨ z ≤ d) := by
  unfold Bt at *; omega

section
variable {al ah bl bh x y : Int}

theorem mul_in (ha : right al ah = true) (hb : right bl bh = true) (x1 : al ≤ x) (x2 : x ≤ ah) (y1 : bl ≤ y) (y2 : y ≤ bh) :
    hullLo (product al bl) [product al bh, product ah bl, product ah bh] ≤ product x y ∧ product x y ≤ hullHi (product al bl) [product al bh, product ah bl, product ah bh] := by
  rw [right_iff] at ha hb
  rw [product_clamp (inR_iff.2 (by omega)) (inR_iff.2 (by omega)), product_clamp (inR_iff.2 (by omega)) (inR_iff.2 (by omega)), product_clamp (inR_iff.2 (by omega)) (inR_iff.2 (by omega)), product_clamp (inR_iff.2 (by omega)) (inR_iff.2 (by omega)), product_clamp (inR_iff.2 (by omega)) (inR_iff.2 (by omega))]
  obtain ⟨k1, k2⟩ := bt_some (bt_mul_r (y := y) x1 x2) (bt_mul_l (x := al) y1 y2) (bt_mul_l (x := ah) y1 y2)
  exact clamp4 k1 k2

theorem div_in (ha : right al ah = true) (hb : right bl bh = true) (hz : 0 < bl ∨ bh < 0) (x1 : al ≤ x) (x2 : x ≤ ah) (y1 : bl ≤ y) (y2 : y ≤ bh) :
    hullLo (quo al bl) [quo al bh, quo ah bl, quo ah bh] ≤ quo x y ∧ quo x y ≤ hullHi (quo al bl) [quo al bh, quo ah bl, quo ah bh] := by
  rw [right_iff] at ha hb
  rw [quo_eq (inR_iff.2 (by omega)) (inR_iff.2 (by omega)) (by omega), quo_eq (inR_iff.2 (by omega)) (inR_iff.2 (by omega)) (by omega), quo_eq (inR_iff.2 (by omega)) (inR_iff.2 (by omega)) (by omega), quo_eq (inR_iff.2 (by omega)) (inR_iff.2 (by omega)) (by omega), quo_eq (inR_iff.2 (by omega)) (inR_iff.2 (by omega)) (by omega)]
  exact bt4 (bt_tdiv_r x1 x2 (by omega)) (bt_tdiv_l y1 y2 hz) (bt_tdiv_l y1 y2 hz)

/-- a quotient is in range -/
theorem quo_in (hx : inR x = true) : -9007199254740992 ≤ quo x y ∧ quo x y ≤ 9007199254740992 := by
  rw [inR_iff] at hx
  unfold quo; split
  · exact tdiv_bd hx.1 hx.2
  · omega
theorem rem_in (hx : inR x = true) : -9007199254740992 ≤ rem x y ∧ rem x y ≤ 9007199254740992 := by
  rw [inR_iff] at hx
  unfold rem; split
  · exact tmod_bd hx.1 hx.2
  · omega

theorem div_val (ha : right al ah = true) (hb : right bl bh = true) (hd : divisor bl bh = 0) :
    div al ah bl bh = ⟨hullLo (quo al bl) [quo al bh, quo ah bl, quo ah bh], hullHi (quo al bl) [quo al bh, quo ah bl, quo ah bh], 0⟩ := by
  have ha' := right_iff.1 ha
  have q1 := quo_in (x := al) (y := bl) (inR_iff.2 (by omega))
  have q2 := quo_in (x := al) (y := bh) (inR_iff.2 (by omega))
  have q3 := quo_in (x := ah) (y := bl) (inR_iff.2 (by omega))
  have q4 := quo_in (x := ah) (y := bh) (inR_iff.2 (by omega))
  have k1 := lo3 (quo al bl) (quo al bh) (quo ah bl) (quo ah bh)
  have k2 := hi3 (quo al bl) (quo al bh) (quo ah bl) (quo ah bh)
  have e : div al ah bl bh = fit (hullLo (quo al bl) [quo al bh, quo ah bl, quo ah bh]) (hullHi (quo al bl) [quo al bh, quo ah bl, quo ah bh]) := by simp [div, ha, hb, hd]
  rw [e]
  rcases fit_cases (hullLo (quo al bl) [quo al bh, quo ah bl, quo ah bh]) (hullHi (quo al bl) [quo al bh, quo ah bl, quo ah bh]) with h | h | h
  · exfalso; omega
  · exfalso; omega
  · exact h.2

theorem fit_in {lo hi : Int} (h1 : -9007199254740992 ≤ lo) (h2 : lo ≤ 9007199254740992) (h3 : -9007199254740992 ≤ hi) (h4 : hi ≤ 9007199254740992) : fit lo hi = ⟨lo, hi, 0⟩ := by
  rcases fit_cases lo hi with h | h | h
  · exfalso; omega
  · exfalso; omega
  · exact h.2

/-- Mod's three outcomes where the divisor is not 0 -/
theorem mod_cases (ha : right al ah = true) (hb : right bl bh = true) (hd : divisor bl bh = 0) :
    (bl = bh ∧ al = ah ∧ mod al ah bl bh = ⟨rem al bl, rem al bl, 0⟩) ∨
    (bl = bh ∧ (0 ≤ al ∨ ah ≤ 0) ∧ quo al bl = quo ah bl ∧ mod al ah bl bh = ⟨hullLo (rem al bl) [rem ah bl], hullHi (rem al bl) [rem ah bl], 0⟩) ∨
    (¬ (bl = bh ∧ al = ah) ∧ ¬ (bl = bh ∧ (0 ≤ al ∨ ah ≤ 0) ∧ quo al bl = quo ah bl) ∧ mod al ah bl bh = ⟨if al < 0 then mx al (-(modM bl bh)) else 0, if 0 < ah then mn ah (modM bl bh) else 0, 0⟩) := by
  have ha' := right_iff.1 ha
  have q1 := rem_in (x := al) (y := bl) (inR_iff.2 (by omega))
  have q2 := rem_in (x := ah) (y := bl) (inR_iff.2 (by omega))
  have k1 := lo1 (rem al bl) (rem ah bl)
  have k2 := hi1 (rem al bl) (rem ah bl)
  by_cases c1 : bl = bh ∧ al = ah
  · left
    refine ⟨c1.1, c1.2, ?_⟩
    have e : mod al ah bl bh = fit (rem al bl) (rem al bl) := by simp only [mod, ha, hb, hd, Bool.and_self, if_true, if_pos c1]
    rw [e]; exact fit_in (by omega) (by omega) (by omega) (by omega)
  · right
    by_cases c2 : bl = bh ∧ (0 ≤ al ∨ ah ≤ 0) ∧ quo al bl = quo ah bl
    · left
      refine ⟨c2.1, c2.2.1, c2.2.2, ?_⟩
      have e : mod al ah bl bh = fit (hullLo (rem al bl) [rem ah bl]) (hullHi (rem al bl) [rem ah bl]) := by simp only [mod, ha, hb, hd, Bool.and_self, if_true, if_neg c1, if_pos c2]
      rw [e]; exact fit_in (by omega) (by omega) (by omega) (by omega)
    · right
      refine ⟨c1, c2, ?_⟩
      simp only [mod, ha, hb, hd, Bool.and_self, if_true, if_neg c1, if_neg c2]

theorem mx_bd (a b : Int) : a ≤ mx a b ∧ b ≤ mx a b ∧ (mx a b = a ∨ mx a b = b) := by unfold mx; split <;> omega
theorem mn_bd (a b : Int) : mn a b ≤ a ∧ mn a b ≤ b ∧ (mn a b = a ∨ mn a b = b) := by unfold mn; split <;> omega
theorem modM_bd (bl bh : Int) : bl - 1 ≤ modM bl bh ∧ -bl - 1 ≤ modM bl bh ∧ bh - 1 ≤ modM bl bh ∧ -bh - 1 ≤ modM bl bh ∧ (modM bl bh = bl - 1 ∨ modM bl bh = -bl - 1 ∨ modM bl bh = bh - 1 ∨ modM bl bh = -bh - 1) := by
  have h1 := mx_bd bl (-bl)
  have h2 := mx_bd (mx bl (-bl)) bh
  have h3 := mx_bd (mx (mx bl (-bl)) bh) (-bh)
  unfold modM; omega

/-- the remainder of members lies within Mod's outcome -/
theorem mod_in (ha : right al ah = true) (hb : right bl bh = true) (hd : divisor bl bh = 0) (x1 : al ≤ x) (x2 : x ≤ ah) (y1 : bl ≤ y) (y2 : y ≤ bh) :
    (mod al ah bl bh).f = 0 ∧ (mod al ah bl bh).lo ≤ rem x y ∧ rem x y ≤ (mod al ah bl bh).hi := by
  have ha' := right_iff.1 ha
  have hb' := right_iff.1 hb
  have hz := divisor_zero hd hb'.2.1
  have t := tmod_facts x y (by omega)
  have er : rem x y = x.tmod y := rem_eq (inR_iff.2 (by omega)) (inR_iff.2 (by omega)) (by omega)
  rcases mod_cases ha hb hd with ⟨e1, e2, e⟩ | ⟨e1, e2, e3, e⟩ | ⟨_, _, e⟩
  · rw [e]
    have : x = al := by omega
    have : y = bl := by omega
    subst x y
    exact ⟨rfl, Int.le_refl _, Int.le_refl _⟩
  · rw [e]
    have ey : y = bl := by omega
    subst ey
    have k1 := lo1 (rem al y) (rem ah y)
    have k2 := hi1 (rem al y) (rem ah y)
    have hq := bt_tdiv_r x1 x2 (show y ≠ 0 by omega)
    rw [quo_eq (inR_iff.2 (by omega)) (inR_iff.2 (by omega)) (by omega), quo_eq (inR_iff.2 (by omega)) (inR_iff.2 (by omega)) (by omega)] at e3
    have hx := Int.mul_tdiv_add_tmod x y
    have hl := Int.mul_tdiv_add_tmod al y
    have hh := Int.mul_tdiv_add_tmod ah y
    have eq1 : x.tdiv y = al.tdiv y := by unfold Bt at hq; omega
    rw [eq1] at hx
    rw [← e3] at hh
    rw [rem_eq (x := al) (inR_iff.2 (by omega)) (inR_iff.2 (by omega)) (by omega), rem_eq (x := ah) (inR_iff.2 (by omega)) (inR_iff.2 (by omega)) (by omega)] at *
    rw [er]
    generalize y * al.tdiv y = q at *
    refine ⟨rfl, ?_, ?_⟩ <;> dsimp only <;> omega
  · rw [e, er]
    have m := modM_bd bl bh
    have p1 := mx_bd al (-(modM bl bh))
    have p2 := mn_bd ah (modM bl bh)
    refine ⟨rfl, ?_, ?_⟩
    · show (if al < 0 then _ else _) ≤ _
      split <;> omega
    · show _ ≤ (if 0 < ah then _ else _)
      split <;> omega
end

end Sp
end Go.Proofs.Ytjdppnkmhgihnaa
