/- The contracts of package num's operations and of span's product, quotient, remainder, divisor. -/
import Derived.Test.YtjdppnkmhgihnaaWb
namespace Go.Proofs.Ytjdppnkmhgihnaa
open Go.RowKit

theorem inR_bd {n : Int} (H : Sp.inR n = true) : -9007199254740992 ≤ n ∧ n ≤ 9007199254740992 := by
  simpa [Sp.inR] using H
theorem inR_mk {n : Int} (h : -9007199254740992 ≤ n) (h' : n ≤ 9007199254740992) : Sp.inR n = true := by
  simp [Sp.inR, h, h']
theorem inR_no {n : Int} (H : Sp.inR n = false) : n < -9007199254740992 ∨ 9007199254740992 < n := by
  simp [Sp.inR] at H
  omega

theorem ab_pos {a : Int} (h : a ≠ 0) : 1 ≤ Sp.ab a := by unfold Sp.ab; split <;> omega
theorem ab_mul (a b : Int) : Sp.ab (a * b) = Sp.ab a * Sp.ab b := by
  unfold Sp.ab
  split <;> split <;> split
  · rename_i h1 h2 h3; have := Int.mul_pos_of_neg_of_neg h2 h3; omega
  · rw [Int.neg_mul]
  · rw [Int.mul_neg]
  · rename_i h1 h2 h3; have := Int.mul_nonneg (Int.not_lt.1 h2) (Int.not_lt.1 h3); omega
  · rw [Int.neg_mul_neg]
  · rename_i h1 h2 h3; have := Int.mul_nonneg (show 0 ≤ -a by omega) (Int.not_lt.1 h3); rw [Int.neg_mul] at this; have e : a * b = 0 := by omega
    rw [Int.neg_mul, e]; rfl
  · rename_i h1 h2 h3; have := Int.mul_nonneg (Int.not_lt.1 h2) (show 0 ≤ -b by omega); rw [Int.mul_neg] at this; have e : a * b = 0 := by omega
    rw [Int.mul_neg, e]; rfl
  · rfl
theorem div_lt_iff {a b : Int} (h : 1 ≤ a) : (9007199254740992 / a < b) ↔ 9007199254740992 < a * b := by
  rw [Int.ediv_lt_iff_lt_mul (by omega), Int.mul_comm]

def mulV (a b : Int) : Int := if Sp.mulOk a b then a * b else 0

set_option maxHeartbeats 800000 in
theorem nmul_any (a b : Int) (w : World) :
    Calls Try.prog 42 #[.int .i64 a, .int .i64 b] w fun e w' => e = .returned (.tuple #[.int .i64 (mulV a b), .bool (Sp.mulOk a b)]) ∧ w = w' := by
  cases ha : Sp.inR a with
  | false =>
    have e1 : Sp.mulOk a b = false := by simp [Sp.mulOk, ha]
    have e2 : mulV a b = 0 := by simp [mulV, e1]
    rw [e1, e2]
    clear e1 e2
    go_enter Try.func42, Try.ntmps42
    go_wp2_with (go_at_call 59; refine (inRange_any _ _).mono ?_; rintro e w1 ⟨rfl, rfl⟩)
    go_ret2
    exact ⟨rfl, rfl⟩
  | true =>
  obtain ⟨a1, a2⟩ := inR_bd ha
  cases hb : Sp.inR b with
  | false =>
    have e1 : Sp.mulOk a b = false := by simp [Sp.mulOk, hb]
    have e2 : mulV a b = 0 := by simp [mulV, e1]
    rw [e1, e2]
    clear e1 e2
    go_enter Try.func42, Try.ntmps42
    go_wp2_with (go_at_call 59; refine (inRange_any _ _).mono ?_; rintro e w1 ⟨rfl, rfl⟩)
    go_ret2
    exact ⟨rfl, rfl⟩
  | true =>
  obtain ⟨b1, b2⟩ := inR_bd hb
  by_cases h0 : a = 0
  · subst h0
    have e1 : Sp.mulOk 0 b = true := by simp [Sp.mulOk, hb, ha]
    have e2 : mulV 0 b = 0 := by simp [mulV]
    rw [e1, e2]
    clear e1 e2
    go_enter Try.func42, Try.ntmps42
    go_wp2_with (go_at_call 59; refine (inRange_any _ _).mono ?_; rintro e w1 ⟨rfl, rfl⟩)
    go_ret2
    exact ⟨rfl, rfl⟩
  · have p1 := ab_pos h0
    have hne : (a != 0) = true := by simp [h0]
    have hd := div_lt_iff (b := Sp.ab b) p1
    rw [← ab_mul] at hd
    by_cases hlt : 9007199254740992 / Sp.ab a < Sp.ab b
    · have h2 := hd.1 hlt
      have e1 : Sp.mulOk a b = false := by
        have : Sp.ab (a * b) = if a * b < 0 then -(a * b) else a * b := rfl
        simp [Sp.mulOk, ha, hb]
        intro; split at this <;> omega
      have e2 : mulV a b = 0 := by simp [mulV, e1]
      rw [e1, e2]
      clear e1 e2 h2 hd
      go_enter Try.func42, Try.ntmps42
      go_wp2_with (first | (go_at_call 59; refine (inRange_any _ _).mono ?_; rintro e w1 ⟨rfl, rfl⟩) | (go_at_call 61; refine (abs_any _ _ (by omega) (by omega)).mono ?_; rintro e w1 ⟨rfl, rfl⟩))
      go_ret2
      exact ⟨rfl, rfl⟩
    · have h2 : ¬ 9007199254740992 < Sp.ab (a * b) := fun h => hlt (hd.2 h)
      have hab : Sp.ab (a * b) = if a * b < 0 then -(a * b) else a * b := rfl
      have m1 : -9007199254740992 ≤ a * b := by split at hab <;> omega
      have m2 : a * b ≤ 9007199254740992 := by split at hab <;> omega
      have e1 : Sp.mulOk a b = true := by simp [Sp.mulOk, ha, hb, m1, m2]
      have e2 : mulV a b = a * b := by simp [mulV, e1]
      rw [e1, e2]
      clear e1 e2 h2 hd hab
      have hle : Sp.ab b ≤ 9007199254740992 / Sp.ab a := by omega
      clear hlt
      go_enter Try.func42, Try.ntmps42
      go_wp2_with (first | (go_at_call 59; refine (inRange_any _ _).mono ?_; rintro e w1 ⟨rfl, rfl⟩) | (go_at_call 61; refine (abs_any _ _ (by omega) (by omega)).mono ?_; rintro e w1 ⟨rfl, rfl⟩))
      go_ret2
      exact ⟨rfl, rfl⟩

set_option maxHeartbeats 800000 in
theorem product_any (x y : Int) (w : World) :
    Calls Try.prog 50 #[.int .i64 x, .int .i64 y] w fun e w' => e = .returned (.int .i64 (Sp.product x y)) ∧ w = w' := by
  cases hm : Sp.mulOk x y with
  | true =>
    have e1 : Sp.product x y = mulV x y := by simp [Sp.product, mulV, hm]
    rw [e1]
    clear e1
    go_enter Try.func50, Try.ntmps50
    go_wp2_with (go_at_call 42; refine (nmul_any _ _ _).mono ?_; rintro e w1 ⟨rfl, rfl⟩)
    go_ret
    exact ⟨rfl, rfl⟩
  | false =>
    cases hx : decide (x < 0) <;> cases hy : decide (y < 0)
    all_goals
      have hp : Sp.product x y = if (decide (x < 0)) != (decide (y < 0)) then -9007199254740993 else 9007199254740993 := by simp [Sp.product, hm]
      rw [hx, hy] at hp
      rw [hp]
      clear hp
      go_enter Try.func50, Try.ntmps50
      go_wp2_with (go_at_call 42; refine (nmul_any _ _ _).mono ?_; rintro e w1 ⟨rfl, rfl⟩)
      go_ret
      exact ⟨rfl, rfl⟩

theorem tdiv_bd {x y : Int} (h1 : -9007199254740992 ≤ x) (h2 : x ≤ 9007199254740992) : -9007199254740992 ≤ x.tdiv y ∧ x.tdiv y ≤ 9007199254740992 := by
  have h3 : (x.tdiv y).natAbs ≤ x.natAbs := by rw [Int.natAbs_tdiv]; exact Nat.div_le_self _ _
  omega
theorem tmod_bd {x y : Int} (h1 : -9007199254740992 ≤ x) (h2 : x ≤ 9007199254740992) : -9007199254740992 ≤ x.tmod y ∧ x.tmod y ≤ 9007199254740992 := by
  have h3 : (x.tmod y).natAbs ≤ x.natAbs := by rw [Int.natAbs_tmod]; exact Nat.mod_le _ _
  omega

/-- num.Div and num.Mod succeed here -/
def dvOk (x y : Int) : Bool := Sp.inR x && Sp.inR y && (y != 0)

set_option maxHeartbeats 800000 in
theorem ndiv_any (a b : Int) (w : World) :
    Calls Try.prog 43 #[.int .i64 a, .int .i64 b] w fun e w' => e = .returned (.tuple #[.int .i64 (Sp.quo a b), .bool (dvOk a b)]) ∧ w = w' := by
  cases ha : Sp.inR a with
  | false =>
    have e1 : dvOk a b = false := by simp [dvOk, ha]
    have e2 : Sp.quo a b = 0 := by simp [Sp.quo, ha]
    rw [e1, e2]
    clear e1 e2
    go_enter Try.func43, Try.ntmps43
    go_wp2_with (go_at_call 59; refine (inRange_any _ _).mono ?_; rintro e w1 ⟨rfl, rfl⟩)
    go_ret2
    exact ⟨rfl, rfl⟩
  | true =>
  obtain ⟨a1, a2⟩ := inR_bd ha
  cases hb : Sp.inR b with
  | false =>
    have e1 : dvOk a b = false := by simp [dvOk, hb]
    have e2 : Sp.quo a b = 0 := by simp [Sp.quo, hb]
    rw [e1, e2]
    clear e1 e2
    go_enter Try.func43, Try.ntmps43
    go_wp2_with (go_at_call 59; refine (inRange_any _ _).mono ?_; rintro e w1 ⟨rfl, rfl⟩)
    go_ret2
    exact ⟨rfl, rfl⟩
  | true =>
  obtain ⟨b1, b2⟩ := inR_bd hb
  cases h0 : (b == 0) with
  | true =>
    have e1 : dvOk a b = false := by simp [dvOk, ha, hb, bne, h0]
    have e2 : Sp.quo a b = 0 := by simp [Sp.quo, ha, hb, bne, h0]
    rw [e1, e2]
    clear e1 e2
    go_enter Try.func43, Try.ntmps43
    go_wp2_with (go_at_call 59; refine (inRange_any _ _).mono ?_; rintro e w1 ⟨rfl, rfl⟩)
    go_ret2
    exact ⟨rfl, rfl⟩
  | false =>
    have e1 : dvOk a b = true := by simp [dvOk, ha, hb, bne, h0]
    have e2 : Sp.quo a b = a.tdiv b := by simp [Sp.quo, ha, hb, bne, h0]
    rw [e1, e2]
    clear e1 e2
    obtain ⟨t1, t2⟩ := tdiv_bd (y := b) a1 a2
    have h0' : ¬ b = 0 := by simpa using h0
    go_enter Try.func43, Try.ntmps43
    go_wp2_with (go_at_call 59; refine (inRange_any _ _).mono ?_; rintro e w1 ⟨rfl, rfl⟩)
    go_ret2
    exact ⟨rfl, rfl⟩

set_option maxHeartbeats 800000 in
theorem nmod_any (a b : Int) (w : World) :
    Calls Try.prog 45 #[.int .i64 a, .int .i64 b] w fun e w' => e = .returned (.tuple #[.int .i64 (Sp.rem a b), .bool (dvOk a b)]) ∧ w = w' := by
  cases ha : Sp.inR a with
  | false =>
    have e1 : dvOk a b = false := by simp [dvOk, ha]
    have e2 : Sp.rem a b = 0 := by simp [Sp.rem, ha]
    rw [e1, e2]
    clear e1 e2
    go_enter Try.func45, Try.ntmps45
    go_wp2_with (go_at_call 59; refine (inRange_any _ _).mono ?_; rintro e w1 ⟨rfl, rfl⟩)
    go_ret2
    exact ⟨rfl, rfl⟩
  | true =>
  obtain ⟨a1, a2⟩ := inR_bd ha
  cases hb : Sp.inR b with
  | false =>
    have e1 : dvOk a b = false := by simp [dvOk, hb]
    have e2 : Sp.rem a b = 0 := by simp [Sp.rem, hb]
    rw [e1, e2]
    clear e1 e2
    go_enter Try.func45, Try.ntmps45
    go_wp2_with (go_at_call 59; refine (inRange_any _ _).mono ?_; rintro e w1 ⟨rfl, rfl⟩)
    go_ret2
    exact ⟨rfl, rfl⟩
  | true =>
  obtain ⟨b1, b2⟩ := inR_bd hb
  cases h0 : (b == 0) with
  | true =>
    have e1 : dvOk a b = false := by simp [dvOk, ha, hb, bne, h0]
    have e2 : Sp.rem a b = 0 := by simp [Sp.rem, ha, hb, bne, h0]
    rw [e1, e2]
    clear e1 e2
    go_enter Try.func45, Try.ntmps45
    go_wp2_with (go_at_call 59; refine (inRange_any _ _).mono ?_; rintro e w1 ⟨rfl, rfl⟩)
    go_ret2
    exact ⟨rfl, rfl⟩
  | false =>
    have e1 : dvOk a b = true := by simp [dvOk, ha, hb, bne, h0]
    have e2 : Sp.rem a b = a.tmod b := by simp [Sp.rem, ha, hb, bne, h0]
    rw [e1, e2]
    clear e1 e2
    obtain ⟨t1, t2⟩ := tmod_bd (y := b) a1 a2
    have h0' : ¬ b = 0 := by simpa using h0
    go_enter Try.func45, Try.ntmps45
    go_wp2_with (go_at_call 59; refine (inRange_any _ _).mono ?_; rintro e w1 ⟨rfl, rfl⟩)
    go_ret2
    exact ⟨rfl, rfl⟩

set_option maxHeartbeats 400000 in
theorem quotient_any (x y : Int) (w : World) :
    Calls Try.prog 52 #[.int .i64 x, .int .i64 y] w fun e w' => e = .returned (.int .i64 (Sp.quo x y)) ∧ w = w' := by
  go_enter Try.func52, Try.ntmps52
  go_wp2_with (go_at_call 43; refine (ndiv_any _ _ _).mono ?_; rintro e w1 ⟨rfl, rfl⟩)
  go_ret
  exact ⟨rfl, rfl⟩

set_option maxHeartbeats 400000 in
theorem remainder_any (x y : Int) (w : World) :
    Calls Try.prog 53 #[.int .i64 x, .int .i64 y] w fun e w' => e = .returned (.int .i64 (Sp.rem x y)) ∧ w = w' := by
  go_enter Try.func53, Try.ntmps53
  go_wp2_with (go_at_call 45; refine (nmod_any _ _ _).mono ?_; rintro e w1 ⟨rfl, rfl⟩)
  go_ret
  exact ⟨rfl, rfl⟩

set_option maxHeartbeats 400000 in
theorem divisor_any (bl bh : Int) (w : World) :
    Calls Try.prog 51 #[.agg #[.int .i64 bl, .int .i64 bh]] w fun e w' => e = .returned (.int .i64 (Sp.divisor bl bh)) ∧ Below w.heap.size w w' := by
  go_enter Try.func51, Try.ntmps51
  go_wp2
  all_goals
    go_ret
    refine ⟨ret_int ?_, (Below.refl _ _).alloc (Nat.le_refl _) _⟩
    try simp at *
    unfold Sp.divisor
    repeat' split
    all_goals first | rfl | (exfalso; omega)
end Go.Proofs.Ytjdppnkmhgihnaa
