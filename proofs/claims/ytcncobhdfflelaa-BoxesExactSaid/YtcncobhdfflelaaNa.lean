/- The contracts of span.Mul, Add, LessEq and of what they call. -/
import Derived.Test.YtcncobhdfflelaaKit
import Derived.Test.YtcncobhdfflelaaPl
namespace Go.Proofs.Ytcncobhdfflelaa
open Go.RowKit
namespace Sp

/-- a span's two bounds and a fault -/
structure R where
  lo : Int
  hi : Int
  f : Int

def inR (n : Int) : Bool := decide (-9007199254740992 ≤ n) && decide (n ≤ 9007199254740992)
def right (l h : Int) : Bool := decide (-9007199254740992 ≤ l) && (decide (l ≤ h) && decide (h ≤ 9007199254740992))
def mn (a x : Int) : Int := if x < a then x else a
def mx (a x : Int) : Int := if a < x then x else a
def hullLo (a : Int) : List Int → Int
  | [] => a
  | x :: r => hullLo (mn a x) r
def hullHi (a : Int) : List Int → Int
  | [] => a
  | x :: r => hullHi (mx a x) r
theorem hullLo_snoc (a : Int) (l : List Int) (x : Int) : hullLo a (l ++ [x]) = mn (hullLo a l) x := by
  induction l generalizing a with
  | nil => rfl
  | cons y r ih => exact ih _
theorem hullHi_snoc (a : Int) (l : List Int) (x : Int) : hullHi a (l ++ [x]) = mx (hullHi a l) x := by
  induction l generalizing a with
  | nil => rfl
  | cons y r ih => exact ih _

def fit (lo hi : Int) : R :=
  if hi < -9007199254740992 ∨ 9007199254740992 < lo then ⟨0, 0, 1⟩
  else if lo < -9007199254740992 ∨ 9007199254740992 < hi then ⟨0, 0, 8⟩
  else ⟨lo, hi, 0⟩

def ab (n : Int) : Int := if n < 0 then -n else n

/-- num.Mul's result and whether it succeeds -/
def mulOk (a b : Int) : Bool := inR a && inR b && decide (-9007199254740992 ≤ a * b) && decide (a * b ≤ 9007199254740992)

def product (x y : Int) : Int :=
  if mulOk x y then x * y
  else if (decide (x < 0)) != (decide (y < 0)) then -9007199254740993
  else 9007199254740993

def add (al ah bl bh : Int) : R :=
  if right al ah && right bl bh then fit (hullLo (al + bl) [ah + bh]) (hullHi (al + bl) [ah + bh]) else ⟨0, 0, 1⟩
def sub (al ah bl bh : Int) : R :=
  if right al ah && right bl bh then fit (hullLo (al - bh) [ah - bl]) (hullHi (al - bh) [ah - bl]) else ⟨0, 0, 1⟩
def mul (al ah bl bh : Int) : R :=
  if right al ah && right bl bh then
    fit (hullLo (product al bl) [product al bh, product ah bl, product ah bh]) (hullHi (product al bl) [product al bh, product ah bl, product ah bh])
  else ⟨0, 0, 1⟩
def lessEq (al ah bl bh : Int) : Int := if ah ≤ bl then 1 else if bh < al then 0 else -1
end Sp

set_option maxHeartbeats 400000 in
theorem right_any (l h : Int) (w : World) :
    Calls Try.prog 66 #[.agg #[.int .i64 l, .int .i64 h]] w fun e w' => e = .returned (.bool (Sp.right l h)) ∧ Below w.heap.size w w' := by
  go_enter Try.func66, Try.ntmps66
  go_wp2
  all_goals
    go_ret
    refine ⟨?_, (Below.refl _ _).alloc (Nat.le_refl _) _⟩
    simp [Sp.right, *]
    try omega

set_option maxHeartbeats 400000 in
theorem inRange_any (n : Int) (w : World) :
    Calls Try.prog 85 #[.int .i64 n] w fun e w' => e = .returned (.bool (Sp.inR n)) ∧ w = w' := by
  go_enter Try.func85, Try.ntmps85
  go_wp2
  all_goals
    go_ret
    refine ⟨?_, rfl⟩
    simp [Sp.inR, *]
    try omega

set_option maxHeartbeats 400000 in
theorem abs_any (n : Int) (w : World) (h1 : -9007199254740992 ≤ n) (h2 : n ≤ 9007199254740992) :
    Calls Try.prog 86 #[.int .i64 n] w fun e w' => e = .returned (.int .i64 (Sp.ab n)) ∧ w = w' := by
  go_enter Try.func86, Try.ntmps86
  go_wp2
  all_goals
    go_ret
    refine ⟨?_, rfl⟩
    simp [Sp.ab, *]
    try omega

set_option maxHeartbeats 400000 in
theorem hull_any (a : Int) (xs : List Int) (b : Nat) (w : World) (hb : b < w.heap.size) (hl : xs.length ≤ 100) (hc : ∀ k, k < xs.length → w.cell? ⟨b, k, none⟩ = some (.int .i64 (xs.getD k 0))) :
    Calls Try.prog 68 #[.int .i64 a, .slice (some ⟨b, 0, none⟩) xs.length xs.length] w fun e w' => e = .returned (.agg #[.int .i64 (Sp.hullLo a xs), .int .i64 (Sp.hullHi a xs)]) ∧ Below w.heap.size w w' := by
  have HC := Lib.hid hc
  clear hc
  go_enter Try.func68, Try.ntmps68
  go_wp2
  go_loopw [13] (fun i wr => ∃ k : Nat, k ≤ xs.length ∧ i = .int .i64 k ∧ wr = (w.alloc (.cells #[.int .i64 0, .int .i64 0] 70)).alloc (.cells #[.int .i64 (Sp.hullLo a (xs.take k)), .int .i64 (Sp.hullHi a (xs.take k))] 70)) (fun i _ => xs.length - (intOf i).toNat)
  case atStart => exact ⟨0, Nat.zero_le _, rfl, rfl⟩
  case round =>
    obtain ⟨k, hk, rfl, rfl⟩ := hrel
    by_cases hlt : k < xs.length
    · have hc := HC.out k hlt
      have e1 := Sp.hullLo_snoc a (xs.take k) (xs.getD k 0)
      have e2 := Sp.hullHi_snoc a (xs.take k) (xs.getD k 0)
      have e3 : xs.take (k+1) = xs.take k ++ [xs.getD k 0] := by
        rw [List.take_succ_eq_append_getElem hlt]; simp [hlt]
      rw [← e3] at e1 e2
      have E1 := Lib.hid e1
      have E2 := Lib.hid e2
      clear e1 e2 e3
      generalize xs.getD k 0 = x at *
      generalize Sp.hullLo a (xs.take k) = lo at *
      generalize Sp.hullHi a (xs.take k) = hi at *
      go_wp2
      go_roundw
      case rel => exact ⟨k + 1, by omega, by go_num, by rw [E1.out, E2.out]; rfl⟩
      case measure => simp [intOf]; omega
    · have ek : xs.take k = xs := List.take_of_length_le (by omega)
      rw [ek]
      clear ek
      go_wp2
      refine bodyPost_ret (v := .agg #[.int .i64 (Sp.hullLo a xs), .int .i64 (Sp.hullHi a xs)]) (by simp [results, Try.results68, go_sem]) rfl ⟨rfl, ?_⟩
      exact ((Below.refl _ _).alloc (Nat.le_refl _) _).alloc (by simp) _

set_option maxHeartbeats 400000 in
theorem hull_nil (a : Int) (w : World) :
    Calls Try.prog 68 #[.int .i64 a, .slice none 0 0] w fun e w' => e = .returned (.agg #[.int .i64 a, .int .i64 a]) ∧ Below w.heap.size w w' := by
  go_enter Try.func68, Try.ntmps68
  go_wp2
  refine wp_loop_rounds 1 ?_
  rw [rounds_succ]
  go_wp2
  refine bodyPost_ret (v := .agg #[.int .i64 a, .int .i64 a]) (by simp [results, Try.results68, go_sem]) rfl ⟨rfl, ?_⟩
  exact ((Below.refl _ _).alloc (Nat.le_refl _) _).alloc (by simp) _

set_option maxHeartbeats 400000 in
theorem fit_any (lo hi : Int) (w : World) :
    Calls Try.prog 67 #[.agg #[.int .i64 lo, .int .i64 hi]] w fun e w' => e = .returned (.tuple #[.agg #[.int .i64 (Sp.fit lo hi).lo, .int .i64 (Sp.fit lo hi).hi], .int .i64 (Sp.fit lo hi).f]) ∧ Below w.heap.size w w' := by
  go_enter Try.func67, Try.ntmps67
  go_wp2
  all_goals
    refine bodyPost_ret (v := .tuple #[.agg #[.int .i64 (Sp.fit lo hi).lo, .int .i64 (Sp.fit lo hi).hi], .int .i64 (Sp.fit lo hi).f]) (by unfold Sp.fit; repeat' split; all_goals first | (exfalso; omega) | simp [results, Try.results67, go_sem]) rfl ⟨rfl, ?_⟩
    exact ((Below.refl _ _).alloc (Nat.le_refl _) _).alloc (by simp) _

theorem right_bd {l h : Int} (H : Sp.right l h = true) : -9007199254740992 ≤ l ∧ l ≤ h ∧ h ≤ 9007199254740992 := by
  simpa [Sp.right] using H

/-- the result of an operation on spans, as a value -/
abbrev rv (r : Sp.R) : Value := .tuple #[.agg #[.int .i64 r.lo, .int .i64 r.hi], .int .i64 r.f]

set_option maxHeartbeats 1600000 in
theorem add_ok (al ah bl bh : Int) (w : World) (ha : Sp.right al ah = true) (hb : Sp.right bl bh = true) :
    Calls Try.prog 54 #[.agg #[.int .i64 al, .int .i64 ah], .agg #[.int .i64 bl, .int .i64 bh]] w fun e w' => e = .returned (rv (Sp.add al ah bl bh)) ∧ Below w.heap.size w w' := by
  obtain ⟨a1, a2, a3⟩ := right_bd ha
  obtain ⟨b1, b2, b3⟩ := right_bd hb
  have hfin : Sp.add al ah bl bh = Sp.fit (Sp.hullLo (al + bl) [ah + bh]) (Sp.hullHi (al + bl) [ah + bh]) := by simp [Sp.add, ha, hb]
  rw [hfin]
  clear hfin
  go_enter Try.func54, Try.ntmps54
  go_wp2_with (first
    | (go_at_call 66; refine (right_any _ _ _).mono ?_; rintro e w1 ⟨rfl, hw1⟩; have hz := hw1.size; (try simp at hz); have hB : Below w.heap.size w w1 := Below.call (w := w) (by repeat (first | exact Below.refl _ _ | (with_reducible assumption) | refine Below.setCell ?_ (by first | omega | (simp; omega) | (simp; done)) _ | refine Below.alloc ?_ (by first | omega | (simp; omega) | (simp; done)) _ | refine Below.drew ?_)) hw1; (try obtain ⟨k1, k2, k3⟩ := keepB hw1 (w.heap.size) (by first | omega | (simp; omega) | (simp; done))); (try obtain ⟨k1, k2, k3⟩ := keepB hw1 (w.heap.size + 1) (by first | omega | (simp; omega) | (simp; done))); (try obtain ⟨k1, k2, k3⟩ := keepB hw1 (w.heap.size + 1 + 1) (by first | omega | (simp; omega) | (simp; done))))
    | (go_at_call 68; refine (hull_any _ [ah + bh] _ _ ?_ ?_ ?_).mono ?_; (simp); (simp); (intro k hk; (obtain rfl : k = 0 := by simp at hk; omega); simp); rintro e w1 ⟨rfl, hw1⟩; have hz := hw1.size; (try simp at hz); have hB : Below w.heap.size w w1 := Below.call (w := w) (by repeat (first | exact Below.refl _ _ | (with_reducible assumption) | refine Below.setCell ?_ (by first | omega | (simp; omega) | (simp; done)) _ | refine Below.alloc ?_ (by first | omega | (simp; omega) | (simp; done)) _ | refine Below.drew ?_)) hw1; (try obtain ⟨k1, k2, k3⟩ := keepB hw1 (w.heap.size) (by first | omega | (simp; omega) | (simp; done))); (try obtain ⟨k1, k2, k3⟩ := keepB hw1 (w.heap.size + 1) (by first | omega | (simp; omega) | (simp; done))); (try obtain ⟨k1, k2, k3⟩ := keepB hw1 (w.heap.size + 1 + 1) (by first | omega | (simp; omega) | (simp; done))))
    | (go_at_call 67; refine (fit_any _ _ _).mono ?_; rintro e w1 ⟨rfl, hw1⟩; have hz := hw1.size; (try simp at hz); have hB : Below w.heap.size w w1 := Below.call (w := w) (by repeat (first | exact Below.refl _ _ | (with_reducible assumption) | refine Below.setCell ?_ (by first | omega | (simp; omega) | (simp; done)) _ | refine Below.alloc ?_ (by first | omega | (simp; omega) | (simp; done)) _ | refine Below.drew ?_)) hw1; (try obtain ⟨k1, k2, k3⟩ := keepB hw1 (w.heap.size) (by first | omega | (simp; omega) | (simp; done))); (try obtain ⟨k1, k2, k3⟩ := keepB hw1 (w.heap.size + 1) (by first | omega | (simp; omega) | (simp; done))); (try obtain ⟨k1, k2, k3⟩ := keepB hw1 (w.heap.size + 1 + 1) (by first | omega | (simp; omega) | (simp; done)))))
  refine bodyPost_ret (v := rv (Sp.fit (Sp.hullLo (al + bl) [ah + bh]) (Sp.hullHi (al + bl) [ah + bh]))) (by simp [results, Try.results54, go_sem, *]) rfl ⟨rfl, ?_⟩
  exact (by repeat (first | exact Below.refl _ _ | (with_reducible assumption) | refine Below.setCell ?_ (by first | omega | (simp; omega) | (simp; done)) _ | refine Below.alloc ?_ (by first | omega | (simp; omega) | (simp; done)) _ | refine Below.drew ?_))

set_option maxHeartbeats 1600000 in
theorem add_bad1 (al ah bl bh : Int) (w : World) (ha : Sp.right al ah = false) :
    Calls Try.prog 54 #[.agg #[.int .i64 al, .int .i64 ah], .agg #[.int .i64 bl, .int .i64 bh]] w fun e w' => e = .returned (rv (Sp.add al ah bl bh)) ∧ Below w.heap.size w w' := by
  have hfin : Sp.add al ah bl bh = ⟨0, 0, 1⟩ := by simp [Sp.add, ha]
  rw [hfin]
  clear hfin
  go_enter Try.func54, Try.ntmps54
  go_wp2_with (first
    | (go_at_call 66; refine (right_any _ _ _).mono ?_; rintro e w1 ⟨rfl, hw1⟩; have hz := hw1.size; (try simp at hz); have hB : Below w.heap.size w w1 := Below.call (w := w) (by repeat (first | exact Below.refl _ _ | (with_reducible assumption) | refine Below.setCell ?_ (by first | omega | (simp; omega) | (simp; done)) _ | refine Below.alloc ?_ (by first | omega | (simp; omega) | (simp; done)) _ | refine Below.drew ?_)) hw1; (try obtain ⟨k1, k2, k3⟩ := keepB hw1 (w.heap.size) (by first | omega | (simp; omega) | (simp; done))); (try obtain ⟨k1, k2, k3⟩ := keepB hw1 (w.heap.size + 1) (by first | omega | (simp; omega) | (simp; done))); (try obtain ⟨k1, k2, k3⟩ := keepB hw1 (w.heap.size + 1 + 1) (by first | omega | (simp; omega) | (simp; done)))))
  refine bodyPost_ret (v := rv ⟨0, 0, 1⟩) (by simp [results, Try.results54, go_sem, *]) rfl ⟨rfl, ?_⟩
  exact (by repeat (first | exact Below.refl _ _ | (with_reducible assumption) | refine Below.setCell ?_ (by first | omega | (simp; omega) | (simp; done)) _ | refine Below.alloc ?_ (by first | omega | (simp; omega) | (simp; done)) _ | refine Below.drew ?_))

set_option maxHeartbeats 1600000 in
theorem add_bad2 (al ah bl bh : Int) (w : World) (ha : Sp.right al ah = true) (hb : Sp.right bl bh = false) :
    Calls Try.prog 54 #[.agg #[.int .i64 al, .int .i64 ah], .agg #[.int .i64 bl, .int .i64 bh]] w fun e w' => e = .returned (rv (Sp.add al ah bl bh)) ∧ Below w.heap.size w w' := by
  have hfin : Sp.add al ah bl bh = ⟨0, 0, 1⟩ := by simp [Sp.add, ha, hb]
  rw [hfin]
  clear hfin
  go_enter Try.func54, Try.ntmps54
  go_wp2_with (first
    | (go_at_call 66; refine (right_any _ _ _).mono ?_; rintro e w1 ⟨rfl, hw1⟩; have hz := hw1.size; (try simp at hz); have hB : Below w.heap.size w w1 := Below.call (w := w) (by repeat (first | exact Below.refl _ _ | (with_reducible assumption) | refine Below.setCell ?_ (by first | omega | (simp; omega) | (simp; done)) _ | refine Below.alloc ?_ (by first | omega | (simp; omega) | (simp; done)) _ | refine Below.drew ?_)) hw1; (try obtain ⟨k1, k2, k3⟩ := keepB hw1 (w.heap.size) (by first | omega | (simp; omega) | (simp; done))); (try obtain ⟨k1, k2, k3⟩ := keepB hw1 (w.heap.size + 1) (by first | omega | (simp; omega) | (simp; done))); (try obtain ⟨k1, k2, k3⟩ := keepB hw1 (w.heap.size + 1 + 1) (by first | omega | (simp; omega) | (simp; done)))))
  refine bodyPost_ret (v := rv ⟨0, 0, 1⟩) (by simp [results, Try.results54, go_sem, *]) rfl ⟨rfl, ?_⟩
  exact (by repeat (first | exact Below.refl _ _ | (with_reducible assumption) | refine Below.setCell ?_ (by first | omega | (simp; omega) | (simp; done)) _ | refine Below.alloc ?_ (by first | omega | (simp; omega) | (simp; done)) _ | refine Below.drew ?_))

theorem add_any (al ah bl bh : Int) (w : World) :
    Calls Try.prog 54 #[.agg #[.int .i64 al, .int .i64 ah], .agg #[.int .i64 bl, .int .i64 bh]] w fun e w' => e = .returned (rv (Sp.add al ah bl bh)) ∧ Below w.heap.size w w' := by
  cases ha : Sp.right al ah with
  | false => exact add_bad1 al ah bl bh w ha
  | true =>
    cases hb : Sp.right bl bh with
    | false => exact add_bad2 al ah bl bh w ha hb
    | true => exact add_ok al ah bl bh w ha hb

theorem inR_bd {n : Int} (H : Sp.inR n = true) : -9007199254740992 ≤ n ∧ n ≤ 9007199254740992 := by
  simpa [Sp.inR] using H

theorem inR_mk {n : Int} (h : -9007199254740992 ≤ n) (h' : n ≤ 9007199254740992) : Sp.inR n = true := by
  simp [Sp.inR, h, h']

theorem inR_no {n : Int} (H : Sp.inR n = false) : n < -9007199254740992 ∨ 9007199254740992 < n := by
  simp [Sp.inR] at H
  omega

theorem ab_pos {a : Int} (h : a ≠ 0) : 1 ≤ Sp.ab a := by unfold Sp.ab; split <;> omega

theorem ab_mul (a b : Int) : Sp.ab (a * b) = Sp.ab a * Sp.ab b := by
  unfold Sp.ab
  split <;> split <;> split
  · rename_i h1 h2 h3; have := Int.mul_pos_of_neg_of_neg h2 h3; omega
  · rw [Int.neg_mul]
  · rw [Int.mul_neg]
  · rename_i h1 h2 h3; have := Int.mul_nonneg (Int.not_lt.1 h2) (Int.not_lt.1 h3); omega
  · rw [Int.neg_mul_neg]
  · rename_i h1 h2 h3; have := Int.mul_nonneg (show 0 ≤ -a by omega) (Int.not_lt.1 h3); rw [Int.neg_mul] at this; have e : a * b = 0 := by omega
    rw [Int.neg_mul, e]; rfl
  · rename_i h1 h2 h3; have := Int.mul_nonneg (Int.not_lt.1 h2) (show 0 ≤ -b by omega); rw [Int.mul_neg] at this; have e : a * b = 0 := by omega
    rw [Int.mul_neg, e]; rfl
  · rfl

theorem div_lt_iff {a b : Int} (h : 1 ≤ a) : (9007199254740992 / a < b) ↔ 9007199254740992 < a * b := by
  rw [Int.ediv_lt_iff_lt_mul (by omega), Int.mul_comm]

def mulV (a b : Int) : Int := if Sp.mulOk a b then a * b else 0

set_option maxHeartbeats 800000 in
theorem nmul_any (a b : Int) (w : World) :
    Calls Try.prog 73 #[.int .i64 a, .int .i64 b] w fun e w' => e = .returned (.tuple #[.int .i64 (mulV a b), .bool (Sp.mulOk a b)]) ∧ w = w' := by
  cases ha : Sp.inR a with
  | false =>
    have e1 : Sp.mulOk a b = false := by simp [Sp.mulOk, ha]
    have e2 : mulV a b = 0 := by simp [mulV, e1]
    rw [e1, e2]
    clear e1 e2
    go_enter Try.func73, Try.ntmps73
    go_wp2_with (go_at_call 85; refine (inRange_any _ _).mono ?_; rintro e w1 ⟨rfl, rfl⟩)
    go_ret2
    exact ⟨rfl, rfl⟩
  | true =>
  obtain ⟨a1, a2⟩ := inR_bd ha
  cases hb : Sp.inR b with
  | false =>
    have e1 : Sp.mulOk a b = false := by simp [Sp.mulOk, hb]
    have e2 : mulV a b = 0 := by simp [mulV, e1]
    rw [e1, e2]
    clear e1 e2
    go_enter Try.func73, Try.ntmps73
    go_wp2_with (go_at_call 85; refine (inRange_any _ _).mono ?_; rintro e w1 ⟨rfl, rfl⟩)
    go_ret2
    exact ⟨rfl, rfl⟩
  | true =>
  obtain ⟨b1, b2⟩ := inR_bd hb
  by_cases h0 : a = 0
  · subst h0
    have e1 : Sp.mulOk 0 b = true := by simp [Sp.mulOk, hb, ha]
    have e2 : mulV 0 b = 0 := by simp [mulV]
    rw [e1, e2]
    clear e1 e2
    go_enter Try.func73, Try.ntmps73
    go_wp2_with (go_at_call 85; refine (inRange_any _ _).mono ?_; rintro e w1 ⟨rfl, rfl⟩)
    go_ret2
    exact ⟨rfl, rfl⟩
  · have p1 := ab_pos h0
    have hne : (a != 0) = true := by simp [h0]
    have hd := div_lt_iff (b := Sp.ab b) p1
    rw [← ab_mul] at hd
    by_cases hlt : 9007199254740992 / Sp.ab a < Sp.ab b
    · have h2 := hd.1 hlt
      have e1 : Sp.mulOk a b = false := by
        have : Sp.ab (a * b) = if a * b < 0 then -(a * b) else a * b := rfl
        simp [Sp.mulOk, ha, hb]
        intro; split at this <;> omega
      have e2 : mulV a b = 0 := by simp [mulV, e1]
      rw [e1, e2]
      clear e1 e2 h2 hd
      go_enter Try.func73, Try.ntmps73
      go_wp2_with (first | (go_at_call 85; refine (inRange_any _ _).mono ?_; rintro e w1 ⟨rfl, rfl⟩) | (go_at_call 86; refine (abs_any _ _ (by omega) (by omega)).mono ?_; rintro e w1 ⟨rfl, rfl⟩))
      go_ret2
      exact ⟨rfl, rfl⟩
    · have h2 : ¬ 9007199254740992 < Sp.ab (a * b) := fun h => hlt (hd.2 h)
      have hab : Sp.ab (a * b) = if a * b < 0 then -(a * b) else a * b := rfl
      have m1 : -9007199254740992 ≤ a * b := by split at hab <;> omega
      have m2 : a * b ≤ 9007199254740992 := by split at hab <;> omega
      have e1 : Sp.mulOk a b = true := by simp [Sp.mulOk, ha, hb, m1, m2]
      have e2 : mulV a b = a * b := by simp [mulV, e1]
      rw [e1, e2]
      clear e1 e2 h2 hd hab
      have hle : Sp.ab b ≤ 9007199254740992 / Sp.ab a := by omega
      clear hlt
      go_enter Try.func73, Try.ntmps73
      go_wp2_with (first | (go_at_call 85; refine (inRange_any _ _).mono ?_; rintro e w1 ⟨rfl, rfl⟩) | (go_at_call 86; refine (abs_any _ _ (by omega) (by omega)).mono ?_; rintro e w1 ⟨rfl, rfl⟩))
      go_ret2
      exact ⟨rfl, rfl⟩

set_option maxHeartbeats 800000 in
theorem product_any (x y : Int) (w : World) :
    Calls Try.prog 69 #[.int .i64 x, .int .i64 y] w fun e w' => e = .returned (.int .i64 (Sp.product x y)) ∧ w = w' := by
  cases hm : Sp.mulOk x y with
  | true =>
    have e1 : Sp.product x y = mulV x y := by simp [Sp.product, mulV, hm]
    rw [e1]
    clear e1
    go_enter Try.func69, Try.ntmps69
    go_wp2_with (go_at_call 73; refine (nmul_any _ _ _).mono ?_; rintro e w1 ⟨rfl, rfl⟩)
    go_ret
    exact ⟨rfl, rfl⟩
  | false =>
    cases hx : decide (x < 0) <;> cases hy : decide (y < 0)
    all_goals
      have hp : Sp.product x y = if (decide (x < 0)) != (decide (y < 0)) then -9007199254740993 else 9007199254740993 := by simp [Sp.product, hm]
      rw [hx, hy] at hp
      rw [hp]
      clear hp
      go_enter Try.func69, Try.ntmps69
      go_wp2_with (go_at_call 73; refine (nmul_any _ _ _).mono ?_; rintro e w1 ⟨rfl, rfl⟩)
      go_ret
      exact ⟨rfl, rfl⟩

set_option maxHeartbeats 1600000 in
theorem mul_ok (al ah bl bh : Int) (w : World) (ha : Sp.right al ah = true) (hb : Sp.right bl bh = true) :
    Calls Try.prog 53 #[.agg #[.int .i64 al, .int .i64 ah], .agg #[.int .i64 bl, .int .i64 bh]] w fun e w' => e = .returned (rv (Sp.mul al ah bl bh)) ∧ Below w.heap.size w w' := by
  have hfin : Sp.mul al ah bl bh = Sp.fit (Sp.hullLo (Sp.product al bl) [Sp.product al bh, Sp.product ah bl, Sp.product ah bh]) (Sp.hullHi (Sp.product al bl) [Sp.product al bh, Sp.product ah bl, Sp.product ah bh]) := by simp [Sp.mul, ha, hb]
  rw [hfin]
  clear hfin
  have ne1 : ¬ (w.heap.size + 1 + 1 = w.heap.size) := by omega
  go_enter Try.func53, Try.ntmps53
  go_wp2_with (first
    | (go_at_call 66; refine (right_any _ _ _).mono ?_; rintro e w1 ⟨rfl, hw1⟩; have hz := hw1.size; (try simp at hz); have hB : Below w.heap.size w w1 := Below.call (w := w) (by repeat (first | exact Below.refl _ _ | (with_reducible assumption) | refine Below.setCell ?_ (by first | omega | (simp; omega) | (simp; done)) _ | refine Below.alloc ?_ (by first | omega | (simp; omega) | (simp; done)) _ | refine Below.drew ?_)) hw1; (try obtain ⟨k1, k2, k3⟩ := keepB hw1 (w.heap.size) (by first | omega | (simp; omega) | (simp; done))); (try obtain ⟨k1, k2, k3⟩ := keepB hw1 (w.heap.size + 1) (by first | omega | (simp; omega) | (simp; done))); (try obtain ⟨k1, k2, k3⟩ := keepB hw1 (w.heap.size + 1 + 1) (by first | omega | (simp; omega) | (simp; done)))))
  go_region_held3 (fun w' => w'.cell? ⟨w.heap.size, 0, none⟩ = some (.int .i64 al) ∧ w'.cell? ⟨w.heap.size, 1, none⟩ = some (.int .i64 ah) ∧ w'.cell? ⟨w.heap.size + 1, 0, none⟩ = some (.int .i64 bl) ∧ w'.cell? ⟨w.heap.size + 1, 1, none⟩ = some (.int .i64 bh)) (go_keep)
    (first
    | (go_at_call 69; refine (product_any _ _ _).mono ?_; rintro e w1 ⟨rfl, rfl⟩)
    | (go_at_call 68; refine (hull_any _ [Sp.product al bh, Sp.product ah bl, Sp.product ah bh] _ _ ?_ ?_ ?_).mono ?_; (simp); (simp); (intro k hk; simp at hk; (obtain rfl | rfl | rfl : k = 0 ∨ k = 1 ∨ k = 2 := by omega) <;> simp); rintro e w1 ⟨rfl, hw1⟩; have hz := hw1.size; (try simp at hz); have hB : Below w.heap.size w w1 := Below.call (w := w) (by repeat (first | exact Below.refl _ _ | (with_reducible assumption) | refine Below.setCell ?_ (by first | omega | (simp; omega) | (simp; done)) _ | refine Below.alloc ?_ (by first | omega | (simp; omega) | (simp; done)) _ | refine Below.drew ?_)) hw1; (try obtain ⟨k1, k2, k3⟩ := keepB hw1 (w.heap.size) (by first | omega | (simp; omega) | (simp; done))); (try obtain ⟨k1, k2, k3⟩ := keepB hw1 (w.heap.size + 1) (by first | omega | (simp; omega) | (simp; done))); (try obtain ⟨k1, k2, k3⟩ := keepB hw1 (w.heap.size + 1 + 1) (by first | omega | (simp; omega) | (simp; done))))
    | (go_at_call 67; refine (fit_any _ _ _).mono ?_; rintro e w1 ⟨rfl, hw1⟩; have hz := hw1.size; (try simp at hz); have hB : Below w.heap.size w w1 := Below.call (w := w) (by repeat (first | exact Below.refl _ _ | (with_reducible assumption) | refine Below.setCell ?_ (by first | omega | (simp; omega) | (simp; done)) _ | refine Below.alloc ?_ (by first | omega | (simp; omega) | (simp; done)) _ | refine Below.drew ?_)) hw1; (try obtain ⟨k1, k2, k3⟩ := keepB hw1 (w.heap.size) (by first | omega | (simp; omega) | (simp; done))); (try obtain ⟨k1, k2, k3⟩ := keepB hw1 (w.heap.size + 1) (by first | omega | (simp; omega) | (simp; done))); (try obtain ⟨k1, k2, k3⟩ := keepB hw1 (w.heap.size + 1 + 1) (by first | omega | (simp; omega) | (simp; done)))))
  go_wp2
  refine bodyPost_ret (v := rv (Sp.fit (Sp.hullLo (Sp.product al bl) [Sp.product al bh, Sp.product ah bl, Sp.product ah bh]) (Sp.hullHi (Sp.product al bl) [Sp.product al bh, Sp.product ah bl, Sp.product ah bh]))) (by simp [results, Try.results53, go_sem, *]) rfl ⟨rfl, ?_⟩
  exact (by repeat (first | exact Below.refl _ _ | (with_reducible assumption) | refine Below.setCell ?_ (by first | omega | (simp; omega) | (simp; done)) _ | refine Below.alloc ?_ (by first | omega | (simp; omega) | (simp; done)) _ | refine Below.drew ?_))

set_option maxHeartbeats 1600000 in
theorem mul_bad1 (al ah bl bh : Int) (w : World) (ha : Sp.right al ah = false) :
    Calls Try.prog 53 #[.agg #[.int .i64 al, .int .i64 ah], .agg #[.int .i64 bl, .int .i64 bh]] w fun e w' => e = .returned (rv (Sp.mul al ah bl bh)) ∧ Below w.heap.size w w' := by
  have hfin : Sp.mul al ah bl bh = ⟨0, 0, 1⟩ := by simp [Sp.mul, ha]
  rw [hfin]
  clear hfin
  go_enter Try.func53, Try.ntmps53
  go_wp2_with (first
    | (go_at_call 66; refine (right_any _ _ _).mono ?_; rintro e w1 ⟨rfl, hw1⟩; have hz := hw1.size; (try simp at hz); have hB : Below w.heap.size w w1 := Below.call (w := w) (by repeat (first | exact Below.refl _ _ | (with_reducible assumption) | refine Below.setCell ?_ (by first | omega | (simp; omega) | (simp; done)) _ | refine Below.alloc ?_ (by first | omega | (simp; omega) | (simp; done)) _ | refine Below.drew ?_)) hw1; (try obtain ⟨k1, k2, k3⟩ := keepB hw1 (w.heap.size) (by first | omega | (simp; omega) | (simp; done))); (try obtain ⟨k1, k2, k3⟩ := keepB hw1 (w.heap.size + 1) (by first | omega | (simp; omega) | (simp; done))); (try obtain ⟨k1, k2, k3⟩ := keepB hw1 (w.heap.size + 1 + 1) (by first | omega | (simp; omega) | (simp; done)))))
  refine bodyPost_ret (v := rv (⟨0, 0, 1⟩)) (by simp [results, Try.results53, go_sem, *]) rfl ⟨rfl, ?_⟩
  exact (by repeat (first | exact Below.refl _ _ | (with_reducible assumption) | refine Below.setCell ?_ (by first | omega | (simp; omega) | (simp; done)) _ | refine Below.alloc ?_ (by first | omega | (simp; omega) | (simp; done)) _ | refine Below.drew ?_))

set_option maxHeartbeats 1600000 in
theorem mul_bad2 (al ah bl bh : Int) (w : World) (ha : Sp.right al ah = true) (hb : Sp.right bl bh = false) :
    Calls Try.prog 53 #[.agg #[.int .i64 al, .int .i64 ah], .agg #[.int .i64 bl, .int .i64 bh]] w fun e w' => e = .returned (rv (Sp.mul al ah bl bh)) ∧ Below w.heap.size w w' := by
  have hfin : Sp.mul al ah bl bh = ⟨0, 0, 1⟩ := by simp [Sp.mul, ha, hb]
  rw [hfin]
  clear hfin
  go_enter Try.func53, Try.ntmps53
  go_wp2_with (first
    | (go_at_call 66; refine (right_any _ _ _).mono ?_; rintro e w1 ⟨rfl, hw1⟩; have hz := hw1.size; (try simp at hz); have hB : Below w.heap.size w w1 := Below.call (w := w) (by repeat (first | exact Below.refl _ _ | (with_reducible assumption) | refine Below.setCell ?_ (by first | omega | (simp; omega) | (simp; done)) _ | refine Below.alloc ?_ (by first | omega | (simp; omega) | (simp; done)) _ | refine Below.drew ?_)) hw1; (try obtain ⟨k1, k2, k3⟩ := keepB hw1 (w.heap.size) (by first | omega | (simp; omega) | (simp; done))); (try obtain ⟨k1, k2, k3⟩ := keepB hw1 (w.heap.size + 1) (by first | omega | (simp; omega) | (simp; done))); (try obtain ⟨k1, k2, k3⟩ := keepB hw1 (w.heap.size + 1 + 1) (by first | omega | (simp; omega) | (simp; done)))))
  refine bodyPost_ret (v := rv (⟨0, 0, 1⟩)) (by simp [results, Try.results53, go_sem, *]) rfl ⟨rfl, ?_⟩
  exact (by repeat (first | exact Below.refl _ _ | (with_reducible assumption) | refine Below.setCell ?_ (by first | omega | (simp; omega) | (simp; done)) _ | refine Below.alloc ?_ (by first | omega | (simp; omega) | (simp; done)) _ | refine Below.drew ?_))

theorem mul_any (al ah bl bh : Int) (w : World) :
    Calls Try.prog 53 #[.agg #[.int .i64 al, .int .i64 ah], .agg #[.int .i64 bl, .int .i64 bh]] w fun e w' => e = .returned (rv (Sp.mul al ah bl bh)) ∧ Below w.heap.size w w' := by
  cases ha : Sp.right al ah with
  | false => exact mul_bad1 al ah bl bh w ha
  | true =>
    cases hb : Sp.right bl bh with
    | false => exact mul_bad2 al ah bl bh w ha hb
    | true => exact mul_ok al ah bl bh w ha hb

set_option maxHeartbeats 800000 in
theorem lessEq_any (al ah bl bh : Int) (w : World) :
    Calls Try.prog 55 #[.agg #[.int .i64 al, .int .i64 ah], .agg #[.int .i64 bl, .int .i64 bh]] w fun e w' => e = .returned (.int .i64 (Sp.lessEq al ah bl bh)) ∧ Below w.heap.size w w' := by
  go_enter Try.func55, Try.ntmps55
  go_wp2
  all_goals
    go_ret
    refine ⟨ret_int ?_, ((Below.refl _ _).alloc (Nat.le_refl _) _).alloc (by simp) _⟩
    unfold Sp.lessEq
    repeat' split
    all_goals first | rfl | (exfalso; omega)
end Go.Proofs.Ytcncobhdfflelaa
