/- The statements' sanity example returns true. -/
import Derived.Test.YtjdppnkmhgihnaaWh
namespace Go.Proofs.Ytjdppnkmhgihnaa
open Go.RowKit

theorem lit0 : Sp.mul (-2) 3 4 5 = ⟨-10, 15, 0⟩ := by rfl
theorem litc0 (w : World) : Calls Try.prog 14 #[.agg #[.int .i64 (-2), .int .i64 3], .agg #[.int .i64 4, .int .i64 5]] w fun e w' => e = .returned (rv ⟨-10, 15, 0⟩) ∧ Below w.heap.size w w' := by
  have h := mul_any (-2) 3 4 5 w
  rw [lit0] at h
  exact h

theorem lit1 : Sp.div 7 9 (-1) 1 = ⟨0, 0, 8⟩ := by rfl
theorem litc1 (w : World) : Calls Try.prog 15 #[.agg #[.int .i64 7, .int .i64 9], .agg #[.int .i64 (-1), .int .i64 1]] w fun e w' => e = .returned (rv ⟨0, 0, 8⟩) ∧ Below w.heap.size w w' := by
  have h := div_any 7 9 (-1) 1 w
  rw [lit1] at h
  exact h

theorem lit2 : Sp.mod 13 14 10 10 = ⟨3, 4, 0⟩ := by rfl
theorem litc2 (w : World) : Calls Try.prog 16 #[.agg #[.int .i64 13, .int .i64 14], .agg #[.int .i64 10, .int .i64 10]] w fun e w' => e = .returned (rv ⟨3, 4, 0⟩) ∧ Below w.heap.size w w' := by
  have h := mod_any 13 14 10 10 w
  rw [lit2] at h
  exact h

theorem lit3 : Sp.add 1 9007199254740992 1 1 = ⟨0, 0, 8⟩ := by rfl
theorem litc3 (w : World) : Calls Try.prog 11 #[.agg #[.int .i64 1, .int .i64 9007199254740992], .agg #[.int .i64 1, .int .i64 1]] w fun e w' => e = .returned (rv ⟨0, 0, 8⟩) ∧ Below w.heap.size w w' := by
  have h := add_any 1 9007199254740992 1 1 w
  rw [lit3] at h
  exact h

theorem lit4 : Sp.mul 2 3 9007199254740992 9007199254740992 = ⟨0, 0, 1⟩ := by rfl
theorem litc4 (w : World) : Calls Try.prog 14 #[.agg #[.int .i64 2, .int .i64 3], .agg #[.int .i64 9007199254740992, .int .i64 9007199254740992]] w fun e w' => e = .returned (rv ⟨0, 0, 1⟩) ∧ Below w.heap.size w w' := by
  have h := mul_any 2 3 9007199254740992 9007199254740992 w
  rw [lit4] at h
  exact h

theorem lit5 : Sp.mod (-7) 20 (-4) (-3) = ⟨-3, 3, 0⟩ := by rfl
theorem litc5 (w : World) : Calls Try.prog 16 #[.agg #[.int .i64 (-7), .int .i64 20], .agg #[.int .i64 (-4), .int .i64 (-3)]] w fun e w' => e = .returned (rv ⟨-3, 3, 0⟩) ∧ Below w.heap.size w w' := by
  have h := mod_any (-7) 20 (-4) (-3) w
  rw [lit5] at h
  exact h

theorem litv (w : World) : Calls Try.prog 36 #[.agg #[.int .i64 1, .int .i64 2]] w fun e w' => e = .returned (av 10 ⟨#[]⟩ 1 2 ⟨#[]⟩ none 0 0) ∧ Below w.heap.size w w' := value_any 1 2 w
theorem lito (w : World) : Calls Try.prog 29 #[av 10 ⟨#[]⟩ 1 2 ⟨#[]⟩ none 0 0] w fun e w' => e = .returned (.tuple #[.agg #[.int .i64 1, .int .i64 2], .bool true]) ∧ Below w.heap.size w w' := of_any 10 _ 1 2 _ none 0 0 w
theorem litl (w : World) : Calls Try.prog 17 #[.agg #[.int .i64 1, .int .i64 2], .agg #[.int .i64 (-10), .int .i64 15]] w fun e w' => e = .returned (.int .i64 (-1)) ∧ Below w.heap.size w w' := less_any 1 2 (-10) 15 w
theorem lite (w : World) : Calls Try.prog 19 #[.agg #[.int .i64 3, .int .i64 4], .agg #[.int .i64 3, .int .i64 4]] w fun e w' => e = .returned (.int .i64 (-1)) ∧ Below w.heap.size w w' := equal_any 3 4 3 4 w

set_option maxRecDepth 100000 in
set_option maxHeartbeats 4000000 in
theorem small_any (w : World) : Calls Try.prog 8 #[] w fun e w' => e = .returned (.bool true) ∧ Below w.heap.size w w' := by
  go_enter Try.func8, Try.ntmps8
  go_wp2_with fail
  refine (litc0 _).mono ?_
  rintro e v1 ⟨rfl, h1⟩
  have z1 := h1.size
  try simp at z1
  have hB1 : Below w.heap.size w v1 := Below.call (w := w) (by repeat (first | (with_reducible exact Below.refl _ _) | (with_reducible assumption) | refine Below.setCell ?_ (by first | omega | (simp; omega) | (simp; done)) _ | refine Below.alloc ?_ (by first | omega | (simp; omega) | (simp; done)) _ | refine Below.drew ?_)) h1
  go_wp2_with fail
  refine (litc1 _).mono ?_
  rintro e v2 ⟨rfl, h2⟩
  have z2 := h2.size
  try simp at z2
  have hB2 : Below w.heap.size w v2 := Below.call (w := w) (by repeat (first | (with_reducible exact Below.refl _ _) | (with_reducible assumption) | refine Below.setCell ?_ (by first | omega | (simp; omega) | (simp; done)) _ | refine Below.alloc ?_ (by first | omega | (simp; omega) | (simp; done)) _ | refine Below.drew ?_)) h2
  obtain ⟨k1, k2, k3⟩ := keepB h2 (v1.heap.size) (by first | omega | (simp; omega) | (simp; done))
  go_wp2_with fail
  refine (litc2 _).mono ?_
  rintro e v3 ⟨rfl, h3⟩
  have z3 := h3.size
  try simp at z3
  have hB3 : Below w.heap.size w v3 := Below.call (w := w) (by repeat (first | (with_reducible exact Below.refl _ _) | (with_reducible assumption) | refine Below.setCell ?_ (by first | omega | (simp; omega) | (simp; done)) _ | refine Below.alloc ?_ (by first | omega | (simp; omega) | (simp; done)) _ | refine Below.drew ?_)) h3
  obtain ⟨k1, k2, k3⟩ := keepB h3 (v1.heap.size) (by first | omega | (simp; omega) | (simp; done))
  go_wp2_with fail
  refine (litc3 _).mono ?_
  rintro e v4 ⟨rfl, h4⟩
  have z4 := h4.size
  try simp at z4
  have hB4 : Below w.heap.size w v4 := Below.call (w := w) (by repeat (first | (with_reducible exact Below.refl _ _) | (with_reducible assumption) | refine Below.setCell ?_ (by first | omega | (simp; omega) | (simp; done)) _ | refine Below.alloc ?_ (by first | omega | (simp; omega) | (simp; done)) _ | refine Below.drew ?_)) h4
  obtain ⟨k1, k2, k3⟩ := keepB h4 (v1.heap.size) (by first | omega | (simp; omega) | (simp; done))
  obtain ⟨k1, k2, k3⟩ := keepB h4 (v3.heap.size) (by first | omega | (simp; omega) | (simp; done))
  go_wp2_with fail
  refine (litc4 _).mono ?_
  rintro e v5 ⟨rfl, h5⟩
  have z5 := h5.size
  try simp at z5
  have hB5 : Below w.heap.size w v5 := Below.call (w := w) (by repeat (first | (with_reducible exact Below.refl _ _) | (with_reducible assumption) | refine Below.setCell ?_ (by first | omega | (simp; omega) | (simp; done)) _ | refine Below.alloc ?_ (by first | omega | (simp; omega) | (simp; done)) _ | refine Below.drew ?_)) h5
  obtain ⟨k1, k2, k3⟩ := keepB h5 (v1.heap.size) (by first | omega | (simp; omega) | (simp; done))
  obtain ⟨k1, k2, k3⟩ := keepB h5 (v3.heap.size) (by first | omega | (simp; omega) | (simp; done))
  go_wp2_with fail
  refine (litc5 _).mono ?_
  rintro e v6 ⟨rfl, h6⟩
  have z6 := h6.size
  try simp at z6
  have hB6 : Below w.heap.size w v6 := Below.call (w := w) (by repeat (first | (with_reducible exact Below.refl _ _) | (with_reducible assumption) | refine Below.setCell ?_ (by first | omega | (simp; omega) | (simp; done)) _ | refine Below.alloc ?_ (by first | omega | (simp; omega) | (simp; done)) _ | refine Below.drew ?_)) h6
  obtain ⟨k1, k2, k3⟩ := keepB h6 (v1.heap.size) (by first | omega | (simp; omega) | (simp; done))
  obtain ⟨k1, k2, k3⟩ := keepB h6 (v3.heap.size) (by first | omega | (simp; omega) | (simp; done))
  go_wp2_with fail
  refine (litv _).mono ?_
  rintro e v7 ⟨rfl, h7⟩
  have z7 := h7.size
  try simp at z7
  have hB7 : Below w.heap.size w v7 := Below.call (w := w) (by repeat (first | (with_reducible exact Below.refl _ _) | (with_reducible assumption) | refine Below.setCell ?_ (by first | omega | (simp; omega) | (simp; done)) _ | refine Below.alloc ?_ (by first | omega | (simp; omega) | (simp; done)) _ | refine Below.drew ?_)) h7
  obtain ⟨k1, k2, k3⟩ := keepB h7 (v1.heap.size) (by first | omega | (simp; omega) | (simp; done))
  obtain ⟨k1, k2, k3⟩ := keepB h7 (v3.heap.size) (by first | omega | (simp; omega) | (simp; done))
  obtain ⟨k1, k2, k3⟩ := keepB h7 (v6.heap.size) (by first | omega | (simp; omega) | (simp; done))
  go_wp2_with fail
  refine (lito _).mono ?_
  rintro e v8 ⟨rfl, h8⟩
  have z8 := h8.size
  try simp at z8
  have hB8 : Below w.heap.size w v8 := Below.call (w := w) (by repeat (first | (with_reducible exact Below.refl _ _) | (with_reducible assumption) | refine Below.setCell ?_ (by first | omega | (simp; omega) | (simp; done)) _ | refine Below.alloc ?_ (by first | omega | (simp; omega) | (simp; done)) _ | refine Below.drew ?_)) h8
  obtain ⟨k1, k2, k3⟩ := keepB h8 (v1.heap.size) (by first | omega | (simp; omega) | (simp; done))
  obtain ⟨k1, k2, k3⟩ := keepB h8 (v3.heap.size) (by first | omega | (simp; omega) | (simp; done))
  obtain ⟨k1, k2, k3⟩ := keepB h8 (v6.heap.size) (by first | omega | (simp; omega) | (simp; done))
  obtain ⟨k1, k2, k3⟩ := keepB h8 (v7.heap.size) (by first | omega | (simp; omega) | (simp; done))
  go_wp2_with fail
  refine (litl _).mono ?_
  rintro e v9 ⟨rfl, h9⟩
  have z9 := h9.size
  try simp at z9
  have hB9 : Below w.heap.size w v9 := Below.call (w := w) (by repeat (first | (with_reducible exact Below.refl _ _) | (with_reducible assumption) | refine Below.setCell ?_ (by first | omega | (simp; omega) | (simp; done)) _ | refine Below.alloc ?_ (by first | omega | (simp; omega) | (simp; done)) _ | refine Below.drew ?_)) h9
  obtain ⟨k1, k2, k3⟩ := keepB h9 (v1.heap.size) (by first | omega | (simp; omega) | (simp; done))
  obtain ⟨k1, k2, k3⟩ := keepB h9 (v3.heap.size) (by first | omega | (simp; omega) | (simp; done))
  obtain ⟨k1, k2, k3⟩ := keepB h9 (v6.heap.size) (by first | omega | (simp; omega) | (simp; done))
  obtain ⟨k1, k2, k3⟩ := keepB h9 (v8.heap.size) (by first | omega | (simp; omega) | (simp; done))
  go_wp2_with fail
  refine (lite _).mono ?_
  rintro e v10 ⟨rfl, h10⟩
  have z10 := h10.size
  try simp at z10
  have hB10 : Below w.heap.size w v10 := Below.call (w := w) (by repeat (first | (with_reducible exact Below.refl _ _) | (with_reducible assumption) | refine Below.setCell ?_ (by first | omega | (simp; omega) | (simp; done)) _ | refine Below.alloc ?_ (by first | omega | (simp; omega) | (simp; done)) _ | refine Below.drew ?_)) h10
  obtain ⟨k1, k2, k3⟩ := keepB h10 (v1.heap.size) (by first | omega | (simp; omega) | (simp; done))
  obtain ⟨k1, k2, k3⟩ := keepB h10 (v3.heap.size) (by first | omega | (simp; omega) | (simp; done))
  obtain ⟨k1, k2, k3⟩ := keepB h10 (v6.heap.size) (by first | omega | (simp; omega) | (simp; done))
  obtain ⟨k1, k2, k3⟩ := keepB h10 (v8.heap.size) (by first | omega | (simp; omega) | (simp; done))
  go_wp2_with fail
  go_ret
  exact ⟨rfl, hB10⟩
end Go.Proofs.Ytjdppnkmhgihnaa
