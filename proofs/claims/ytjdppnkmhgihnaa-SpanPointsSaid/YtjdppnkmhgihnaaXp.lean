/- The walk of SpanPoints. -/
import Derived.Test.YtjdppnkmhgihnaaWi
import Derived.Test.YtjdppnkmhgihnaaLawc
namespace Go.Proofs.Ytjdppnkmhgihnaa
open Go.RowKit

theorem value_pt (x : Int) (w : World) (h : Sp.right x x = true) : Calls Try.prog 36 #[.agg #[.int .i64 x, .int .i64 x]] w fun e w' => e = .returned (av 3 ⟨#[]⟩ x 0 ⟨#[]⟩ none 0 0) ∧ Below w.heap.size w w' := value_point x x w h (by simp)
theorem of_pt (x : Int) (w : World) (h : Sp.right x x = true) : Calls Try.prog 29 #[av 3 ⟨#[]⟩ x 0 ⟨#[]⟩ none 0 0] w fun e w' => e = .returned (.tuple #[.agg #[.int .i64 x, .int .i64 x], .bool true]) ∧ Below w.heap.size w w' := of_int 3 ⟨#[]⟩ x 0 ⟨#[]⟩ none 0 0 w rfl h

set_option maxRecDepth 100000 in
set_option maxHeartbeats 8000000 in
theorem points_walk (x y : Int) (w : World) (ha : Sp.right x x = true) (hb : Sp.right y y = true) :
    Calls Try.prog 7 #[.int .i64 x, .int .i64 y] w fun e w' => e = .returned (.bool true) ∧ Below w.heap.size w w' := by
  have s1 := Sp.add_exact ha hb
  have s2 := Sp.sub_exact ha hb
  have s3 := Sp.mul_exact ha hb
  have s4 := Sp.div_exact ha hb
  have s5 := Sp.mod_exact ha hb
  have s6 := Sp.neg_exact ha
  have l1 : ((Sp.less x x y y == 1) == decide (x < y)) = true := by unfold Sp.less; by_cases h : x < y <;> simp [h] <;> split <;> simp <;> omega
  have l2 : ((Sp.lessEq x x y y == 1) == decide (x ≤ y)) = true := by unfold Sp.lessEq; by_cases h : x ≤ y <;> simp [h] <;> split <;> simp <;> omega
  have l3 : ((Sp.equal x x y y == 1) == (x == y)) = true := by unfold Sp.equal; by_cases h : x = y <;> simp [h] <;> split <;> simp [h]
  have m1 : decide (0 ≤ Sp.less x x y y) = true := decide_eq_true (by unfold Sp.less; split; omega; split <;> omega)
  have m2 : decide (0 ≤ Sp.lessEq x x y y) = true := decide_eq_true (by unfold Sp.lessEq; split; omega; split <;> omega)
  have m3 : decide (0 ≤ Sp.equal x x y y) = true := decide_eq_true (by unfold Sp.equal; split; omega; split <;> omega)
  go_enter Try.func7, Try.ntmps7
  go_wp2_with fail
  refine (small_any _).mono ?_
  rintro e v1 ⟨rfl, h1⟩
  have z1 := h1.size
  try simp at z1
  have hB1 : Below w.heap.size w v1 := Below.call (w := w) (by repeat (first | (with_reducible exact Below.refl _ _) | (with_reducible assumption) | refine Below.setCell ?_ (by first | omega | (simp; omega) | (simp; done)) _ | refine Below.alloc ?_ (by first | omega | (simp; omega) | (simp; done)) _ | refine Below.drew ?_)) h1
  go_wp2_with fail
  refine (right_any _ _ _).mono ?_
  rintro e v2 ⟨rfl, h2⟩
  have z2 := h2.size
  try simp at z2
  have hB2 : Below w.heap.size w v2 := Below.call (w := w) (by repeat (first | (with_reducible exact Below.refl _ _) | (with_reducible assumption) | refine Below.setCell ?_ (by first | omega | (simp; omega) | (simp; done)) _ | refine Below.alloc ?_ (by first | omega | (simp; omega) | (simp; done)) _ | refine Below.drew ?_)) h2
  obtain ⟨k2_0, kc, kf⟩ := keepB h2 (v1.heap.size) (by first | omega | (simp; omega) | (simp; done))
  have c2_0_0 : v2.cell? ⟨v1.heap.size, 0, none⟩ = some (.int .i64 x) := (kc 0).trans (by simp [go_sem, *])
  have f2_0_0 : v2.frozen? ⟨v1.heap.size, 0, none⟩ = false := (kf 0).trans (by simp [go_sem, *])
  have c2_0_1 : v2.cell? ⟨v1.heap.size, 1, none⟩ = some (.int .i64 x) := (kc 1).trans (by simp [go_sem, *])
  have f2_0_1 : v2.frozen? ⟨v1.heap.size, 1, none⟩ = false := (kf 1).trans (by simp [go_sem, *])
  clear kc kf
  obtain ⟨k2_1, kc, kf⟩ := keepB h2 (v1.heap.size + 1) (by first | omega | (simp; omega) | (simp; done))
  have c2_1_0 : v2.cell? ⟨v1.heap.size + 1, 0, none⟩ = some (.int .i64 y) := (kc 0).trans (by simp [go_sem, *])
  have f2_1_0 : v2.frozen? ⟨v1.heap.size + 1, 0, none⟩ = false := (kf 0).trans (by simp [go_sem, *])
  have c2_1_1 : v2.cell? ⟨v1.heap.size + 1, 1, none⟩ = some (.int .i64 y) := (kc 1).trans (by simp [go_sem, *])
  have f2_1_1 : v2.frozen? ⟨v1.heap.size + 1, 1, none⟩ = false := (kf 1).trans (by simp [go_sem, *])
  clear kc kf
  go_wp2_with fail
  refine (right_any _ _ _).mono ?_
  rintro e v3 ⟨rfl, h3⟩
  have z3 := h3.size
  try simp at z3
  have hB3 : Below w.heap.size w v3 := Below.call (w := w) (by repeat (first | (with_reducible exact Below.refl _ _) | (with_reducible assumption) | refine Below.setCell ?_ (by first | omega | (simp; omega) | (simp; done)) _ | refine Below.alloc ?_ (by first | omega | (simp; omega) | (simp; done)) _ | refine Below.drew ?_)) h3
  obtain ⟨k3_0, kc, kf⟩ := keepB h3 (v1.heap.size) (by first | omega | (simp; omega) | (simp; done))
  have c3_0_0 : v3.cell? ⟨v1.heap.size, 0, none⟩ = some (.int .i64 x) := (kc 0).trans (by simp [go_sem, *])
  have f3_0_0 : v3.frozen? ⟨v1.heap.size, 0, none⟩ = false := (kf 0).trans (by simp [go_sem, *])
  have c3_0_1 : v3.cell? ⟨v1.heap.size, 1, none⟩ = some (.int .i64 x) := (kc 1).trans (by simp [go_sem, *])
  have f3_0_1 : v3.frozen? ⟨v1.heap.size, 1, none⟩ = false := (kf 1).trans (by simp [go_sem, *])
  clear kc kf
  obtain ⟨k3_1, kc, kf⟩ := keepB h3 (v1.heap.size + 1) (by first | omega | (simp; omega) | (simp; done))
  have c3_1_0 : v3.cell? ⟨v1.heap.size + 1, 0, none⟩ = some (.int .i64 y) := (kc 0).trans (by simp [go_sem, *])
  have f3_1_0 : v3.frozen? ⟨v1.heap.size + 1, 0, none⟩ = false := (kf 0).trans (by simp [go_sem, *])
  have c3_1_1 : v3.cell? ⟨v1.heap.size + 1, 1, none⟩ = some (.int .i64 y) := (kc 1).trans (by simp [go_sem, *])
  have f3_1_1 : v3.frozen? ⟨v1.heap.size + 1, 1, none⟩ = false := (kf 1).trans (by simp [go_sem, *])
  clear kc kf
  clear c2_0_0 f2_0_0 c2_0_1 f2_0_1 c2_1_0 f2_1_0 c2_1_1 f2_1_1
  go_wp2_with fail
  refine (add_any _ _ _ _ _).mono ?_
  rintro e v4 ⟨rfl, h4⟩
  have z4 := h4.size
  try simp at z4
  have hB4 : Below w.heap.size w v4 := Below.call (w := w) (by repeat (first | (with_reducible exact Below.refl _ _) | (with_reducible assumption) | refine Below.setCell ?_ (by first | omega | (simp; omega) | (simp; done)) _ | refine Below.alloc ?_ (by first | omega | (simp; omega) | (simp; done)) _ | refine Below.drew ?_)) h4
  obtain ⟨k4_0, kc, kf⟩ := keepB h4 (v1.heap.size) (by first | omega | (simp; omega) | (simp; done))
  have c4_0_0 : v4.cell? ⟨v1.heap.size, 0, none⟩ = some (.int .i64 x) := (kc 0).trans (by simp [go_sem, *])
  have f4_0_0 : v4.frozen? ⟨v1.heap.size, 0, none⟩ = false := (kf 0).trans (by simp [go_sem, *])
  have c4_0_1 : v4.cell? ⟨v1.heap.size, 1, none⟩ = some (.int .i64 x) := (kc 1).trans (by simp [go_sem, *])
  have f4_0_1 : v4.frozen? ⟨v1.heap.size, 1, none⟩ = false := (kf 1).trans (by simp [go_sem, *])
  clear kc kf
  obtain ⟨k4_1, kc, kf⟩ := keepB h4 (v1.heap.size + 1) (by first | omega | (simp; omega) | (simp; done))
  have c4_1_0 : v4.cell? ⟨v1.heap.size + 1, 0, none⟩ = some (.int .i64 y) := (kc 0).trans (by simp [go_sem, *])
  have f4_1_0 : v4.frozen? ⟨v1.heap.size + 1, 0, none⟩ = false := (kf 0).trans (by simp [go_sem, *])
  have c4_1_1 : v4.cell? ⟨v1.heap.size + 1, 1, none⟩ = some (.int .i64 y) := (kc 1).trans (by simp [go_sem, *])
  have f4_1_1 : v4.frozen? ⟨v1.heap.size + 1, 1, none⟩ = false := (kf 1).trans (by simp [go_sem, *])
  clear kc kf
  clear c3_0_0 f3_0_0 c3_0_1 f3_0_1 c3_1_0 f3_1_0 c3_1_1 f3_1_1
  go_wp2_with fail
  refine (nadd_any _ _ _).mono ?_
  rintro e _ ⟨rfl, rfl⟩
  go_wp2_with fail
  refine (exact_any _ _ _ _ _ _ _).mono ?_
  rintro e v5 ⟨rfl, h5⟩
  have z5 := h5.size
  try simp at z5
  have hB5 : Below w.heap.size w v5 := Below.call (w := w) (by repeat (first | (with_reducible exact Below.refl _ _) | (with_reducible assumption) | refine Below.setCell ?_ (by first | omega | (simp; omega) | (simp; done)) _ | refine Below.alloc ?_ (by first | omega | (simp; omega) | (simp; done)) _ | refine Below.drew ?_)) h5
  obtain ⟨k5_0, kc, kf⟩ := keepB h5 (v1.heap.size) (by first | omega | (simp; omega) | (simp; done))
  have c5_0_0 : v5.cell? ⟨v1.heap.size, 0, none⟩ = some (.int .i64 x) := (kc 0).trans (by simp [go_sem, *])
  have f5_0_0 : v5.frozen? ⟨v1.heap.size, 0, none⟩ = false := (kf 0).trans (by simp [go_sem, *])
  have c5_0_1 : v5.cell? ⟨v1.heap.size, 1, none⟩ = some (.int .i64 x) := (kc 1).trans (by simp [go_sem, *])
  have f5_0_1 : v5.frozen? ⟨v1.heap.size, 1, none⟩ = false := (kf 1).trans (by simp [go_sem, *])
  clear kc kf
  obtain ⟨k5_1, kc, kf⟩ := keepB h5 (v1.heap.size + 1) (by first | omega | (simp; omega) | (simp; done))
  have c5_1_0 : v5.cell? ⟨v1.heap.size + 1, 0, none⟩ = some (.int .i64 y) := (kc 0).trans (by simp [go_sem, *])
  have f5_1_0 : v5.frozen? ⟨v1.heap.size + 1, 0, none⟩ = false := (kf 0).trans (by simp [go_sem, *])
  have c5_1_1 : v5.cell? ⟨v1.heap.size + 1, 1, none⟩ = some (.int .i64 y) := (kc 1).trans (by simp [go_sem, *])
  have f5_1_1 : v5.frozen? ⟨v1.heap.size + 1, 1, none⟩ = false := (kf 1).trans (by simp [go_sem, *])
  clear kc kf
  obtain ⟨k5_2, kc, kf⟩ := keepB h5 (v4.heap.size) (by first | omega | (simp; omega) | (simp; done))
  have c5_2_0 : v5.cell? ⟨v4.heap.size, 0, none⟩ = some (.int .i64 (Sp.add x x y y).lo) := (kc 0).trans (by simp [go_sem, *])
  have f5_2_0 : v5.frozen? ⟨v4.heap.size, 0, none⟩ = false := (kf 0).trans (by simp [go_sem, *])
  have c5_2_1 : v5.cell? ⟨v4.heap.size, 1, none⟩ = some (.int .i64 (Sp.add x x y y).hi) := (kc 1).trans (by simp [go_sem, *])
  have f5_2_1 : v5.frozen? ⟨v4.heap.size, 1, none⟩ = false := (kf 1).trans (by simp [go_sem, *])
  clear kc kf
  clear c4_0_0 f4_0_0 c4_0_1 f4_0_1 c4_1_0 f4_1_0 c4_1_1 f4_1_1
  go_wp2_with fail
  refine (sub_any _ _ _ _ _).mono ?_
  rintro e v6 ⟨rfl, h6⟩
  have z6 := h6.size
  try simp at z6
  have hB6 : Below w.heap.size w v6 := Below.call (w := w) (by repeat (first | (with_reducible exact Below.refl _ _) | (with_reducible assumption) | refine Below.setCell ?_ (by first | omega | (simp; omega) | (simp; done)) _ | refine Below.alloc ?_ (by first | omega | (simp; omega) | (simp; done)) _ | refine Below.drew ?_)) h6
  obtain ⟨k6_0, kc, kf⟩ := keepB h6 (v1.heap.size) (by first | omega | (simp; omega) | (simp; done))
  have c6_0_0 : v6.cell? ⟨v1.heap.size, 0, none⟩ = some (.int .i64 x) := (kc 0).trans (by simp [go_sem, *])
  have f6_0_0 : v6.frozen? ⟨v1.heap.size, 0, none⟩ = false := (kf 0).trans (by simp [go_sem, *])
  have c6_0_1 : v6.cell? ⟨v1.heap.size, 1, none⟩ = some (.int .i64 x) := (kc 1).trans (by simp [go_sem, *])
  have f6_0_1 : v6.frozen? ⟨v1.heap.size, 1, none⟩ = false := (kf 1).trans (by simp [go_sem, *])
  clear kc kf
  obtain ⟨k6_1, kc, kf⟩ := keepB h6 (v1.heap.size + 1) (by first | omega | (simp; omega) | (simp; done))
  have c6_1_0 : v6.cell? ⟨v1.heap.size + 1, 0, none⟩ = some (.int .i64 y) := (kc 0).trans (by simp [go_sem, *])
  have f6_1_0 : v6.frozen? ⟨v1.heap.size + 1, 0, none⟩ = false := (kf 0).trans (by simp [go_sem, *])
  have c6_1_1 : v6.cell? ⟨v1.heap.size + 1, 1, none⟩ = some (.int .i64 y) := (kc 1).trans (by simp [go_sem, *])
  have f6_1_1 : v6.frozen? ⟨v1.heap.size + 1, 1, none⟩ = false := (kf 1).trans (by simp [go_sem, *])
  clear kc kf
  obtain ⟨k6_2, kc, kf⟩ := keepB h6 (v4.heap.size) (by first | omega | (simp; omega) | (simp; done))
  have c6_2_0 : v6.cell? ⟨v4.heap.size, 0, none⟩ = some (.int .i64 (Sp.add x x y y).lo) := (kc 0).trans (by simp [go_sem, *])
  have f6_2_0 : v6.frozen? ⟨v4.heap.size, 0, none⟩ = false := (kf 0).trans (by simp [go_sem, *])
  have c6_2_1 : v6.cell? ⟨v4.heap.size, 1, none⟩ = some (.int .i64 (Sp.add x x y y).hi) := (kc 1).trans (by simp [go_sem, *])
  have f6_2_1 : v6.frozen? ⟨v4.heap.size, 1, none⟩ = false := (kf 1).trans (by simp [go_sem, *])
  clear kc kf
  clear c5_0_0 f5_0_0 c5_0_1 f5_0_1 c5_1_0 f5_1_0 c5_1_1 f5_1_1 c5_2_0 f5_2_0 c5_2_1 f5_2_1
  go_wp2_with fail
  refine (nsub_any _ _ _).mono ?_
  rintro e _ ⟨rfl, rfl⟩
  go_wp2_with fail
  refine (exact_any _ _ _ _ _ _ _).mono ?_
  rintro e v7 ⟨rfl, h7⟩
  have z7 := h7.size
  try simp at z7
  have hB7 : Below w.heap.size w v7 := Below.call (w := w) (by repeat (first | (with_reducible exact Below.refl _ _) | (with_reducible assumption) | refine Below.setCell ?_ (by first | omega | (simp; omega) | (simp; done)) _ | refine Below.alloc ?_ (by first | omega | (simp; omega) | (simp; done)) _ | refine Below.drew ?_)) h7
  obtain ⟨k7_0, kc, kf⟩ := keepB h7 (v1.heap.size) (by first | omega | (simp; omega) | (simp; done))
  have c7_0_0 : v7.cell? ⟨v1.heap.size, 0, none⟩ = some (.int .i64 x) := (kc 0).trans (by simp [go_sem, *])
  have f7_0_0 : v7.frozen? ⟨v1.heap.size, 0, none⟩ = false := (kf 0).trans (by simp [go_sem, *])
  have c7_0_1 : v7.cell? ⟨v1.heap.size, 1, none⟩ = some (.int .i64 x) := (kc 1).trans (by simp [go_sem, *])
  have f7_0_1 : v7.frozen? ⟨v1.heap.size, 1, none⟩ = false := (kf 1).trans (by simp [go_sem, *])
  clear kc kf
  obtain ⟨k7_1, kc, kf⟩ := keepB h7 (v1.heap.size + 1) (by first | omega | (simp; omega) | (simp; done))
  have c7_1_0 : v7.cell? ⟨v1.heap.size + 1, 0, none⟩ = some (.int .i64 y) := (kc 0).trans (by simp [go_sem, *])
  have f7_1_0 : v7.frozen? ⟨v1.heap.size + 1, 0, none⟩ = false := (kf 0).trans (by simp [go_sem, *])
  have c7_1_1 : v7.cell? ⟨v1.heap.size + 1, 1, none⟩ = some (.int .i64 y) := (kc 1).trans (by simp [go_sem, *])
  have f7_1_1 : v7.frozen? ⟨v1.heap.size + 1, 1, none⟩ = false := (kf 1).trans (by simp [go_sem, *])
  clear kc kf
  obtain ⟨k7_2, kc, kf⟩ := keepB h7 (v4.heap.size) (by first | omega | (simp; omega) | (simp; done))
  have c7_2_0 : v7.cell? ⟨v4.heap.size, 0, none⟩ = some (.int .i64 (Sp.sub x x y y).lo) := (kc 0).trans (by simp [go_sem, *])
  have f7_2_0 : v7.frozen? ⟨v4.heap.size, 0, none⟩ = false := (kf 0).trans (by simp [go_sem, *])
  have c7_2_1 : v7.cell? ⟨v4.heap.size, 1, none⟩ = some (.int .i64 (Sp.sub x x y y).hi) := (kc 1).trans (by simp [go_sem, *])
  have f7_2_1 : v7.frozen? ⟨v4.heap.size, 1, none⟩ = false := (kf 1).trans (by simp [go_sem, *])
  clear kc kf
  clear c6_0_0 f6_0_0 c6_0_1 f6_0_1 c6_1_0 f6_1_0 c6_1_1 f6_1_1 c6_2_0 f6_2_0 c6_2_1 f6_2_1
  go_wp2_with fail
  refine (mul_any _ _ _ _ _).mono ?_
  rintro e v8 ⟨rfl, h8⟩
  have z8 := h8.size
  try simp at z8
  have hB8 : Below w.heap.size w v8 := Below.call (w := w) (by repeat (first | (with_reducible exact Below.refl _ _) | (with_reducible assumption) | refine Below.setCell ?_ (by first | omega | (simp; omega) | (simp; done)) _ | refine Below.alloc ?_ (by first | omega | (simp; omega) | (simp; done)) _ | refine Below.drew ?_)) h8
  obtain ⟨k8_0, kc, kf⟩ := keepB h8 (v1.heap.size) (by first | omega | (simp; omega) | (simp; done))
  have c8_0_0 : v8.cell? ⟨v1.heap.size, 0, none⟩ = some (.int .i64 x) := (kc 0).trans (by simp [go_sem, *])
  have f8_0_0 : v8.frozen? ⟨v1.heap.size, 0, none⟩ = false := (kf 0).trans (by simp [go_sem, *])
  have c8_0_1 : v8.cell? ⟨v1.heap.size, 1, none⟩ = some (.int .i64 x) := (kc 1).trans (by simp [go_sem, *])
  have f8_0_1 : v8.frozen? ⟨v1.heap.size, 1, none⟩ = false := (kf 1).trans (by simp [go_sem, *])
  clear kc kf
  obtain ⟨k8_1, kc, kf⟩ := keepB h8 (v1.heap.size + 1) (by first | omega | (simp; omega) | (simp; done))
  have c8_1_0 : v8.cell? ⟨v1.heap.size + 1, 0, none⟩ = some (.int .i64 y) := (kc 0).trans (by simp [go_sem, *])
  have f8_1_0 : v8.frozen? ⟨v1.heap.size + 1, 0, none⟩ = false := (kf 0).trans (by simp [go_sem, *])
  have c8_1_1 : v8.cell? ⟨v1.heap.size + 1, 1, none⟩ = some (.int .i64 y) := (kc 1).trans (by simp [go_sem, *])
  have f8_1_1 : v8.frozen? ⟨v1.heap.size + 1, 1, none⟩ = false := (kf 1).trans (by simp [go_sem, *])
  clear kc kf
  obtain ⟨k8_2, kc, kf⟩ := keepB h8 (v4.heap.size) (by first | omega | (simp; omega) | (simp; done))
  have c8_2_0 : v8.cell? ⟨v4.heap.size, 0, none⟩ = some (.int .i64 (Sp.sub x x y y).lo) := (kc 0).trans (by simp [go_sem, *])
  have f8_2_0 : v8.frozen? ⟨v4.heap.size, 0, none⟩ = false := (kf 0).trans (by simp [go_sem, *])
  have c8_2_1 : v8.cell? ⟨v4.heap.size, 1, none⟩ = some (.int .i64 (Sp.sub x x y y).hi) := (kc 1).trans (by simp [go_sem, *])
  have f8_2_1 : v8.frozen? ⟨v4.heap.size, 1, none⟩ = false := (kf 1).trans (by simp [go_sem, *])
  clear kc kf
  clear c7_0_0 f7_0_0 c7_0_1 f7_0_1 c7_1_0 f7_1_0 c7_1_1 f7_1_1 c7_2_0 f7_2_0 c7_2_1 f7_2_1
  go_wp2_with fail
  refine (nmul_any _ _ _).mono ?_
  rintro e _ ⟨rfl, rfl⟩
  go_wp2_with fail
  refine (exact_any _ _ _ _ _ _ _).mono ?_
  rintro e v9 ⟨rfl, h9⟩
  have z9 := h9.size
  try simp at z9
  have hB9 : Below w.heap.size w v9 := Below.call (w := w) (by repeat (first | (with_reducible exact Below.refl _ _) | (with_reducible assumption) | refine Below.setCell ?_ (by first | omega | (simp; omega) | (simp; done)) _ | refine Below.alloc ?_ (by first | omega | (simp; omega) | (simp; done)) _ | refine Below.drew ?_)) h9
  obtain ⟨k9_0, kc, kf⟩ := keepB h9 (v1.heap.size) (by first | omega | (simp; omega) | (simp; done))
  have c9_0_0 : v9.cell? ⟨v1.heap.size, 0, none⟩ = some (.int .i64 x) := (kc 0).trans (by simp [go_sem, *])
  have f9_0_0 : v9.frozen? ⟨v1.heap.size, 0, none⟩ = false := (kf 0).trans (by simp [go_sem, *])
  have c9_0_1 : v9.cell? ⟨v1.heap.size, 1, none⟩ = some (.int .i64 x) := (kc 1).trans (by simp [go_sem, *])
  have f9_0_1 : v9.frozen? ⟨v1.heap.size, 1, none⟩ = false := (kf 1).trans (by simp [go_sem, *])
  clear kc kf
  obtain ⟨k9_1, kc, kf⟩ := keepB h9 (v1.heap.size + 1) (by first | omega | (simp; omega) | (simp; done))
  have c9_1_0 : v9.cell? ⟨v1.heap.size + 1, 0, none⟩ = some (.int .i64 y) := (kc 0).trans (by simp [go_sem, *])
  have f9_1_0 : v9.frozen? ⟨v1.heap.size + 1, 0, none⟩ = false := (kf 0).trans (by simp [go_sem, *])
  have c9_1_1 : v9.cell? ⟨v1.heap.size + 1, 1, none⟩ = some (.int .i64 y) := (kc 1).trans (by simp [go_sem, *])
  have f9_1_1 : v9.frozen? ⟨v1.heap.size + 1, 1, none⟩ = false := (kf 1).trans (by simp [go_sem, *])
  clear kc kf
  obtain ⟨k9_2, kc, kf⟩ := keepB h9 (v4.heap.size) (by first | omega | (simp; omega) | (simp; done))
  have c9_2_0 : v9.cell? ⟨v4.heap.size, 0, none⟩ = some (.int .i64 (Sp.mul x x y y).lo) := (kc 0).trans (by simp [go_sem, *])
  have f9_2_0 : v9.frozen? ⟨v4.heap.size, 0, none⟩ = false := (kf 0).trans (by simp [go_sem, *])
  have c9_2_1 : v9.cell? ⟨v4.heap.size, 1, none⟩ = some (.int .i64 (Sp.mul x x y y).hi) := (kc 1).trans (by simp [go_sem, *])
  have f9_2_1 : v9.frozen? ⟨v4.heap.size, 1, none⟩ = false := (kf 1).trans (by simp [go_sem, *])
  clear kc kf
  clear c8_0_0 f8_0_0 c8_0_1 f8_0_1 c8_1_0 f8_1_0 c8_1_1 f8_1_1 c8_2_0 f8_2_0 c8_2_1 f8_2_1
  go_wp2_with fail
  refine (div_any _ _ _ _ _).mono ?_
  rintro e v10 ⟨rfl, h10⟩
  have z10 := h10.size
  try simp at z10
  have hB10 : Below w.heap.size w v10 := Below.call (w := w) (by repeat (first | (with_reducible exact Below.refl _ _) | (with_reducible assumption) | refine Below.setCell ?_ (by first | omega | (simp; omega) | (simp; done)) _ | refine Below.alloc ?_ (by first | omega | (simp; omega) | (simp; done)) _ | refine Below.drew ?_)) h10
  obtain ⟨k10_0, kc, kf⟩ := keepB h10 (v1.heap.size) (by first | omega | (simp; omega) | (simp; done))
  have c10_0_0 : v10.cell? ⟨v1.heap.size, 0, none⟩ = some (.int .i64 x) := (kc 0).trans (by simp [go_sem, *])
  have f10_0_0 : v10.frozen? ⟨v1.heap.size, 0, none⟩ = false := (kf 0).trans (by simp [go_sem, *])
  have c10_0_1 : v10.cell? ⟨v1.heap.size, 1, none⟩ = some (.int .i64 x) := (kc 1).trans (by simp [go_sem, *])
  have f10_0_1 : v10.frozen? ⟨v1.heap.size, 1, none⟩ = false := (kf 1).trans (by simp [go_sem, *])
  clear kc kf
  obtain ⟨k10_1, kc, kf⟩ := keepB h10 (v1.heap.size + 1) (by first | omega | (simp; omega) | (simp; done))
  have c10_1_0 : v10.cell? ⟨v1.heap.size + 1, 0, none⟩ = some (.int .i64 y) := (kc 0).trans (by simp [go_sem, *])
  have f10_1_0 : v10.frozen? ⟨v1.heap.size + 1, 0, none⟩ = false := (kf 0).trans (by simp [go_sem, *])
  have c10_1_1 : v10.cell? ⟨v1.heap.size + 1, 1, none⟩ = some (.int .i64 y) := (kc 1).trans (by simp [go_sem, *])
  have f10_1_1 : v10.frozen? ⟨v1.heap.size + 1, 1, none⟩ = false := (kf 1).trans (by simp [go_sem, *])
  clear kc kf
  obtain ⟨k10_2, kc, kf⟩ := keepB h10 (v4.heap.size) (by first | omega | (simp; omega) | (simp; done))
  have c10_2_0 : v10.cell? ⟨v4.heap.size, 0, none⟩ = some (.int .i64 (Sp.mul x x y y).lo) := (kc 0).trans (by simp [go_sem, *])
  have f10_2_0 : v10.frozen? ⟨v4.heap.size, 0, none⟩ = false := (kf 0).trans (by simp [go_sem, *])
  have c10_2_1 : v10.cell? ⟨v4.heap.size, 1, none⟩ = some (.int .i64 (Sp.mul x x y y).hi) := (kc 1).trans (by simp [go_sem, *])
  have f10_2_1 : v10.frozen? ⟨v4.heap.size, 1, none⟩ = false := (kf 1).trans (by simp [go_sem, *])
  clear kc kf
  clear c9_0_0 f9_0_0 c9_0_1 f9_0_1 c9_1_0 f9_1_0 c9_1_1 f9_1_1 c9_2_0 f9_2_0 c9_2_1 f9_2_1
  go_wp2_with fail
  refine (ndiv_any _ _ _).mono ?_
  rintro e _ ⟨rfl, rfl⟩
  go_wp2_with fail
  go_region_held3 (fun w' => w'.cell? ⟨v4.heap.size, 0, none⟩ = some (.int .i64 (Sp.div x x y y).lo) ∧ w'.cell? ⟨v4.heap.size, 1, none⟩ = some (.int .i64 (Sp.div x x y y).hi)) (simp [go_sem, *])
    (first
    | (go_at_call 44; refine (zero_any _ _).mono ?_; rintro e w1 ⟨rfl, rfl⟩)
    | (go_at_call 47; refine (exact_any _ _ _ _ _ _ _).mono ?_; rintro e v11 ⟨rfl, h11⟩; have z11 := h11.size; (try simp at z11); have hB11 : Below w.heap.size w v11 := Below.call (w := w) (by repeat (first | (with_reducible exact Below.refl _ _) | (with_reducible assumption) | refine Below.setCell ?_ (by first | omega | (simp; omega) | (simp; done)) _ | refine Below.alloc ?_ (by first | omega | (simp; omega) | (simp; done)) _ | refine Below.drew ?_)) h11; obtain ⟨k11_0, kc, kf⟩ := keepB h11 (v1.heap.size) (by first | omega | (simp; omega) | (simp; done)); have c11_0_0 : v11.cell? ⟨v1.heap.size, 0, none⟩ = some (.int .i64 x) := (kc 0).trans (by simp [go_sem, *]); have f11_0_0 : v11.frozen? ⟨v1.heap.size, 0, none⟩ = false := (kf 0).trans (by simp [go_sem, *]); have c11_0_1 : v11.cell? ⟨v1.heap.size, 1, none⟩ = some (.int .i64 x) := (kc 1).trans (by simp [go_sem, *]); have f11_0_1 : v11.frozen? ⟨v1.heap.size, 1, none⟩ = false := (kf 1).trans (by simp [go_sem, *]); clear kc kf; obtain ⟨k11_1, kc, kf⟩ := keepB h11 (v1.heap.size + 1) (by first | omega | (simp; omega) | (simp; done)); have c11_1_0 : v11.cell? ⟨v1.heap.size + 1, 0, none⟩ = some (.int .i64 y) := (kc 0).trans (by simp [go_sem, *]); have f11_1_0 : v11.frozen? ⟨v1.heap.size + 1, 0, none⟩ = false := (kf 0).trans (by simp [go_sem, *]); have c11_1_1 : v11.cell? ⟨v1.heap.size + 1, 1, none⟩ = some (.int .i64 y) := (kc 1).trans (by simp [go_sem, *]); have f11_1_1 : v11.frozen? ⟨v1.heap.size + 1, 1, none⟩ = false := (kf 1).trans (by simp [go_sem, *]); clear kc kf; obtain ⟨k11_2, kc, kf⟩ := keepB h11 (v4.heap.size) (by first | omega | (simp; omega) | (simp; done)); have c11_2_0 : v11.cell? ⟨v4.heap.size, 0, none⟩ = some (.int .i64 (Sp.div x x y y).lo) := (kc 0).trans (by simp [go_sem, *]); have f11_2_0 : v11.frozen? ⟨v4.heap.size, 0, none⟩ = false := (kf 0).trans (by simp [go_sem, *]); have c11_2_1 : v11.cell? ⟨v4.heap.size, 1, none⟩ = some (.int .i64 (Sp.div x x y y).hi) := (kc 1).trans (by simp [go_sem, *]); have f11_2_1 : v11.frozen? ⟨v4.heap.size, 1, none⟩ = false := (kf 1).trans (by simp [go_sem, *]); clear kc kf; clear c10_0_0 f10_0_0 c10_0_1 f10_0_1 c10_1_0 f10_1_0 c10_1_1 f10_1_1 c10_2_0 f10_2_0 c10_2_1 f10_2_1))
  go_wp2_with fail
  refine (mod_any _ _ _ _ _).mono ?_
  rintro e v12 ⟨rfl, h12⟩
  have z12 := h12.size
  try simp at z12
  have hB12 : Below w.heap.size w v12 := Below.call (w := w) (by repeat (first | (with_reducible exact Below.refl _ _) | (with_reducible assumption) | refine Below.setCell ?_ (by first | omega | (simp; omega) | (simp; done)) _ | refine Below.alloc ?_ (by first | omega | (simp; omega) | (simp; done)) _ | refine Below.drew ?_)) h12
  obtain ⟨k12_0, kc, kf⟩ := keepB h12 (v1.heap.size) (by first | omega | (simp; omega) | (simp; done))
  have c12_0_0 : v12.cell? ⟨v1.heap.size, 0, none⟩ = some (.int .i64 x) := (kc 0).trans (by simp [go_sem, *])
  have f12_0_0 : v12.frozen? ⟨v1.heap.size, 0, none⟩ = false := (kf 0).trans (by simp [go_sem, *])
  have c12_0_1 : v12.cell? ⟨v1.heap.size, 1, none⟩ = some (.int .i64 x) := (kc 1).trans (by simp [go_sem, *])
  have f12_0_1 : v12.frozen? ⟨v1.heap.size, 1, none⟩ = false := (kf 1).trans (by simp [go_sem, *])
  clear kc kf
  obtain ⟨k12_1, kc, kf⟩ := keepB h12 (v1.heap.size + 1) (by first | omega | (simp; omega) | (simp; done))
  have c12_1_0 : v12.cell? ⟨v1.heap.size + 1, 0, none⟩ = some (.int .i64 y) := (kc 0).trans (by simp [go_sem, *])
  have f12_1_0 : v12.frozen? ⟨v1.heap.size + 1, 0, none⟩ = false := (kf 0).trans (by simp [go_sem, *])
  have c12_1_1 : v12.cell? ⟨v1.heap.size + 1, 1, none⟩ = some (.int .i64 y) := (kc 1).trans (by simp [go_sem, *])
  have f12_1_1 : v12.frozen? ⟨v1.heap.size + 1, 1, none⟩ = false := (kf 1).trans (by simp [go_sem, *])
  clear kc kf
  obtain ⟨k12_2, kc, kf⟩ := keepB h12 (v4.heap.size) (by first | omega | (simp; omega) | (simp; done))
  have c12_2_0 : v12.cell? ⟨v4.heap.size, 0, none⟩ = some (.int .i64 (Sp.div x x y y).lo) := (kc 0).trans (by simp [go_sem, *])
  have f12_2_0 : v12.frozen? ⟨v4.heap.size, 0, none⟩ = false := (kf 0).trans (by simp [go_sem, *])
  have c12_2_1 : v12.cell? ⟨v4.heap.size, 1, none⟩ = some (.int .i64 (Sp.div x x y y).hi) := (kc 1).trans (by simp [go_sem, *])
  have f12_2_1 : v12.frozen? ⟨v4.heap.size, 1, none⟩ = false := (kf 1).trans (by simp [go_sem, *])
  clear kc kf
  clear c11_0_0 f11_0_0 c11_0_1 f11_0_1 c11_1_0 f11_1_0 c11_1_1 f11_1_1 c11_2_0 f11_2_0 c11_2_1 f11_2_1
  go_wp2_with fail
  refine (nmod_any _ _ _).mono ?_
  rintro e _ ⟨rfl, rfl⟩
  go_wp2_with fail
  go_region_held3 (fun w' => w'.cell? ⟨v4.heap.size, 0, none⟩ = some (.int .i64 (Sp.mod x x y y).lo) ∧ w'.cell? ⟨v4.heap.size, 1, none⟩ = some (.int .i64 (Sp.mod x x y y).hi)) (simp [go_sem, *])
    (first
    | (go_at_call 44; refine (zero_any _ _).mono ?_; rintro e w1 ⟨rfl, rfl⟩)
    | (go_at_call 47; refine (exact_any _ _ _ _ _ _ _).mono ?_; rintro e v13 ⟨rfl, h13⟩; have z13 := h13.size; (try simp at z13); have hB13 : Below w.heap.size w v13 := Below.call (w := w) (by repeat (first | (with_reducible exact Below.refl _ _) | (with_reducible assumption) | refine Below.setCell ?_ (by first | omega | (simp; omega) | (simp; done)) _ | refine Below.alloc ?_ (by first | omega | (simp; omega) | (simp; done)) _ | refine Below.drew ?_)) h13; obtain ⟨k13_0, kc, kf⟩ := keepB h13 (v1.heap.size) (by first | omega | (simp; omega) | (simp; done)); have c13_0_0 : v13.cell? ⟨v1.heap.size, 0, none⟩ = some (.int .i64 x) := (kc 0).trans (by simp [go_sem, *]); have f13_0_0 : v13.frozen? ⟨v1.heap.size, 0, none⟩ = false := (kf 0).trans (by simp [go_sem, *]); have c13_0_1 : v13.cell? ⟨v1.heap.size, 1, none⟩ = some (.int .i64 x) := (kc 1).trans (by simp [go_sem, *]); have f13_0_1 : v13.frozen? ⟨v1.heap.size, 1, none⟩ = false := (kf 1).trans (by simp [go_sem, *]); clear kc kf; obtain ⟨k13_1, kc, kf⟩ := keepB h13 (v1.heap.size + 1) (by first | omega | (simp; omega) | (simp; done)); have c13_1_0 : v13.cell? ⟨v1.heap.size + 1, 0, none⟩ = some (.int .i64 y) := (kc 0).trans (by simp [go_sem, *]); have f13_1_0 : v13.frozen? ⟨v1.heap.size + 1, 0, none⟩ = false := (kf 0).trans (by simp [go_sem, *]); have c13_1_1 : v13.cell? ⟨v1.heap.size + 1, 1, none⟩ = some (.int .i64 y) := (kc 1).trans (by simp [go_sem, *]); have f13_1_1 : v13.frozen? ⟨v1.heap.size + 1, 1, none⟩ = false := (kf 1).trans (by simp [go_sem, *]); clear kc kf; obtain ⟨k13_2, kc, kf⟩ := keepB h13 (v4.heap.size) (by first | omega | (simp; omega) | (simp; done)); have c13_2_0 : v13.cell? ⟨v4.heap.size, 0, none⟩ = some (.int .i64 (Sp.mod x x y y).lo) := (kc 0).trans (by simp [go_sem, *]); have f13_2_0 : v13.frozen? ⟨v4.heap.size, 0, none⟩ = false := (kf 0).trans (by simp [go_sem, *]); have c13_2_1 : v13.cell? ⟨v4.heap.size, 1, none⟩ = some (.int .i64 (Sp.mod x x y y).hi) := (kc 1).trans (by simp [go_sem, *]); have f13_2_1 : v13.frozen? ⟨v4.heap.size, 1, none⟩ = false := (kf 1).trans (by simp [go_sem, *]); clear kc kf; clear c12_0_0 f12_0_0 c12_0_1 f12_0_1 c12_1_0 f12_1_0 c12_1_1 f12_1_1 c12_2_0 f12_2_0 c12_2_1 f12_2_1))
  go_wp2_with fail
  refine (neg_any _ _ _).mono ?_
  rintro e v14 ⟨rfl, h14⟩
  have z14 := h14.size
  try simp at z14
  have hB14 : Below w.heap.size w v14 := Below.call (w := w) (by repeat (first | (with_reducible exact Below.refl _ _) | (with_reducible assumption) | refine Below.setCell ?_ (by first | omega | (simp; omega) | (simp; done)) _ | refine Below.alloc ?_ (by first | omega | (simp; omega) | (simp; done)) _ | refine Below.drew ?_)) h14
  obtain ⟨k14_0, kc, kf⟩ := keepB h14 (v1.heap.size) (by first | omega | (simp; omega) | (simp; done))
  have c14_0_0 : v14.cell? ⟨v1.heap.size, 0, none⟩ = some (.int .i64 x) := (kc 0).trans (by simp [go_sem, *])
  have f14_0_0 : v14.frozen? ⟨v1.heap.size, 0, none⟩ = false := (kf 0).trans (by simp [go_sem, *])
  have c14_0_1 : v14.cell? ⟨v1.heap.size, 1, none⟩ = some (.int .i64 x) := (kc 1).trans (by simp [go_sem, *])
  have f14_0_1 : v14.frozen? ⟨v1.heap.size, 1, none⟩ = false := (kf 1).trans (by simp [go_sem, *])
  clear kc kf
  obtain ⟨k14_1, kc, kf⟩ := keepB h14 (v1.heap.size + 1) (by first | omega | (simp; omega) | (simp; done))
  have c14_1_0 : v14.cell? ⟨v1.heap.size + 1, 0, none⟩ = some (.int .i64 y) := (kc 0).trans (by simp [go_sem, *])
  have f14_1_0 : v14.frozen? ⟨v1.heap.size + 1, 0, none⟩ = false := (kf 0).trans (by simp [go_sem, *])
  have c14_1_1 : v14.cell? ⟨v1.heap.size + 1, 1, none⟩ = some (.int .i64 y) := (kc 1).trans (by simp [go_sem, *])
  have f14_1_1 : v14.frozen? ⟨v1.heap.size + 1, 1, none⟩ = false := (kf 1).trans (by simp [go_sem, *])
  clear kc kf
  obtain ⟨k14_2, kc, kf⟩ := keepB h14 (v4.heap.size) (by first | omega | (simp; omega) | (simp; done))
  have c14_2_0 : v14.cell? ⟨v4.heap.size, 0, none⟩ = some (.int .i64 (Sp.mod x x y y).lo) := (kc 0).trans (by simp [go_sem, *])
  have f14_2_0 : v14.frozen? ⟨v4.heap.size, 0, none⟩ = false := (kf 0).trans (by simp [go_sem, *])
  have c14_2_1 : v14.cell? ⟨v4.heap.size, 1, none⟩ = some (.int .i64 (Sp.mod x x y y).hi) := (kc 1).trans (by simp [go_sem, *])
  have f14_2_1 : v14.frozen? ⟨v4.heap.size, 1, none⟩ = false := (kf 1).trans (by simp [go_sem, *])
  clear kc kf
  clear c13_0_0 f13_0_0 c13_0_1 f13_0_1 c13_1_0 f13_1_0 c13_1_1 f13_1_1 c13_2_0 f13_2_0 c13_2_1 f13_2_1
  go_wp2_with fail
  refine (nneg_any _ _).mono ?_
  rintro e _ ⟨rfl, rfl⟩
  go_wp2_with fail
  refine (exact_any _ _ _ _ _ _ _).mono ?_
  rintro e v15 ⟨rfl, h15⟩
  have z15 := h15.size
  try simp at z15
  have hB15 : Below w.heap.size w v15 := Below.call (w := w) (by repeat (first | (with_reducible exact Below.refl _ _) | (with_reducible assumption) | refine Below.setCell ?_ (by first | omega | (simp; omega) | (simp; done)) _ | refine Below.alloc ?_ (by first | omega | (simp; omega) | (simp; done)) _ | refine Below.drew ?_)) h15
  obtain ⟨k15_0, kc, kf⟩ := keepB h15 (v1.heap.size) (by first | omega | (simp; omega) | (simp; done))
  have c15_0_0 : v15.cell? ⟨v1.heap.size, 0, none⟩ = some (.int .i64 x) := (kc 0).trans (by simp [go_sem, *])
  have f15_0_0 : v15.frozen? ⟨v1.heap.size, 0, none⟩ = false := (kf 0).trans (by simp [go_sem, *])
  have c15_0_1 : v15.cell? ⟨v1.heap.size, 1, none⟩ = some (.int .i64 x) := (kc 1).trans (by simp [go_sem, *])
  have f15_0_1 : v15.frozen? ⟨v1.heap.size, 1, none⟩ = false := (kf 1).trans (by simp [go_sem, *])
  clear kc kf
  obtain ⟨k15_1, kc, kf⟩ := keepB h15 (v1.heap.size + 1) (by first | omega | (simp; omega) | (simp; done))
  have c15_1_0 : v15.cell? ⟨v1.heap.size + 1, 0, none⟩ = some (.int .i64 y) := (kc 0).trans (by simp [go_sem, *])
  have f15_1_0 : v15.frozen? ⟨v1.heap.size + 1, 0, none⟩ = false := (kf 0).trans (by simp [go_sem, *])
  have c15_1_1 : v15.cell? ⟨v1.heap.size + 1, 1, none⟩ = some (.int .i64 y) := (kc 1).trans (by simp [go_sem, *])
  have f15_1_1 : v15.frozen? ⟨v1.heap.size + 1, 1, none⟩ = false := (kf 1).trans (by simp [go_sem, *])
  clear kc kf
  obtain ⟨k15_2, kc, kf⟩ := keepB h15 (v4.heap.size) (by first | omega | (simp; omega) | (simp; done))
  have c15_2_0 : v15.cell? ⟨v4.heap.size, 0, none⟩ = some (.int .i64 (Sp.neg x x).lo) := (kc 0).trans (by simp [go_sem, *])
  have f15_2_0 : v15.frozen? ⟨v4.heap.size, 0, none⟩ = false := (kf 0).trans (by simp [go_sem, *])
  have c15_2_1 : v15.cell? ⟨v4.heap.size, 1, none⟩ = some (.int .i64 (Sp.neg x x).hi) := (kc 1).trans (by simp [go_sem, *])
  have f15_2_1 : v15.frozen? ⟨v4.heap.size, 1, none⟩ = false := (kf 1).trans (by simp [go_sem, *])
  clear kc kf
  clear c14_0_0 f14_0_0 c14_0_1 f14_0_1 c14_1_0 f14_1_0 c14_1_1 f14_1_1 c14_2_0 f14_2_0 c14_2_1 f14_2_1
  go_wp2_with fail
  refine (value_pt _ _ ha).mono ?_
  rintro e v16 ⟨rfl, h16⟩
  have z16 := h16.size
  try simp at z16
  have hB16 : Below w.heap.size w v16 := Below.call (w := w) (by repeat (first | (with_reducible exact Below.refl _ _) | (with_reducible assumption) | refine Below.setCell ?_ (by first | omega | (simp; omega) | (simp; done)) _ | refine Below.alloc ?_ (by first | omega | (simp; omega) | (simp; done)) _ | refine Below.drew ?_)) h16
  obtain ⟨k16_0, kc, kf⟩ := keepB h16 (v1.heap.size) (by first | omega | (simp; omega) | (simp; done))
  have c16_0_0 : v16.cell? ⟨v1.heap.size, 0, none⟩ = some (.int .i64 x) := (kc 0).trans (by simp [go_sem, *])
  have f16_0_0 : v16.frozen? ⟨v1.heap.size, 0, none⟩ = false := (kf 0).trans (by simp [go_sem, *])
  have c16_0_1 : v16.cell? ⟨v1.heap.size, 1, none⟩ = some (.int .i64 x) := (kc 1).trans (by simp [go_sem, *])
  have f16_0_1 : v16.frozen? ⟨v1.heap.size, 1, none⟩ = false := (kf 1).trans (by simp [go_sem, *])
  clear kc kf
  obtain ⟨k16_1, kc, kf⟩ := keepB h16 (v1.heap.size + 1) (by first | omega | (simp; omega) | (simp; done))
  have c16_1_0 : v16.cell? ⟨v1.heap.size + 1, 0, none⟩ = some (.int .i64 y) := (kc 0).trans (by simp [go_sem, *])
  have f16_1_0 : v16.frozen? ⟨v1.heap.size + 1, 0, none⟩ = false := (kf 0).trans (by simp [go_sem, *])
  have c16_1_1 : v16.cell? ⟨v1.heap.size + 1, 1, none⟩ = some (.int .i64 y) := (kc 1).trans (by simp [go_sem, *])
  have f16_1_1 : v16.frozen? ⟨v1.heap.size + 1, 1, none⟩ = false := (kf 1).trans (by simp [go_sem, *])
  clear kc kf
  obtain ⟨k16_2, kc, kf⟩ := keepB h16 (v4.heap.size) (by first | omega | (simp; omega) | (simp; done))
  have c16_2_0 : v16.cell? ⟨v4.heap.size, 0, none⟩ = some (.int .i64 (Sp.neg x x).lo) := (kc 0).trans (by simp [go_sem, *])
  have f16_2_0 : v16.frozen? ⟨v4.heap.size, 0, none⟩ = false := (kf 0).trans (by simp [go_sem, *])
  have c16_2_1 : v16.cell? ⟨v4.heap.size, 1, none⟩ = some (.int .i64 (Sp.neg x x).hi) := (kc 1).trans (by simp [go_sem, *])
  have f16_2_1 : v16.frozen? ⟨v4.heap.size, 1, none⟩ = false := (kf 1).trans (by simp [go_sem, *])
  clear kc kf
  clear c15_0_0 f15_0_0 c15_0_1 f15_0_1 c15_1_0 f15_1_0 c15_1_1 f15_1_1 c15_2_0 f15_2_0 c15_2_1 f15_2_1
  go_wp2_with fail
  refine (of_pt _ _ ha).mono ?_
  rintro e v17 ⟨rfl, h17⟩
  have z17 := h17.size
  try simp at z17
  have hB17 : Below w.heap.size w v17 := Below.call (w := w) (by repeat (first | (with_reducible exact Below.refl _ _) | (with_reducible assumption) | refine Below.setCell ?_ (by first | omega | (simp; omega) | (simp; done)) _ | refine Below.alloc ?_ (by first | omega | (simp; omega) | (simp; done)) _ | refine Below.drew ?_)) h17
  obtain ⟨k17_0, kc, kf⟩ := keepB h17 (v1.heap.size) (by first | omega | (simp; omega) | (simp; done))
  have c17_0_0 : v17.cell? ⟨v1.heap.size, 0, none⟩ = some (.int .i64 x) := (kc 0).trans (by simp [go_sem, *])
  have f17_0_0 : v17.frozen? ⟨v1.heap.size, 0, none⟩ = false := (kf 0).trans (by simp [go_sem, *])
  have c17_0_1 : v17.cell? ⟨v1.heap.size, 1, none⟩ = some (.int .i64 x) := (kc 1).trans (by simp [go_sem, *])
  have f17_0_1 : v17.frozen? ⟨v1.heap.size, 1, none⟩ = false := (kf 1).trans (by simp [go_sem, *])
  clear kc kf
  obtain ⟨k17_1, kc, kf⟩ := keepB h17 (v1.heap.size + 1) (by first | omega | (simp; omega) | (simp; done))
  have c17_1_0 : v17.cell? ⟨v1.heap.size + 1, 0, none⟩ = some (.int .i64 y) := (kc 0).trans (by simp [go_sem, *])
  have f17_1_0 : v17.frozen? ⟨v1.heap.size + 1, 0, none⟩ = false := (kf 0).trans (by simp [go_sem, *])
  have c17_1_1 : v17.cell? ⟨v1.heap.size + 1, 1, none⟩ = some (.int .i64 y) := (kc 1).trans (by simp [go_sem, *])
  have f17_1_1 : v17.frozen? ⟨v1.heap.size + 1, 1, none⟩ = false := (kf 1).trans (by simp [go_sem, *])
  clear kc kf
  obtain ⟨k17_2, kc, kf⟩ := keepB h17 (v4.heap.size) (by first | omega | (simp; omega) | (simp; done))
  have c17_2_0 : v17.cell? ⟨v4.heap.size, 0, none⟩ = some (.int .i64 (Sp.neg x x).lo) := (kc 0).trans (by simp [go_sem, *])
  have f17_2_0 : v17.frozen? ⟨v4.heap.size, 0, none⟩ = false := (kf 0).trans (by simp [go_sem, *])
  have c17_2_1 : v17.cell? ⟨v4.heap.size, 1, none⟩ = some (.int .i64 (Sp.neg x x).hi) := (kc 1).trans (by simp [go_sem, *])
  have f17_2_1 : v17.frozen? ⟨v4.heap.size, 1, none⟩ = false := (kf 1).trans (by simp [go_sem, *])
  clear kc kf
  clear c16_0_0 f16_0_0 c16_0_1 f16_0_1 c16_1_0 f16_1_0 c16_1_1 f16_1_1 c16_2_0 f16_2_0 c16_2_1 f16_2_1
  go_wp2_with (first
    | (go_at_call 17; refine (less_any _ _ _ _ _).mono ?_; rintro e w1 ⟨rfl, hw1⟩; have hz := hw1.size; (try simp at hz); have hB : Below w.heap.size w w1 := Below.call (w := w) (by repeat (first | (with_reducible exact Below.refl _ _) | (with_reducible assumption) | refine Below.setCell ?_ (by first | omega | (simp; omega) | (simp; done)) _ | refine Below.alloc ?_ (by first | omega | (simp; omega) | (simp; done)) _ | refine Below.drew ?_)) hw1; (try obtain ⟨k1, k2, k3⟩ := keepB hw1 (v1.heap.size) (by first | omega | (simp; omega) | (simp; done))); (try obtain ⟨k1, k2, k3⟩ := keepB hw1 (v1.heap.size + 1) (by first | omega | (simp; omega) | (simp; done))); (try obtain ⟨k1, k2, k3⟩ := keepB hw1 (v17.heap.size) (by first | omega | (simp; omega) | (simp; done))))
    | (go_at_call 18; refine (lessEq_any _ _ _ _ _).mono ?_; rintro e w1 ⟨rfl, hw1⟩; have hz := hw1.size; (try simp at hz); have hB : Below w.heap.size w w1 := Below.call (w := w) (by repeat (first | (with_reducible exact Below.refl _ _) | (with_reducible assumption) | refine Below.setCell ?_ (by first | omega | (simp; omega) | (simp; done)) _ | refine Below.alloc ?_ (by first | omega | (simp; omega) | (simp; done)) _ | refine Below.drew ?_)) hw1; (try obtain ⟨k1, k2, k3⟩ := keepB hw1 (v1.heap.size) (by first | omega | (simp; omega) | (simp; done))); (try obtain ⟨k1, k2, k3⟩ := keepB hw1 (v1.heap.size + 1) (by first | omega | (simp; omega) | (simp; done))); (try obtain ⟨k1, k2, k3⟩ := keepB hw1 (v17.heap.size) (by first | omega | (simp; omega) | (simp; done))))
    | (go_at_call 19; refine (equal_any _ _ _ _ _).mono ?_; rintro e w1 ⟨rfl, hw1⟩; have hz := hw1.size; (try simp at hz); have hB : Below w.heap.size w w1 := Below.call (w := w) (by repeat (first | (with_reducible exact Below.refl _ _) | (with_reducible assumption) | refine Below.setCell ?_ (by first | omega | (simp; omega) | (simp; done)) _ | refine Below.alloc ?_ (by first | omega | (simp; omega) | (simp; done)) _ | refine Below.drew ?_)) hw1; (try obtain ⟨k1, k2, k3⟩ := keepB hw1 (v1.heap.size) (by first | omega | (simp; omega) | (simp; done))); (try obtain ⟨k1, k2, k3⟩ := keepB hw1 (v1.heap.size + 1) (by first | omega | (simp; omega) | (simp; done))); (try obtain ⟨k1, k2, k3⟩ := keepB hw1 (v17.heap.size) (by first | omega | (simp; omega) | (simp; done)))))
  all_goals
    go_ret
    exact ⟨rfl, hB⟩

set_option maxRecDepth 100000 in
set_option maxHeartbeats 2000000 in
theorem points_out0 (x y : Int) (w : World) (ha : Sp.right x x = false) :
    Calls Try.prog 7 #[.int .i64 x, .int .i64 y] w fun e w' => e = .returned (.bool true) ∧ Below w.heap.size w w' := by
  go_enter Try.func7, Try.ntmps7
  go_wp2_with fail
  refine (small_any _).mono ?_
  rintro e v1 ⟨rfl, h1⟩
  have z1 := h1.size
  try simp at z1
  have hB1 : Below w.heap.size w v1 := Below.call (w := w) (by repeat (first | (with_reducible exact Below.refl _ _) | (with_reducible assumption) | refine Below.setCell ?_ (by first | omega | (simp; omega) | (simp; done)) _ | refine Below.alloc ?_ (by first | omega | (simp; omega) | (simp; done)) _ | refine Below.drew ?_)) h1
  go_wp2_with fail
  refine (right_any _ _ _).mono ?_
  rintro e v2 ⟨rfl, h2⟩
  have z2 := h2.size
  try simp at z2
  have hB2 : Below w.heap.size w v2 := Below.call (w := w) (by repeat (first | (with_reducible exact Below.refl _ _) | (with_reducible assumption) | refine Below.setCell ?_ (by first | omega | (simp; omega) | (simp; done)) _ | refine Below.alloc ?_ (by first | omega | (simp; omega) | (simp; done)) _ | refine Below.drew ?_)) h2
  obtain ⟨k2_0, kc, kf⟩ := keepB h2 (v1.heap.size) (by first | omega | (simp; omega) | (simp; done))
  have c2_0_0 : v2.cell? ⟨v1.heap.size, 0, none⟩ = some (.int .i64 x) := (kc 0).trans (by simp [go_sem, *])
  have f2_0_0 : v2.frozen? ⟨v1.heap.size, 0, none⟩ = false := (kf 0).trans (by simp [go_sem, *])
  have c2_0_1 : v2.cell? ⟨v1.heap.size, 1, none⟩ = some (.int .i64 x) := (kc 1).trans (by simp [go_sem, *])
  have f2_0_1 : v2.frozen? ⟨v1.heap.size, 1, none⟩ = false := (kf 1).trans (by simp [go_sem, *])
  clear kc kf
  obtain ⟨k2_1, kc, kf⟩ := keepB h2 (v1.heap.size + 1) (by first | omega | (simp; omega) | (simp; done))
  have c2_1_0 : v2.cell? ⟨v1.heap.size + 1, 0, none⟩ = some (.int .i64 y) := (kc 0).trans (by simp [go_sem, *])
  have f2_1_0 : v2.frozen? ⟨v1.heap.size + 1, 0, none⟩ = false := (kf 0).trans (by simp [go_sem, *])
  have c2_1_1 : v2.cell? ⟨v1.heap.size + 1, 1, none⟩ = some (.int .i64 y) := (kc 1).trans (by simp [go_sem, *])
  have f2_1_1 : v2.frozen? ⟨v1.heap.size + 1, 1, none⟩ = false := (kf 1).trans (by simp [go_sem, *])
  clear kc kf
  go_wp2
  go_ret
  exact ⟨rfl, by with_reducible assumption⟩

set_option maxRecDepth 100000 in
set_option maxHeartbeats 2000000 in
theorem points_out1 (x y : Int) (w : World) (ha : Sp.right x x = true) (hb : Sp.right y y = false) :
    Calls Try.prog 7 #[.int .i64 x, .int .i64 y] w fun e w' => e = .returned (.bool true) ∧ Below w.heap.size w w' := by
  go_enter Try.func7, Try.ntmps7
  go_wp2_with fail
  refine (small_any _).mono ?_
  rintro e v1 ⟨rfl, h1⟩
  have z1 := h1.size
  try simp at z1
  have hB1 : Below w.heap.size w v1 := Below.call (w := w) (by repeat (first | (with_reducible exact Below.refl _ _) | (with_reducible assumption) | refine Below.setCell ?_ (by first | omega | (simp; omega) | (simp; done)) _ | refine Below.alloc ?_ (by first | omega | (simp; omega) | (simp; done)) _ | refine Below.drew ?_)) h1
  go_wp2_with fail
  refine (right_any _ _ _).mono ?_
  rintro e v2 ⟨rfl, h2⟩
  have z2 := h2.size
  try simp at z2
  have hB2 : Below w.heap.size w v2 := Below.call (w := w) (by repeat (first | (with_reducible exact Below.refl _ _) | (with_reducible assumption) | refine Below.setCell ?_ (by first | omega | (simp; omega) | (simp; done)) _ | refine Below.alloc ?_ (by first | omega | (simp; omega) | (simp; done)) _ | refine Below.drew ?_)) h2
  obtain ⟨k2_0, kc, kf⟩ := keepB h2 (v1.heap.size) (by first | omega | (simp; omega) | (simp; done))
  have c2_0_0 : v2.cell? ⟨v1.heap.size, 0, none⟩ = some (.int .i64 x) := (kc 0).trans (by simp [go_sem, *])
  have f2_0_0 : v2.frozen? ⟨v1.heap.size, 0, none⟩ = false := (kf 0).trans (by simp [go_sem, *])
  have c2_0_1 : v2.cell? ⟨v1.heap.size, 1, none⟩ = some (.int .i64 x) := (kc 1).trans (by simp [go_sem, *])
  have f2_0_1 : v2.frozen? ⟨v1.heap.size, 1, none⟩ = false := (kf 1).trans (by simp [go_sem, *])
  clear kc kf
  obtain ⟨k2_1, kc, kf⟩ := keepB h2 (v1.heap.size + 1) (by first | omega | (simp; omega) | (simp; done))
  have c2_1_0 : v2.cell? ⟨v1.heap.size + 1, 0, none⟩ = some (.int .i64 y) := (kc 0).trans (by simp [go_sem, *])
  have f2_1_0 : v2.frozen? ⟨v1.heap.size + 1, 0, none⟩ = false := (kf 0).trans (by simp [go_sem, *])
  have c2_1_1 : v2.cell? ⟨v1.heap.size + 1, 1, none⟩ = some (.int .i64 y) := (kc 1).trans (by simp [go_sem, *])
  have f2_1_1 : v2.frozen? ⟨v1.heap.size + 1, 1, none⟩ = false := (kf 1).trans (by simp [go_sem, *])
  clear kc kf
  go_wp2_with fail
  refine (right_any _ _ _).mono ?_
  rintro e v3 ⟨rfl, h3⟩
  have z3 := h3.size
  try simp at z3
  have hB3 : Below w.heap.size w v3 := Below.call (w := w) (by repeat (first | (with_reducible exact Below.refl _ _) | (with_reducible assumption) | refine Below.setCell ?_ (by first | omega | (simp; omega) | (simp; done)) _ | refine Below.alloc ?_ (by first | omega | (simp; omega) | (simp; done)) _ | refine Below.drew ?_)) h3
  obtain ⟨k3_0, kc, kf⟩ := keepB h3 (v1.heap.size) (by first | omega | (simp; omega) | (simp; done))
  have c3_0_0 : v3.cell? ⟨v1.heap.size, 0, none⟩ = some (.int .i64 x) := (kc 0).trans (by simp [go_sem, *])
  have f3_0_0 : v3.frozen? ⟨v1.heap.size, 0, none⟩ = false := (kf 0).trans (by simp [go_sem, *])
  have c3_0_1 : v3.cell? ⟨v1.heap.size, 1, none⟩ = some (.int .i64 x) := (kc 1).trans (by simp [go_sem, *])
  have f3_0_1 : v3.frozen? ⟨v1.heap.size, 1, none⟩ = false := (kf 1).trans (by simp [go_sem, *])
  clear kc kf
  obtain ⟨k3_1, kc, kf⟩ := keepB h3 (v1.heap.size + 1) (by first | omega | (simp; omega) | (simp; done))
  have c3_1_0 : v3.cell? ⟨v1.heap.size + 1, 0, none⟩ = some (.int .i64 y) := (kc 0).trans (by simp [go_sem, *])
  have f3_1_0 : v3.frozen? ⟨v1.heap.size + 1, 0, none⟩ = false := (kf 0).trans (by simp [go_sem, *])
  have c3_1_1 : v3.cell? ⟨v1.heap.size + 1, 1, none⟩ = some (.int .i64 y) := (kc 1).trans (by simp [go_sem, *])
  have f3_1_1 : v3.frozen? ⟨v1.heap.size + 1, 1, none⟩ = false := (kf 1).trans (by simp [go_sem, *])
  clear kc kf
  clear c2_0_0 f2_0_0 c2_0_1 f2_0_1 c2_1_0 f2_1_0 c2_1_1 f2_1_1
  go_wp2
  go_ret
  exact ⟨rfl, by with_reducible assumption⟩

theorem points_any (x y : Int) (w : World) :
    Calls Try.prog 7 #[.int .i64 x, .int .i64 y] w fun e w' => e = .returned (.bool true) ∧ Below w.heap.size w w' := by
  cases ha : Sp.right x x with
  | false => exact points_out0 x y w ha
  | true =>
    cases hb : Sp.right y y with
    | false => exact points_out1 x y w ha hb
    | true => exact points_walk x y w ha hb
end Go.Proofs.Ytjdppnkmhgihnaa
