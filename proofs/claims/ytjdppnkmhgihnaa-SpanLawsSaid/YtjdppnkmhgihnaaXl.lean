/- The walk of SpanLaws. -/
import Derived.Test.YtjdppnkmhgihnaaWi
import Derived.Test.YtjdppnkmhgihnaaLawc
namespace Go.Proofs.Ytjdppnkmhgihnaa
open Go.RowKit

theorem add_flip (al ah bl bh : Int) (r : Sp.R) (w : World) (h : Sp.add al ah bl bh = r) : Calls Try.prog 11 #[.agg #[.int .i64 al, .int .i64 ah], .agg #[.int .i64 bl, .int .i64 bh]] w fun e w' => e = .returned (.tuple #[.agg #[.int .i64 r.lo, .int .i64 r.hi], .int .i64 r.f]) ∧ Below w.heap.size w w' := by
  subst h; exact add_any al ah bl bh w
theorem mul_flip (al ah bl bh : Int) (r : Sp.R) (w : World) (h : Sp.mul al ah bl bh = r) : Calls Try.prog 14 #[.agg #[.int .i64 al, .int .i64 ah], .agg #[.int .i64 bl, .int .i64 bh]] w fun e w' => e = .returned (.tuple #[.agg #[.int .i64 r.lo, .int .i64 r.hi], .int .i64 r.f]) ∧ Below w.heap.size w w' := by
  subst h; exact mul_any al ah bl bh w
theorem sub_flip (al ah bl bh : Int) (r : Sp.R) (w : World) (h : Sp.sub al ah bl bh = r) : Calls Try.prog 13 #[.agg #[.int .i64 al, .int .i64 ah], .agg #[.int .i64 bl, .int .i64 bh]] w fun e w' => e = .returned (.tuple #[.agg #[.int .i64 r.lo, .int .i64 r.hi], .int .i64 r.f]) ∧ Below w.heap.size w w' := by
  subst h; exact sub_any al ah bl bh w
theorem neg_flip (al ah : Int) (l h f : Int) (w : World) (hh : Sp.neg al ah = ⟨l, h, f⟩) : Calls Try.prog 20 #[.agg #[.int .i64 al, .int .i64 ah]] w fun e w' => e = .returned (.tuple #[.agg #[.int .i64 l, .int .i64 h], .int .i64 f]) ∧ Below w.heap.size w w' := by
  have := neg_any al ah w
  rw [hh] at this
  exact this

set_option maxRecDepth 100000 in
set_option maxHeartbeats 8000000 in
theorem laws_walk (al ah bl bh : Int) (w : World) (ha : Sp.right al ah = true) (hb : Sp.right bl bh = true) :
    Calls Try.prog 4 #[.agg #[.int .i64 al, .int .i64 ah], .agg #[.int .i64 bl, .int .i64 bh]] w fun e w' => e = .returned (.bool true) ∧ Below w.heap.size w w' := by
  obtain ⟨l1, l2⟩ := Sp.less_lessEq ha hb
  obtain ⟨r1, e1⟩ : ∃ r, r = Sp.add al ah bl bh := ⟨_, rfl⟩
  obtain ⟨r2, e2⟩ : ∃ r, r = Sp.mul al ah bl bh := ⟨_, rfl⟩
  obtain ⟨r3, e3⟩ : ∃ r, r = Sp.add al ah (-bh) (-bl) := ⟨_, rfl⟩
  have E1 := Lib.hid e1.symm
  have E1' := Lib.hid ((Sp.add_comm ha hb).symm.trans e1.symm)
  have E2 := Lib.hid e2.symm
  have E2' := Lib.hid ((Sp.mul_comm ha hb).symm.trans e2.symm)
  have E3 := Lib.hid e3.symm
  have E3' := Lib.hid ((Sp.sub_add ha hb).trans e3.symm)
  have E4 := Lib.hid (Sp.neg_val hb)
  have E5 := Lib.hid (show Sp.neg (-bh) (-bl) = ⟨bl, bh, 0⟩ by rw [Sp.neg_val (Sp.neg_right hb)]; simp)
  have E6 := Lib.hid (Sp.equal_comm (al := al) (ah := ah) (bl := bl) (bh := bh)).symm
  clear e1 e2 e3
  have hfl := fun (wz : World) => equal_any bl bh al ah wz
  rw [E6.out] at hfl
  have HFL := Lib.hid hfl
  clear hfl
  go_enter Try.func4, Try.ntmps4
  go_wp2_with fail
  refine (small_any _).mono ?_
  rintro e v1 ⟨rfl, h1⟩
  have z1 := h1.size
  try simp at z1
  have hB1 : Below w.heap.size w v1 := Below.call (w := w) (by repeat (first | (with_reducible exact Below.refl _ _) | (with_reducible assumption) | refine Below.setCell ?_ (by first | omega | (simp; omega) | (simp; done)) _ | refine Below.alloc ?_ (by first | omega | (simp; omega) | (simp; done)) _ | refine Below.drew ?_)) h1
  obtain ⟨k1_0, kc, kf⟩ := keepB h1 (w.heap.size) (by first | omega | (simp; omega) | (simp; done))
  have c1_0_0 : v1.cell? ⟨w.heap.size, 0, none⟩ = some (.int .i64 al) := (kc 0).trans (by simp [go_sem, *])
  have f1_0_0 : v1.frozen? ⟨w.heap.size, 0, none⟩ = false := (kf 0).trans (by simp [go_sem, *])
  have c1_0_1 : v1.cell? ⟨w.heap.size, 1, none⟩ = some (.int .i64 ah) := (kc 1).trans (by simp [go_sem, *])
  have f1_0_1 : v1.frozen? ⟨w.heap.size, 1, none⟩ = false := (kf 1).trans (by simp [go_sem, *])
  clear kc kf
  obtain ⟨k1_1, kc, kf⟩ := keepB h1 (w.heap.size + 1) (by first | omega | (simp; omega) | (simp; done))
  have c1_1_0 : v1.cell? ⟨w.heap.size + 1, 0, none⟩ = some (.int .i64 bl) := (kc 0).trans (by simp [go_sem, *])
  have f1_1_0 : v1.frozen? ⟨w.heap.size + 1, 0, none⟩ = false := (kf 0).trans (by simp [go_sem, *])
  have c1_1_1 : v1.cell? ⟨w.heap.size + 1, 1, none⟩ = some (.int .i64 bh) := (kc 1).trans (by simp [go_sem, *])
  have f1_1_1 : v1.frozen? ⟨w.heap.size + 1, 1, none⟩ = false := (kf 1).trans (by simp [go_sem, *])
  clear kc kf
  go_wp2_with fail
  refine (right_any _ _ _).mono ?_
  rintro e v2 ⟨rfl, h2⟩
  have z2 := h2.size
  try simp at z2
  have hB2 : Below w.heap.size w v2 := Below.call (w := w) (by repeat (first | (with_reducible exact Below.refl _ _) | (with_reducible assumption) | refine Below.setCell ?_ (by first | omega | (simp; omega) | (simp; done)) _ | refine Below.alloc ?_ (by first | omega | (simp; omega) | (simp; done)) _ | refine Below.drew ?_)) h2
  obtain ⟨k2_0, kc, kf⟩ := keepB h2 (w.heap.size) (by first | omega | (simp; omega) | (simp; done))
  have c2_0_0 : v2.cell? ⟨w.heap.size, 0, none⟩ = some (.int .i64 al) := (kc 0).trans (by simp [go_sem, *])
  have f2_0_0 : v2.frozen? ⟨w.heap.size, 0, none⟩ = false := (kf 0).trans (by simp [go_sem, *])
  have c2_0_1 : v2.cell? ⟨w.heap.size, 1, none⟩ = some (.int .i64 ah) := (kc 1).trans (by simp [go_sem, *])
  have f2_0_1 : v2.frozen? ⟨w.heap.size, 1, none⟩ = false := (kf 1).trans (by simp [go_sem, *])
  clear kc kf
  obtain ⟨k2_1, kc, kf⟩ := keepB h2 (w.heap.size + 1) (by first | omega | (simp; omega) | (simp; done))
  have c2_1_0 : v2.cell? ⟨w.heap.size + 1, 0, none⟩ = some (.int .i64 bl) := (kc 0).trans (by simp [go_sem, *])
  have f2_1_0 : v2.frozen? ⟨w.heap.size + 1, 0, none⟩ = false := (kf 0).trans (by simp [go_sem, *])
  have c2_1_1 : v2.cell? ⟨w.heap.size + 1, 1, none⟩ = some (.int .i64 bh) := (kc 1).trans (by simp [go_sem, *])
  have f2_1_1 : v2.frozen? ⟨w.heap.size + 1, 1, none⟩ = false := (kf 1).trans (by simp [go_sem, *])
  clear kc kf
  clear c1_0_0 f1_0_0 c1_0_1 f1_0_1 c1_1_0 f1_1_0 c1_1_1 f1_1_1
  go_wp2_with fail
  refine (right_any _ _ _).mono ?_
  rintro e v3 ⟨rfl, h3⟩
  have z3 := h3.size
  try simp at z3
  have hB3 : Below w.heap.size w v3 := Below.call (w := w) (by repeat (first | (with_reducible exact Below.refl _ _) | (with_reducible assumption) | refine Below.setCell ?_ (by first | omega | (simp; omega) | (simp; done)) _ | refine Below.alloc ?_ (by first | omega | (simp; omega) | (simp; done)) _ | refine Below.drew ?_)) h3
  obtain ⟨k3_0, kc, kf⟩ := keepB h3 (w.heap.size) (by first | omega | (simp; omega) | (simp; done))
  have c3_0_0 : v3.cell? ⟨w.heap.size, 0, none⟩ = some (.int .i64 al) := (kc 0).trans (by simp [go_sem, *])
  have f3_0_0 : v3.frozen? ⟨w.heap.size, 0, none⟩ = false := (kf 0).trans (by simp [go_sem, *])
  have c3_0_1 : v3.cell? ⟨w.heap.size, 1, none⟩ = some (.int .i64 ah) := (kc 1).trans (by simp [go_sem, *])
  have f3_0_1 : v3.frozen? ⟨w.heap.size, 1, none⟩ = false := (kf 1).trans (by simp [go_sem, *])
  clear kc kf
  obtain ⟨k3_1, kc, kf⟩ := keepB h3 (w.heap.size + 1) (by first | omega | (simp; omega) | (simp; done))
  have c3_1_0 : v3.cell? ⟨w.heap.size + 1, 0, none⟩ = some (.int .i64 bl) := (kc 0).trans (by simp [go_sem, *])
  have f3_1_0 : v3.frozen? ⟨w.heap.size + 1, 0, none⟩ = false := (kf 0).trans (by simp [go_sem, *])
  have c3_1_1 : v3.cell? ⟨w.heap.size + 1, 1, none⟩ = some (.int .i64 bh) := (kc 1).trans (by simp [go_sem, *])
  have f3_1_1 : v3.frozen? ⟨w.heap.size + 1, 1, none⟩ = false := (kf 1).trans (by simp [go_sem, *])
  clear kc kf
  clear c2_0_0 f2_0_0 c2_0_1 f2_0_1 c2_1_0 f2_1_0 c2_1_1 f2_1_1
  go_wp2_with fail
  refine (add_flip _ _ _ _ r1 _ E1.out).mono ?_
  rintro e v4 ⟨rfl, h4⟩
  have z4 := h4.size
  try simp at z4
  have hB4 : Below w.heap.size w v4 := Below.call (w := w) (by repeat (first | (with_reducible exact Below.refl _ _) | (with_reducible assumption) | refine Below.setCell ?_ (by first | omega | (simp; omega) | (simp; done)) _ | refine Below.alloc ?_ (by first | omega | (simp; omega) | (simp; done)) _ | refine Below.drew ?_)) h4
  obtain ⟨k4_0, kc, kf⟩ := keepB h4 (w.heap.size) (by first | omega | (simp; omega) | (simp; done))
  have c4_0_0 : v4.cell? ⟨w.heap.size, 0, none⟩ = some (.int .i64 al) := (kc 0).trans (by simp [go_sem, *])
  have f4_0_0 : v4.frozen? ⟨w.heap.size, 0, none⟩ = false := (kf 0).trans (by simp [go_sem, *])
  have c4_0_1 : v4.cell? ⟨w.heap.size, 1, none⟩ = some (.int .i64 ah) := (kc 1).trans (by simp [go_sem, *])
  have f4_0_1 : v4.frozen? ⟨w.heap.size, 1, none⟩ = false := (kf 1).trans (by simp [go_sem, *])
  clear kc kf
  obtain ⟨k4_1, kc, kf⟩ := keepB h4 (w.heap.size + 1) (by first | omega | (simp; omega) | (simp; done))
  have c4_1_0 : v4.cell? ⟨w.heap.size + 1, 0, none⟩ = some (.int .i64 bl) := (kc 0).trans (by simp [go_sem, *])
  have f4_1_0 : v4.frozen? ⟨w.heap.size + 1, 0, none⟩ = false := (kf 0).trans (by simp [go_sem, *])
  have c4_1_1 : v4.cell? ⟨w.heap.size + 1, 1, none⟩ = some (.int .i64 bh) := (kc 1).trans (by simp [go_sem, *])
  have f4_1_1 : v4.frozen? ⟨w.heap.size + 1, 1, none⟩ = false := (kf 1).trans (by simp [go_sem, *])
  clear kc kf
  clear c3_0_0 f3_0_0 c3_0_1 f3_0_1 c3_1_0 f3_1_0 c3_1_1 f3_1_1
  go_wp2_with fail
  refine (add_flip _ _ _ _ r1 _ E1'.out).mono ?_
  rintro e v5 ⟨rfl, h5⟩
  have z5 := h5.size
  try simp at z5
  have hB5 : Below w.heap.size w v5 := Below.call (w := w) (by repeat (first | (with_reducible exact Below.refl _ _) | (with_reducible assumption) | refine Below.setCell ?_ (by first | omega | (simp; omega) | (simp; done)) _ | refine Below.alloc ?_ (by first | omega | (simp; omega) | (simp; done)) _ | refine Below.drew ?_)) h5
  obtain ⟨k5_0, kc, kf⟩ := keepB h5 (w.heap.size) (by first | omega | (simp; omega) | (simp; done))
  have c5_0_0 : v5.cell? ⟨w.heap.size, 0, none⟩ = some (.int .i64 al) := (kc 0).trans (by simp [go_sem, *])
  have f5_0_0 : v5.frozen? ⟨w.heap.size, 0, none⟩ = false := (kf 0).trans (by simp [go_sem, *])
  have c5_0_1 : v5.cell? ⟨w.heap.size, 1, none⟩ = some (.int .i64 ah) := (kc 1).trans (by simp [go_sem, *])
  have f5_0_1 : v5.frozen? ⟨w.heap.size, 1, none⟩ = false := (kf 1).trans (by simp [go_sem, *])
  clear kc kf
  obtain ⟨k5_1, kc, kf⟩ := keepB h5 (w.heap.size + 1) (by first | omega | (simp; omega) | (simp; done))
  have c5_1_0 : v5.cell? ⟨w.heap.size + 1, 0, none⟩ = some (.int .i64 bl) := (kc 0).trans (by simp [go_sem, *])
  have f5_1_0 : v5.frozen? ⟨w.heap.size + 1, 0, none⟩ = false := (kf 0).trans (by simp [go_sem, *])
  have c5_1_1 : v5.cell? ⟨w.heap.size + 1, 1, none⟩ = some (.int .i64 bh) := (kc 1).trans (by simp [go_sem, *])
  have f5_1_1 : v5.frozen? ⟨w.heap.size + 1, 1, none⟩ = false := (kf 1).trans (by simp [go_sem, *])
  clear kc kf
  obtain ⟨k5_2, kc, kf⟩ := keepB h5 (v4.heap.size) (by first | omega | (simp; omega) | (simp; done))
  have c5_2_0 : v5.cell? ⟨v4.heap.size, 0, none⟩ = some (.int .i64 r1.lo) := (kc 0).trans (by simp [go_sem, *])
  have f5_2_0 : v5.frozen? ⟨v4.heap.size, 0, none⟩ = false := (kf 0).trans (by simp [go_sem, *])
  have c5_2_1 : v5.cell? ⟨v4.heap.size, 1, none⟩ = some (.int .i64 r1.hi) := (kc 1).trans (by simp [go_sem, *])
  have f5_2_1 : v5.frozen? ⟨v4.heap.size, 1, none⟩ = false := (kf 1).trans (by simp [go_sem, *])
  clear kc kf
  clear c4_0_0 f4_0_0 c4_0_1 f4_0_1 c4_1_0 f4_1_0 c4_1_1 f4_1_1
  go_wp2_with fail
  refine (mul_flip _ _ _ _ r2 _ E2.out).mono ?_
  rintro e v6 ⟨rfl, h6⟩
  have z6 := h6.size
  try simp at z6
  have hB6 : Below w.heap.size w v6 := Below.call (w := w) (by repeat (first | (with_reducible exact Below.refl _ _) | (with_reducible assumption) | refine Below.setCell ?_ (by first | omega | (simp; omega) | (simp; done)) _ | refine Below.alloc ?_ (by first | omega | (simp; omega) | (simp; done)) _ | refine Below.drew ?_)) h6
  obtain ⟨k6_0, kc, kf⟩ := keepB h6 (w.heap.size) (by first | omega | (simp; omega) | (simp; done))
  have c6_0_0 : v6.cell? ⟨w.heap.size, 0, none⟩ = some (.int .i64 al) := (kc 0).trans (by simp [go_sem, *])
  have f6_0_0 : v6.frozen? ⟨w.heap.size, 0, none⟩ = false := (kf 0).trans (by simp [go_sem, *])
  have c6_0_1 : v6.cell? ⟨w.heap.size, 1, none⟩ = some (.int .i64 ah) := (kc 1).trans (by simp [go_sem, *])
  have f6_0_1 : v6.frozen? ⟨w.heap.size, 1, none⟩ = false := (kf 1).trans (by simp [go_sem, *])
  clear kc kf
  obtain ⟨k6_1, kc, kf⟩ := keepB h6 (w.heap.size + 1) (by first | omega | (simp; omega) | (simp; done))
  have c6_1_0 : v6.cell? ⟨w.heap.size + 1, 0, none⟩ = some (.int .i64 bl) := (kc 0).trans (by simp [go_sem, *])
  have f6_1_0 : v6.frozen? ⟨w.heap.size + 1, 0, none⟩ = false := (kf 0).trans (by simp [go_sem, *])
  have c6_1_1 : v6.cell? ⟨w.heap.size + 1, 1, none⟩ = some (.int .i64 bh) := (kc 1).trans (by simp [go_sem, *])
  have f6_1_1 : v6.frozen? ⟨w.heap.size + 1, 1, none⟩ = false := (kf 1).trans (by simp [go_sem, *])
  clear kc kf
  obtain ⟨k6_2, kc, kf⟩ := keepB h6 (v4.heap.size) (by first | omega | (simp; omega) | (simp; done))
  have c6_2_0 : v6.cell? ⟨v4.heap.size, 0, none⟩ = some (.int .i64 r1.lo) := (kc 0).trans (by simp [go_sem, *])
  have f6_2_0 : v6.frozen? ⟨v4.heap.size, 0, none⟩ = false := (kf 0).trans (by simp [go_sem, *])
  have c6_2_1 : v6.cell? ⟨v4.heap.size, 1, none⟩ = some (.int .i64 r1.hi) := (kc 1).trans (by simp [go_sem, *])
  have f6_2_1 : v6.frozen? ⟨v4.heap.size, 1, none⟩ = false := (kf 1).trans (by simp [go_sem, *])
  clear kc kf
  obtain ⟨k6_3, kc, kf⟩ := keepB h6 (v5.heap.size) (by first | omega | (simp; omega) | (simp; done))
  have c6_3_0 : v6.cell? ⟨v5.heap.size, 0, none⟩ = some (.int .i64 r1.lo) := (kc 0).trans (by simp [go_sem, *])
  have f6_3_0 : v6.frozen? ⟨v5.heap.size, 0, none⟩ = false := (kf 0).trans (by simp [go_sem, *])
  have c6_3_1 : v6.cell? ⟨v5.heap.size, 1, none⟩ = some (.int .i64 r1.hi) := (kc 1).trans (by simp [go_sem, *])
  have f6_3_1 : v6.frozen? ⟨v5.heap.size, 1, none⟩ = false := (kf 1).trans (by simp [go_sem, *])
  clear kc kf
  clear c5_0_0 f5_0_0 c5_0_1 f5_0_1 c5_1_0 f5_1_0 c5_1_1 f5_1_1 c5_2_0 f5_2_0 c5_2_1 f5_2_1
  go_wp2_with fail
  refine (mul_flip _ _ _ _ r2 _ E2'.out).mono ?_
  rintro e v7 ⟨rfl, h7⟩
  have z7 := h7.size
  try simp at z7
  have hB7 : Below w.heap.size w v7 := Below.call (w := w) (by repeat (first | (with_reducible exact Below.refl _ _) | (with_reducible assumption) | refine Below.setCell ?_ (by first | omega | (simp; omega) | (simp; done)) _ | refine Below.alloc ?_ (by first | omega | (simp; omega) | (simp; done)) _ | refine Below.drew ?_)) h7
  obtain ⟨k7_0, kc, kf⟩ := keepB h7 (w.heap.size) (by first | omega | (simp; omega) | (simp; done))
  have c7_0_0 : v7.cell? ⟨w.heap.size, 0, none⟩ = some (.int .i64 al) := (kc 0).trans (by simp [go_sem, *])
  have f7_0_0 : v7.frozen? ⟨w.heap.size, 0, none⟩ = false := (kf 0).trans (by simp [go_sem, *])
  have c7_0_1 : v7.cell? ⟨w.heap.size, 1, none⟩ = some (.int .i64 ah) := (kc 1).trans (by simp [go_sem, *])
  have f7_0_1 : v7.frozen? ⟨w.heap.size, 1, none⟩ = false := (kf 1).trans (by simp [go_sem, *])
  clear kc kf
  obtain ⟨k7_1, kc, kf⟩ := keepB h7 (w.heap.size + 1) (by first | omega | (simp; omega) | (simp; done))
  have c7_1_0 : v7.cell? ⟨w.heap.size + 1, 0, none⟩ = some (.int .i64 bl) := (kc 0).trans (by simp [go_sem, *])
  have f7_1_0 : v7.frozen? ⟨w.heap.size + 1, 0, none⟩ = false := (kf 0).trans (by simp [go_sem, *])
  have c7_1_1 : v7.cell? ⟨w.heap.size + 1, 1, none⟩ = some (.int .i64 bh) := (kc 1).trans (by simp [go_sem, *])
  have f7_1_1 : v7.frozen? ⟨w.heap.size + 1, 1, none⟩ = false := (kf 1).trans (by simp [go_sem, *])
  clear kc kf
  obtain ⟨k7_2, kc, kf⟩ := keepB h7 (v4.heap.size) (by first | omega | (simp; omega) | (simp; done))
  have c7_2_0 : v7.cell? ⟨v4.heap.size, 0, none⟩ = some (.int .i64 r1.lo) := (kc 0).trans (by simp [go_sem, *])
  have f7_2_0 : v7.frozen? ⟨v4.heap.size, 0, none⟩ = false := (kf 0).trans (by simp [go_sem, *])
  have c7_2_1 : v7.cell? ⟨v4.heap.size, 1, none⟩ = some (.int .i64 r1.hi) := (kc 1).trans (by simp [go_sem, *])
  have f7_2_1 : v7.frozen? ⟨v4.heap.size, 1, none⟩ = false := (kf 1).trans (by simp [go_sem, *])
  clear kc kf
  obtain ⟨k7_3, kc, kf⟩ := keepB h7 (v5.heap.size) (by first | omega | (simp; omega) | (simp; done))
  have c7_3_0 : v7.cell? ⟨v5.heap.size, 0, none⟩ = some (.int .i64 r1.lo) := (kc 0).trans (by simp [go_sem, *])
  have f7_3_0 : v7.frozen? ⟨v5.heap.size, 0, none⟩ = false := (kf 0).trans (by simp [go_sem, *])
  have c7_3_1 : v7.cell? ⟨v5.heap.size, 1, none⟩ = some (.int .i64 r1.hi) := (kc 1).trans (by simp [go_sem, *])
  have f7_3_1 : v7.frozen? ⟨v5.heap.size, 1, none⟩ = false := (kf 1).trans (by simp [go_sem, *])
  clear kc kf
  obtain ⟨k7_4, kc, kf⟩ := keepB h7 (v6.heap.size) (by first | omega | (simp; omega) | (simp; done))
  have c7_4_0 : v7.cell? ⟨v6.heap.size, 0, none⟩ = some (.int .i64 r2.lo) := (kc 0).trans (by simp [go_sem, *])
  have f7_4_0 : v7.frozen? ⟨v6.heap.size, 0, none⟩ = false := (kf 0).trans (by simp [go_sem, *])
  have c7_4_1 : v7.cell? ⟨v6.heap.size, 1, none⟩ = some (.int .i64 r2.hi) := (kc 1).trans (by simp [go_sem, *])
  have f7_4_1 : v7.frozen? ⟨v6.heap.size, 1, none⟩ = false := (kf 1).trans (by simp [go_sem, *])
  clear kc kf
  clear c6_0_0 f6_0_0 c6_0_1 f6_0_1 c6_1_0 f6_1_0 c6_1_1 f6_1_1 c6_2_0 f6_2_0 c6_2_1 f6_2_1 c6_3_0 f6_3_0 c6_3_1 f6_3_1
  go_wp2_with fail
  refine (neg_flip _ _ (-bh) (-bl) 0 _ E4.out).mono ?_
  rintro e v8 ⟨rfl, h8⟩
  have z8 := h8.size
  try simp at z8
  have hB8 : Below w.heap.size w v8 := Below.call (w := w) (by repeat (first | (with_reducible exact Below.refl _ _) | (with_reducible assumption) | refine Below.setCell ?_ (by first | omega | (simp; omega) | (simp; done)) _ | refine Below.alloc ?_ (by first | omega | (simp; omega) | (simp; done)) _ | refine Below.drew ?_)) h8
  obtain ⟨k8_0, kc, kf⟩ := keepB h8 (w.heap.size) (by first | omega | (simp; omega) | (simp; done))
  have c8_0_0 : v8.cell? ⟨w.heap.size, 0, none⟩ = some (.int .i64 al) := (kc 0).trans (by simp [go_sem, *])
  have f8_0_0 : v8.frozen? ⟨w.heap.size, 0, none⟩ = false := (kf 0).trans (by simp [go_sem, *])
  have c8_0_1 : v8.cell? ⟨w.heap.size, 1, none⟩ = some (.int .i64 ah) := (kc 1).trans (by simp [go_sem, *])
  have f8_0_1 : v8.frozen? ⟨w.heap.size, 1, none⟩ = false := (kf 1).trans (by simp [go_sem, *])
  clear kc kf
  obtain ⟨k8_1, kc, kf⟩ := keepB h8 (w.heap.size + 1) (by first | omega | (simp; omega) | (simp; done))
  have c8_1_0 : v8.cell? ⟨w.heap.size + 1, 0, none⟩ = some (.int .i64 bl) := (kc 0).trans (by simp [go_sem, *])
  have f8_1_0 : v8.frozen? ⟨w.heap.size + 1, 0, none⟩ = false := (kf 0).trans (by simp [go_sem, *])
  have c8_1_1 : v8.cell? ⟨w.heap.size + 1, 1, none⟩ = some (.int .i64 bh) := (kc 1).trans (by simp [go_sem, *])
  have f8_1_1 : v8.frozen? ⟨w.heap.size + 1, 1, none⟩ = false := (kf 1).trans (by simp [go_sem, *])
  clear kc kf
  obtain ⟨k8_2, kc, kf⟩ := keepB h8 (v4.heap.size) (by first | omega | (simp; omega) | (simp; done))
  have c8_2_0 : v8.cell? ⟨v4.heap.size, 0, none⟩ = some (.int .i64 r1.lo) := (kc 0).trans (by simp [go_sem, *])
  have f8_2_0 : v8.frozen? ⟨v4.heap.size, 0, none⟩ = false := (kf 0).trans (by simp [go_sem, *])
  have c8_2_1 : v8.cell? ⟨v4.heap.size, 1, none⟩ = some (.int .i64 r1.hi) := (kc 1).trans (by simp [go_sem, *])
  have f8_2_1 : v8.frozen? ⟨v4.heap.size, 1, none⟩ = false := (kf 1).trans (by simp [go_sem, *])
  clear kc kf
  obtain ⟨k8_3, kc, kf⟩ := keepB h8 (v5.heap.size) (by first | omega | (simp; omega) | (simp; done))
  have c8_3_0 : v8.cell? ⟨v5.heap.size, 0, none⟩ = some (.int .i64 r1.lo) := (kc 0).trans (by simp [go_sem, *])
  have f8_3_0 : v8.frozen? ⟨v5.heap.size, 0, none⟩ = false := (kf 0).trans (by simp [go_sem, *])
  have c8_3_1 : v8.cell? ⟨v5.heap.size, 1, none⟩ = some (.int .i64 r1.hi) := (kc 1).trans (by simp [go_sem, *])
  have f8_3_1 : v8.frozen? ⟨v5.heap.size, 1, none⟩ = false := (kf 1).trans (by simp [go_sem, *])
  clear kc kf
  obtain ⟨k8_4, kc, kf⟩ := keepB h8 (v6.heap.size) (by first | omega | (simp; omega) | (simp; done))
  have c8_4_0 : v8.cell? ⟨v6.heap.size, 0, none⟩ = some (.int .i64 r2.lo) := (kc 0).trans (by simp [go_sem, *])
  have f8_4_0 : v8.frozen? ⟨v6.heap.size, 0, none⟩ = false := (kf 0).trans (by simp [go_sem, *])
  have c8_4_1 : v8.cell? ⟨v6.heap.size, 1, none⟩ = some (.int .i64 r2.hi) := (kc 1).trans (by simp [go_sem, *])
  have f8_4_1 : v8.frozen? ⟨v6.heap.size, 1, none⟩ = false := (kf 1).trans (by simp [go_sem, *])
  clear kc kf
  obtain ⟨k8_5, kc, kf⟩ := keepB h8 (v7.heap.size) (by first | omega | (simp; omega) | (simp; done))
  have c8_5_0 : v8.cell? ⟨v7.heap.size, 0, none⟩ = some (.int .i64 r2.lo) := (kc 0).trans (by simp [go_sem, *])
  have f8_5_0 : v8.frozen? ⟨v7.heap.size, 0, none⟩ = false := (kf 0).trans (by simp [go_sem, *])
  have c8_5_1 : v8.cell? ⟨v7.heap.size, 1, none⟩ = some (.int .i64 r2.hi) := (kc 1).trans (by simp [go_sem, *])
  have f8_5_1 : v8.frozen? ⟨v7.heap.size, 1, none⟩ = false := (kf 1).trans (by simp [go_sem, *])
  clear kc kf
  clear c7_0_0 f7_0_0 c7_0_1 f7_0_1 c7_1_0 f7_1_0 c7_1_1 f7_1_1 c7_2_0 f7_2_0 c7_2_1 f7_2_1 c7_3_0 f7_3_0 c7_3_1 f7_3_1 c7_4_0 f7_4_0 c7_4_1 f7_4_1
  go_wp2_with fail
  refine (sub_flip _ _ _ _ r3 _ E3'.out).mono ?_
  rintro e v9 ⟨rfl, h9⟩
  have z9 := h9.size
  try simp at z9
  have hB9 : Below w.heap.size w v9 := Below.call (w := w) (by repeat (first | (with_reducible exact Below.refl _ _) | (with_reducible assumption) | refine Below.setCell ?_ (by first | omega | (simp; omega) | (simp; done)) _ | refine Below.alloc ?_ (by first | omega | (simp; omega) | (simp; done)) _ | refine Below.drew ?_)) h9
  obtain ⟨k9_0, kc, kf⟩ := keepB h9 (w.heap.size) (by first | omega | (simp; omega) | (simp; done))
  have c9_0_0 : v9.cell? ⟨w.heap.size, 0, none⟩ = some (.int .i64 al) := (kc 0).trans (by simp [go_sem, *])
  have f9_0_0 : v9.frozen? ⟨w.heap.size, 0, none⟩ = false := (kf 0).trans (by simp [go_sem, *])
  have c9_0_1 : v9.cell? ⟨w.heap.size, 1, none⟩ = some (.int .i64 ah) := (kc 1).trans (by simp [go_sem, *])
  have f9_0_1 : v9.frozen? ⟨w.heap.size, 1, none⟩ = false := (kf 1).trans (by simp [go_sem, *])
  clear kc kf
  obtain ⟨k9_1, kc, kf⟩ := keepB h9 (w.heap.size + 1) (by first | omega | (simp; omega) | (simp; done))
  have c9_1_0 : v9.cell? ⟨w.heap.size + 1, 0, none⟩ = some (.int .i64 bl) := (kc 0).trans (by simp [go_sem, *])
  have f9_1_0 : v9.frozen? ⟨w.heap.size + 1, 0, none⟩ = false := (kf 0).trans (by simp [go_sem, *])
  have c9_1_1 : v9.cell? ⟨w.heap.size + 1, 1, none⟩ = some (.int .i64 bh) := (kc 1).trans (by simp [go_sem, *])
  have f9_1_1 : v9.frozen? ⟨w.heap.size + 1, 1, none⟩ = false := (kf 1).trans (by simp [go_sem, *])
  clear kc kf
  obtain ⟨k9_2, kc, kf⟩ := keepB h9 (v4.heap.size) (by first | omega | (simp; omega) | (simp; done))
  have c9_2_0 : v9.cell? ⟨v4.heap.size, 0, none⟩ = some (.int .i64 r1.lo) := (kc 0).trans (by simp [go_sem, *])
  have f9_2_0 : v9.frozen? ⟨v4.heap.size, 0, none⟩ = false := (kf 0).trans (by simp [go_sem, *])
  have c9_2_1 : v9.cell? ⟨v4.heap.size, 1, none⟩ = some (.int .i64 r1.hi) := (kc 1).trans (by simp [go_sem, *])
  have f9_2_1 : v9.frozen? ⟨v4.heap.size, 1, none⟩ = false := (kf 1).trans (by simp [go_sem, *])
  clear kc kf
  obtain ⟨k9_3, kc, kf⟩ := keepB h9 (v5.heap.size) (by first | omega | (simp; omega) | (simp; done))
  have c9_3_0 : v9.cell? ⟨v5.heap.size, 0, none⟩ = some (.int .i64 r1.lo) := (kc 0).trans (by simp [go_sem, *])
  have f9_3_0 : v9.frozen? ⟨v5.heap.size, 0, none⟩ = false := (kf 0).trans (by simp [go_sem, *])
  have c9_3_1 : v9.cell? ⟨v5.heap.size, 1, none⟩ = some (.int .i64 r1.hi) := (kc 1).trans (by simp [go_sem, *])
  have f9_3_1 : v9.frozen? ⟨v5.heap.size, 1, none⟩ = false := (kf 1).trans (by simp [go_sem, *])
  clear kc kf
  obtain ⟨k9_4, kc, kf⟩ := keepB h9 (v6.heap.size) (by first | omega | (simp; omega) | (simp; done))
  have c9_4_0 : v9.cell? ⟨v6.heap.size, 0, none⟩ = some (.int .i64 r2.lo) := (kc 0).trans (by simp [go_sem, *])
  have f9_4_0 : v9.frozen? ⟨v6.heap.size, 0, none⟩ = false := (kf 0).trans (by simp [go_sem, *])
  have c9_4_1 : v9.cell? ⟨v6.heap.size, 1, none⟩ = some (.int .i64 r2.hi) := (kc 1).trans (by simp [go_sem, *])
  have f9_4_1 : v9.frozen? ⟨v6.heap.size, 1, none⟩ = false := (kf 1).trans (by simp [go_sem, *])
  clear kc kf
  obtain ⟨k9_5, kc, kf⟩ := keepB h9 (v7.heap.size) (by first | omega | (simp; omega) | (simp; done))
  have c9_5_0 : v9.cell? ⟨v7.heap.size, 0, none⟩ = some (.int .i64 r2.lo) := (kc 0).trans (by simp [go_sem, *])
  have f9_5_0 : v9.frozen? ⟨v7.heap.size, 0, none⟩ = false := (kf 0).trans (by simp [go_sem, *])
  have c9_5_1 : v9.cell? ⟨v7.heap.size, 1, none⟩ = some (.int .i64 r2.hi) := (kc 1).trans (by simp [go_sem, *])
  have f9_5_1 : v9.frozen? ⟨v7.heap.size, 1, none⟩ = false := (kf 1).trans (by simp [go_sem, *])
  clear kc kf
  obtain ⟨k9_6, kc, kf⟩ := keepB h9 (v8.heap.size) (by first | omega | (simp; omega) | (simp; done))
  have c9_6_0 : v9.cell? ⟨v8.heap.size, 0, none⟩ = some (.int .i64 (-bh)) := (kc 0).trans (by simp [go_sem, *])
  have f9_6_0 : v9.frozen? ⟨v8.heap.size, 0, none⟩ = false := (kf 0).trans (by simp [go_sem, *])
  have c9_6_1 : v9.cell? ⟨v8.heap.size, 1, none⟩ = some (.int .i64 (-bl)) := (kc 1).trans (by simp [go_sem, *])
  have f9_6_1 : v9.frozen? ⟨v8.heap.size, 1, none⟩ = false := (kf 1).trans (by simp [go_sem, *])
  clear kc kf
  clear c8_0_0 f8_0_0 c8_0_1 f8_0_1 c8_1_0 f8_1_0 c8_1_1 f8_1_1 c8_2_0 f8_2_0 c8_2_1 f8_2_1 c8_3_0 f8_3_0 c8_3_1 f8_3_1 c8_4_0 f8_4_0 c8_4_1 f8_4_1 c8_5_0 f8_5_0 c8_5_1 f8_5_1
  go_wp2_with fail
  refine (add_flip _ _ _ _ r3 _ E3.out).mono ?_
  rintro e v10 ⟨rfl, h10⟩
  have z10 := h10.size
  try simp at z10
  have hB10 : Below w.heap.size w v10 := Below.call (w := w) (by repeat (first | (with_reducible exact Below.refl _ _) | (with_reducible assumption) | refine Below.setCell ?_ (by first | omega | (simp; omega) | (simp; done)) _ | refine Below.alloc ?_ (by first | omega | (simp; omega) | (simp; done)) _ | refine Below.drew ?_)) h10
  obtain ⟨k10_0, kc, kf⟩ := keepB h10 (w.heap.size) (by first | omega | (simp; omega) | (simp; done))
  have c10_0_0 : v10.cell? ⟨w.heap.size, 0, none⟩ = some (.int .i64 al) := (kc 0).trans (by simp [go_sem, *])
  have f10_0_0 : v10.frozen? ⟨w.heap.size, 0, none⟩ = false := (kf 0).trans (by simp [go_sem, *])
  have c10_0_1 : v10.cell? ⟨w.heap.size, 1, none⟩ = some (.int .i64 ah) := (kc 1).trans (by simp [go_sem, *])
  have f10_0_1 : v10.frozen? ⟨w.heap.size, 1, none⟩ = false := (kf 1).trans (by simp [go_sem, *])
  clear kc kf
  obtain ⟨k10_1, kc, kf⟩ := keepB h10 (w.heap.size + 1) (by first | omega | (simp; omega) | (simp; done))
  have c10_1_0 : v10.cell? ⟨w.heap.size + 1, 0, none⟩ = some (.int .i64 bl) := (kc 0).trans (by simp [go_sem, *])
  have f10_1_0 : v10.frozen? ⟨w.heap.size + 1, 0, none⟩ = false := (kf 0).trans (by simp [go_sem, *])
  have c10_1_1 : v10.cell? ⟨w.heap.size + 1, 1, none⟩ = some (.int .i64 bh) := (kc 1).trans (by simp [go_sem, *])
  have f10_1_1 : v10.frozen? ⟨w.heap.size + 1, 1, none⟩ = false := (kf 1).trans (by simp [go_sem, *])
  clear kc kf
  obtain ⟨k10_2, kc, kf⟩ := keepB h10 (v4.heap.size) (by first | omega | (simp; omega) | (simp; done))
  have c10_2_0 : v10.cell? ⟨v4.heap.size, 0, none⟩ = some (.int .i64 r1.lo) := (kc 0).trans (by simp [go_sem, *])
  have f10_2_0 : v10.frozen? ⟨v4.heap.size, 0, none⟩ = false := (kf 0).trans (by simp [go_sem, *])
  have c10_2_1 : v10.cell? ⟨v4.heap.size, 1, none⟩ = some (.int .i64 r1.hi) := (kc 1).trans (by simp [go_sem, *])
  have f10_2_1 : v10.frozen? ⟨v4.heap.size, 1, none⟩ = false := (kf 1).trans (by simp [go_sem, *])
  clear kc kf
  obtain ⟨k10_3, kc, kf⟩ := keepB h10 (v5.heap.size) (by first | omega | (simp; omega) | (simp; done))
  have c10_3_0 : v10.cell? ⟨v5.heap.size, 0, none⟩ = some (.int .i64 r1.lo) := (kc 0).trans (by simp [go_sem, *])
  have f10_3_0 : v10.frozen? ⟨v5.heap.size, 0, none⟩ = false := (kf 0).trans (by simp [go_sem, *])
  have c10_3_1 : v10.cell? ⟨v5.heap.size, 1, none⟩ = some (.int .i64 r1.hi) := (kc 1).trans (by simp [go_sem, *])
  have f10_3_1 : v10.frozen? ⟨v5.heap.size, 1, none⟩ = false := (kf 1).trans (by simp [go_sem, *])
  clear kc kf
  obtain ⟨k10_4, kc, kf⟩ := keepB h10 (v6.heap.size) (by first | omega | (simp; omega) | (simp; done))
  have c10_4_0 : v10.cell? ⟨v6.heap.size, 0, none⟩ = some (.int .i64 r2.lo) := (kc 0).trans (by simp [go_sem, *])
  have f10_4_0 : v10.frozen? ⟨v6.heap.size, 0, none⟩ = false := (kf 0).trans (by simp [go_sem, *])
  have c10_4_1 : v10.cell? ⟨v6.heap.size, 1, none⟩ = some (.int .i64 r2.hi) := (kc 1).trans (by simp [go_sem, *])
  have f10_4_1 : v10.frozen? ⟨v6.heap.size, 1, none⟩ = false := (kf 1).trans (by simp [go_sem, *])
  clear kc kf
  obtain ⟨k10_5, kc, kf⟩ := keepB h10 (v7.heap.size) (by first | omega | (simp; omega) | (simp; done))
  have c10_5_0 : v10.cell? ⟨v7.heap.size, 0, none⟩ = some (.int .i64 r2.lo) := (kc 0).trans (by simp [go_sem, *])
  have f10_5_0 : v10.frozen? ⟨v7.heap.size, 0, none⟩ = false := (kf 0).trans (by simp [go_sem, *])
  have c10_5_1 : v10.cell? ⟨v7.heap.size, 1, none⟩ = some (.int .i64 r2.hi) := (kc 1).trans (by simp [go_sem, *])
  have f10_5_1 : v10.frozen? ⟨v7.heap.size, 1, none⟩ = false := (kf 1).trans (by simp [go_sem, *])
  clear kc kf
  obtain ⟨k10_6, kc, kf⟩ := keepB h10 (v8.heap.size) (by first | omega | (simp; omega) | (simp; done))
  have c10_6_0 : v10.cell? ⟨v8.heap.size, 0, none⟩ = some (.int .i64 (-bh)) := (kc 0).trans (by simp [go_sem, *])
  have f10_6_0 : v10.frozen? ⟨v8.heap.size, 0, none⟩ = false := (kf 0).trans (by simp [go_sem, *])
  have c10_6_1 : v10.cell? ⟨v8.heap.size, 1, none⟩ = some (.int .i64 (-bl)) := (kc 1).trans (by simp [go_sem, *])
  have f10_6_1 : v10.frozen? ⟨v8.heap.size, 1, none⟩ = false := (kf 1).trans (by simp [go_sem, *])
  clear kc kf
  obtain ⟨k10_7, kc, kf⟩ := keepB h10 (v9.heap.size) (by first | omega | (simp; omega) | (simp; done))
  have c10_7_0 : v10.cell? ⟨v9.heap.size, 0, none⟩ = some (.int .i64 r3.lo) := (kc 0).trans (by simp [go_sem, *])
  have f10_7_0 : v10.frozen? ⟨v9.heap.size, 0, none⟩ = false := (kf 0).trans (by simp [go_sem, *])
  have c10_7_1 : v10.cell? ⟨v9.heap.size, 1, none⟩ = some (.int .i64 r3.hi) := (kc 1).trans (by simp [go_sem, *])
  have f10_7_1 : v10.frozen? ⟨v9.heap.size, 1, none⟩ = false := (kf 1).trans (by simp [go_sem, *])
  clear kc kf
  clear c9_0_0 f9_0_0 c9_0_1 f9_0_1 c9_1_0 f9_1_0 c9_1_1 f9_1_1 c9_2_0 f9_2_0 c9_2_1 f9_2_1 c9_3_0 f9_3_0 c9_3_1 f9_3_1 c9_4_0 f9_4_0 c9_4_1 f9_4_1 c9_5_0 f9_5_0 c9_5_1 f9_5_1 c9_6_0 f9_6_0 c9_6_1 f9_6_1
  go_wp2_with fail
  refine (neg_flip _ _ bl bh 0 _ E5.out).mono ?_
  rintro e v11 ⟨rfl, h11⟩
  have z11 := h11.size
  try simp at z11
  have hB11 : Below w.heap.size w v11 := Below.call (w := w) (by repeat (first | (with_reducible exact Below.refl _ _) | (with_reducible assumption) | refine Below.setCell ?_ (by first | omega | (simp; omega) | (simp; done)) _ | refine Below.alloc ?_ (by first | omega | (simp; omega) | (simp; done)) _ | refine Below.drew ?_)) h11
  obtain ⟨k11_0, kc, kf⟩ := keepB h11 (w.heap.size) (by first | omega | (simp; omega) | (simp; done))
  have c11_0_0 : v11.cell? ⟨w.heap.size, 0, none⟩ = some (.int .i64 al) := (kc 0).trans (by simp [go_sem, *])
  have f11_0_0 : v11.frozen? ⟨w.heap.size, 0, none⟩ = false := (kf 0).trans (by simp [go_sem, *])
  have c11_0_1 : v11.cell? ⟨w.heap.size, 1, none⟩ = some (.int .i64 ah) := (kc 1).trans (by simp [go_sem, *])
  have f11_0_1 : v11.frozen? ⟨w.heap.size, 1, none⟩ = false := (kf 1).trans (by simp [go_sem, *])
  clear kc kf
  obtain ⟨k11_1, kc, kf⟩ := keepB h11 (w.heap.size + 1) (by first | omega | (simp; omega) | (simp; done))
  have c11_1_0 : v11.cell? ⟨w.heap.size + 1, 0, none⟩ = some (.int .i64 bl) := (kc 0).trans (by simp [go_sem, *])
  have f11_1_0 : v11.frozen? ⟨w.heap.size + 1, 0, none⟩ = false := (kf 0).trans (by simp [go_sem, *])
  have c11_1_1 : v11.cell? ⟨w.heap.size + 1, 1, none⟩ = some (.int .i64 bh) := (kc 1).trans (by simp [go_sem, *])
  have f11_1_1 : v11.frozen? ⟨w.heap.size + 1, 1, none⟩ = false := (kf 1).trans (by simp [go_sem, *])
  clear kc kf
  obtain ⟨k11_2, kc, kf⟩ := keepB h11 (v4.heap.size) (by first | omega | (simp; omega) | (simp; done))
  have c11_2_0 : v11.cell? ⟨v4.heap.size, 0, none⟩ = some (.int .i64 r1.lo) := (kc 0).trans (by simp [go_sem, *])
  have f11_2_0 : v11.frozen? ⟨v4.heap.size, 0, none⟩ = false := (kf 0).trans (by simp [go_sem, *])
  have c11_2_1 : v11.cell? ⟨v4.heap.size, 1, none⟩ = some (.int .i64 r1.hi) := (kc 1).trans (by simp [go_sem, *])
  have f11_2_1 : v11.frozen? ⟨v4.heap.size, 1, none⟩ = false := (kf 1).trans (by simp [go_sem, *])
  clear kc kf
  obtain ⟨k11_3, kc, kf⟩ := keepB h11 (v5.heap.size) (by first | omega | (simp; omega) | (simp; done))
  have c11_3_0 : v11.cell? ⟨v5.heap.size, 0, none⟩ = some (.int .i64 r1.lo) := (kc 0).trans (by simp [go_sem, *])
  have f11_3_0 : v11.frozen? ⟨v5.heap.size, 0, none⟩ = false := (kf 0).trans (by simp [go_sem, *])
  have c11_3_1 : v11.cell? ⟨v5.heap.size, 1, none⟩ = some (.int .i64 r1.hi) := (kc 1).trans (by simp [go_sem, *])
  have f11_3_1 : v11.frozen? ⟨v5.heap.size, 1, none⟩ = false := (kf 1).trans (by simp [go_sem, *])
  clear kc kf
  obtain ⟨k11_4, kc, kf⟩ := keepB h11 (v6.heap.size) (by first | omega | (simp; omega) | (simp; done))
  have c11_4_0 : v11.cell? ⟨v6.heap.size, 0, none⟩ = some (.int .i64 r2.lo) := (kc 0).trans (by simp [go_sem, *])
  have f11_4_0 : v11.frozen? ⟨v6.heap.size, 0, none⟩ = false := (kf 0).trans (by simp [go_sem, *])
  have c11_4_1 : v11.cell? ⟨v6.heap.size, 1, none⟩ = some (.int .i64 r2.hi) := (kc 1).trans (by simp [go_sem, *])
  have f11_4_1 : v11.frozen? ⟨v6.heap.size, 1, none⟩ = false := (kf 1).trans (by simp [go_sem, *])
  clear kc kf
  obtain ⟨k11_5, kc, kf⟩ := keepB h11 (v7.heap.size) (by first | omega | (simp; omega) | (simp; done))
  have c11_5_0 : v11.cell? ⟨v7.heap.size, 0, none⟩ = some (.int .i64 r2.lo) := (kc 0).trans (by simp [go_sem, *])
  have f11_5_0 : v11.frozen? ⟨v7.heap.size, 0, none⟩ = false := (kf 0).trans (by simp [go_sem, *])
  have c11_5_1 : v11.cell? ⟨v7.heap.size, 1, none⟩ = some (.int .i64 r2.hi) := (kc 1).trans (by simp [go_sem, *])
  have f11_5_1 : v11.frozen? ⟨v7.heap.size, 1, none⟩ = false := (kf 1).trans (by simp [go_sem, *])
  clear kc kf
  obtain ⟨k11_6, kc, kf⟩ := keepB h11 (v8.heap.size) (by first | omega | (simp; omega) | (simp; done))
  have c11_6_0 : v11.cell? ⟨v8.heap.size, 0, none⟩ = some (.int .i64 (-bh)) := (kc 0).trans (by simp [go_sem, *])
  have f11_6_0 : v11.frozen? ⟨v8.heap.size, 0, none⟩ = false := (kf 0).trans (by simp [go_sem, *])
  have c11_6_1 : v11.cell? ⟨v8.heap.size, 1, none⟩ = some (.int .i64 (-bl)) := (kc 1).trans (by simp [go_sem, *])
  have f11_6_1 : v11.frozen? ⟨v8.heap.size, 1, none⟩ = false := (kf 1).trans (by simp [go_sem, *])
  clear kc kf
  obtain ⟨k11_7, kc, kf⟩ := keepB h11 (v9.heap.size) (by first | omega | (simp; omega) | (simp; done))
  have c11_7_0 : v11.cell? ⟨v9.heap.size, 0, none⟩ = some (.int .i64 r3.lo) := (kc 0).trans (by simp [go_sem, *])
  have f11_7_0 : v11.frozen? ⟨v9.heap.size, 0, none⟩ = false := (kf 0).trans (by simp [go_sem, *])
  have c11_7_1 : v11.cell? ⟨v9.heap.size, 1, none⟩ = some (.int .i64 r3.hi) := (kc 1).trans (by simp [go_sem, *])
  have f11_7_1 : v11.frozen? ⟨v9.heap.size, 1, none⟩ = false := (kf 1).trans (by simp [go_sem, *])
  clear kc kf
  obtain ⟨k11_8, kc, kf⟩ := keepB h11 (v10.heap.size) (by first | omega | (simp; omega) | (simp; done))
  have c11_8_0 : v11.cell? ⟨v10.heap.size, 0, none⟩ = some (.int .i64 r3.lo) := (kc 0).trans (by simp [go_sem, *])
  have f11_8_0 : v11.frozen? ⟨v10.heap.size, 0, none⟩ = false := (kf 0).trans (by simp [go_sem, *])
  have c11_8_1 : v11.cell? ⟨v10.heap.size, 1, none⟩ = some (.int .i64 r3.hi) := (kc 1).trans (by simp [go_sem, *])
  have f11_8_1 : v11.frozen? ⟨v10.heap.size, 1, none⟩ = false := (kf 1).trans (by simp [go_sem, *])
  clear kc kf
  clear c10_0_0 f10_0_0 c10_0_1 f10_0_1 c10_1_0 f10_1_0 c10_1_1 f10_1_1 c10_2_0 f10_2_0 c10_2_1 f10_2_1 c10_3_0 f10_3_0 c10_3_1 f10_3_1 c10_4_0 f10_4_0 c10_4_1 f10_4_1 c10_5_0 f10_5_0 c10_5_1 f10_5_1 c10_6_0 f10_6_0 c10_6_1 f10_6_1 c10_7_0 f10_7_0 c10_7_1 f10_7_1
  go_wp2_with fail
  refine (less_any _ _ _ _ _).mono ?_
  rintro e v12 ⟨rfl, h12⟩
  have z12 := h12.size
  try simp at z12
  have hB12 : Below w.heap.size w v12 := Below.call (w := w) (by repeat (first | (with_reducible exact Below.refl _ _) | (with_reducible assumption) | refine Below.setCell ?_ (by first | omega | (simp; omega) | (simp; done)) _ | refine Below.alloc ?_ (by first | omega | (simp; omega) | (simp; done)) _ | refine Below.drew ?_)) h12
  obtain ⟨k12_0, kc, kf⟩ := keepB h12 (w.heap.size) (by first | omega | (simp; omega) | (simp; done))
  have c12_0_0 : v12.cell? ⟨w.heap.size, 0, none⟩ = some (.int .i64 al) := (kc 0).trans (by simp [go_sem, *])
  have f12_0_0 : v12.frozen? ⟨w.heap.size, 0, none⟩ = false := (kf 0).trans (by simp [go_sem, *])
  have c12_0_1 : v12.cell? ⟨w.heap.size, 1, none⟩ = some (.int .i64 ah) := (kc 1).trans (by simp [go_sem, *])
  have f12_0_1 : v12.frozen? ⟨w.heap.size, 1, none⟩ = false := (kf 1).trans (by simp [go_sem, *])
  clear kc kf
  obtain ⟨k12_1, kc, kf⟩ := keepB h12 (w.heap.size + 1) (by first | omega | (simp; omega) | (simp; done))
  have c12_1_0 : v12.cell? ⟨w.heap.size + 1, 0, none⟩ = some (.int .i64 bl) := (kc 0).trans (by simp [go_sem, *])
  have f12_1_0 : v12.frozen? ⟨w.heap.size + 1, 0, none⟩ = false := (kf 0).trans (by simp [go_sem, *])
  have c12_1_1 : v12.cell? ⟨w.heap.size + 1, 1, none⟩ = some (.int .i64 bh) := (kc 1).trans (by simp [go_sem, *])
  have f12_1_1 : v12.frozen? ⟨w.heap.size + 1, 1, none⟩ = false := (kf 1).trans (by simp [go_sem, *])
  clear kc kf
  obtain ⟨k12_2, kc, kf⟩ := keepB h12 (v4.heap.size) (by first | omega | (simp; omega) | (simp; done))
  have c12_2_0 : v12.cell? ⟨v4.heap.size, 0, none⟩ = some (.int .i64 r1.lo) := (kc 0).trans (by simp [go_sem, *])
  have f12_2_0 : v12.frozen? ⟨v4.heap.size, 0, none⟩ = false := (kf 0).trans (by simp [go_sem, *])
  have c12_2_1 : v12.cell? ⟨v4.heap.size, 1, none⟩ = some (.int .i64 r1.hi) := (kc 1).trans (by simp [go_sem, *])
  have f12_2_1 : v12.frozen? ⟨v4.heap.size, 1, none⟩ = false := (kf 1).trans (by simp [go_sem, *])
  clear kc kf
  obtain ⟨k12_3, kc, kf⟩ := keepB h12 (v5.heap.size) (by first | omega | (simp; omega) | (simp; done))
  have c12_3_0 : v12.cell? ⟨v5.heap.size, 0, none⟩ = some (.int .i64 r1.lo) := (kc 0).trans (by simp [go_sem, *])
  have f12_3_0 : v12.frozen? ⟨v5.heap.size, 0, none⟩ = false := (kf 0).trans (by simp [go_sem, *])
  have c12_3_1 : v12.cell? ⟨v5.heap.size, 1, none⟩ = some (.int .i64 r1.hi) := (kc 1).trans (by simp [go_sem, *])
  have f12_3_1 : v12.frozen? ⟨v5.heap.size, 1, none⟩ = false := (kf 1).trans (by simp [go_sem, *])
  clear kc kf
  obtain ⟨k12_4, kc, kf⟩ := keepB h12 (v6.heap.size) (by first | omega | (simp; omega) | (simp; done))
  have c12_4_0 : v12.cell? ⟨v6.heap.size, 0, none⟩ = some (.int .i64 r2.lo) := (kc 0).trans (by simp [go_sem, *])
  have f12_4_0 : v12.frozen? ⟨v6.heap.size, 0, none⟩ = false := (kf 0).trans (by simp [go_sem, *])
  have c12_4_1 : v12.cell? ⟨v6.heap.size, 1, none⟩ = some (.int .i64 r2.hi) := (kc 1).trans (by simp [go_sem, *])
  have f12_4_1 : v12.frozen? ⟨v6.heap.size, 1, none⟩ = false := (kf 1).trans (by simp [go_sem, *])
  clear kc kf
  obtain ⟨k12_5, kc, kf⟩ := keepB h12 (v7.heap.size) (by first | omega | (simp; omega) | (simp; done))
  have c12_5_0 : v12.cell? ⟨v7.heap.size, 0, none⟩ = some (.int .i64 r2.lo) := (kc 0).trans (by simp [go_sem, *])
  have f12_5_0 : v12.frozen? ⟨v7.heap.size, 0, none⟩ = false := (kf 0).trans (by simp [go_sem, *])
  have c12_5_1 : v12.cell? ⟨v7.heap.size, 1, none⟩ = some (.int .i64 r2.hi) := (kc 1).trans (by simp [go_sem, *])
  have f12_5_1 : v12.frozen? ⟨v7.heap.size, 1, none⟩ = false := (kf 1).trans (by simp [go_sem, *])
  clear kc kf
  obtain ⟨k12_6, kc, kf⟩ := keepB h12 (v8.heap.size) (by first | omega | (simp; omega) | (simp; done))
  have c12_6_0 : v12.cell? ⟨v8.heap.size, 0, none⟩ = some (.int .i64 (-bh)) := (kc 0).trans (by simp [go_sem, *])
  have f12_6_0 : v12.frozen? ⟨v8.heap.size, 0, none⟩ = false := (kf 0).trans (by simp [go_sem, *])
  have c12_6_1 : v12.cell? ⟨v8.heap.size, 1, none⟩ = some (.int .i64 (-bl)) := (kc 1).trans (by simp [go_sem, *])
  have f12_6_1 : v12.frozen? ⟨v8.heap.size, 1, none⟩ = false := (kf 1).trans (by simp [go_sem, *])
  clear kc kf
  obtain ⟨k12_7, kc, kf⟩ := keepB h12 (v9.heap.size) (by first | omega | (simp; omega) | (simp; done))
  have c12_7_0 : v12.cell? ⟨v9.heap.size, 0, none⟩ = some (.int .i64 r3.lo) := (kc 0).trans (by simp [go_sem, *])
  have f12_7_0 : v12.frozen? ⟨v9.heap.size, 0, none⟩ = false := (kf 0).trans (by simp [go_sem, *])
  have c12_7_1 : v12.cell? ⟨v9.heap.size, 1, none⟩ = some (.int .i64 r3.hi) := (kc 1).trans (by simp [go_sem, *])
  have f12_7_1 : v12.frozen? ⟨v9.heap.size, 1, none⟩ = false := (kf 1).trans (by simp [go_sem, *])
  clear kc kf
  obtain ⟨k12_8, kc, kf⟩ := keepB h12 (v10.heap.size) (by first | omega | (simp; omega) | (simp; done))
  have c12_8_0 : v12.cell? ⟨v10.heap.size, 0, none⟩ = some (.int .i64 r3.lo) := (kc 0).trans (by simp [go_sem, *])
  have f12_8_0 : v12.frozen? ⟨v10.heap.size, 0, none⟩ = false := (kf 0).trans (by simp [go_sem, *])
  have c12_8_1 : v12.cell? ⟨v10.heap.size, 1, none⟩ = some (.int .i64 r3.hi) := (kc 1).trans (by simp [go_sem, *])
  have f12_8_1 : v12.frozen? ⟨v10.heap.size, 1, none⟩ = false := (kf 1).trans (by simp [go_sem, *])
  clear kc kf
  obtain ⟨k12_9, kc, kf⟩ := keepB h12 (v11.heap.size) (by first | omega | (simp; omega) | (simp; done))
  have c12_9_0 : v12.cell? ⟨v11.heap.size, 0, none⟩ = some (.int .i64 bl) := (kc 0).trans (by simp [go_sem, *])
  have f12_9_0 : v12.frozen? ⟨v11.heap.size, 0, none⟩ = false := (kf 0).trans (by simp [go_sem, *])
  have c12_9_1 : v12.cell? ⟨v11.heap.size, 1, none⟩ = some (.int .i64 bh) := (kc 1).trans (by simp [go_sem, *])
  have f12_9_1 : v12.frozen? ⟨v11.heap.size, 1, none⟩ = false := (kf 1).trans (by simp [go_sem, *])
  clear kc kf
  clear c11_0_0 f11_0_0 c11_0_1 f11_0_1 c11_1_0 f11_1_0 c11_1_1 f11_1_1 c11_2_0 f11_2_0 c11_2_1 f11_2_1 c11_3_0 f11_3_0 c11_3_1 f11_3_1 c11_4_0 f11_4_0 c11_4_1 f11_4_1 c11_5_0 f11_5_0 c11_5_1 f11_5_1 c11_6_0 f11_6_0 c11_6_1 f11_6_1 c11_7_0 f11_7_0 c11_7_1 f11_7_1 c11_8_0 f11_8_0 c11_8_1 f11_8_1
  go_wp2_with fail
  refine (lessEq_any _ _ _ _ _).mono ?_
  rintro e v13 ⟨rfl, h13⟩
  have z13 := h13.size
  try simp at z13
  have hB13 : Below w.heap.size w v13 := Below.call (w := w) (by repeat (first | (with_reducible exact Below.refl _ _) | (with_reducible assumption) | refine Below.setCell ?_ (by first | omega | (simp; omega) | (simp; done)) _ | refine Below.alloc ?_ (by first | omega | (simp; omega) | (simp; done)) _ | refine Below.drew ?_)) h13
  obtain ⟨k13_0, kc, kf⟩ := keepB h13 (w.heap.size) (by first | omega | (simp; omega) | (simp; done))
  have c13_0_0 : v13.cell? ⟨w.heap.size, 0, none⟩ = some (.int .i64 al) := (kc 0).trans (by simp [go_sem, *])
  have f13_0_0 : v13.frozen? ⟨w.heap.size, 0, none⟩ = false := (kf 0).trans (by simp [go_sem, *])
  have c13_0_1 : v13.cell? ⟨w.heap.size, 1, none⟩ = some (.int .i64 ah) := (kc 1).trans (by simp [go_sem, *])
  have f13_0_1 : v13.frozen? ⟨w.heap.size, 1, none⟩ = false := (kf 1).trans (by simp [go_sem, *])
  clear kc kf
  obtain ⟨k13_1, kc, kf⟩ := keepB h13 (w.heap.size + 1) (by first | omega | (simp; omega) | (simp; done))
  have c13_1_0 : v13.cell? ⟨w.heap.size + 1, 0, none⟩ = some (.int .i64 bl) := (kc 0).trans (by simp [go_sem, *])
  have f13_1_0 : v13.frozen? ⟨w.heap.size + 1, 0, none⟩ = false := (kf 0).trans (by simp [go_sem, *])
  have c13_1_1 : v13.cell? ⟨w.heap.size + 1, 1, none⟩ = some (.int .i64 bh) := (kc 1).trans (by simp [go_sem, *])
  have f13_1_1 : v13.frozen? ⟨w.heap.size + 1, 1, none⟩ = false := (kf 1).trans (by simp [go_sem, *])
  clear kc kf
  clear c12_0_0 f12_0_0 c12_0_1 f12_0_1 c12_1_0 f12_1_0 c12_1_1 f12_1_1 c12_2_0 f12_2_0 c12_2_1 f12_2_1 c12_3_0 f12_3_0 c12_3_1 f12_3_1 c12_4_0 f12_4_0 c12_4_1 f12_4_1 c12_5_0 f12_5_0 c12_5_1 f12_5_1 c12_6_0 f12_6_0 c12_6_1 f12_6_1 c12_7_0 f12_7_0 c12_7_1 f12_7_1 c12_8_0 f12_8_0 c12_8_1 f12_8_1 c12_9_0 f12_9_0 c12_9_1 f12_9_1
  go_wp2_with fail
  go_region_held3 (fun w' => w'.cell? ⟨w.heap.size, 0, none⟩ = some (.int .i64 al) ∧ w'.cell? ⟨w.heap.size, 1, none⟩ = some (.int .i64 ah) ∧ w'.cell? ⟨w.heap.size + 1, 0, none⟩ = some (.int .i64 bl) ∧ w'.cell? ⟨w.heap.size + 1, 1, none⟩ = some (.int .i64 bh)) (simp [go_sem, *])
    (first
    | (go_at_call 19; with_reducible refine (equal_any al ah bl bh _).mono ?_; rintro e v14 ⟨rfl, h14⟩; have z14 := h14.size; (try simp at z14); have hB14 : Below w.heap.size w v14 := Below.call (w := w) (by repeat (first | (with_reducible exact Below.refl _ _) | (with_reducible assumption) | refine Below.setCell ?_ (by first | omega | (simp; omega) | (simp; done)) _ | refine Below.alloc ?_ (by first | omega | (simp; omega) | (simp; done)) _ | refine Below.drew ?_)) h14; obtain ⟨k14_0, kc, kf⟩ := keepB h14 (w.heap.size) (by first | omega | (simp; omega) | (simp; done)); have c14_0_0 : v14.cell? ⟨w.heap.size, 0, none⟩ = some (.int .i64 al) := (kc 0).trans (by simp [go_sem, *]); have f14_0_0 : v14.frozen? ⟨w.heap.size, 0, none⟩ = false := (kf 0).trans (by simp [go_sem, *]); have c14_0_1 : v14.cell? ⟨w.heap.size, 1, none⟩ = some (.int .i64 ah) := (kc 1).trans (by simp [go_sem, *]); have f14_0_1 : v14.frozen? ⟨w.heap.size, 1, none⟩ = false := (kf 1).trans (by simp [go_sem, *]); clear kc kf; obtain ⟨k14_1, kc, kf⟩ := keepB h14 (w.heap.size + 1) (by first | omega | (simp; omega) | (simp; done)); have c14_1_0 : v14.cell? ⟨w.heap.size + 1, 0, none⟩ = some (.int .i64 bl) := (kc 0).trans (by simp [go_sem, *]); have f14_1_0 : v14.frozen? ⟨w.heap.size + 1, 0, none⟩ = false := (kf 0).trans (by simp [go_sem, *]); have c14_1_1 : v14.cell? ⟨w.heap.size + 1, 1, none⟩ = some (.int .i64 bh) := (kc 1).trans (by simp [go_sem, *]); have f14_1_1 : v14.frozen? ⟨w.heap.size + 1, 1, none⟩ = false := (kf 1).trans (by simp [go_sem, *]); clear kc kf; clear c13_0_0 f13_0_0 c13_0_1 f13_0_1 c13_1_0 f13_1_0 c13_1_1 f13_1_1)
    | (go_at_call 19; refine (HFL.out _).mono ?_; rintro e v15 ⟨rfl, h15⟩; have z15 := h15.size; (try simp at z15); have hB15 : Below w.heap.size w v15 := Below.call (w := w) (by repeat (first | (with_reducible exact Below.refl _ _) | (with_reducible assumption) | refine Below.setCell ?_ (by first | omega | (simp; omega) | (simp; done)) _ | refine Below.alloc ?_ (by first | omega | (simp; omega) | (simp; done)) _ | refine Below.drew ?_)) h15; obtain ⟨k15_0, kc, kf⟩ := keepB h15 (w.heap.size) (by first | omega | (simp; omega) | (simp; done)); have c15_0_0 : v15.cell? ⟨w.heap.size, 0, none⟩ = some (.int .i64 al) := (kc 0).trans (by simp [go_sem, *]); have f15_0_0 : v15.frozen? ⟨w.heap.size, 0, none⟩ = false := (kf 0).trans (by simp [go_sem, *]); have c15_0_1 : v15.cell? ⟨w.heap.size, 1, none⟩ = some (.int .i64 ah) := (kc 1).trans (by simp [go_sem, *]); have f15_0_1 : v15.frozen? ⟨w.heap.size, 1, none⟩ = false := (kf 1).trans (by simp [go_sem, *]); clear kc kf; obtain ⟨k15_1, kc, kf⟩ := keepB h15 (w.heap.size + 1) (by first | omega | (simp; omega) | (simp; done)); have c15_1_0 : v15.cell? ⟨w.heap.size + 1, 0, none⟩ = some (.int .i64 bl) := (kc 0).trans (by simp [go_sem, *]); have f15_1_0 : v15.frozen? ⟨w.heap.size + 1, 0, none⟩ = false := (kf 0).trans (by simp [go_sem, *]); have c15_1_1 : v15.cell? ⟨w.heap.size + 1, 1, none⟩ = some (.int .i64 bh) := (kc 1).trans (by simp [go_sem, *]); have f15_1_1 : v15.frozen? ⟨w.heap.size + 1, 1, none⟩ = false := (kf 1).trans (by simp [go_sem, *]); clear kc kf; clear c14_0_0 f14_0_0 c14_0_1 f14_0_1 c14_1_0 f14_1_0 c14_1_1 f14_1_1))
  go_wp2
  go_ret
  exact ⟨rfl, by with_reducible assumption⟩

set_option maxRecDepth 100000 in
set_option maxHeartbeats 2000000 in
theorem laws_out0 (al ah bl bh : Int) (w : World) (ha : Sp.right al ah = false) :
    Calls Try.prog 4 #[.agg #[.int .i64 al, .int .i64 ah], .agg #[.int .i64 bl, .int .i64 bh]] w fun e w' => e = .returned (.bool true) ∧ Below w.heap.size w w' := by
  go_enter Try.func4, Try.ntmps4
  go_wp2_with fail
  refine (small_any _).mono ?_
  rintro e v1 ⟨rfl, h1⟩
  have z1 := h1.size
  try simp at z1
  have hB1 : Below w.heap.size w v1 := Below.call (w := w) (by repeat (first | (with_reducible exact Below.refl _ _) | (with_reducible assumption) | refine Below.setCell ?_ (by first | omega | (simp; omega) | (simp; done)) _ | refine Below.alloc ?_ (by first | omega | (simp; omega) | (simp; done)) _ | refine Below.drew ?_)) h1
  obtain ⟨k1_0, kc, kf⟩ := keepB h1 (w.heap.size) (by first | omega | (simp; omega) | (simp; done))
  have c1_0_0 : v1.cell? ⟨w.heap.size, 0, none⟩ = some (.int .i64 al) := (kc 0).trans (by simp [go_sem, *])
  have f1_0_0 : v1.frozen? ⟨w.heap.size, 0, none⟩ = false := (kf 0).trans (by simp [go_sem, *])
  have c1_0_1 : v1.cell? ⟨w.heap.size, 1, none⟩ = some (.int .i64 ah) := (kc 1).trans (by simp [go_sem, *])
  have f1_0_1 : v1.frozen? ⟨w.heap.size, 1, none⟩ = false := (kf 1).trans (by simp [go_sem, *])
  clear kc kf
  obtain ⟨k1_1, kc, kf⟩ := keepB h1 (w.heap.size + 1) (by first | omega | (simp; omega) | (simp; done))
  have c1_1_0 : v1.cell? ⟨w.heap.size + 1, 0, none⟩ = some (.int .i64 bl) := (kc 0).trans (by simp [go_sem, *])
  have f1_1_0 : v1.frozen? ⟨w.heap.size + 1, 0, none⟩ = false := (kf 0).trans (by simp [go_sem, *])
  have c1_1_1 : v1.cell? ⟨w.heap.size + 1, 1, none⟩ = some (.int .i64 bh) := (kc 1).trans (by simp [go_sem, *])
  have f1_1_1 : v1.frozen? ⟨w.heap.size + 1, 1, none⟩ = false := (kf 1).trans (by simp [go_sem, *])
  clear kc kf
  go_wp2_with fail
  refine (right_any _ _ _).mono ?_
  rintro e v2 ⟨rfl, h2⟩
  have z2 := h2.size
  try simp at z2
  have hB2 : Below w.heap.size w v2 := Below.call (w := w) (by repeat (first | (with_reducible exact Below.refl _ _) | (with_reducible assumption) | refine Below.setCell ?_ (by first | omega | (simp; omega) | (simp; done)) _ | refine Below.alloc ?_ (by first | omega | (simp; omega) | (simp; done)) _ | refine Below.drew ?_)) h2
  obtain ⟨k2_0, kc, kf⟩ := keepB h2 (w.heap.size) (by first | omega | (simp; omega) | (simp; done))
  have c2_0_0 : v2.cell? ⟨w.heap.size, 0, none⟩ = some (.int .i64 al) := (kc 0).trans (by simp [go_sem, *])
  have f2_0_0 : v2.frozen? ⟨w.heap.size, 0, none⟩ = false := (kf 0).trans (by simp [go_sem, *])
  have c2_0_1 : v2.cell? ⟨w.heap.size, 1, none⟩ = some (.int .i64 ah) := (kc 1).trans (by simp [go_sem, *])
  have f2_0_1 : v2.frozen? ⟨w.heap.size, 1, none⟩ = false := (kf 1).trans (by simp [go_sem, *])
  clear kc kf
  obtain ⟨k2_1, kc, kf⟩ := keepB h2 (w.heap.size + 1) (by first | omega | (simp; omega) | (simp; done))
  have c2_1_0 : v2.cell? ⟨w.heap.size + 1, 0, none⟩ = some (.int .i64 bl) := (kc 0).trans (by simp [go_sem, *])
  have f2_1_0 : v2.frozen? ⟨w.heap.size + 1, 0, none⟩ = false := (kf 0).trans (by simp [go_sem, *])
  have c2_1_1 : v2.cell? ⟨w.heap.size + 1, 1, none⟩ = some (.int .i64 bh) := (kc 1).trans (by simp [go_sem, *])
  have f2_1_1 : v2.frozen? ⟨w.heap.size + 1, 1, none⟩ = false := (kf 1).trans (by simp [go_sem, *])
  clear kc kf
  clear c1_0_0 f1_0_0 c1_0_1 f1_0_1 c1_1_0 f1_1_0 c1_1_1 f1_1_1
  go_wp2
  go_ret
  exact ⟨rfl, by with_reducible assumption⟩

set_option maxRecDepth 100000 in
set_option maxHeartbeats 2000000 in
theorem laws_out1 (al ah bl bh : Int) (w : World) (ha : Sp.right al ah = true) (hb : Sp.right bl bh = false) :
    Calls Try.prog 4 #[.agg #[.int .i64 al, .int .i64 ah], .agg #[.int .i64 bl, .int .i64 bh]] w fun e w' => e = .returned (.bool true) ∧ Below w.heap.size w w' := by
  go_enter Try.func4, Try.ntmps4
  go_wp2_with fail
  refine (small_any _).mono ?_
  rintro e v1 ⟨rfl, h1⟩
  have z1 := h1.size
  try simp at z1
  have hB1 : Below w.heap.size w v1 := Below.call (w := w) (by repeat (first | (with_reducible exact Below.refl _ _) | (with_reducible assumption) | refine Below.setCell ?_ (by first | omega | (simp; omega) | (simp; done)) _ | refine Below.alloc ?_ (by first | omega | (simp; omega) | (simp; done)) _ | refine Below.drew ?_)) h1
  obtain ⟨k1_0, kc, kf⟩ := keepB h1 (w.heap.size) (by first | omega | (simp; omega) | (simp; done))
  have c1_0_0 : v1.cell? ⟨w.heap.size, 0, none⟩ = some (.int .i64 al) := (kc 0).trans (by simp [go_sem, *])
  have f1_0_0 : v1.frozen? ⟨w.heap.size, 0, none⟩ = false := (kf 0).trans (by simp [go_sem, *])
  have c1_0_1 : v1.cell? ⟨w.heap.size, 1, none⟩ = some (.int .i64 ah) := (kc 1).trans (by simp [go_sem, *])
  have f1_0_1 : v1.frozen? ⟨w.heap.size, 1, none⟩ = false := (kf 1).trans (by simp [go_sem, *])
  clear kc kf
  obtain ⟨k1_1, kc, kf⟩ := keepB h1 (w.heap.size + 1) (by first | omega | (simp; omega) | (simp; done))
  have c1_1_0 : v1.cell? ⟨w.heap.size + 1, 0, none⟩ = some (.int .i64 bl) := (kc 0).trans (by simp [go_sem, *])
  have f1_1_0 : v1.frozen? ⟨w.heap.size + 1, 0, none⟩ = false := (kf 0).trans (by simp [go_sem, *])
  have c1_1_1 : v1.cell? ⟨w.heap.size + 1, 1, none⟩ = some (.int .i64 bh) := (kc 1).trans (by simp [go_sem, *])
  have f1_1_1 : v1.frozen? ⟨w.heap.size + 1, 1, none⟩ = false := (kf 1).trans (by simp [go_sem, *])
  clear kc kf
  go_wp2_with fail
  refine (right_any _ _ _).mono ?_
  rintro e v2 ⟨rfl, h2⟩
  have z2 := h2.size
  try simp at z2
  have hB2 : Below w.heap.size w v2 := Below.call (w := w) (by repeat (first | (with_reducible exact Below.refl _ _) | (with_reducible assumption) | refine Below.setCell ?_ (by first | omega | (simp; omega) | (simp; done)) _ | refine Below.alloc ?_ (by first | omega | (simp; omega) | (simp; done)) _ | refine Below.drew ?_)) h2
  obtain ⟨k2_0, kc, kf⟩ := keepB h2 (w.heap.size) (by first | omega | (simp; omega) | (simp; done))
  have c2_0_0 : v2.cell? ⟨w.heap.size, 0, none⟩ = some (.int .i64 al) := (kc 0).trans (by simp [go_sem, *])
  have f2_0_0 : v2.frozen? ⟨w.heap.size, 0, none⟩ = false := (kf 0).trans (by simp [go_sem, *])
  have c2_0_1 : v2.cell? ⟨w.heap.size, 1, none⟩ = some (.int .i64 ah) := (kc 1).trans (by simp [go_sem, *])
  have f2_0_1 : v2.frozen? ⟨w.heap.size, 1, none⟩ = false := (kf 1).trans (by simp [go_sem, *])
  clear kc kf
  obtain ⟨k2_1, kc, kf⟩ := keepB h2 (w.heap.size + 1) (by first | omega | (simp; omega) | (simp; done))
  have c2_1_0 : v2.cell? ⟨w.heap.size + 1, 0, none⟩ = some (.int .i64 bl) := (kc 0).trans (by simp [go_sem, *])
  have f2_1_0 : v2.frozen? ⟨w.heap.size + 1, 0, none⟩ = false := (kf 0).trans (by simp [go_sem, *])
  have c2_1_1 : v2.cell? ⟨w.heap.size + 1, 1, none⟩ = some (.int .i64 bh) := (kc 1).trans (by simp [go_sem, *])
  have f2_1_1 : v2.frozen? ⟨w.heap.size + 1, 1, none⟩ = false := (kf 1).trans (by simp [go_sem, *])
  clear kc kf
  clear c1_0_0 f1_0_0 c1_0_1 f1_0_1 c1_1_0 f1_1_0 c1_1_1 f1_1_1
  go_wp2_with fail
  refine (right_any _ _ _).mono ?_
  rintro e v3 ⟨rfl, h3⟩
  have z3 := h3.size
  try simp at z3
  have hB3 : Below w.heap.size w v3 := Below.call (w := w) (by repeat (first | (with_reducible exact Below.refl _ _) | (with_reducible assumption) | refine Below.setCell ?_ (by first | omega | (simp; omega) | (simp; done)) _ | refine Below.alloc ?_ (by first | omega | (simp; omega) | (simp; done)) _ | refine Below.drew ?_)) h3
  obtain ⟨k3_0, kc, kf⟩ := keepB h3 (w.heap.size) (by first | omega | (simp; omega) | (simp; done))
  have c3_0_0 : v3.cell? ⟨w.heap.size, 0, none⟩ = some (.int .i64 al) := (kc 0).trans (by simp [go_sem, *])
  have f3_0_0 : v3.frozen? ⟨w.heap.size, 0, none⟩ = false := (kf 0).trans (by simp [go_sem, *])
  have c3_0_1 : v3.cell? ⟨w.heap.size, 1, none⟩ = some (.int .i64 ah) := (kc 1).trans (by simp [go_sem, *])
  have f3_0_1 : v3.frozen? ⟨w.heap.size, 1, none⟩ = false := (kf 1).trans (by simp [go_sem, *])
  clear kc kf
  obtain ⟨k3_1, kc, kf⟩ := keepB h3 (w.heap.size + 1) (by first | omega | (simp; omega) | (simp; done))
  have c3_1_0 : v3.cell? ⟨w.heap.size + 1, 0, none⟩ = some (.int .i64 bl) := (kc 0).trans (by simp [go_sem, *])
  have f3_1_0 : v3.frozen? ⟨w.heap.size + 1, 0, none⟩ = false := (kf 0).trans (by simp [go_sem, *])
  have c3_1_1 : v3.cell? ⟨w.heap.size + 1, 1, none⟩ = some (.int .i64 bh) := (kc 1).trans (by simp [go_sem, *])
  have f3_1_1 : v3.frozen? ⟨w.heap.size + 1, 1, none⟩ = false := (kf 1).trans (by simp [go_sem, *])
  clear kc kf
  clear c2_0_0 f2_0_0 c2_0_1 f2_0_1 c2_1_0 f2_1_0 c2_1_1 f2_1_1
  go_wp2
  go_ret
  exact ⟨rfl, by with_reducible assumption⟩

theorem laws_any (al ah bl bh : Int) (w : World) :
    Calls Try.prog 4 #[.agg #[.int .i64 al, .int .i64 ah], .agg #[.int .i64 bl, .int .i64 bh]] w fun e w' => e = .returned (.bool true) ∧ Below w.heap.size w w' := by
  cases ha : Sp.right al ah with
  | false => exact laws_out0 al ah bl bh w ha
  | true =>
    cases hb : Sp.right bl bh with
    | false => exact laws_out1 al ah bl bh w ha hb
    | true => exact laws_walk al ah bl bh w ha hb
end Go.Proofs.Ytjdppnkmhgihnaa
