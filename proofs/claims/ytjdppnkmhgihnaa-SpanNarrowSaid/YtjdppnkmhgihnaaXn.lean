/- The walk of SpanNarrow. -/
import Derived.Test.YtjdppnkmhgihnaaWi
import Derived.Test.YtjdppnkmhgihnaaLawc
import Derived.Deep.DeepCutAuto
import Derived.Test.YtjdppnkmhgihnaaQuiet
namespace Go.Proofs.Ytjdppnkmhgihnaa
open Go.RowKit

/-- a,b,c,d lie in the four blocks from B on -/
def Four (B : Nat) (al ah bl bh cl ch dl dh : Int) (w : World) : Prop :=
  w.cell? ⟨B, 0, none⟩ = some (.int .i64 al) ∧ w.cell? ⟨B, 1, none⟩ = some (.int .i64 ah) ∧ w.cell? ⟨B + 1, 0, none⟩ = some (.int .i64 bl) ∧ w.cell? ⟨B + 1, 1, none⟩ = some (.int .i64 bh) ∧
  w.cell? ⟨B + 1 + 1, 0, none⟩ = some (.int .i64 cl) ∧ w.cell? ⟨B + 1 + 1, 1, none⟩ = some (.int .i64 ch) ∧ w.cell? ⟨B + 1 + 1 + 1, 0, none⟩ = some (.int .i64 dl) ∧ w.cell? ⟨B + 1 + 1 + 1, 1, none⟩ = some (.int .i64 dh)

theorem Four.keep {B : Nat} {al ah bl bh cl ch dl dh : Int} {W w1 : World} (h : Four B al ah bl bh cl ch dl dh W) (hb : Below W.heap.size W w1) (hB : B + 3 < W.heap.size) : Four B al ah bl bh cl ch dl dh w1 := by
  obtain ⟨h1, h2, h3, h4, h5, h6, h7, h8⟩ := h
  have k : ∀ b o, b < W.heap.size → w1.cell? ⟨b, o, none⟩ = W.cell? ⟨b, o, none⟩ := fun b o h => hb.cell (p := ⟨b, o, none⟩) h
  exact ⟨(k _ _ (by omega)).trans h1, (k _ _ (by omega)).trans h2, (k _ _ (by omega)).trans h3, (k _ _ (by omega)).trans h4, (k _ _ (by omega)).trans h5, (k _ _ (by omega)).trans h6, (k _ _ (by omega)).trans h7, (k _ _ (by omega)).trans h8⟩

theorem Four.drew_ {B : Nat} {al ah bl bh cl ch dl dh : Int} {W : World} (h : Four B al ah bl bh cl ch dl dh W) : Four B al ah bl bh cl ch dl dh W.drew := h

set_option maxRecDepth 100000 in
set_option maxHeartbeats 8000000 in
theorem narrow_walk (al ah bl bh cl ch dl dh : Int) (w : World) (ha : Sp.right al ah = true) (hb : Sp.right bl bh = true) (hc : Sp.right cl ch = true) (hd : Sp.right dl dh = true) (hx : Sp.withinB cl ch al ah = true) (hy : Sp.withinB dl dh bl bh = true) :
    Calls Try.prog 3 #[.agg #[.int .i64 al, .int .i64 ah], .agg #[.int .i64 bl, .int .i64 bh], .agg #[.int .i64 cl, .int .i64 ch], .agg #[.int .i64 dl, .int .i64 dh]] w fun e w' => e = .returned (.bool true) ∧ Below w.heap.size w w' := by
  have hx' : al ≤ cl ∧ ch ≤ ah := by simpa [Sp.withinB] using hx
  have hy' : bl ≤ dl ∧ dh ≤ bh := by simpa [Sp.withinB] using hy
  have s1 := Sp.add_narrow ha hb hc hd hx'.1 hx'.2 hy'.1 hy'.2
  have s2 := Sp.sub_narrow ha hb hc hd hx'.1 hx'.2 hy'.1 hy'.2
  have s3 := Sp.mul_narrow ha hb hc hd hx'.1 hx'.2 hy'.1 hy'.2
  have s4 := Sp.div_narrow ha hb hc hd hx'.1 hx'.2 hy'.1 hy'.2
  have s5 := Sp.mod_narrow ha hb hc hd hx'.1 hx'.2 hy'.1 hy'.2
  have l1 : (Sp.less al ah bl bh == -1) = false → (Sp.less al ah bl bh == Sp.less cl ch dl dh) = true := by
    intro h; rcases Sp.less_narrow hc hd hx'.1 hx'.2 hy'.1 hy'.2 with e | e
    · simp [e] at h
    · simp [e]
  have l2 : (Sp.lessEq al ah bl bh == -1) = false → (Sp.lessEq al ah bl bh == Sp.lessEq cl ch dl dh) = true := by
    intro h; rcases Sp.lessEq_narrow hc hd hx'.1 hx'.2 hy'.1 hy'.2 with e | e
    · simp [e] at h
    · simp [e]
  have l3 : (Sp.equal al ah bl bh == -1) = false → (Sp.equal al ah bl bh == Sp.equal cl ch dl dh) = true := by
    intro h; rcases Sp.equal_narrow hc hd hx'.1 hx'.2 hy'.1 hy'.2 with e | e
    · simp [e] at h
    · simp [e]
  clear hx' hy'
  go_enter Try.func3, Try.ntmps3
  go_wp2_with fail
  refine (small_any _).mono ?_
  rintro e v1 ⟨rfl, h1⟩
  have z1 := h1.size
  try simp at z1
  have hB1 : Below w.heap.size w v1 := Below.call (w := w) (by repeat (first | (with_reducible exact Below.refl _ _) | (with_reducible assumption) | refine Below.setCell ?_ (by first | omega | (simp; omega) | (simp; done)) _ | refine Below.alloc ?_ (by first | omega | (simp; omega) | (simp; done)) _ | refine Below.drew ?_)) h1
  obtain ⟨k1_0, kc, kf⟩ := keepB h1 (w.heap.size) (by first | omega | (simp; omega) | (simp; done))
  have c1_0_0 : v1.cell? ⟨w.heap.size, 0, none⟩ = some (.int .i64 al) := (kc 0).trans (by simp [go_sem, *])
  have f1_0_0 : v1.frozen? ⟨w.heap.size, 0, none⟩ = false := (kf 0).trans (by simp [go_sem, *])
  have c1_0_1 : v1.cell? ⟨w.heap.size, 1, none⟩ = some (.int .i64 ah) := (kc 1).trans (by simp [go_sem, *])
  have f1_0_1 : v1.frozen? ⟨w.heap.size, 1, none⟩ = false := (kf 1).trans (by simp [go_sem, *])
  clear kc kf
  obtain ⟨k1_1, kc, kf⟩ := keepB h1 (w.heap.size + 1) (by first | omega | (simp; omega) | (simp; done))
  have c1_1_0 : v1.cell? ⟨w.heap.size + 1, 0, none⟩ = some (.int .i64 bl) := (kc 0).trans (by simp [go_sem, *])
  have f1_1_0 : v1.frozen? ⟨w.heap.size + 1, 0, none⟩ = false := (kf 0).trans (by simp [go_sem, *])
  have c1_1_1 : v1.cell? ⟨w.heap.size + 1, 1, none⟩ = some (.int .i64 bh) := (kc 1).trans (by simp [go_sem, *])
  have f1_1_1 : v1.frozen? ⟨w.heap.size + 1, 1, none⟩ = false := (kf 1).trans (by simp [go_sem, *])
  clear kc kf
  obtain ⟨k1_2, kc, kf⟩ := keepB h1 (w.heap.size + 1 + 1) (by first | omega | (simp; omega) | (simp; done))
  have c1_2_0 : v1.cell? ⟨w.heap.size + 1 + 1, 0, none⟩ = some (.int .i64 cl) := (kc 0).trans (by simp [go_sem, *])
  have f1_2_0 : v1.frozen? ⟨w.heap.size + 1 + 1, 0, none⟩ = false := (kf 0).trans (by simp [go_sem, *])
  have c1_2_1 : v1.cell? ⟨w.heap.size + 1 + 1, 1, none⟩ = some (.int .i64 ch) := (kc 1).trans (by simp [go_sem, *])
  have f1_2_1 : v1.frozen? ⟨w.heap.size + 1 + 1, 1, none⟩ = false := (kf 1).trans (by simp [go_sem, *])
  clear kc kf
  obtain ⟨k1_3, kc, kf⟩ := keepB h1 (w.heap.size + 1 + 1 + 1) (by first | omega | (simp; omega) | (simp; done))
  have c1_3_0 : v1.cell? ⟨w.heap.size + 1 + 1 + 1, 0, none⟩ = some (.int .i64 dl) := (kc 0).trans (by simp [go_sem, *])
  have f1_3_0 : v1.frozen? ⟨w.heap.size + 1 + 1 + 1, 0, none⟩ = false := (kf 0).trans (by simp [go_sem, *])
  have c1_3_1 : v1.cell? ⟨w.heap.size + 1 + 1 + 1, 1, none⟩ = some (.int .i64 dh) := (kc 1).trans (by simp [go_sem, *])
  have f1_3_1 : v1.frozen? ⟨w.heap.size + 1 + 1 + 1, 1, none⟩ = false := (kf 1).trans (by simp [go_sem, *])
  clear kc kf
  go_wp2_with fail
  refine (right_any _ _ _).mono ?_
  rintro e v2 ⟨rfl, h2⟩
  have z2 := h2.size
  try simp at z2
  have hB2 : Below w.heap.size w v2 := Below.call (w := w) (by repeat (first | (with_reducible exact Below.refl _ _) | (with_reducible assumption) | refine Below.setCell ?_ (by first | omega | (simp; omega) | (simp; done)) _ | refine Below.alloc ?_ (by first | omega | (simp; omega) | (simp; done)) _ | refine Below.drew ?_)) h2
  obtain ⟨k2_0, kc, kf⟩ := keepB h2 (w.heap.size) (by first | omega | (simp; omega) | (simp; done))
  have c2_0_0 : v2.cell? ⟨w.heap.size, 0, none⟩ = some (.int .i64 al) := (kc 0).trans (by simp [go_sem, *])
  have f2_0_0 : v2.frozen? ⟨w.heap.size, 0, none⟩ = false := (kf 0).trans (by simp [go_sem, *])
  have c2_0_1 : v2.cell? ⟨w.heap.size, 1, none⟩ = some (.int .i64 ah) := (kc 1).trans (by simp [go_sem, *])
  have f2_0_1 : v2.frozen? ⟨w.heap.size, 1, none⟩ = false := (kf 1).trans (by simp [go_sem, *])
  clear kc kf
  obtain ⟨k2_1, kc, kf⟩ := keepB h2 (w.heap.size + 1) (by first | omega | (simp; omega) | (simp; done))
  have c2_1_0 : v2.cell? ⟨w.heap.size + 1, 0, none⟩ = some (.int .i64 bl) := (kc 0).trans (by simp [go_sem, *])
  have f2_1_0 : v2.frozen? ⟨w.heap.size + 1, 0, none⟩ = false := (kf 0).trans (by simp [go_sem, *])
  have c2_1_1 : v2.cell? ⟨w.heap.size + 1, 1, none⟩ = some (.int .i64 bh) := (kc 1).trans (by simp [go_sem, *])
  have f2_1_1 : v2.frozen? ⟨w.heap.size + 1, 1, none⟩ = false := (kf 1).trans (by simp [go_sem, *])
  clear kc kf
  obtain ⟨k2_2, kc, kf⟩ := keepB h2 (w.heap.size + 1 + 1) (by first | omega | (simp; omega) | (simp; done))
  have c2_2_0 : v2.cell? ⟨w.heap.size + 1 + 1, 0, none⟩ = some (.int .i64 cl) := (kc 0).trans (by simp [go_sem, *])
  have f2_2_0 : v2.frozen? ⟨w.heap.size + 1 + 1, 0, none⟩ = false := (kf 0).trans (by simp [go_sem, *])
  have c2_2_1 : v2.cell? ⟨w.heap.size + 1 + 1, 1, none⟩ = some (.int .i64 ch) := (kc 1).trans (by simp [go_sem, *])
  have f2_2_1 : v2.frozen? ⟨w.heap.size + 1 + 1, 1, none⟩ = false := (kf 1).trans (by simp [go_sem, *])
  clear kc kf
  obtain ⟨k2_3, kc, kf⟩ := keepB h2 (w.heap.size + 1 + 1 + 1) (by first | omega | (simp; omega) | (simp; done))
  have c2_3_0 : v2.cell? ⟨w.heap.size + 1 + 1 + 1, 0, none⟩ = some (.int .i64 dl) := (kc 0).trans (by simp [go_sem, *])
  have f2_3_0 : v2.frozen? ⟨w.heap.size + 1 + 1 + 1, 0, none⟩ = false := (kf 0).trans (by simp [go_sem, *])
  have c2_3_1 : v2.cell? ⟨w.heap.size + 1 + 1 + 1, 1, none⟩ = some (.int .i64 dh) := (kc 1).trans (by simp [go_sem, *])
  have f2_3_1 : v2.frozen? ⟨w.heap.size + 1 + 1 + 1, 1, none⟩ = false := (kf 1).trans (by simp [go_sem, *])
  clear kc kf
  clear c1_0_0 f1_0_0 c1_0_1 f1_0_1 c1_1_0 f1_1_0 c1_1_1 f1_1_1 c1_2_0 f1_2_0 c1_2_1 f1_2_1 c1_3_0 f1_3_0 c1_3_1 f1_3_1
  go_wp2_with fail
  refine (right_any _ _ _).mono ?_
  rintro e v3 ⟨rfl, h3⟩
  have z3 := h3.size
  try simp at z3
  have hB3 : Below w.heap.size w v3 := Below.call (w := w) (by repeat (first | (with_reducible exact Below.refl _ _) | (with_reducible assumption) | refine Below.setCell ?_ (by first | omega | (simp; omega) | (simp; done)) _ | refine Below.alloc ?_ (by first | omega | (simp; omega) | (simp; done)) _ | refine Below.drew ?_)) h3
  obtain ⟨k3_0, kc, kf⟩ := keepB h3 (w.heap.size) (by first | omega | (simp; omega) | (simp; done))
  have c3_0_0 : v3.cell? ⟨w.heap.size, 0, none⟩ = some (.int .i64 al) := (kc 0).trans (by simp [go_sem, *])
  have f3_0_0 : v3.frozen? ⟨w.heap.size, 0, none⟩ = false := (kf 0).trans (by simp [go_sem, *])
  have c3_0_1 : v3.cell? ⟨w.heap.size, 1, none⟩ = some (.int .i64 ah) := (kc 1).trans (by simp [go_sem, *])
  have f3_0_1 : v3.frozen? ⟨w.heap.size, 1, none⟩ = false := (kf 1).trans (by simp [go_sem, *])
  clear kc kf
  obtain ⟨k3_1, kc, kf⟩ := keepB h3 (w.heap.size + 1) (by first | omega | (simp; omega) | (simp; done))
  have c3_1_0 : v3.cell? ⟨w.heap.size + 1, 0, none⟩ = some (.int .i64 bl) := (kc 0).trans (by simp [go_sem, *])
  have f3_1_0 : v3.frozen? ⟨w.heap.size + 1, 0, none⟩ = false := (kf 0).trans (by simp [go_sem, *])
  have c3_1_1 : v3.cell? ⟨w.heap.size + 1, 1, none⟩ = some (.int .i64 bh) := (kc 1).trans (by simp [go_sem, *])
  have f3_1_1 : v3.frozen? ⟨w.heap.size + 1, 1, none⟩ = false := (kf 1).trans (by simp [go_sem, *])
  clear kc kf
  obtain ⟨k3_2, kc, kf⟩ := keepB h3 (w.heap.size + 1 + 1) (by first | omega | (simp; omega) | (simp; done))
  have c3_2_0 : v3.cell? ⟨w.heap.size + 1 + 1, 0, none⟩ = some (.int .i64 cl) := (kc 0).trans (by simp [go_sem, *])
  have f3_2_0 : v3.frozen? ⟨w.heap.size + 1 + 1, 0, none⟩ = false := (kf 0).trans (by simp [go_sem, *])
  have c3_2_1 : v3.cell? ⟨w.heap.size + 1 + 1, 1, none⟩ = some (.int .i64 ch) := (kc 1).trans (by simp [go_sem, *])
  have f3_2_1 : v3.frozen? ⟨w.heap.size + 1 + 1, 1, none⟩ = false := (kf 1).trans (by simp [go_sem, *])
  clear kc kf
  obtain ⟨k3_3, kc, kf⟩ := keepB h3 (w.heap.size + 1 + 1 + 1) (by first | omega | (simp; omega) | (simp; done))
  have c3_3_0 : v3.cell? ⟨w.heap.size + 1 + 1 + 1, 0, none⟩ = some (.int .i64 dl) := (kc 0).trans (by simp [go_sem, *])
  have f3_3_0 : v3.frozen? ⟨w.heap.size + 1 + 1 + 1, 0, none⟩ = false := (kf 0).trans (by simp [go_sem, *])
  have c3_3_1 : v3.cell? ⟨w.heap.size + 1 + 1 + 1, 1, none⟩ = some (.int .i64 dh) := (kc 1).trans (by simp [go_sem, *])
  have f3_3_1 : v3.frozen? ⟨w.heap.size + 1 + 1 + 1, 1, none⟩ = false := (kf 1).trans (by simp [go_sem, *])
  clear kc kf
  clear c2_0_0 f2_0_0 c2_0_1 f2_0_1 c2_1_0 f2_1_0 c2_1_1 f2_1_1 c2_2_0 f2_2_0 c2_2_1 f2_2_1 c2_3_0 f2_3_0 c2_3_1 f2_3_1
  go_wp2_with fail
  refine (right_any _ _ _).mono ?_
  rintro e v4 ⟨rfl, h4⟩
  have z4 := h4.size
  try simp at z4
  have hB4 : Below w.heap.size w v4 := Below.call (w := w) (by repeat (first | (with_reducible exact Below.refl _ _) | (with_reducible assumption) | refine Below.setCell ?_ (by first | omega | (simp; omega) | (simp; done)) _ | refine Below.alloc ?_ (by first | omega | (simp; omega) | (simp; done)) _ | refine Below.drew ?_)) h4
  obtain ⟨k4_0, kc, kf⟩ := keepB h4 (w.heap.size) (by first | omega | (simp; omega) | (simp; done))
  have c4_0_0 : v4.cell? ⟨w.heap.size, 0, none⟩ = some (.int .i64 al) := (kc 0).trans (by simp [go_sem, *])
  have f4_0_0 : v4.frozen? ⟨w.heap.size, 0, none⟩ = false := (kf 0).trans (by simp [go_sem, *])
  have c4_0_1 : v4.cell? ⟨w.heap.size, 1, none⟩ = some (.int .i64 ah) := (kc 1).trans (by simp [go_sem, *])
  have f4_0_1 : v4.frozen? ⟨w.heap.size, 1, none⟩ = false := (kf 1).trans (by simp [go_sem, *])
  clear kc kf
  obtain ⟨k4_1, kc, kf⟩ := keepB h4 (w.heap.size + 1) (by first | omega | (simp; omega) | (simp; done))
  have c4_1_0 : v4.cell? ⟨w.heap.size + 1, 0, none⟩ = some (.int .i64 bl) := (kc 0).trans (by simp [go_sem, *])
  have f4_1_0 : v4.frozen? ⟨w.heap.size + 1, 0, none⟩ = false := (kf 0).trans (by simp [go_sem, *])
  have c4_1_1 : v4.cell? ⟨w.heap.size + 1, 1, none⟩ = some (.int .i64 bh) := (kc 1).trans (by simp [go_sem, *])
  have f4_1_1 : v4.frozen? ⟨w.heap.size + 1, 1, none⟩ = false := (kf 1).trans (by simp [go_sem, *])
  clear kc kf
  obtain ⟨k4_2, kc, kf⟩ := keepB h4 (w.heap.size + 1 + 1) (by first | omega | (simp; omega) | (simp; done))
  have c4_2_0 : v4.cell? ⟨w.heap.size + 1 + 1, 0, none⟩ = some (.int .i64 cl) := (kc 0).trans (by simp [go_sem, *])
  have f4_2_0 : v4.frozen? ⟨w.heap.size + 1 + 1, 0, none⟩ = false := (kf 0).trans (by simp [go_sem, *])
  have c4_2_1 : v4.cell? ⟨w.heap.size + 1 + 1, 1, none⟩ = some (.int .i64 ch) := (kc 1).trans (by simp [go_sem, *])
  have f4_2_1 : v4.frozen? ⟨w.heap.size + 1 + 1, 1, none⟩ = false := (kf 1).trans (by simp [go_sem, *])
  clear kc kf
  obtain ⟨k4_3, kc, kf⟩ := keepB h4 (w.heap.size + 1 + 1 + 1) (by first | omega | (simp; omega) | (simp; done))
  have c4_3_0 : v4.cell? ⟨w.heap.size + 1 + 1 + 1, 0, none⟩ = some (.int .i64 dl) := (kc 0).trans (by simp [go_sem, *])
  have f4_3_0 : v4.frozen? ⟨w.heap.size + 1 + 1 + 1, 0, none⟩ = false := (kf 0).trans (by simp [go_sem, *])
  have c4_3_1 : v4.cell? ⟨w.heap.size + 1 + 1 + 1, 1, none⟩ = some (.int .i64 dh) := (kc 1).trans (by simp [go_sem, *])
  have f4_3_1 : v4.frozen? ⟨w.heap.size + 1 + 1 + 1, 1, none⟩ = false := (kf 1).trans (by simp [go_sem, *])
  clear kc kf
  clear c3_0_0 f3_0_0 c3_0_1 f3_0_1 c3_1_0 f3_1_0 c3_1_1 f3_1_1 c3_2_0 f3_2_0 c3_2_1 f3_2_1 c3_3_0 f3_3_0 c3_3_1 f3_3_1
  go_wp2_with fail
  refine (right_any _ _ _).mono ?_
  rintro e v5 ⟨rfl, h5⟩
  have z5 := h5.size
  try simp at z5
  have hB5 : Below w.heap.size w v5 := Below.call (w := w) (by repeat (first | (with_reducible exact Below.refl _ _) | (with_reducible assumption) | refine Below.setCell ?_ (by first | omega | (simp; omega) | (simp; done)) _ | refine Below.alloc ?_ (by first | omega | (simp; omega) | (simp; done)) _ | refine Below.drew ?_)) h5
  obtain ⟨k5_0, kc, kf⟩ := keepB h5 (w.heap.size) (by first | omega | (simp; omega) | (simp; done))
  have c5_0_0 : v5.cell? ⟨w.heap.size, 0, none⟩ = some (.int .i64 al) := (kc 0).trans (by simp [go_sem, *])
  have f5_0_0 : v5.frozen? ⟨w.heap.size, 0, none⟩ = false := (kf 0).trans (by simp [go_sem, *])
  have c5_0_1 : v5.cell? ⟨w.heap.size, 1, none⟩ = some (.int .i64 ah) := (kc 1).trans (by simp [go_sem, *])
  have f5_0_1 : v5.frozen? ⟨w.heap.size, 1, none⟩ = false := (kf 1).trans (by simp [go_sem, *])
  clear kc kf
  obtain ⟨k5_1, kc, kf⟩ := keepB h5 (w.heap.size + 1) (by first | omega | (simp; omega) | (simp; done))
  have c5_1_0 : v5.cell? ⟨w.heap.size + 1, 0, none⟩ = some (.int .i64 bl) := (kc 0).trans (by simp [go_sem, *])
  have f5_1_0 : v5.frozen? ⟨w.heap.size + 1, 0, none⟩ = false := (kf 0).trans (by simp [go_sem, *])
  have c5_1_1 : v5.cell? ⟨w.heap.size + 1, 1, none⟩ = some (.int .i64 bh) := (kc 1).trans (by simp [go_sem, *])
  have f5_1_1 : v5.frozen? ⟨w.heap.size + 1, 1, none⟩ = false := (kf 1).trans (by simp [go_sem, *])
  clear kc kf
  obtain ⟨k5_2, kc, kf⟩ := keepB h5 (w.heap.size + 1 + 1) (by first | omega | (simp; omega) | (simp; done))
  have c5_2_0 : v5.cell? ⟨w.heap.size + 1 + 1, 0, none⟩ = some (.int .i64 cl) := (kc 0).trans (by simp [go_sem, *])
  have f5_2_0 : v5.frozen? ⟨w.heap.size + 1 + 1, 0, none⟩ = false := (kf 0).trans (by simp [go_sem, *])
  have c5_2_1 : v5.cell? ⟨w.heap.size + 1 + 1, 1, none⟩ = some (.int .i64 ch) := (kc 1).trans (by simp [go_sem, *])
  have f5_2_1 : v5.frozen? ⟨w.heap.size + 1 + 1, 1, none⟩ = false := (kf 1).trans (by simp [go_sem, *])
  clear kc kf
  obtain ⟨k5_3, kc, kf⟩ := keepB h5 (w.heap.size + 1 + 1 + 1) (by first | omega | (simp; omega) | (simp; done))
  have c5_3_0 : v5.cell? ⟨w.heap.size + 1 + 1 + 1, 0, none⟩ = some (.int .i64 dl) := (kc 0).trans (by simp [go_sem, *])
  have f5_3_0 : v5.frozen? ⟨w.heap.size + 1 + 1 + 1, 0, none⟩ = false := (kf 0).trans (by simp [go_sem, *])
  have c5_3_1 : v5.cell? ⟨w.heap.size + 1 + 1 + 1, 1, none⟩ = some (.int .i64 dh) := (kc 1).trans (by simp [go_sem, *])
  have f5_3_1 : v5.frozen? ⟨w.heap.size + 1 + 1 + 1, 1, none⟩ = false := (kf 1).trans (by simp [go_sem, *])
  clear kc kf
  clear c4_0_0 f4_0_0 c4_0_1 f4_0_1 c4_1_0 f4_1_0 c4_1_1 f4_1_1 c4_2_0 f4_2_0 c4_2_1 f4_2_1 c4_3_0 f4_3_0 c4_3_1 f4_3_1
  go_wp2_with fail
  refine (within_any _ _ _ _ _).mono ?_
  rintro e v6 ⟨rfl, h6⟩
  have z6 := h6.size
  try simp at z6
  have hB6 : Below w.heap.size w v6 := Below.call (w := w) (by repeat (first | (with_reducible exact Below.refl _ _) | (with_reducible assumption) | refine Below.setCell ?_ (by first | omega | (simp; omega) | (simp; done)) _ | refine Below.alloc ?_ (by first | omega | (simp; omega) | (simp; done)) _ | refine Below.drew ?_)) h6
  obtain ⟨k6_0, kc, kf⟩ := keepB h6 (w.heap.size) (by first | omega | (simp; omega) | (simp; done))
  have c6_0_0 : v6.cell? ⟨w.heap.size, 0, none⟩ = some (.int .i64 al) := (kc 0).trans (by simp [go_sem, *])
  have f6_0_0 : v6.frozen? ⟨w.heap.size, 0, none⟩ = false := (kf 0).trans (by simp [go_sem, *])
  have c6_0_1 : v6.cell? ⟨w.heap.size, 1, none⟩ = some (.int .i64 ah) := (kc 1).trans (by simp [go_sem, *])
  have f6_0_1 : v6.frozen? ⟨w.heap.size, 1, none⟩ = false := (kf 1).trans (by simp [go_sem, *])
  clear kc kf
  obtain ⟨k6_1, kc, kf⟩ := keepB h6 (w.heap.size + 1) (by first | omega | (simp; omega) | (simp; done))
  have c6_1_0 : v6.cell? ⟨w.heap.size + 1, 0, none⟩ = some (.int .i64 bl) := (kc 0).trans (by simp [go_sem, *])
  have f6_1_0 : v6.frozen? ⟨w.heap.size + 1, 0, none⟩ = false := (kf 0).trans (by simp [go_sem, *])
  have c6_1_1 : v6.cell? ⟨w.heap.size + 1, 1, none⟩ = some (.int .i64 bh) := (kc 1).trans (by simp [go_sem, *])
  have f6_1_1 : v6.frozen? ⟨w.heap.size + 1, 1, none⟩ = false := (kf 1).trans (by simp [go_sem, *])
  clear kc kf
  obtain ⟨k6_2, kc, kf⟩ := keepB h6 (w.heap.size + 1 + 1) (by first | omega | (simp; omega) | (simp; done))
  have c6_2_0 : v6.cell? ⟨w.heap.size + 1 + 1, 0, none⟩ = some (.int .i64 cl) := (kc 0).trans (by simp [go_sem, *])
  have f6_2_0 : v6.frozen? ⟨w.heap.size + 1 + 1, 0, none⟩ = false := (kf 0).trans (by simp [go_sem, *])
  have c6_2_1 : v6.cell? ⟨w.heap.size + 1 + 1, 1, none⟩ = some (.int .i64 ch) := (kc 1).trans (by simp [go_sem, *])
  have f6_2_1 : v6.frozen? ⟨w.heap.size + 1 + 1, 1, none⟩ = false := (kf 1).trans (by simp [go_sem, *])
  clear kc kf
  obtain ⟨k6_3, kc, kf⟩ := keepB h6 (w.heap.size + 1 + 1 + 1) (by first | omega | (simp; omega) | (simp; done))
  have c6_3_0 : v6.cell? ⟨w.heap.size + 1 + 1 + 1, 0, none⟩ = some (.int .i64 dl) := (kc 0).trans (by simp [go_sem, *])
  have f6_3_0 : v6.frozen? ⟨w.heap.size + 1 + 1 + 1, 0, none⟩ = false := (kf 0).trans (by simp [go_sem, *])
  have c6_3_1 : v6.cell? ⟨w.heap.size + 1 + 1 + 1, 1, none⟩ = some (.int .i64 dh) := (kc 1).trans (by simp [go_sem, *])
  have f6_3_1 : v6.frozen? ⟨w.heap.size + 1 + 1 + 1, 1, none⟩ = false := (kf 1).trans (by simp [go_sem, *])
  clear kc kf
  clear c5_0_0 f5_0_0 c5_0_1 f5_0_1 c5_1_0 f5_1_0 c5_1_1 f5_1_1 c5_2_0 f5_2_0 c5_2_1 f5_2_1 c5_3_0 f5_3_0 c5_3_1 f5_3_1
  go_wp2_with fail
  refine (within_any _ _ _ _ _).mono ?_
  rintro e v7 ⟨rfl, h7⟩
  have z7 := h7.size
  try simp at z7
  have hB7 : Below w.heap.size w v7 := Below.call (w := w) (by repeat (first | (with_reducible exact Below.refl _ _) | (with_reducible assumption) | refine Below.setCell ?_ (by first | omega | (simp; omega) | (simp; done)) _ | refine Below.alloc ?_ (by first | omega | (simp; omega) | (simp; done)) _ | refine Below.drew ?_)) h7
  obtain ⟨k7_0, kc, kf⟩ := keepB h7 (w.heap.size) (by first | omega | (simp; omega) | (simp; done))
  have c7_0_0 : v7.cell? ⟨w.heap.size, 0, none⟩ = some (.int .i64 al) := (kc 0).trans (by simp [go_sem, *])
  have f7_0_0 : v7.frozen? ⟨w.heap.size, 0, none⟩ = false := (kf 0).trans (by simp [go_sem, *])
  have c7_0_1 : v7.cell? ⟨w.heap.size, 1, none⟩ = some (.int .i64 ah) := (kc 1).trans (by simp [go_sem, *])
  have f7_0_1 : v7.frozen? ⟨w.heap.size, 1, none⟩ = false := (kf 1).trans (by simp [go_sem, *])
  clear kc kf
  obtain ⟨k7_1, kc, kf⟩ := keepB h7 (w.heap.size + 1) (by first | omega | (simp; omega) | (simp; done))
  have c7_1_0 : v7.cell? ⟨w.heap.size + 1, 0, none⟩ = some (.int .i64 bl) := (kc 0).trans (by simp [go_sem, *])
  have f7_1_0 : v7.frozen? ⟨w.heap.size + 1, 0, none⟩ = false := (kf 0).trans (by simp [go_sem, *])
  have c7_1_1 : v7.cell? ⟨w.heap.size + 1, 1, none⟩ = some (.int .i64 bh) := (kc 1).trans (by simp [go_sem, *])
  have f7_1_1 : v7.frozen? ⟨w.heap.size + 1, 1, none⟩ = false := (kf 1).trans (by simp [go_sem, *])
  clear kc kf
  obtain ⟨k7_2, kc, kf⟩ := keepB h7 (w.heap.size + 1 + 1) (by first | omega | (simp; omega) | (simp; done))
  have c7_2_0 : v7.cell? ⟨w.heap.size + 1 + 1, 0, none⟩ = some (.int .i64 cl) := (kc 0).trans (by simp [go_sem, *])
  have f7_2_0 : v7.frozen? ⟨w.heap.size + 1 + 1, 0, none⟩ = false := (kf 0).trans (by simp [go_sem, *])
  have c7_2_1 : v7.cell? ⟨w.heap.size + 1 + 1, 1, none⟩ = some (.int .i64 ch) := (kc 1).trans (by simp [go_sem, *])
  have f7_2_1 : v7.frozen? ⟨w.heap.size + 1 + 1, 1, none⟩ = false := (kf 1).trans (by simp [go_sem, *])
  clear kc kf
  obtain ⟨k7_3, kc, kf⟩ := keepB h7 (w.heap.size + 1 + 1 + 1) (by first | omega | (simp; omega) | (simp; done))
  have c7_3_0 : v7.cell? ⟨w.heap.size + 1 + 1 + 1, 0, none⟩ = some (.int .i64 dl) := (kc 0).trans (by simp [go_sem, *])
  have f7_3_0 : v7.frozen? ⟨w.heap.size + 1 + 1 + 1, 0, none⟩ = false := (kf 0).trans (by simp [go_sem, *])
  have c7_3_1 : v7.cell? ⟨w.heap.size + 1 + 1 + 1, 1, none⟩ = some (.int .i64 dh) := (kc 1).trans (by simp [go_sem, *])
  have f7_3_1 : v7.frozen? ⟨w.heap.size + 1 + 1 + 1, 1, none⟩ = false := (kf 1).trans (by simp [go_sem, *])
  clear kc kf
  clear c6_0_0 f6_0_0 c6_0_1 f6_0_1 c6_1_0 f6_1_0 c6_1_1 f6_1_1 c6_2_0 f6_2_0 c6_2_1 f6_2_1 c6_3_0 f6_3_0 c6_3_1 f6_3_1
  go_wp2_with fail
  refine (add_any _ _ _ _ _).mono ?_
  rintro e v8 ⟨rfl, h8⟩
  have z8 := h8.size
  try simp at z8
  have hB8 : Below w.heap.size w v8 := Below.call (w := w) (by repeat (first | (with_reducible exact Below.refl _ _) | (with_reducible assumption) | refine Below.setCell ?_ (by first | omega | (simp; omega) | (simp; done)) _ | refine Below.alloc ?_ (by first | omega | (simp; omega) | (simp; done)) _ | refine Below.drew ?_)) h8
  obtain ⟨k8_0, kc, kf⟩ := keepB h8 (w.heap.size) (by first | omega | (simp; omega) | (simp; done))
  have c8_0_0 : v8.cell? ⟨w.heap.size, 0, none⟩ = some (.int .i64 al) := (kc 0).trans (by simp [go_sem, *])
  have f8_0_0 : v8.frozen? ⟨w.heap.size, 0, none⟩ = false := (kf 0).trans (by simp [go_sem, *])
  have c8_0_1 : v8.cell? ⟨w.heap.size, 1, none⟩ = some (.int .i64 ah) := (kc 1).trans (by simp [go_sem, *])
  have f8_0_1 : v8.frozen? ⟨w.heap.size, 1, none⟩ = false := (kf 1).trans (by simp [go_sem, *])
  clear kc kf
  obtain ⟨k8_1, kc, kf⟩ := keepB h8 (w.heap.size + 1) (by first | omega | (simp; omega) | (simp; done))
  have c8_1_0 : v8.cell? ⟨w.heap.size + 1, 0, none⟩ = some (.int .i64 bl) := (kc 0).trans (by simp [go_sem, *])
  have f8_1_0 : v8.frozen? ⟨w.heap.size + 1, 0, none⟩ = false := (kf 0).trans (by simp [go_sem, *])
  have c8_1_1 : v8.cell? ⟨w.heap.size + 1, 1, none⟩ = some (.int .i64 bh) := (kc 1).trans (by simp [go_sem, *])
  have f8_1_1 : v8.frozen? ⟨w.heap.size + 1, 1, none⟩ = false := (kf 1).trans (by simp [go_sem, *])
  clear kc kf
  obtain ⟨k8_2, kc, kf⟩ := keepB h8 (w.heap.size + 1 + 1) (by first | omega | (simp; omega) | (simp; done))
  have c8_2_0 : v8.cell? ⟨w.heap.size + 1 + 1, 0, none⟩ = some (.int .i64 cl) := (kc 0).trans (by simp [go_sem, *])
  have f8_2_0 : v8.frozen? ⟨w.heap.size + 1 + 1, 0, none⟩ = false := (kf 0).trans (by simp [go_sem, *])
  have c8_2_1 : v8.cell? ⟨w.heap.size + 1 + 1, 1, none⟩ = some (.int .i64 ch) := (kc 1).trans (by simp [go_sem, *])
  have f8_2_1 : v8.frozen? ⟨w.heap.size + 1 + 1, 1, none⟩ = false := (kf 1).trans (by simp [go_sem, *])
  clear kc kf
  obtain ⟨k8_3, kc, kf⟩ := keepB h8 (w.heap.size + 1 + 1 + 1) (by first | omega | (simp; omega) | (simp; done))
  have c8_3_0 : v8.cell? ⟨w.heap.size + 1 + 1 + 1, 0, none⟩ = some (.int .i64 dl) := (kc 0).trans (by simp [go_sem, *])
  have f8_3_0 : v8.frozen? ⟨w.heap.size + 1 + 1 + 1, 0, none⟩ = false := (kf 0).trans (by simp [go_sem, *])
  have c8_3_1 : v8.cell? ⟨w.heap.size + 1 + 1 + 1, 1, none⟩ = some (.int .i64 dh) := (kc 1).trans (by simp [go_sem, *])
  have f8_3_1 : v8.frozen? ⟨w.heap.size + 1 + 1 + 1, 1, none⟩ = false := (kf 1).trans (by simp [go_sem, *])
  clear kc kf
  clear c7_0_0 f7_0_0 c7_0_1 f7_0_1 c7_1_0 f7_1_0 c7_1_1 f7_1_1 c7_2_0 f7_2_0 c7_2_1 f7_2_1 c7_3_0 f7_3_0 c7_3_1 f7_3_1
  go_wp2_with fail
  refine (add_any _ _ _ _ _).mono ?_
  rintro e v9 ⟨rfl, h9⟩
  have z9 := h9.size
  try simp at z9
  have hB9 : Below w.heap.size w v9 := Below.call (w := w) (by repeat (first | (with_reducible exact Below.refl _ _) | (with_reducible assumption) | refine Below.setCell ?_ (by first | omega | (simp; omega) | (simp; done)) _ | refine Below.alloc ?_ (by first | omega | (simp; omega) | (simp; done)) _ | refine Below.drew ?_)) h9
  obtain ⟨k9_0, kc, kf⟩ := keepB h9 (w.heap.size) (by first | omega | (simp; omega) | (simp; done))
  have c9_0_0 : v9.cell? ⟨w.heap.size, 0, none⟩ = some (.int .i64 al) := (kc 0).trans (by simp [go_sem, *])
  have f9_0_0 : v9.frozen? ⟨w.heap.size, 0, none⟩ = false := (kf 0).trans (by simp [go_sem, *])
  have c9_0_1 : v9.cell? ⟨w.heap.size, 1, none⟩ = some (.int .i64 ah) := (kc 1).trans (by simp [go_sem, *])
  have f9_0_1 : v9.frozen? ⟨w.heap.size, 1, none⟩ = false := (kf 1).trans (by simp [go_sem, *])
  clear kc kf
  obtain ⟨k9_1, kc, kf⟩ := keepB h9 (w.heap.size + 1) (by first | omega | (simp; omega) | (simp; done))
  have c9_1_0 : v9.cell? ⟨w.heap.size + 1, 0, none⟩ = some (.int .i64 bl) := (kc 0).trans (by simp [go_sem, *])
  have f9_1_0 : v9.frozen? ⟨w.heap.size + 1, 0, none⟩ = false := (kf 0).trans (by simp [go_sem, *])
  have c9_1_1 : v9.cell? ⟨w.heap.size + 1, 1, none⟩ = some (.int .i64 bh) := (kc 1).trans (by simp [go_sem, *])
  have f9_1_1 : v9.frozen? ⟨w.heap.size + 1, 1, none⟩ = false := (kf 1).trans (by simp [go_sem, *])
  clear kc kf
  obtain ⟨k9_2, kc, kf⟩ := keepB h9 (w.heap.size + 1 + 1) (by first | omega | (simp; omega) | (simp; done))
  have c9_2_0 : v9.cell? ⟨w.heap.size + 1 + 1, 0, none⟩ = some (.int .i64 cl) := (kc 0).trans (by simp [go_sem, *])
  have f9_2_0 : v9.frozen? ⟨w.heap.size + 1 + 1, 0, none⟩ = false := (kf 0).trans (by simp [go_sem, *])
  have c9_2_1 : v9.cell? ⟨w.heap.size + 1 + 1, 1, none⟩ = some (.int .i64 ch) := (kc 1).trans (by simp [go_sem, *])
  have f9_2_1 : v9.frozen? ⟨w.heap.size + 1 + 1, 1, none⟩ = false := (kf 1).trans (by simp [go_sem, *])
  clear kc kf
  obtain ⟨k9_3, kc, kf⟩ := keepB h9 (w.heap.size + 1 + 1 + 1) (by first | omega | (simp; omega) | (simp; done))
  have c9_3_0 : v9.cell? ⟨w.heap.size + 1 + 1 + 1, 0, none⟩ = some (.int .i64 dl) := (kc 0).trans (by simp [go_sem, *])
  have f9_3_0 : v9.frozen? ⟨w.heap.size + 1 + 1 + 1, 0, none⟩ = false := (kf 0).trans (by simp [go_sem, *])
  have c9_3_1 : v9.cell? ⟨w.heap.size + 1 + 1 + 1, 1, none⟩ = some (.int .i64 dh) := (kc 1).trans (by simp [go_sem, *])
  have f9_3_1 : v9.frozen? ⟨w.heap.size + 1 + 1 + 1, 1, none⟩ = false := (kf 1).trans (by simp [go_sem, *])
  clear kc kf
  obtain ⟨k9_4, kc, kf⟩ := keepB h9 (v8.heap.size) (by first | omega | (simp; omega) | (simp; done))
  have c9_4_0 : v9.cell? ⟨v8.heap.size, 0, none⟩ = some (.int .i64 (Sp.add cl ch dl dh).lo) := (kc 0).trans (by simp [go_sem, *])
  have f9_4_0 : v9.frozen? ⟨v8.heap.size, 0, none⟩ = false := (kf 0).trans (by simp [go_sem, *])
  have c9_4_1 : v9.cell? ⟨v8.heap.size, 1, none⟩ = some (.int .i64 (Sp.add cl ch dl dh).hi) := (kc 1).trans (by simp [go_sem, *])
  have f9_4_1 : v9.frozen? ⟨v8.heap.size, 1, none⟩ = false := (kf 1).trans (by simp [go_sem, *])
  clear kc kf
  clear c8_0_0 f8_0_0 c8_0_1 f8_0_1 c8_1_0 f8_1_0 c8_1_1 f8_1_1 c8_2_0 f8_2_0 c8_2_1 f8_2_1 c8_3_0 f8_3_0 c8_3_1 f8_3_1
  go_wp2_with fail
  refine (narrow_any _ _ _ _ _ _ _).mono ?_
  rintro e v10 ⟨rfl, h10⟩
  have z10 := h10.size
  try simp at z10
  have hB10 : Below w.heap.size w v10 := Below.call (w := w) (by repeat (first | (with_reducible exact Below.refl _ _) | (with_reducible assumption) | refine Below.setCell ?_ (by first | omega | (simp; omega) | (simp; done)) _ | refine Below.alloc ?_ (by first | omega | (simp; omega) | (simp; done)) _ | refine Below.drew ?_)) h10
  obtain ⟨k10_0, kc, kf⟩ := keepB h10 (w.heap.size) (by first | omega | (simp; omega) | (simp; done))
  have c10_0_0 : v10.cell? ⟨w.heap.size, 0, none⟩ = some (.int .i64 al) := (kc 0).trans (by simp [go_sem, *])
  have f10_0_0 : v10.frozen? ⟨w.heap.size, 0, none⟩ = false := (kf 0).trans (by simp [go_sem, *])
  have c10_0_1 : v10.cell? ⟨w.heap.size, 1, none⟩ = some (.int .i64 ah) := (kc 1).trans (by simp [go_sem, *])
  have f10_0_1 : v10.frozen? ⟨w.heap.size, 1, none⟩ = false := (kf 1).trans (by simp [go_sem, *])
  clear kc kf
  obtain ⟨k10_1, kc, kf⟩ := keepB h10 (w.heap.size + 1) (by first | omega | (simp; omega) | (simp; done))
  have c10_1_0 : v10.cell? ⟨w.heap.size + 1, 0, none⟩ = some (.int .i64 bl) := (kc 0).trans (by simp [go_sem, *])
  have f10_1_0 : v10.frozen? ⟨w.heap.size + 1, 0, none⟩ = false := (kf 0).trans (by simp [go_sem, *])
  have c10_1_1 : v10.cell? ⟨w.heap.size + 1, 1, none⟩ = some (.int .i64 bh) := (kc 1).trans (by simp [go_sem, *])
  have f10_1_1 : v10.frozen? ⟨w.heap.size + 1, 1, none⟩ = false := (kf 1).trans (by simp [go_sem, *])
  clear kc kf
  obtain ⟨k10_2, kc, kf⟩ := keepB h10 (w.heap.size + 1 + 1) (by first | omega | (simp; omega) | (simp; done))
  have c10_2_0 : v10.cell? ⟨w.heap.size + 1 + 1, 0, none⟩ = some (.int .i64 cl) := (kc 0).trans (by simp [go_sem, *])
  have f10_2_0 : v10.frozen? ⟨w.heap.size + 1 + 1, 0, none⟩ = false := (kf 0).trans (by simp [go_sem, *])
  have c10_2_1 : v10.cell? ⟨w.heap.size + 1 + 1, 1, none⟩ = some (.int .i64 ch) := (kc 1).trans (by simp [go_sem, *])
  have f10_2_1 : v10.frozen? ⟨w.heap.size + 1 + 1, 1, none⟩ = false := (kf 1).trans (by simp [go_sem, *])
  clear kc kf
  obtain ⟨k10_3, kc, kf⟩ := keepB h10 (w.heap.size + 1 + 1 + 1) (by first | omega | (simp; omega) | (simp; done))
  have c10_3_0 : v10.cell? ⟨w.heap.size + 1 + 1 + 1, 0, none⟩ = some (.int .i64 dl) := (kc 0).trans (by simp [go_sem, *])
  have f10_3_0 : v10.frozen? ⟨w.heap.size + 1 + 1 + 1, 0, none⟩ = false := (kf 0).trans (by simp [go_sem, *])
  have c10_3_1 : v10.cell? ⟨w.heap.size + 1 + 1 + 1, 1, none⟩ = some (.int .i64 dh) := (kc 1).trans (by simp [go_sem, *])
  have f10_3_1 : v10.frozen? ⟨w.heap.size + 1 + 1 + 1, 1, none⟩ = false := (kf 1).trans (by simp [go_sem, *])
  clear kc kf
  obtain ⟨k10_4, kc, kf⟩ := keepB h10 (v8.heap.size) (by first | omega | (simp; omega) | (simp; done))
  have c10_4_0 : v10.cell? ⟨v8.heap.size, 0, none⟩ = some (.int .i64 (Sp.add cl ch dl dh).lo) := (kc 0).trans (by simp [go_sem, *])
  have f10_4_0 : v10.frozen? ⟨v8.heap.size, 0, none⟩ = false := (kf 0).trans (by simp [go_sem, *])
  have c10_4_1 : v10.cell? ⟨v8.heap.size, 1, none⟩ = some (.int .i64 (Sp.add cl ch dl dh).hi) := (kc 1).trans (by simp [go_sem, *])
  have f10_4_1 : v10.frozen? ⟨v8.heap.size, 1, none⟩ = false := (kf 1).trans (by simp [go_sem, *])
  clear kc kf
  obtain ⟨k10_5, kc, kf⟩ := keepB h10 (v9.heap.size) (by first | omega | (simp; omega) | (simp; done))
  have c10_5_0 : v10.cell? ⟨v9.heap.size, 0, none⟩ = some (.int .i64 (Sp.add al ah bl bh).lo) := (kc 0).trans (by simp [go_sem, *])
  have f10_5_0 : v10.frozen? ⟨v9.heap.size, 0, none⟩ = false := (kf 0).trans (by simp [go_sem, *])
  have c10_5_1 : v10.cell? ⟨v9.heap.size, 1, none⟩ = some (.int .i64 (Sp.add al ah bl bh).hi) := (kc 1).trans (by simp [go_sem, *])
  have f10_5_1 : v10.frozen? ⟨v9.heap.size, 1, none⟩ = false := (kf 1).trans (by simp [go_sem, *])
  clear kc kf
  clear c9_0_0 f9_0_0 c9_0_1 f9_0_1 c9_1_0 f9_1_0 c9_1_1 f9_1_1 c9_2_0 f9_2_0 c9_2_1 f9_2_1 c9_3_0 f9_3_0 c9_3_1 f9_3_1 c9_4_0 f9_4_0 c9_4_1 f9_4_1
  go_wp2_with fail
  refine (sub_any _ _ _ _ _).mono ?_
  rintro e v11 ⟨rfl, h11⟩
  have z11 := h11.size
  try simp at z11
  have hB11 : Below w.heap.size w v11 := Below.call (w := w) (by repeat (first | (with_reducible exact Below.refl _ _) | (with_reducible assumption) | refine Below.setCell ?_ (by first | omega | (simp; omega) | (simp; done)) _ | refine Below.alloc ?_ (by first | omega | (simp; omega) | (simp; done)) _ | refine Below.drew ?_)) h11
  obtain ⟨k11_0, kc, kf⟩ := keepB h11 (w.heap.size) (by first | omega | (simp; omega) | (simp; done))
  have c11_0_0 : v11.cell? ⟨w.heap.size, 0, none⟩ = some (.int .i64 al) := (kc 0).trans (by simp [go_sem, *])
  have f11_0_0 : v11.frozen? ⟨w.heap.size, 0, none⟩ = false := (kf 0).trans (by simp [go_sem, *])
  have c11_0_1 : v11.cell? ⟨w.heap.size, 1, none⟩ = some (.int .i64 ah) := (kc 1).trans (by simp [go_sem, *])
  have f11_0_1 : v11.frozen? ⟨w.heap.size, 1, none⟩ = false := (kf 1).trans (by simp [go_sem, *])
  clear kc kf
  obtain ⟨k11_1, kc, kf⟩ := keepB h11 (w.heap.size + 1) (by first | omega | (simp; omega) | (simp; done))
  have c11_1_0 : v11.cell? ⟨w.heap.size + 1, 0, none⟩ = some (.int .i64 bl) := (kc 0).trans (by simp [go_sem, *])
  have f11_1_0 : v11.frozen? ⟨w.heap.size + 1, 0, none⟩ = false := (kf 0).trans (by simp [go_sem, *])
  have c11_1_1 : v11.cell? ⟨w.heap.size + 1, 1, none⟩ = some (.int .i64 bh) := (kc 1).trans (by simp [go_sem, *])
  have f11_1_1 : v11.frozen? ⟨w.heap.size + 1, 1, none⟩ = false := (kf 1).trans (by simp [go_sem, *])
  clear kc kf
  obtain ⟨k11_2, kc, kf⟩ := keepB h11 (w.heap.size + 1 + 1) (by first | omega | (simp; omega) | (simp; done))
  have c11_2_0 : v11.cell? ⟨w.heap.size + 1 + 1, 0, none⟩ = some (.int .i64 cl) := (kc 0).trans (by simp [go_sem, *])
  have f11_2_0 : v11.frozen? ⟨w.heap.size + 1 + 1, 0, none⟩ = false := (kf 0).trans (by simp [go_sem, *])
  have c11_2_1 : v11.cell? ⟨w.heap.size + 1 + 1, 1, none⟩ = some (.int .i64 ch) := (kc 1).trans (by simp [go_sem, *])
  have f11_2_1 : v11.frozen? ⟨w.heap.size + 1 + 1, 1, none⟩ = false := (kf 1).trans (by simp [go_sem, *])
  clear kc kf
  obtain ⟨k11_3, kc, kf⟩ := keepB h11 (w.heap.size + 1 + 1 + 1) (by first | omega | (simp; omega) | (simp; done))
  have c11_3_0 : v11.cell? ⟨w.heap.size + 1 + 1 + 1, 0, none⟩ = some (.int .i64 dl) := (kc 0).trans (by simp [go_sem, *])
  have f11_3_0 : v11.frozen? ⟨w.heap.size + 1 + 1 + 1, 0, none⟩ = false := (kf 0).trans (by simp [go_sem, *])
  have c11_3_1 : v11.cell? ⟨w.heap.size + 1 + 1 + 1, 1, none⟩ = some (.int .i64 dh) := (kc 1).trans (by simp [go_sem, *])
  have f11_3_1 : v11.frozen? ⟨w.heap.size + 1 + 1 + 1, 1, none⟩ = false := (kf 1).trans (by simp [go_sem, *])
  clear kc kf
  obtain ⟨k11_4, kc, kf⟩ := keepB h11 (v8.heap.size) (by first | omega | (simp; omega) | (simp; done))
  have c11_4_0 : v11.cell? ⟨v8.heap.size, 0, none⟩ = some (.int .i64 (Sp.add cl ch dl dh).lo) := (kc 0).trans (by simp [go_sem, *])
  have f11_4_0 : v11.frozen? ⟨v8.heap.size, 0, none⟩ = false := (kf 0).trans (by simp [go_sem, *])
  have c11_4_1 : v11.cell? ⟨v8.heap.size, 1, none⟩ = some (.int .i64 (Sp.add cl ch dl dh).hi) := (kc 1).trans (by simp [go_sem, *])
  have f11_4_1 : v11.frozen? ⟨v8.heap.size, 1, none⟩ = false := (kf 1).trans (by simp [go_sem, *])
  clear kc kf
  obtain ⟨k11_5, kc, kf⟩ := keepB h11 (v9.heap.size) (by first | omega | (simp; omega) | (simp; done))
  have c11_5_0 : v11.cell? ⟨v9.heap.size, 0, none⟩ = some (.int .i64 (Sp.add al ah bl bh).lo) := (kc 0).trans (by simp [go_sem, *])
  have f11_5_0 : v11.frozen? ⟨v9.heap.size, 0, none⟩ = false := (kf 0).trans (by simp [go_sem, *])
  have c11_5_1 : v11.cell? ⟨v9.heap.size, 1, none⟩ = some (.int .i64 (Sp.add al ah bl bh).hi) := (kc 1).trans (by simp [go_sem, *])
  have f11_5_1 : v11.frozen? ⟨v9.heap.size, 1, none⟩ = false := (kf 1).trans (by simp [go_sem, *])
  clear kc kf
  clear c10_0_0 f10_0_0 c10_0_1 f10_0_1 c10_1_0 f10_1_0 c10_1_1 f10_1_1 c10_2_0 f10_2_0 c10_2_1 f10_2_1 c10_3_0 f10_3_0 c10_3_1 f10_3_1 c10_4_0 f10_4_0 c10_4_1 f10_4_1 c10_5_0 f10_5_0 c10_5_1 f10_5_1
  go_wp2_with fail
  refine (sub_any _ _ _ _ _).mono ?_
  rintro e v12 ⟨rfl, h12⟩
  have z12 := h12.size
  try simp at z12
  have hB12 : Below w.heap.size w v12 := Below.call (w := w) (by repeat (first | (with_reducible exact Below.refl _ _) | (with_reducible assumption) | refine Below.setCell ?_ (by first | omega | (simp; omega) | (simp; done)) _ | refine Below.alloc ?_ (by first | omega | (simp; omega) | (simp; done)) _ | refine Below.drew ?_)) h12
  obtain ⟨k12_0, kc, kf⟩ := keepB h12 (w.heap.size) (by first | omega | (simp; omega) | (simp; done))
  have c12_0_0 : v12.cell? ⟨w.heap.size, 0, none⟩ = some (.int .i64 al) := (kc 0).trans (by simp [go_sem, *])
  have f12_0_0 : v12.frozen? ⟨w.heap.size, 0, none⟩ = false := (kf 0).trans (by simp [go_sem, *])
  have c12_0_1 : v12.cell? ⟨w.heap.size, 1, none⟩ = some (.int .i64 ah) := (kc 1).trans (by simp [go_sem, *])
  have f12_0_1 : v12.frozen? ⟨w.heap.size, 1, none⟩ = false := (kf 1).trans (by simp [go_sem, *])
  clear kc kf
  obtain ⟨k12_1, kc, kf⟩ := keepB h12 (w.heap.size + 1) (by first | omega | (simp; omega) | (simp; done))
  have c12_1_0 : v12.cell? ⟨w.heap.size + 1, 0, none⟩ = some (.int .i64 bl) := (kc 0).trans (by simp [go_sem, *])
  have f12_1_0 : v12.frozen? ⟨w.heap.size + 1, 0, none⟩ = false := (kf 0).trans (by simp [go_sem, *])
  have c12_1_1 : v12.cell? ⟨w.heap.size + 1, 1, none⟩ = some (.int .i64 bh) := (kc 1).trans (by simp [go_sem, *])
  have f12_1_1 : v12.frozen? ⟨w.heap.size + 1, 1, none⟩ = false := (kf 1).trans (by simp [go_sem, *])
  clear kc kf
  obtain ⟨k12_2, kc, kf⟩ := keepB h12 (w.heap.size + 1 + 1) (by first | omega | (simp; omega) | (simp; done))
  have c12_2_0 : v12.cell? ⟨w.heap.size + 1 + 1, 0, none⟩ = some (.int .i64 cl) := (kc 0).trans (by simp [go_sem, *])
  have f12_2_0 : v12.frozen? ⟨w.heap.size + 1 + 1, 0, none⟩ = false := (kf 0).trans (by simp [go_sem, *])
  have c12_2_1 : v12.cell? ⟨w.heap.size + 1 + 1, 1, none⟩ = some (.int .i64 ch) := (kc 1).trans (by simp [go_sem, *])
  have f12_2_1 : v12.frozen? ⟨w.heap.size + 1 + 1, 1, none⟩ = false := (kf 1).trans (by simp [go_sem, *])
  clear kc kf
  obtain ⟨k12_3, kc, kf⟩ := keepB h12 (w.heap.size + 1 + 1 + 1) (by first | omega | (simp; omega) | (simp; done))
  have c12_3_0 : v12.cell? ⟨w.heap.size + 1 + 1 + 1, 0, none⟩ = some (.int .i64 dl) := (kc 0).trans (by simp [go_sem, *])
  have f12_3_0 : v12.frozen? ⟨w.heap.size + 1 + 1 + 1, 0, none⟩ = false := (kf 0).trans (by simp [go_sem, *])
  have c12_3_1 : v12.cell? ⟨w.heap.size + 1 + 1 + 1, 1, none⟩ = some (.int .i64 dh) := (kc 1).trans (by simp [go_sem, *])
  have f12_3_1 : v12.frozen? ⟨w.heap.size + 1 + 1 + 1, 1, none⟩ = false := (kf 1).trans (by simp [go_sem, *])
  clear kc kf
  obtain ⟨k12_4, kc, kf⟩ := keepB h12 (v8.heap.size) (by first | omega | (simp; omega) | (simp; done))
  have c12_4_0 : v12.cell? ⟨v8.heap.size, 0, none⟩ = some (.int .i64 (Sp.sub cl ch dl dh).lo) := (kc 0).trans (by simp [go_sem, *])
  have f12_4_0 : v12.frozen? ⟨v8.heap.size, 0, none⟩ = false := (kf 0).trans (by simp [go_sem, *])
  have c12_4_1 : v12.cell? ⟨v8.heap.size, 1, none⟩ = some (.int .i64 (Sp.sub cl ch dl dh).hi) := (kc 1).trans (by simp [go_sem, *])
  have f12_4_1 : v12.frozen? ⟨v8.heap.size, 1, none⟩ = false := (kf 1).trans (by simp [go_sem, *])
  clear kc kf
  obtain ⟨k12_5, kc, kf⟩ := keepB h12 (v9.heap.size) (by first | omega | (simp; omega) | (simp; done))
  have c12_5_0 : v12.cell? ⟨v9.heap.size, 0, none⟩ = some (.int .i64 (Sp.add al ah bl bh).lo) := (kc 0).trans (by simp [go_sem, *])
  have f12_5_0 : v12.frozen? ⟨v9.heap.size, 0, none⟩ = false := (kf 0).trans (by simp [go_sem, *])
  have c12_5_1 : v12.cell? ⟨v9.heap.size, 1, none⟩ = some (.int .i64 (Sp.add al ah bl bh).hi) := (kc 1).trans (by simp [go_sem, *])
  have f12_5_1 : v12.frozen? ⟨v9.heap.size, 1, none⟩ = false := (kf 1).trans (by simp [go_sem, *])
  clear kc kf
  clear c11_0_0 f11_0_0 c11_0_1 f11_0_1 c11_1_0 f11_1_0 c11_1_1 f11_1_1 c11_2_0 f11_2_0 c11_2_1 f11_2_1 c11_3_0 f11_3_0 c11_3_1 f11_3_1 c11_4_0 f11_4_0 c11_4_1 f11_4_1 c11_5_0 f11_5_0 c11_5_1 f11_5_1
  go_wp2_with fail
  refine (narrow_any _ _ _ _ _ _ _).mono ?_
  rintro e v13 ⟨rfl, h13⟩
  have z13 := h13.size
  try simp at z13
  have hB13 : Below w.heap.size w v13 := Below.call (w := w) (by repeat (first | (with_reducible exact Below.refl _ _) | (with_reducible assumption) | refine Below.setCell ?_ (by first | omega | (simp; omega) | (simp; done)) _ | refine Below.alloc ?_ (by first | omega | (simp; omega) | (simp; done)) _ | refine Below.drew ?_)) h13
  obtain ⟨k13_0, kc, kf⟩ := keepB h13 (w.heap.size) (by first | omega | (simp; omega) | (simp; done))
  have c13_0_0 : v13.cell? ⟨w.heap.size, 0, none⟩ = some (.int .i64 al) := (kc 0).trans (by simp [go_sem, *])
  have f13_0_0 : v13.frozen? ⟨w.heap.size, 0, none⟩ = false := (kf 0).trans (by simp [go_sem, *])
  have c13_0_1 : v13.cell? ⟨w.heap.size, 1, none⟩ = some (.int .i64 ah) := (kc 1).trans (by simp [go_sem, *])
  have f13_0_1 : v13.frozen? ⟨w.heap.size, 1, none⟩ = false := (kf 1).trans (by simp [go_sem, *])
  clear kc kf
  obtain ⟨k13_1, kc, kf⟩ := keepB h13 (w.heap.size + 1) (by first | omega | (simp; omega) | (simp; done))
  have c13_1_0 : v13.cell? ⟨w.heap.size + 1, 0, none⟩ = some (.int .i64 bl) := (kc 0).trans (by simp [go_sem, *])
  have f13_1_0 : v13.frozen? ⟨w.heap.size + 1, 0, none⟩ = false := (kf 0).trans (by simp [go_sem, *])
  have c13_1_1 : v13.cell? ⟨w.heap.size + 1, 1, none⟩ = some (.int .i64 bh) := (kc 1).trans (by simp [go_sem, *])
  have f13_1_1 : v13.frozen? ⟨w.heap.size + 1, 1, none⟩ = false := (kf 1).trans (by simp [go_sem, *])
  clear kc kf
  obtain ⟨k13_2, kc, kf⟩ := keepB h13 (w.heap.size + 1 + 1) (by first | omega | (simp; omega) | (simp; done))
  have c13_2_0 : v13.cell? ⟨w.heap.size + 1 + 1, 0, none⟩ = some (.int .i64 cl) := (kc 0).trans (by simp [go_sem, *])
  have f13_2_0 : v13.frozen? ⟨w.heap.size + 1 + 1, 0, none⟩ = false := (kf 0).trans (by simp [go_sem, *])
  have c13_2_1 : v13.cell? ⟨w.heap.size + 1 + 1, 1, none⟩ = some (.int .i64 ch) := (kc 1).trans (by simp [go_sem, *])
  have f13_2_1 : v13.frozen? ⟨w.heap.size + 1 + 1, 1, none⟩ = false := (kf 1).trans (by simp [go_sem, *])
  clear kc kf
  obtain ⟨k13_3, kc, kf⟩ := keepB h13 (w.heap.size + 1 + 1 + 1) (by first | omega | (simp; omega) | (simp; done))
  have c13_3_0 : v13.cell? ⟨w.heap.size + 1 + 1 + 1, 0, none⟩ = some (.int .i64 dl) := (kc 0).trans (by simp [go_sem, *])
  have f13_3_0 : v13.frozen? ⟨w.heap.size + 1 + 1 + 1, 0, none⟩ = false := (kf 0).trans (by simp [go_sem, *])
  have c13_3_1 : v13.cell? ⟨w.heap.size + 1 + 1 + 1, 1, none⟩ = some (.int .i64 dh) := (kc 1).trans (by simp [go_sem, *])
  have f13_3_1 : v13.frozen? ⟨w.heap.size + 1 + 1 + 1, 1, none⟩ = false := (kf 1).trans (by simp [go_sem, *])
  clear kc kf
  obtain ⟨k13_4, kc, kf⟩ := keepB h13 (v8.heap.size) (by first | omega | (simp; omega) | (simp; done))
  have c13_4_0 : v13.cell? ⟨v8.heap.size, 0, none⟩ = some (.int .i64 (Sp.sub cl ch dl dh).lo) := (kc 0).trans (by simp [go_sem, *])
  have f13_4_0 : v13.frozen? ⟨v8.heap.size, 0, none⟩ = false := (kf 0).trans (by simp [go_sem, *])
  have c13_4_1 : v13.cell? ⟨v8.heap.size, 1, none⟩ = some (.int .i64 (Sp.sub cl ch dl dh).hi) := (kc 1).trans (by simp [go_sem, *])
  have f13_4_1 : v13.frozen? ⟨v8.heap.size, 1, none⟩ = false := (kf 1).trans (by simp [go_sem, *])
  clear kc kf
  obtain ⟨k13_5, kc, kf⟩ := keepB h13 (v9.heap.size) (by first | omega | (simp; omega) | (simp; done))
  have c13_5_0 : v13.cell? ⟨v9.heap.size, 0, none⟩ = some (.int .i64 (Sp.sub al ah bl bh).lo) := (kc 0).trans (by simp [go_sem, *])
  have f13_5_0 : v13.frozen? ⟨v9.heap.size, 0, none⟩ = false := (kf 0).trans (by simp [go_sem, *])
  have c13_5_1 : v13.cell? ⟨v9.heap.size, 1, none⟩ = some (.int .i64 (Sp.sub al ah bl bh).hi) := (kc 1).trans (by simp [go_sem, *])
  have f13_5_1 : v13.frozen? ⟨v9.heap.size, 1, none⟩ = false := (kf 1).trans (by simp [go_sem, *])
  clear kc kf
  clear c12_0_0 f12_0_0 c12_0_1 f12_0_1 c12_1_0 f12_1_0 c12_1_1 f12_1_1 c12_2_0 f12_2_0 c12_2_1 f12_2_1 c12_3_0 f12_3_0 c12_3_1 f12_3_1 c12_4_0 f12_4_0 c12_4_1 f12_4_1 c12_5_0 f12_5_0 c12_5_1 f12_5_1
  go_wp2_with fail
  refine (mul_any _ _ _ _ _).mono ?_
  rintro e v14 ⟨rfl, h14⟩
  have z14 := h14.size
  try simp at z14
  have hB14 : Below w.heap.size w v14 := Below.call (w := w) (by repeat (first | (with_reducible exact Below.refl _ _) | (with_reducible assumption) | refine Below.setCell ?_ (by first | omega | (simp; omega) | (simp; done)) _ | refine Below.alloc ?_ (by first | omega | (simp; omega) | (simp; done)) _ | refine Below.drew ?_)) h14
  obtain ⟨k14_0, kc, kf⟩ := keepB h14 (w.heap.size) (by first | omega | (simp; omega) | (simp; done))
  have c14_0_0 : v14.cell? ⟨w.heap.size, 0, none⟩ = some (.int .i64 al) := (kc 0).trans (by simp [go_sem, *])
  have f14_0_0 : v14.frozen? ⟨w.heap.size, 0, none⟩ = false := (kf 0).trans (by simp [go_sem, *])
  have c14_0_1 : v14.cell? ⟨w.heap.size, 1, none⟩ = some (.int .i64 ah) := (kc 1).trans (by simp [go_sem, *])
  have f14_0_1 : v14.frozen? ⟨w.heap.size, 1, none⟩ = false := (kf 1).trans (by simp [go_sem, *])
  clear kc kf
  obtain ⟨k14_1, kc, kf⟩ := keepB h14 (w.heap.size + 1) (by first | omega | (simp; omega) | (simp; done))
  have c14_1_0 : v14.cell? ⟨w.heap.size + 1, 0, none⟩ = some (.int .i64 bl) := (kc 0).trans (by simp [go_sem, *])
  have f14_1_0 : v14.frozen? ⟨w.heap.size + 1, 0, none⟩ = false := (kf 0).trans (by simp [go_sem, *])
  have c14_1_1 : v14.cell? ⟨w.heap.size + 1, 1, none⟩ = some (.int .i64 bh) := (kc 1).trans (by simp [go_sem, *])
  have f14_1_1 : v14.frozen? ⟨w.heap.size + 1, 1, none⟩ = false := (kf 1).trans (by simp [go_sem, *])
  clear kc kf
  obtain ⟨k14_2, kc, kf⟩ := keepB h14 (w.heap.size + 1 + 1) (by first | omega | (simp; omega) | (simp; done))
  have c14_2_0 : v14.cell? ⟨w.heap.size + 1 + 1, 0, none⟩ = some (.int .i64 cl) := (kc 0).trans (by simp [go_sem, *])
  have f14_2_0 : v14.frozen? ⟨w.heap.size + 1 + 1, 0, none⟩ = false := (kf 0).trans (by simp [go_sem, *])
  have c14_2_1 : v14.cell? ⟨w.heap.size + 1 + 1, 1, none⟩ = some (.int .i64 ch) := (kc 1).trans (by simp [go_sem, *])
  have f14_2_1 : v14.frozen? ⟨w.heap.size + 1 + 1, 1, none⟩ = false := (kf 1).trans (by simp [go_sem, *])
  clear kc kf
  obtain ⟨k14_3, kc, kf⟩ := keepB h14 (w.heap.size + 1 + 1 + 1) (by first | omega | (simp; omega) | (simp; done))
  have c14_3_0 : v14.cell? ⟨w.heap.size + 1 + 1 + 1, 0, none⟩ = some (.int .i64 dl) := (kc 0).trans (by simp [go_sem, *])
  have f14_3_0 : v14.frozen? ⟨w.heap.size + 1 + 1 + 1, 0, none⟩ = false := (kf 0).trans (by simp [go_sem, *])
  have c14_3_1 : v14.cell? ⟨w.heap.size + 1 + 1 + 1, 1, none⟩ = some (.int .i64 dh) := (kc 1).trans (by simp [go_sem, *])
  have f14_3_1 : v14.frozen? ⟨w.heap.size + 1 + 1 + 1, 1, none⟩ = false := (kf 1).trans (by simp [go_sem, *])
  clear kc kf
  obtain ⟨k14_4, kc, kf⟩ := keepB h14 (v8.heap.size) (by first | omega | (simp; omega) | (simp; done))
  have c14_4_0 : v14.cell? ⟨v8.heap.size, 0, none⟩ = some (.int .i64 (Sp.sub cl ch dl dh).lo) := (kc 0).trans (by simp [go_sem, *])
  have f14_4_0 : v14.frozen? ⟨v8.heap.size, 0, none⟩ = false := (kf 0).trans (by simp [go_sem, *])
  have c14_4_1 : v14.cell? ⟨v8.heap.size, 1, none⟩ = some (.int .i64 (Sp.sub cl ch dl dh).hi) := (kc 1).trans (by simp [go_sem, *])
  have f14_4_1 : v14.frozen? ⟨v8.heap.size, 1, none⟩ = false := (kf 1).trans (by simp [go_sem, *])
  clear kc kf
  obtain ⟨k14_5, kc, kf⟩ := keepB h14 (v9.heap.size) (by first | omega | (simp; omega) | (simp; done))
  have c14_5_0 : v14.cell? ⟨v9.heap.size, 0, none⟩ = some (.int .i64 (Sp.sub al ah bl bh).lo) := (kc 0).trans (by simp [go_sem, *])
  have f14_5_0 : v14.frozen? ⟨v9.heap.size, 0, none⟩ = false := (kf 0).trans (by simp [go_sem, *])
  have c14_5_1 : v14.cell? ⟨v9.heap.size, 1, none⟩ = some (.int .i64 (Sp.sub al ah bl bh).hi) := (kc 1).trans (by simp [go_sem, *])
  have f14_5_1 : v14.frozen? ⟨v9.heap.size, 1, none⟩ = false := (kf 1).trans (by simp [go_sem, *])
  clear kc kf
  clear c13_0_0 f13_0_0 c13_0_1 f13_0_1 c13_1_0 f13_1_0 c13_1_1 f13_1_1 c13_2_0 f13_2_0 c13_2_1 f13_2_1 c13_3_0 f13_3_0 c13_3_1 f13_3_1 c13_4_0 f13_4_0 c13_4_1 f13_4_1 c13_5_0 f13_5_0 c13_5_1 f13_5_1
  go_wp2_with fail
  refine (mul_any _ _ _ _ _).mono ?_
  rintro e v15 ⟨rfl, h15⟩
  have z15 := h15.size
  try simp at z15
  have hB15 : Below w.heap.size w v15 := Below.call (w := w) (by repeat (first | (with_reducible exact Below.refl _ _) | (with_reducible assumption) | refine Below.setCell ?_ (by first | omega | (simp; omega) | (simp; done)) _ | refine Below.alloc ?_ (by first | omega | (simp; omega) | (simp; done)) _ | refine Below.drew ?_)) h15
  obtain ⟨k15_0, kc, kf⟩ := keepB h15 (w.heap.size) (by first | omega | (simp; omega) | (simp; done))
  have c15_0_0 : v15.cell? ⟨w.heap.size, 0, none⟩ = some (.int .i64 al) := (kc 0).trans (by simp [go_sem, *])
  have f15_0_0 : v15.frozen? ⟨w.heap.size, 0, none⟩ = false := (kf 0).trans (by simp [go_sem, *])
  have c15_0_1 : v15.cell? ⟨w.heap.size, 1, none⟩ = some (.int .i64 ah) := (kc 1).trans (by simp [go_sem, *])
  have f15_0_1 : v15.frozen? ⟨w.heap.size, 1, none⟩ = false := (kf 1).trans (by simp [go_sem, *])
  clear kc kf
  obtain ⟨k15_1, kc, kf⟩ := keepB h15 (w.heap.size + 1) (by first | omega | (simp; omega) | (simp; done))
  have c15_1_0 : v15.cell? ⟨w.heap.size + 1, 0, none⟩ = some (.int .i64 bl) := (kc 0).trans (by simp [go_sem, *])
  have f15_1_0 : v15.frozen? ⟨w.heap.size + 1, 0, none⟩ = false := (kf 0).trans (by simp [go_sem, *])
  have c15_1_1 : v15.cell? ⟨w.heap.size + 1, 1, none⟩ = some (.int .i64 bh) := (kc 1).trans (by simp [go_sem, *])
  have f15_1_1 : v15.frozen? ⟨w.heap.size + 1, 1, none⟩ = false := (kf 1).trans (by simp [go_sem, *])
  clear kc kf
  obtain ⟨k15_2, kc, kf⟩ := keepB h15 (w.heap.size + 1 + 1) (by first | omega | (simp; omega) | (simp; done))
  have c15_2_0 : v15.cell? ⟨w.heap.size + 1 + 1, 0, none⟩ = some (.int .i64 cl) := (kc 0).trans (by simp [go_sem, *])
  have f15_2_0 : v15.frozen? ⟨w.heap.size + 1 + 1, 0, none⟩ = false := (kf 0).trans (by simp [go_sem, *])
  have c15_2_1 : v15.cell? ⟨w.heap.size + 1 + 1, 1, none⟩ = some (.int .i64 ch) := (kc 1).trans (by simp [go_sem, *])
  have f15_2_1 : v15.frozen? ⟨w.heap.size + 1 + 1, 1, none⟩ = false := (kf 1).trans (by simp [go_sem, *])
  clear kc kf
  obtain ⟨k15_3, kc, kf⟩ := keepB h15 (w.heap.size + 1 + 1 + 1) (by first | omega | (simp; omega) | (simp; done))
  have c15_3_0 : v15.cell? ⟨w.heap.size + 1 + 1 + 1, 0, none⟩ = some (.int .i64 dl) := (kc 0).trans (by simp [go_sem, *])
  have f15_3_0 : v15.frozen? ⟨w.heap.size + 1 + 1 + 1, 0, none⟩ = false := (kf 0).trans (by simp [go_sem, *])
  have c15_3_1 : v15.cell? ⟨w.heap.size + 1 + 1 + 1, 1, none⟩ = some (.int .i64 dh) := (kc 1).trans (by simp [go_sem, *])
  have f15_3_1 : v15.frozen? ⟨w.heap.size + 1 + 1 + 1, 1, none⟩ = false := (kf 1).trans (by simp [go_sem, *])
  clear kc kf
  obtain ⟨k15_4, kc, kf⟩ := keepB h15 (v8.heap.size) (by first | omega | (simp; omega) | (simp; done))
  have c15_4_0 : v15.cell? ⟨v8.heap.size, 0, none⟩ = some (.int .i64 (Sp.mul cl ch dl dh).lo) := (kc 0).trans (by simp [go_sem, *])
  have f15_4_0 : v15.frozen? ⟨v8.heap.size, 0, none⟩ = false := (kf 0).trans (by simp [go_sem, *])
  have c15_4_1 : v15.cell? ⟨v8.heap.size, 1, none⟩ = some (.int .i64 (Sp.mul cl ch dl dh).hi) := (kc 1).trans (by simp [go_sem, *])
  have f15_4_1 : v15.frozen? ⟨v8.heap.size, 1, none⟩ = false := (kf 1).trans (by simp [go_sem, *])
  clear kc kf
  obtain ⟨k15_5, kc, kf⟩ := keepB h15 (v9.heap.size) (by first | omega | (simp; omega) | (simp; done))
  have c15_5_0 : v15.cell? ⟨v9.heap.size, 0, none⟩ = some (.int .i64 (Sp.sub al ah bl bh).lo) := (kc 0).trans (by simp [go_sem, *])
  have f15_5_0 : v15.frozen? ⟨v9.heap.size, 0, none⟩ = false := (kf 0).trans (by simp [go_sem, *])
  have c15_5_1 : v15.cell? ⟨v9.heap.size, 1, none⟩ = some (.int .i64 (Sp.sub al ah bl bh).hi) := (kc 1).trans (by simp [go_sem, *])
  have f15_5_1 : v15.frozen? ⟨v9.heap.size, 1, none⟩ = false := (kf 1).trans (by simp [go_sem, *])
  clear kc kf
  clear c14_0_0 f14_0_0 c14_0_1 f14_0_1 c14_1_0 f14_1_0 c14_1_1 f14_1_1 c14_2_0 f14_2_0 c14_2_1 f14_2_1 c14_3_0 f14_3_0 c14_3_1 f14_3_1 c14_4_0 f14_4_0 c14_4_1 f14_4_1 c14_5_0 f14_5_0 c14_5_1 f14_5_1
  go_wp2_with fail
  refine (narrow_any _ _ _ _ _ _ _).mono ?_
  rintro e v16 ⟨rfl, h16⟩
  have z16 := h16.size
  try simp at z16
  have hB16 : Below w.heap.size w v16 := Below.call (w := w) (by repeat (first | (with_reducible exact Below.refl _ _) | (with_reducible assumption) | refine Below.setCell ?_ (by first | omega | (simp; omega) | (simp; done)) _ | refine Below.alloc ?_ (by first | omega | (simp; omega) | (simp; done)) _ | refine Below.drew ?_)) h16
  obtain ⟨k16_0, kc, kf⟩ := keepB h16 (w.heap.size) (by first | omega | (simp; omega) | (simp; done))
  have c16_0_0 : v16.cell? ⟨w.heap.size, 0, none⟩ = some (.int .i64 al) := (kc 0).trans (by simp [go_sem, *])
  have f16_0_0 : v16.frozen? ⟨w.heap.size, 0, none⟩ = false := (kf 0).trans (by simp [go_sem, *])
  have c16_0_1 : v16.cell? ⟨w.heap.size, 1, none⟩ = some (.int .i64 ah) := (kc 1).trans (by simp [go_sem, *])
  have f16_0_1 : v16.frozen? ⟨w.heap.size, 1, none⟩ = false := (kf 1).trans (by simp [go_sem, *])
  clear kc kf
  obtain ⟨k16_1, kc, kf⟩ := keepB h16 (w.heap.size + 1) (by first | omega | (simp; omega) | (simp; done))
  have c16_1_0 : v16.cell? ⟨w.heap.size + 1, 0, none⟩ = some (.int .i64 bl) := (kc 0).trans (by simp [go_sem, *])
  have f16_1_0 : v16.frozen? ⟨w.heap.size + 1, 0, none⟩ = false := (kf 0).trans (by simp [go_sem, *])
  have c16_1_1 : v16.cell? ⟨w.heap.size + 1, 1, none⟩ = some (.int .i64 bh) := (kc 1).trans (by simp [go_sem, *])
  have f16_1_1 : v16.frozen? ⟨w.heap.size + 1, 1, none⟩ = false := (kf 1).trans (by simp [go_sem, *])
  clear kc kf
  obtain ⟨k16_2, kc, kf⟩ := keepB h16 (w.heap.size + 1 + 1) (by first | omega | (simp; omega) | (simp; done))
  have c16_2_0 : v16.cell? ⟨w.heap.size + 1 + 1, 0, none⟩ = some (.int .i64 cl) := (kc 0).trans (by simp [go_sem, *])
  have f16_2_0 : v16.frozen? ⟨w.heap.size + 1 + 1, 0, none⟩ = false := (kf 0).trans (by simp [go_sem, *])
  have c16_2_1 : v16.cell? ⟨w.heap.size + 1 + 1, 1, none⟩ = some (.int .i64 ch) := (kc 1).trans (by simp [go_sem, *])
  have f16_2_1 : v16.frozen? ⟨w.heap.size + 1 + 1, 1, none⟩ = false := (kf 1).trans (by simp [go_sem, *])
  clear kc kf
  obtain ⟨k16_3, kc, kf⟩ := keepB h16 (w.heap.size + 1 + 1 + 1) (by first | omega | (simp; omega) | (simp; done))
  have c16_3_0 : v16.cell? ⟨w.heap.size + 1 + 1 + 1, 0, none⟩ = some (.int .i64 dl) := (kc 0).trans (by simp [go_sem, *])
  have f16_3_0 : v16.frozen? ⟨w.heap.size + 1 + 1 + 1, 0, none⟩ = false := (kf 0).trans (by simp [go_sem, *])
  have c16_3_1 : v16.cell? ⟨w.heap.size + 1 + 1 + 1, 1, none⟩ = some (.int .i64 dh) := (kc 1).trans (by simp [go_sem, *])
  have f16_3_1 : v16.frozen? ⟨w.heap.size + 1 + 1 + 1, 1, none⟩ = false := (kf 1).trans (by simp [go_sem, *])
  clear kc kf
  obtain ⟨k16_4, kc, kf⟩ := keepB h16 (v8.heap.size) (by first | omega | (simp; omega) | (simp; done))
  have c16_4_0 : v16.cell? ⟨v8.heap.size, 0, none⟩ = some (.int .i64 (Sp.mul cl ch dl dh).lo) := (kc 0).trans (by simp [go_sem, *])
  have f16_4_0 : v16.frozen? ⟨v8.heap.size, 0, none⟩ = false := (kf 0).trans (by simp [go_sem, *])
  have c16_4_1 : v16.cell? ⟨v8.heap.size, 1, none⟩ = some (.int .i64 (Sp.mul cl ch dl dh).hi) := (kc 1).trans (by simp [go_sem, *])
  have f16_4_1 : v16.frozen? ⟨v8.heap.size, 1, none⟩ = false := (kf 1).trans (by simp [go_sem, *])
  clear kc kf
  obtain ⟨k16_5, kc, kf⟩ := keepB h16 (v9.heap.size) (by first | omega | (simp; omega) | (simp; done))
  have c16_5_0 : v16.cell? ⟨v9.heap.size, 0, none⟩ = some (.int .i64 (Sp.mul al ah bl bh).lo) := (kc 0).trans (by simp [go_sem, *])
  have f16_5_0 : v16.frozen? ⟨v9.heap.size, 0, none⟩ = false := (kf 0).trans (by simp [go_sem, *])
  have c16_5_1 : v16.cell? ⟨v9.heap.size, 1, none⟩ = some (.int .i64 (Sp.mul al ah bl bh).hi) := (kc 1).trans (by simp [go_sem, *])
  have f16_5_1 : v16.frozen? ⟨v9.heap.size, 1, none⟩ = false := (kf 1).trans (by simp [go_sem, *])
  clear kc kf
  clear c15_0_0 f15_0_0 c15_0_1 f15_0_1 c15_1_0 f15_1_0 c15_1_1 f15_1_1 c15_2_0 f15_2_0 c15_2_1 f15_2_1 c15_3_0 f15_3_0 c15_3_1 f15_3_1 c15_4_0 f15_4_0 c15_4_1 f15_4_1 c15_5_0 f15_5_0 c15_5_1 f15_5_1
  go_wp2_with fail
  refine (div_any _ _ _ _ _).mono ?_
  rintro e v17 ⟨rfl, h17⟩
  have z17 := h17.size
  try simp at z17
  have hB17 : Below w.heap.size w v17 := Below.call (w := w) (by repeat (first | (with_reducible exact Below.refl _ _) | (with_reducible assumption) | refine Below.setCell ?_ (by first | omega | (simp; omega) | (simp; done)) _ | refine Below.alloc ?_ (by first | omega | (simp; omega) | (simp; done)) _ | refine Below.drew ?_)) h17
  obtain ⟨k17_0, kc, kf⟩ := keepB h17 (w.heap.size) (by first | omega | (simp; omega) | (simp; done))
  have c17_0_0 : v17.cell? ⟨w.heap.size, 0, none⟩ = some (.int .i64 al) := (kc 0).trans (by simp [go_sem, *])
  have f17_0_0 : v17.frozen? ⟨w.heap.size, 0, none⟩ = false := (kf 0).trans (by simp [go_sem, *])
  have c17_0_1 : v17.cell? ⟨w.heap.size, 1, none⟩ = some (.int .i64 ah) := (kc 1).trans (by simp [go_sem, *])
  have f17_0_1 : v17.frozen? ⟨w.heap.size, 1, none⟩ = false := (kf 1).trans (by simp [go_sem, *])
  clear kc kf
  obtain ⟨k17_1, kc, kf⟩ := keepB h17 (w.heap.size + 1) (by first | omega | (simp; omega) | (simp; done))
  have c17_1_0 : v17.cell? ⟨w.heap.size + 1, 0, none⟩ = some (.int .i64 bl) := (kc 0).trans (by simp [go_sem, *])
  have f17_1_0 : v17.frozen? ⟨w.heap.size + 1, 0, none⟩ = false := (kf 0).trans (by simp [go_sem, *])
  have c17_1_1 : v17.cell? ⟨w.heap.size + 1, 1, none⟩ = some (.int .i64 bh) := (kc 1).trans (by simp [go_sem, *])
  have f17_1_1 : v17.frozen? ⟨w.heap.size + 1, 1, none⟩ = false := (kf 1).trans (by simp [go_sem, *])
  clear kc kf
  obtain ⟨k17_2, kc, kf⟩ := keepB h17 (w.heap.size + 1 + 1) (by first | omega | (simp; omega) | (simp; done))
  have c17_2_0 : v17.cell? ⟨w.heap.size + 1 + 1, 0, none⟩ = some (.int .i64 cl) := (kc 0).trans (by simp [go_sem, *])
  have f17_2_0 : v17.frozen? ⟨w.heap.size + 1 + 1, 0, none⟩ = false := (kf 0).trans (by simp [go_sem, *])
  have c17_2_1 : v17.cell? ⟨w.heap.size + 1 + 1, 1, none⟩ = some (.int .i64 ch) := (kc 1).trans (by simp [go_sem, *])
  have f17_2_1 : v17.frozen? ⟨w.heap.size + 1 + 1, 1, none⟩ = false := (kf 1).trans (by simp [go_sem, *])
  clear kc kf
  obtain ⟨k17_3, kc, kf⟩ := keepB h17 (w.heap.size + 1 + 1 + 1) (by first | omega | (simp; omega) | (simp; done))
  have c17_3_0 : v17.cell? ⟨w.heap.size + 1 + 1 + 1, 0, none⟩ = some (.int .i64 dl) := (kc 0).trans (by simp [go_sem, *])
  have f17_3_0 : v17.frozen? ⟨w.heap.size + 1 + 1 + 1, 0, none⟩ = false := (kf 0).trans (by simp [go_sem, *])
  have c17_3_1 : v17.cell? ⟨w.heap.size + 1 + 1 + 1, 1, none⟩ = some (.int .i64 dh) := (kc 1).trans (by simp [go_sem, *])
  have f17_3_1 : v17.frozen? ⟨w.heap.size + 1 + 1 + 1, 1, none⟩ = false := (kf 1).trans (by simp [go_sem, *])
  clear kc kf
  obtain ⟨k17_4, kc, kf⟩ := keepB h17 (v8.heap.size) (by first | omega | (simp; omega) | (simp; done))
  have c17_4_0 : v17.cell? ⟨v8.heap.size, 0, none⟩ = some (.int .i64 (Sp.mul cl ch dl dh).lo) := (kc 0).trans (by simp [go_sem, *])
  have f17_4_0 : v17.frozen? ⟨v8.heap.size, 0, none⟩ = false := (kf 0).trans (by simp [go_sem, *])
  have c17_4_1 : v17.cell? ⟨v8.heap.size, 1, none⟩ = some (.int .i64 (Sp.mul cl ch dl dh).hi) := (kc 1).trans (by simp [go_sem, *])
  have f17_4_1 : v17.frozen? ⟨v8.heap.size, 1, none⟩ = false := (kf 1).trans (by simp [go_sem, *])
  clear kc kf
  obtain ⟨k17_5, kc, kf⟩ := keepB h17 (v9.heap.size) (by first | omega | (simp; omega) | (simp; done))
  have c17_5_0 : v17.cell? ⟨v9.heap.size, 0, none⟩ = some (.int .i64 (Sp.mul al ah bl bh).lo) := (kc 0).trans (by simp [go_sem, *])
  have f17_5_0 : v17.frozen? ⟨v9.heap.size, 0, none⟩ = false := (kf 0).trans (by simp [go_sem, *])
  have c17_5_1 : v17.cell? ⟨v9.heap.size, 1, none⟩ = some (.int .i64 (Sp.mul al ah bl bh).hi) := (kc 1).trans (by simp [go_sem, *])
  have f17_5_1 : v17.frozen? ⟨v9.heap.size, 1, none⟩ = false := (kf 1).trans (by simp [go_sem, *])
  clear kc kf
  clear c16_0_0 f16_0_0 c16_0_1 f16_0_1 c16_1_0 f16_1_0 c16_1_1 f16_1_1 c16_2_0 f16_2_0 c16_2_1 f16_2_1 c16_3_0 f16_3_0 c16_3_1 f16_3_1 c16_4_0 f16_4_0 c16_4_1 f16_4_1 c16_5_0 f16_5_0 c16_5_1 f16_5_1
  go_wp2_with fail
  refine (div_any _ _ _ _ _).mono ?_
  rintro e v18 ⟨rfl, h18⟩
  have z18 := h18.size
  try simp at z18
  have hB18 : Below w.heap.size w v18 := Below.call (w := w) (by repeat (first | (with_reducible exact Below.refl _ _) | (with_reducible assumption) | refine Below.setCell ?_ (by first | omega | (simp; omega) | (simp; done)) _ | refine Below.alloc ?_ (by first | omega | (simp; omega) | (simp; done)) _ | refine Below.drew ?_)) h18
  obtain ⟨k18_0, kc, kf⟩ := keepB h18 (w.heap.size) (by first | omega | (simp; omega) | (simp; done))
  have c18_0_0 : v18.cell? ⟨w.heap.size, 0, none⟩ = some (.int .i64 al) := (kc 0).trans (by simp [go_sem, *])
  have f18_0_0 : v18.frozen? ⟨w.heap.size, 0, none⟩ = false := (kf 0).trans (by simp [go_sem, *])
  have c18_0_1 : v18.cell? ⟨w.heap.size, 1, none⟩ = some (.int .i64 ah) := (kc 1).trans (by simp [go_sem, *])
  have f18_0_1 : v18.frozen? ⟨w.heap.size, 1, none⟩ = false := (kf 1).trans (by simp [go_sem, *])
  clear kc kf
  obtain ⟨k18_1, kc, kf⟩ := keepB h18 (w.heap.size + 1) (by first | omega | (simp; omega) | (simp; done))
  have c18_1_0 : v18.cell? ⟨w.heap.size + 1, 0, none⟩ = some (.int .i64 bl) := (kc 0).trans (by simp [go_sem, *])
  have f18_1_0 : v18.frozen? ⟨w.heap.size + 1, 0, none⟩ = false := (kf 0).trans (by simp [go_sem, *])
  have c18_1_1 : v18.cell? ⟨w.heap.size + 1, 1, none⟩ = some (.int .i64 bh) := (kc 1).trans (by simp [go_sem, *])
  have f18_1_1 : v18.frozen? ⟨w.heap.size + 1, 1, none⟩ = false := (kf 1).trans (by simp [go_sem, *])
  clear kc kf
  obtain ⟨k18_2, kc, kf⟩ := keepB h18 (w.heap.size + 1 + 1) (by first | omega | (simp; omega) | (simp; done))
  have c18_2_0 : v18.cell? ⟨w.heap.size + 1 + 1, 0, none⟩ = some (.int .i64 cl) := (kc 0).trans (by simp [go_sem, *])
  have f18_2_0 : v18.frozen? ⟨w.heap.size + 1 + 1, 0, none⟩ = false := (kf 0).trans (by simp [go_sem, *])
  have c18_2_1 : v18.cell? ⟨w.heap.size + 1 + 1, 1, none⟩ = some (.int .i64 ch) := (kc 1).trans (by simp [go_sem, *])
  have f18_2_1 : v18.frozen? ⟨w.heap.size + 1 + 1, 1, none⟩ = false := (kf 1).trans (by simp [go_sem, *])
  clear kc kf
  obtain ⟨k18_3, kc, kf⟩ := keepB h18 (w.heap.size + 1 + 1 + 1) (by first | omega | (simp; omega) | (simp; done))
  have c18_3_0 : v18.cell? ⟨w.heap.size + 1 + 1 + 1, 0, none⟩ = some (.int .i64 dl) := (kc 0).trans (by simp [go_sem, *])
  have f18_3_0 : v18.frozen? ⟨w.heap.size + 1 + 1 + 1, 0, none⟩ = false := (kf 0).trans (by simp [go_sem, *])
  have c18_3_1 : v18.cell? ⟨w.heap.size + 1 + 1 + 1, 1, none⟩ = some (.int .i64 dh) := (kc 1).trans (by simp [go_sem, *])
  have f18_3_1 : v18.frozen? ⟨w.heap.size + 1 + 1 + 1, 1, none⟩ = false := (kf 1).trans (by simp [go_sem, *])
  clear kc kf
  obtain ⟨k18_4, kc, kf⟩ := keepB h18 (v8.heap.size) (by first | omega | (simp; omega) | (simp; done))
  have c18_4_0 : v18.cell? ⟨v8.heap.size, 0, none⟩ = some (.int .i64 (Sp.div cl ch dl dh).lo) := (kc 0).trans (by simp [go_sem, *])
  have f18_4_0 : v18.frozen? ⟨v8.heap.size, 0, none⟩ = false := (kf 0).trans (by simp [go_sem, *])
  have c18_4_1 : v18.cell? ⟨v8.heap.size, 1, none⟩ = some (.int .i64 (Sp.div cl ch dl dh).hi) := (kc 1).trans (by simp [go_sem, *])
  have f18_4_1 : v18.frozen? ⟨v8.heap.size, 1, none⟩ = false := (kf 1).trans (by simp [go_sem, *])
  clear kc kf
  obtain ⟨k18_5, kc, kf⟩ := keepB h18 (v9.heap.size) (by first | omega | (simp; omega) | (simp; done))
  have c18_5_0 : v18.cell? ⟨v9.heap.size, 0, none⟩ = some (.int .i64 (Sp.mul al ah bl bh).lo) := (kc 0).trans (by simp [go_sem, *])
  have f18_5_0 : v18.frozen? ⟨v9.heap.size, 0, none⟩ = false := (kf 0).trans (by simp [go_sem, *])
  have c18_5_1 : v18.cell? ⟨v9.heap.size, 1, none⟩ = some (.int .i64 (Sp.mul al ah bl bh).hi) := (kc 1).trans (by simp [go_sem, *])
  have f18_5_1 : v18.frozen? ⟨v9.heap.size, 1, none⟩ = false := (kf 1).trans (by simp [go_sem, *])
  clear kc kf
  clear c17_0_0 f17_0_0 c17_0_1 f17_0_1 c17_1_0 f17_1_0 c17_1_1 f17_1_1 c17_2_0 f17_2_0 c17_2_1 f17_2_1 c17_3_0 f17_3_0 c17_3_1 f17_3_1 c17_4_0 f17_4_0 c17_4_1 f17_4_1 c17_5_0 f17_5_0 c17_5_1 f17_5_1
  go_wp2_with fail
  refine (narrow_any _ _ _ _ _ _ _).mono ?_
  rintro e v19 ⟨rfl, h19⟩
  have z19 := h19.size
  try simp at z19
  have hB19 : Below w.heap.size w v19 := Below.call (w := w) (by repeat (first | (with_reducible exact Below.refl _ _) | (with_reducible assumption) | refine Below.setCell ?_ (by first | omega | (simp; omega) | (simp; done)) _ | refine Below.alloc ?_ (by first | omega | (simp; omega) | (simp; done)) _ | refine Below.drew ?_)) h19
  obtain ⟨k19_0, kc, kf⟩ := keepB h19 (w.heap.size) (by first | omega | (simp; omega) | (simp; done))
  have c19_0_0 : v19.cell? ⟨w.heap.size, 0, none⟩ = some (.int .i64 al) := (kc 0).trans (by simp [go_sem, *])
  have f19_0_0 : v19.frozen? ⟨w.heap.size, 0, none⟩ = false := (kf 0).trans (by simp [go_sem, *])
  have c19_0_1 : v19.cell? ⟨w.heap.size, 1, none⟩ = some (.int .i64 ah) := (kc 1).trans (by simp [go_sem, *])
  have f19_0_1 : v19.frozen? ⟨w.heap.size, 1, none⟩ = false := (kf 1).trans (by simp [go_sem, *])
  clear kc kf
  obtain ⟨k19_1, kc, kf⟩ := keepB h19 (w.heap.size + 1) (by first | omega | (simp; omega) | (simp; done))
  have c19_1_0 : v19.cell? ⟨w.heap.size + 1, 0, none⟩ = some (.int .i64 bl) := (kc 0).trans (by simp [go_sem, *])
  have f19_1_0 : v19.frozen? ⟨w.heap.size + 1, 0, none⟩ = false := (kf 0).trans (by simp [go_sem, *])
  have c19_1_1 : v19.cell? ⟨w.heap.size + 1, 1, none⟩ = some (.int .i64 bh) := (kc 1).trans (by simp [go_sem, *])
  have f19_1_1 : v19.frozen? ⟨w.heap.size + 1, 1, none⟩ = false := (kf 1).trans (by simp [go_sem, *])
  clear kc kf
  obtain ⟨k19_2, kc, kf⟩ := keepB h19 (w.heap.size + 1 + 1) (by first | omega | (simp; omega) | (simp; done))
  have c19_2_0 : v19.cell? ⟨w.heap.size + 1 + 1, 0, none⟩ = some (.int .i64 cl) := (kc 0).trans (by simp [go_sem, *])
  have f19_2_0 : v19.frozen? ⟨w.heap.size + 1 + 1, 0, none⟩ = false := (kf 0).trans (by simp [go_sem, *])
  have c19_2_1 : v19.cell? ⟨w.heap.size + 1 + 1, 1, none⟩ = some (.int .i64 ch) := (kc 1).trans (by simp [go_sem, *])
  have f19_2_1 : v19.frozen? ⟨w.heap.size + 1 + 1, 1, none⟩ = false := (kf 1).trans (by simp [go_sem, *])
  clear kc kf
  obtain ⟨k19_3, kc, kf⟩ := keepB h19 (w.heap.size + 1 + 1 + 1) (by first | omega | (simp; omega) | (simp; done))
  have c19_3_0 : v19.cell? ⟨w.heap.size + 1 + 1 + 1, 0, none⟩ = some (.int .i64 dl) := (kc 0).trans (by simp [go_sem, *])
  have f19_3_0 : v19.frozen? ⟨w.heap.size + 1 + 1 + 1, 0, none⟩ = false := (kf 0).trans (by simp [go_sem, *])
  have c19_3_1 : v19.cell? ⟨w.heap.size + 1 + 1 + 1, 1, none⟩ = some (.int .i64 dh) := (kc 1).trans (by simp [go_sem, *])
  have f19_3_1 : v19.frozen? ⟨w.heap.size + 1 + 1 + 1, 1, none⟩ = false := (kf 1).trans (by simp [go_sem, *])
  clear kc kf
  obtain ⟨k19_4, kc, kf⟩ := keepB h19 (v8.heap.size) (by first | omega | (simp; omega) | (simp; done))
  have c19_4_0 : v19.cell? ⟨v8.heap.size, 0, none⟩ = some (.int .i64 (Sp.div cl ch dl dh).lo) := (kc 0).trans (by simp [go_sem, *])
  have f19_4_0 : v19.frozen? ⟨v8.heap.size, 0, none⟩ = false := (kf 0).trans (by simp [go_sem, *])
  have c19_4_1 : v19.cell? ⟨v8.heap.size, 1, none⟩ = some (.int .i64 (Sp.div cl ch dl dh).hi) := (kc 1).trans (by simp [go_sem, *])
  have f19_4_1 : v19.frozen? ⟨v8.heap.size, 1, none⟩ = false := (kf 1).trans (by simp [go_sem, *])
  clear kc kf
  obtain ⟨k19_5, kc, kf⟩ := keepB h19 (v9.heap.size) (by first | omega | (simp; omega) | (simp; done))
  have c19_5_0 : v19.cell? ⟨v9.heap.size, 0, none⟩ = some (.int .i64 (Sp.div al ah bl bh).lo) := (kc 0).trans (by simp [go_sem, *])
  have f19_5_0 : v19.frozen? ⟨v9.heap.size, 0, none⟩ = false := (kf 0).trans (by simp [go_sem, *])
  have c19_5_1 : v19.cell? ⟨v9.heap.size, 1, none⟩ = some (.int .i64 (Sp.div al ah bl bh).hi) := (kc 1).trans (by simp [go_sem, *])
  have f19_5_1 : v19.frozen? ⟨v9.heap.size, 1, none⟩ = false := (kf 1).trans (by simp [go_sem, *])
  clear kc kf
  clear c18_0_0 f18_0_0 c18_0_1 f18_0_1 c18_1_0 f18_1_0 c18_1_1 f18_1_1 c18_2_0 f18_2_0 c18_2_1 f18_2_1 c18_3_0 f18_3_0 c18_3_1 f18_3_1 c18_4_0 f18_4_0 c18_4_1 f18_4_1 c18_5_0 f18_5_0 c18_5_1 f18_5_1
  go_wp2_with fail
  refine (mod_any _ _ _ _ _).mono ?_
  rintro e v20 ⟨rfl, h20⟩
  have z20 := h20.size
  try simp at z20
  have hB20 : Below w.heap.size w v20 := Below.call (w := w) (by repeat (first | (with_reducible exact Below.refl _ _) | (with_reducible assumption) | refine Below.setCell ?_ (by first | omega | (simp; omega) | (simp; done)) _ | refine Below.alloc ?_ (by first | omega | (simp; omega) | (simp; done)) _ | refine Below.drew ?_)) h20
  obtain ⟨k20_0, kc, kf⟩ := keepB h20 (w.heap.size) (by first | omega | (simp; omega) | (simp; done))
  have c20_0_0 : v20.cell? ⟨w.heap.size, 0, none⟩ = some (.int .i64 al) := (kc 0).trans (by simp [go_sem, *])
  have f20_0_0 : v20.frozen? ⟨w.heap.size, 0, none⟩ = false := (kf 0).trans (by simp [go_sem, *])
  have c20_0_1 : v20.cell? ⟨w.heap.size, 1, none⟩ = some (.int .i64 ah) := (kc 1).trans (by simp [go_sem, *])
  have f20_0_1 : v20.frozen? ⟨w.heap.size, 1, none⟩ = false := (kf 1).trans (by simp [go_sem, *])
  clear kc kf
  obtain ⟨k20_1, kc, kf⟩ := keepB h20 (w.heap.size + 1) (by first | omega | (simp; omega) | (simp; done))
  have c20_1_0 : v20.cell? ⟨w.heap.size + 1, 0, none⟩ = some (.int .i64 bl) := (kc 0).trans (by simp [go_sem, *])
  have f20_1_0 : v20.frozen? ⟨w.heap.size + 1, 0, none⟩ = false := (kf 0).trans (by simp [go_sem, *])
  have c20_1_1 : v20.cell? ⟨w.heap.size + 1, 1, none⟩ = some (.int .i64 bh) := (kc 1).trans (by simp [go_sem, *])
  have f20_1_1 : v20.frozen? ⟨w.heap.size + 1, 1, none⟩ = false := (kf 1).trans (by simp [go_sem, *])
  clear kc kf
  obtain ⟨k20_2, kc, kf⟩ := keepB h20 (w.heap.size + 1 + 1) (by first | omega | (simp; omega) | (simp; done))
  have c20_2_0 : v20.cell? ⟨w.heap.size + 1 + 1, 0, none⟩ = some (.int .i64 cl) := (kc 0).trans (by simp [go_sem, *])
  have f20_2_0 : v20.frozen? ⟨w.heap.size + 1 + 1, 0, none⟩ = false := (kf 0).trans (by simp [go_sem, *])
  have c20_2_1 : v20.cell? ⟨w.heap.size + 1 + 1, 1, none⟩ = some (.int .i64 ch) := (kc 1).trans (by simp [go_sem, *])
  have f20_2_1 : v20.frozen? ⟨w.heap.size + 1 + 1, 1, none⟩ = false := (kf 1).trans (by simp [go_sem, *])
  clear kc kf
  obtain ⟨k20_3, kc, kf⟩ := keepB h20 (w.heap.size + 1 + 1 + 1) (by first | omega | (simp; omega) | (simp; done))
  have c20_3_0 : v20.cell? ⟨w.heap.size + 1 + 1 + 1, 0, none⟩ = some (.int .i64 dl) := (kc 0).trans (by simp [go_sem, *])
  have f20_3_0 : v20.frozen? ⟨w.heap.size + 1 + 1 + 1, 0, none⟩ = false := (kf 0).trans (by simp [go_sem, *])
  have c20_3_1 : v20.cell? ⟨w.heap.size + 1 + 1 + 1, 1, none⟩ = some (.int .i64 dh) := (kc 1).trans (by simp [go_sem, *])
  have f20_3_1 : v20.frozen? ⟨w.heap.size + 1 + 1 + 1, 1, none⟩ = false := (kf 1).trans (by simp [go_sem, *])
  clear kc kf
  obtain ⟨k20_4, kc, kf⟩ := keepB h20 (v8.heap.size) (by first | omega | (simp; omega) | (simp; done))
  have c20_4_0 : v20.cell? ⟨v8.heap.size, 0, none⟩ = some (.int .i64 (Sp.div cl ch dl dh).lo) := (kc 0).trans (by simp [go_sem, *])
  have f20_4_0 : v20.frozen? ⟨v8.heap.size, 0, none⟩ = false := (kf 0).trans (by simp [go_sem, *])
  have c20_4_1 : v20.cell? ⟨v8.heap.size, 1, none⟩ = some (.int .i64 (Sp.div cl ch dl dh).hi) := (kc 1).trans (by simp [go_sem, *])
  have f20_4_1 : v20.frozen? ⟨v8.heap.size, 1, none⟩ = false := (kf 1).trans (by simp [go_sem, *])
  clear kc kf
  obtain ⟨k20_5, kc, kf⟩ := keepB h20 (v9.heap.size) (by first | omega | (simp; omega) | (simp; done))
  have c20_5_0 : v20.cell? ⟨v9.heap.size, 0, none⟩ = some (.int .i64 (Sp.div al ah bl bh).lo) := (kc 0).trans (by simp [go_sem, *])
  have f20_5_0 : v20.frozen? ⟨v9.heap.size, 0, none⟩ = false := (kf 0).trans (by simp [go_sem, *])
  have c20_5_1 : v20.cell? ⟨v9.heap.size, 1, none⟩ = some (.int .i64 (Sp.div al ah bl bh).hi) := (kc 1).trans (by simp [go_sem, *])
  have f20_5_1 : v20.frozen? ⟨v9.heap.size, 1, none⟩ = false := (kf 1).trans (by simp [go_sem, *])
  clear kc kf
  clear c19_0_0 f19_0_0 c19_0_1 f19_0_1 c19_1_0 f19_1_0 c19_1_1 f19_1_1 c19_2_0 f19_2_0 c19_2_1 f19_2_1 c19_3_0 f19_3_0 c19_3_1 f19_3_1 c19_4_0 f19_4_0 c19_4_1 f19_4_1 c19_5_0 f19_5_0 c19_5_1 f19_5_1
  go_wp2_with fail
  refine (mod_any _ _ _ _ _).mono ?_
  rintro e v21 ⟨rfl, h21⟩
  have z21 := h21.size
  try simp at z21
  have hB21 : Below w.heap.size w v21 := Below.call (w := w) (by repeat (first | (with_reducible exact Below.refl _ _) | (with_reducible assumption) | refine Below.setCell ?_ (by first | omega | (simp; omega) | (simp; done)) _ | refine Below.alloc ?_ (by first | omega | (simp; omega) | (simp; done)) _ | refine Below.drew ?_)) h21
  obtain ⟨k21_0, kc, kf⟩ := keepB h21 (w.heap.size) (by first | omega | (simp; omega) | (simp; done))
  have c21_0_0 : v21.cell? ⟨w.heap.size, 0, none⟩ = some (.int .i64 al) := (kc 0).trans (by simp [go_sem, *])
  have f21_0_0 : v21.frozen? ⟨w.heap.size, 0, none⟩ = false := (kf 0).trans (by simp [go_sem, *])
  have c21_0_1 : v21.cell? ⟨w.heap.size, 1, none⟩ = some (.int .i64 ah) := (kc 1).trans (by simp [go_sem, *])
  have f21_0_1 : v21.frozen? ⟨w.heap.size, 1, none⟩ = false := (kf 1).trans (by simp [go_sem, *])
  clear kc kf
  obtain ⟨k21_1, kc, kf⟩ := keepB h21 (w.heap.size + 1) (by first | omega | (simp; omega) | (simp; done))
  have c21_1_0 : v21.cell? ⟨w.heap.size + 1, 0, none⟩ = some (.int .i64 bl) := (kc 0).trans (by simp [go_sem, *])
  have f21_1_0 : v21.frozen? ⟨w.heap.size + 1, 0, none⟩ = false := (kf 0).trans (by simp [go_sem, *])
  have c21_1_1 : v21.cell? ⟨w.heap.size + 1, 1, none⟩ = some (.int .i64 bh) := (kc 1).trans (by simp [go_sem, *])
  have f21_1_1 : v21.frozen? ⟨w.heap.size + 1, 1, none⟩ = false := (kf 1).trans (by simp [go_sem, *])
  clear kc kf
  obtain ⟨k21_2, kc, kf⟩ := keepB h21 (w.heap.size + 1 + 1) (by first | omega | (simp; omega) | (simp; done))
  have c21_2_0 : v21.cell? ⟨w.heap.size + 1 + 1, 0, none⟩ = some (.int .i64 cl) := (kc 0).trans (by simp [go_sem, *])
  have f21_2_0 : v21.frozen? ⟨w.heap.size + 1 + 1, 0, none⟩ = false := (kf 0).trans (by simp [go_sem, *])
  have c21_2_1 : v21.cell? ⟨w.heap.size + 1 + 1, 1, none⟩ = some (.int .i64 ch) := (kc 1).trans (by simp [go_sem, *])
  have f21_2_1 : v21.frozen? ⟨w.heap.size + 1 + 1, 1, none⟩ = false := (kf 1).trans (by simp [go_sem, *])
  clear kc kf
  obtain ⟨k21_3, kc, kf⟩ := keepB h21 (w.heap.size + 1 + 1 + 1) (by first | omega | (simp; omega) | (simp; done))
  have c21_3_0 : v21.cell? ⟨w.heap.size + 1 + 1 + 1, 0, none⟩ = some (.int .i64 dl) := (kc 0).trans (by simp [go_sem, *])
  have f21_3_0 : v21.frozen? ⟨w.heap.size + 1 + 1 + 1, 0, none⟩ = false := (kf 0).trans (by simp [go_sem, *])
  have c21_3_1 : v21.cell? ⟨w.heap.size + 1 + 1 + 1, 1, none⟩ = some (.int .i64 dh) := (kc 1).trans (by simp [go_sem, *])
  have f21_3_1 : v21.frozen? ⟨w.heap.size + 1 + 1 + 1, 1, none⟩ = false := (kf 1).trans (by simp [go_sem, *])
  clear kc kf
  obtain ⟨k21_4, kc, kf⟩ := keepB h21 (v8.heap.size) (by first | omega | (simp; omega) | (simp; done))
  have c21_4_0 : v21.cell? ⟨v8.heap.size, 0, none⟩ = some (.int .i64 (Sp.mod cl ch dl dh).lo) := (kc 0).trans (by simp [go_sem, *])
  have f21_4_0 : v21.frozen? ⟨v8.heap.size, 0, none⟩ = false := (kf 0).trans (by simp [go_sem, *])
  have c21_4_1 : v21.cell? ⟨v8.heap.size, 1, none⟩ = some (.int .i64 (Sp.mod cl ch dl dh).hi) := (kc 1).trans (by simp [go_sem, *])
  have f21_4_1 : v21.frozen? ⟨v8.heap.size, 1, none⟩ = false := (kf 1).trans (by simp [go_sem, *])
  clear kc kf
  obtain ⟨k21_5, kc, kf⟩ := keepB h21 (v9.heap.size) (by first | omega | (simp; omega) | (simp; done))
  have c21_5_0 : v21.cell? ⟨v9.heap.size, 0, none⟩ = some (.int .i64 (Sp.div al ah bl bh).lo) := (kc 0).trans (by simp [go_sem, *])
  have f21_5_0 : v21.frozen? ⟨v9.heap.size, 0, none⟩ = false := (kf 0).trans (by simp [go_sem, *])
  have c21_5_1 : v21.cell? ⟨v9.heap.size, 1, none⟩ = some (.int .i64 (Sp.div al ah bl bh).hi) := (kc 1).trans (by simp [go_sem, *])
  have f21_5_1 : v21.frozen? ⟨v9.heap.size, 1, none⟩ = false := (kf 1).trans (by simp [go_sem, *])
  clear kc kf
  clear c20_0_0 f20_0_0 c20_0_1 f20_0_1 c20_1_0 f20_1_0 c20_1_1 f20_1_1 c20_2_0 f20_2_0 c20_2_1 f20_2_1 c20_3_0 f20_3_0 c20_3_1 f20_3_1 c20_4_0 f20_4_0 c20_4_1 f20_4_1 c20_5_0 f20_5_0 c20_5_1 f20_5_1
  go_wp2_with fail
  refine (narrow_any _ _ _ _ _ _ _).mono ?_
  rintro e v22 ⟨rfl, h22⟩
  have z22 := h22.size
  try simp at z22
  have hB22 : Below w.heap.size w v22 := Below.call (w := w) (by repeat (first | (with_reducible exact Below.refl _ _) | (with_reducible assumption) | refine Below.setCell ?_ (by first | omega | (simp; omega) | (simp; done)) _ | refine Below.alloc ?_ (by first | omega | (simp; omega) | (simp; done)) _ | refine Below.drew ?_)) h22
  obtain ⟨k22_0, kc, kf⟩ := keepB h22 (w.heap.size) (by first | omega | (simp; omega) | (simp; done))
  have c22_0_0 : v22.cell? ⟨w.heap.size, 0, none⟩ = some (.int .i64 al) := (kc 0).trans (by simp [go_sem, *])
  have f22_0_0 : v22.frozen? ⟨w.heap.size, 0, none⟩ = false := (kf 0).trans (by simp [go_sem, *])
  have c22_0_1 : v22.cell? ⟨w.heap.size, 1, none⟩ = some (.int .i64 ah) := (kc 1).trans (by simp [go_sem, *])
  have f22_0_1 : v22.frozen? ⟨w.heap.size, 1, none⟩ = false := (kf 1).trans (by simp [go_sem, *])
  clear kc kf
  obtain ⟨k22_1, kc, kf⟩ := keepB h22 (w.heap.size + 1) (by first | omega | (simp; omega) | (simp; done))
  have c22_1_0 : v22.cell? ⟨w.heap.size + 1, 0, none⟩ = some (.int .i64 bl) := (kc 0).trans (by simp [go_sem, *])
  have f22_1_0 : v22.frozen? ⟨w.heap.size + 1, 0, none⟩ = false := (kf 0).trans (by simp [go_sem, *])
  have c22_1_1 : v22.cell? ⟨w.heap.size + 1, 1, none⟩ = some (.int .i64 bh) := (kc 1).trans (by simp [go_sem, *])
  have f22_1_1 : v22.frozen? ⟨w.heap.size + 1, 1, none⟩ = false := (kf 1).trans (by simp [go_sem, *])
  clear kc kf
  obtain ⟨k22_2, kc, kf⟩ := keepB h22 (w.heap.size + 1 + 1) (by first | omega | (simp; omega) | (simp; done))
  have c22_2_0 : v22.cell? ⟨w.heap.size + 1 + 1, 0, none⟩ = some (.int .i64 cl) := (kc 0).trans (by simp [go_sem, *])
  have f22_2_0 : v22.frozen? ⟨w.heap.size + 1 + 1, 0, none⟩ = false := (kf 0).trans (by simp [go_sem, *])
  have c22_2_1 : v22.cell? ⟨w.heap.size + 1 + 1, 1, none⟩ = some (.int .i64 ch) := (kc 1).trans (by simp [go_sem, *])
  have f22_2_1 : v22.frozen? ⟨w.heap.size + 1 + 1, 1, none⟩ = false := (kf 1).trans (by simp [go_sem, *])
  clear kc kf
  obtain ⟨k22_3, kc, kf⟩ := keepB h22 (w.heap.size + 1 + 1 + 1) (by first | omega | (simp; omega) | (simp; done))
  have c22_3_0 : v22.cell? ⟨w.heap.size + 1 + 1 + 1, 0, none⟩ = some (.int .i64 dl) := (kc 0).trans (by simp [go_sem, *])
  have f22_3_0 : v22.frozen? ⟨w.heap.size + 1 + 1 + 1, 0, none⟩ = false := (kf 0).trans (by simp [go_sem, *])
  have c22_3_1 : v22.cell? ⟨w.heap.size + 1 + 1 + 1, 1, none⟩ = some (.int .i64 dh) := (kc 1).trans (by simp [go_sem, *])
  have f22_3_1 : v22.frozen? ⟨w.heap.size + 1 + 1 + 1, 1, none⟩ = false := (kf 1).trans (by simp [go_sem, *])
  clear kc kf
  obtain ⟨k22_4, kc, kf⟩ := keepB h22 (v8.heap.size) (by first | omega | (simp; omega) | (simp; done))
  have c22_4_0 : v22.cell? ⟨v8.heap.size, 0, none⟩ = some (.int .i64 (Sp.mod cl ch dl dh).lo) := (kc 0).trans (by simp [go_sem, *])
  have f22_4_0 : v22.frozen? ⟨v8.heap.size, 0, none⟩ = false := (kf 0).trans (by simp [go_sem, *])
  have c22_4_1 : v22.cell? ⟨v8.heap.size, 1, none⟩ = some (.int .i64 (Sp.mod cl ch dl dh).hi) := (kc 1).trans (by simp [go_sem, *])
  have f22_4_1 : v22.frozen? ⟨v8.heap.size, 1, none⟩ = false := (kf 1).trans (by simp [go_sem, *])
  clear kc kf
  obtain ⟨k22_5, kc, kf⟩ := keepB h22 (v9.heap.size) (by first | omega | (simp; omega) | (simp; done))
  have c22_5_0 : v22.cell? ⟨v9.heap.size, 0, none⟩ = some (.int .i64 (Sp.mod al ah bl bh).lo) := (kc 0).trans (by simp [go_sem, *])
  have f22_5_0 : v22.frozen? ⟨v9.heap.size, 0, none⟩ = false := (kf 0).trans (by simp [go_sem, *])
  have c22_5_1 : v22.cell? ⟨v9.heap.size, 1, none⟩ = some (.int .i64 (Sp.mod al ah bl bh).hi) := (kc 1).trans (by simp [go_sem, *])
  have f22_5_1 : v22.frozen? ⟨v9.heap.size, 1, none⟩ = false := (kf 1).trans (by simp [go_sem, *])
  clear kc kf
  clear c21_0_0 f21_0_0 c21_0_1 f21_0_1 c21_1_0 f21_1_0 c21_1_1 f21_1_1 c21_2_0 f21_2_0 c21_2_1 f21_2_1 c21_3_0 f21_3_0 c21_3_1 f21_3_1 c21_4_0 f21_4_0 c21_4_1 f21_4_1 c21_5_0 f21_5_0 c21_5_1 f21_5_1
  go_upto_region 19 with (fail)
  go_cut [15] (fun s wx => s = .bool true ∧ Below w.heap.size w wx ∧ w.heap.size + 3 < wx.heap.size ∧ Four w.heap.size al ah bl bh cl ch dl dh wx)
  case first =>
    refine quiet_start (fun wx => Below w.heap.size w wx ∧ w.heap.size + 3 < wx.heap.size ∧ Four w.heap.size al ah bl bh cl ch dl dh wx) (by kernel_rfl) (by kernel_rfl) ?_ ?_
    · refine ⟨(by repeat (first | (with_reducible exact Below.refl _ _) | (with_reducible assumption) | refine Below.setCell ?_ (by first | omega | (simp; omega) | (simp; done)) _ | refine Below.alloc ?_ (by first | omega | (simp; omega) | (simp; done)) _ | refine Below.drew ?_)), by simp; omega, ?_⟩
      unfold Four; simp [go_sem, *]
    clear h1 z1 hB1 k1_0 k1_1 k1_2 k1_3 h2 z2 hB2 k2_0 k2_1 k2_2 k2_3 h3 z3 hB3 k3_0 k3_1 k3_2 k3_3 h4 z4 hB4 k4_0 k4_1 k4_2 k4_3 h5 z5 hB5 k5_0 k5_1 k5_2 k5_3 h6 z6 hB6 k6_0 k6_1 k6_2 k6_3 h7 z7 hB7 k7_0 k7_1 k7_2 k7_3 h8 z8 hB8 k8_0 k8_1 k8_2 k8_3 h9 z9 hB9 k9_0 k9_1 k9_2 k9_3 k9_4 h10 z10 hB10 k10_0 k10_1 k10_2 k10_3 k10_4 k10_5 h11 z11 hB11 k11_0 k11_1 k11_2 k11_3 k11_4 k11_5 h12 z12 hB12 k12_0 k12_1 k12_2 k12_3 k12_4 k12_5 h13 z13 hB13 k13_0 k13_1 k13_2 k13_3 k13_4 k13_5 h14 z14 hB14 k14_0 k14_1 k14_2 k14_3 k14_4 k14_5 h15 z15 hB15 k15_0 k15_1 k15_2 k15_3 k15_4 k15_5 h16 z16 hB16 k16_0 k16_1 k16_2 k16_3 k16_4 k16_5 h17 z17 hB17 k17_0 k17_1 k17_2 k17_3 k17_4 k17_5 h18 z18 hB18 k18_0 k18_1 k18_2 k18_3 k18_4 k18_5 h19 z19 hB19 k19_0 k19_1 k19_2 k19_3 k19_4 k19_5 h20 z20 hB20 k20_0 k20_1 k20_2 k20_3 k20_4 k20_5 h21 z21 hB21 k21_0 k21_1 k21_2 k21_3 k21_4 k21_5 h22 z22 hB22 k22_0 k22_1 k22_2 k22_3 k22_4 k22_5 c22_0_0 f22_0_0 c22_0_1 f22_0_1 c22_1_0 f22_1_0 c22_1_1 f22_1_1 c22_2_0 f22_2_0 c22_2_1 f22_2_1 c22_3_0 f22_3_0 c22_3_1 f22_3_1 c22_4_0 f22_4_0 c22_4_1 f22_4_1 c22_5_0 f22_5_0 c22_5_1 f22_5_1
    clear s1 s2 s3 s4 s5 ha hb hc hd hx hy
    clear l2 l3
    cases hl : (Sp.less al ah bl bh == -1)
    · have hk := l1 hl
      refine quiet_value_plain (.agg #[.int .i64 al, .int .i64 ah]) rfl ?_ ?_
      · intro wx hx; obtain ⟨_, _, g1, g2, g3, g4, g5, g6, g7, g8⟩ := hx; go_simp
      try simp only [Act.put, List.setIfInBounds_toArray, List.set_cons_zero, List.set_cons_succ]
      refine quiet_value_plain (.agg #[.int .i64 bl, .int .i64 bh]) rfl ?_ ?_
      · intro wx hx; obtain ⟨_, _, g1, g2, g3, g4, g5, g6, g7, g8⟩ := hx; go_simp
      try simp only [Act.put, List.setIfInBounds_toArray, List.set_cons_zero, List.set_cons_succ]
      refine quiet_call_plain (.int .i64 (Sp.less al ah bl bh)) 17 #[.agg #[.int .i64 al, .int .i64 ah], .agg #[.int .i64 bl, .int .i64 bh]] rfl ?_ ?_ ?_
      · intro wx hx; obtain ⟨_, _, g1, g2, g3, g4, g5, g6, g7, g8⟩ := hx; go_simp; try (exact ⟨rfl, rfl⟩)
      · intro wx hx; refine (less_any _ _ _ _ _).mono ?_; rintro e u ⟨rfl, hu⟩; have hz := hu.size; exact ⟨rfl, Below.call (w := w) hx.1 hu, by omega, hx.2.2.keep hu hx.2.1⟩
      try simp only [Act.put, List.setIfInBounds_toArray, List.set_cons_zero, List.set_cons_succ]
      refine quiet_value_plain (.bool false) rfl ?_ ?_
      · intro wx hx; obtain ⟨_, _, g1, g2, g3, g4, g5, g6, g7, g8⟩ := hx; go_simp
      try simp only [Act.put, List.setIfInBounds_toArray, List.set_cons_zero, List.set_cons_succ]
      refine quiet_value_plain (.bool false) rfl ?_ ?_
      · intro wx hx; obtain ⟨_, _, g1, g2, g3, g4, g5, g6, g7, g8⟩ := hx; go_simp
      try simp only [Act.put, List.setIfInBounds_toArray, List.set_cons_zero, List.set_cons_succ]
      refine quiet_value (.agg #[.int .i64 al, .int .i64 ah]) (by go_simp) ?_ ?_
      · intro wx hx; obtain ⟨_, _, g1, g2, g3, g4, g5, g6, g7, g8⟩ := hx; go_simp
      try simp only [Act.put, List.setIfInBounds_toArray, List.set_cons_zero, List.set_cons_succ]
      refine quiet_value (.agg #[.int .i64 bl, .int .i64 bh]) (by go_simp) ?_ ?_
      · intro wx hx; obtain ⟨_, _, g1, g2, g3, g4, g5, g6, g7, g8⟩ := hx; go_simp
      try simp only [Act.put, List.setIfInBounds_toArray, List.set_cons_zero, List.set_cons_succ]
      refine quiet_call (.int .i64 (Sp.less al ah bl bh)) 17 #[.agg #[.int .i64 al, .int .i64 ah], .agg #[.int .i64 bl, .int .i64 bh]] (by go_simp) ?_ ?_ ?_
      · intro wx hx; obtain ⟨_, _, g1, g2, g3, g4, g5, g6, g7, g8⟩ := hx; go_simp; try (exact ⟨rfl, rfl⟩)
      · intro wx hx; refine (less_any _ _ _ _ _).mono ?_; rintro e u ⟨rfl, hu⟩; have hz := hu.size; exact ⟨rfl, Below.call (w := w) hx.1 hu, by omega, hx.2.2.keep hu hx.2.1⟩
      try simp only [Act.put, List.setIfInBounds_toArray, List.set_cons_zero, List.set_cons_succ]
      refine quiet_value (.agg #[.int .i64 cl, .int .i64 ch]) (by go_simp) ?_ ?_
      · intro wx hx; obtain ⟨_, _, g1, g2, g3, g4, g5, g6, g7, g8⟩ := hx; go_simp
      try simp only [Act.put, List.setIfInBounds_toArray, List.set_cons_zero, List.set_cons_succ]
      refine quiet_value (.agg #[.int .i64 dl, .int .i64 dh]) (by go_simp) ?_ ?_
      · intro wx hx; obtain ⟨_, _, g1, g2, g3, g4, g5, g6, g7, g8⟩ := hx; go_simp
      try simp only [Act.put, List.setIfInBounds_toArray, List.set_cons_zero, List.set_cons_succ]
      refine quiet_call (.int .i64 (Sp.less cl ch dl dh)) 17 #[.agg #[.int .i64 cl, .int .i64 ch], .agg #[.int .i64 dl, .int .i64 dh]] (by go_simp) ?_ ?_ ?_
      · intro wx hx; obtain ⟨_, _, g1, g2, g3, g4, g5, g6, g7, g8⟩ := hx; go_simp; try (exact ⟨rfl, rfl⟩)
      · intro wx hx; refine (less_any _ _ _ _ _).mono ?_; rintro e u ⟨rfl, hu⟩; have hz := hu.size; exact ⟨rfl, Below.call (w := w) hx.1 hu, by omega, hx.2.2.keep hu hx.2.1⟩
      try simp only [Act.put, List.setIfInBounds_toArray, List.set_cons_zero, List.set_cons_succ]
      refine quiet_value (.bool true) (by go_simp) ?_ ?_
      · intro wx hx; obtain ⟨_, _, g1, g2, g3, g4, g5, g6, g7, g8⟩ := hx; go_simp
      try simp only [Act.put, List.setIfInBounds_toArray, List.set_cons_zero, List.set_cons_succ]
      refine quiet_value_plain (.bool true) rfl ?_ ?_
      · intro wx hx; obtain ⟨_, _, g1, g2, g3, g4, g5, g6, g7, g8⟩ := hx; go_simp
      try simp only [Act.put, List.setIfInBounds_toArray, List.set_cons_zero, List.set_cons_succ]
      refine quiet_value_plain (.bool true) rfl ?_ ?_
      · intro wx hx; obtain ⟨_, _, g1, g2, g3, g4, g5, g6, g7, g8⟩ := hx; go_simp
      try simp only [Act.put, List.setIfInBounds_toArray, List.set_cons_zero, List.set_cons_succ]
      with_reducible refine wpQuiet_nil ?_
      intro wq hq
      go_wp2_with fail
      go_meet
      exact ⟨rfl, hq⟩
    · have hL : Sp.less al ah bl bh = -1 := by simpa using hl
      have hcn := fun (wz : World) => less_any al ah bl bh wz
      rw [hL] at hcn
      have HCN := Lib.hid hcn
      clear hL hl hcn
      refine quiet_value_plain (.agg #[.int .i64 al, .int .i64 ah]) rfl ?_ ?_
      · intro wx hx; obtain ⟨_, _, g1, g2, g3, g4, g5, g6, g7, g8⟩ := hx; go_simp
      try simp only [Act.put, List.setIfInBounds_toArray, List.set_cons_zero, List.set_cons_succ]
      refine quiet_value_plain (.agg #[.int .i64 bl, .int .i64 bh]) rfl ?_ ?_
      · intro wx hx; obtain ⟨_, _, g1, g2, g3, g4, g5, g6, g7, g8⟩ := hx; go_simp
      try simp only [Act.put, List.setIfInBounds_toArray, List.set_cons_zero, List.set_cons_succ]
      refine quiet_call_plain (.int .i64 (-1)) 17 #[.agg #[.int .i64 al, .int .i64 ah], .agg #[.int .i64 bl, .int .i64 bh]] rfl ?_ ?_ ?_
      · intro wx hx; obtain ⟨_, _, g1, g2, g3, g4, g5, g6, g7, g8⟩ := hx; go_simp; try (exact ⟨rfl, rfl⟩)
      · intro wx hx; refine (HCN.out _).mono ?_; rintro e u ⟨rfl, hu⟩; have hz := hu.size; exact ⟨rfl, Below.call (w := w) hx.1 hu, by omega, hx.2.2.keep hu hx.2.1⟩
      try simp only [Act.put, List.setIfInBounds_toArray, List.set_cons_zero, List.set_cons_succ]
      refine quiet_value_plain (.bool true) rfl ?_ ?_
      · intro wx hx; obtain ⟨_, _, g1, g2, g3, g4, g5, g6, g7, g8⟩ := hx; go_simp
      try simp only [Act.put, List.setIfInBounds_toArray, List.set_cons_zero, List.set_cons_succ]
      refine quiet_value_plain (.bool true) rfl ?_ ?_
      · intro wx hx; obtain ⟨_, _, g1, g2, g3, g4, g5, g6, g7, g8⟩ := hx; go_simp
      try simp only [Act.put, List.setIfInBounds_toArray, List.set_cons_zero, List.set_cons_succ]
      with_reducible refine quiet_skip ?_ ?_
      · go_simp
      try simp only [Act.put, List.setIfInBounds_toArray, List.set_cons_zero, List.set_cons_succ]
      with_reducible refine quiet_skip ?_ ?_
      · go_simp
      try simp only [Act.put, List.setIfInBounds_toArray, List.set_cons_zero, List.set_cons_succ]
      with_reducible refine quiet_skip ?_ ?_
      · go_simp
      try simp only [Act.put, List.setIfInBounds_toArray, List.set_cons_zero, List.set_cons_succ]
      with_reducible refine quiet_skip ?_ ?_
      · go_simp
      try simp only [Act.put, List.setIfInBounds_toArray, List.set_cons_zero, List.set_cons_succ]
      with_reducible refine quiet_skip ?_ ?_
      · go_simp
      try simp only [Act.put, List.setIfInBounds_toArray, List.set_cons_zero, List.set_cons_succ]
      with_reducible refine quiet_skip ?_ ?_
      · go_simp
      try simp only [Act.put, List.setIfInBounds_toArray, List.set_cons_zero, List.set_cons_succ]
      with_reducible refine quiet_skip ?_ ?_
      · go_simp
      try simp only [Act.put, List.setIfInBounds_toArray, List.set_cons_zero, List.set_cons_succ]
      refine quiet_value_plain (.bool true) rfl ?_ ?_
      · intro wx hx; obtain ⟨_, _, g1, g2, g3, g4, g5, g6, g7, g8⟩ := hx; go_simp
      try simp only [Act.put, List.setIfInBounds_toArray, List.set_cons_zero, List.set_cons_succ]
      refine quiet_value_plain (.bool true) rfl ?_ ?_
      · intro wx hx; obtain ⟨_, _, g1, g2, g3, g4, g5, g6, g7, g8⟩ := hx; go_simp
      try simp only [Act.put, List.setIfInBounds_toArray, List.set_cons_zero, List.set_cons_succ]
      with_reducible refine wpQuiet_nil ?_
      intro wq hq
      go_wp2_with fail
      go_meet
      exact ⟨rfl, hq⟩
  case rest =>
    obtain ⟨rfl, hB, hz, hF⟩ := hcut
    rename World => wq19
    have HF := Lib.hid hF; clear hF
    clear h1 z1 hB1 k1_0 k1_1 k1_2 k1_3 h2 z2 hB2 k2_0 k2_1 k2_2 k2_3 h3 z3 hB3 k3_0 k3_1 k3_2 k3_3 h4 z4 hB4 k4_0 k4_1 k4_2 k4_3 h5 z5 hB5 k5_0 k5_1 k5_2 k5_3 h6 z6 hB6 k6_0 k6_1 k6_2 k6_3 h7 z7 hB7 k7_0 k7_1 k7_2 k7_3 h8 z8 hB8 k8_0 k8_1 k8_2 k8_3 h9 z9 hB9 k9_0 k9_1 k9_2 k9_3 k9_4 h10 z10 hB10 k10_0 k10_1 k10_2 k10_3 k10_4 k10_5 h11 z11 hB11 k11_0 k11_1 k11_2 k11_3 k11_4 k11_5 h12 z12 hB12 k12_0 k12_1 k12_2 k12_3 k12_4 k12_5 h13 z13 hB13 k13_0 k13_1 k13_2 k13_3 k13_4 k13_5 h14 z14 hB14 k14_0 k14_1 k14_2 k14_3 k14_4 k14_5 h15 z15 hB15 k15_0 k15_1 k15_2 k15_3 k15_4 k15_5 h16 z16 hB16 k16_0 k16_1 k16_2 k16_3 k16_4 k16_5 h17 z17 hB17 k17_0 k17_1 k17_2 k17_3 k17_4 k17_5 h18 z18 hB18 k18_0 k18_1 k18_2 k18_3 k18_4 k18_5 h19 z19 hB19 k19_0 k19_1 k19_2 k19_3 k19_4 k19_5 h20 z20 hB20 k20_0 k20_1 k20_2 k20_3 k20_4 k20_5 h21 z21 hB21 k21_0 k21_1 k21_2 k21_3 k21_4 k21_5 h22 z22 hB22 k22_0 k22_1 k22_2 k22_3 k22_4 k22_5 c22_0_0 f22_0_0 c22_0_1 f22_0_1 c22_1_0 f22_1_0 c22_1_1 f22_1_1 c22_2_0 f22_2_0 c22_2_1 f22_2_1 c22_3_0 f22_3_0 c22_3_1 f22_3_1 c22_4_0 f22_4_0 c22_4_1 f22_4_1 c22_5_0 f22_5_0 c22_5_1 f22_5_1
    clear s1 s2 s3 s4 s5 ha hb hc hd hx hy
    go_upto_region 20 with (fail)
    go_cut [16] (fun s wx => s = .bool true ∧ Below w.heap.size w wx ∧ w.heap.size + 3 < wx.heap.size ∧ Four w.heap.size al ah bl bh cl ch dl dh wx)
    case first =>
      refine quiet_start (fun wx => Below w.heap.size w wx ∧ w.heap.size + 3 < wx.heap.size ∧ Four w.heap.size al ah bl bh cl ch dl dh wx) (by kernel_rfl) (by kernel_rfl) ?_ ?_
      · refine ⟨(by repeat (first | (with_reducible exact Below.refl _ _) | (with_reducible assumption) | refine Below.setCell ?_ (by first | omega | (simp; omega) | (simp; done)) _ | refine Below.alloc ?_ (by first | omega | (simp; omega) | (simp; done)) _ | refine Below.drew ?_)), by simp; omega, ?_⟩
        exact HF.out.drew_
      clear HF hB hz
      clear l1 l3
      cases hl : (Sp.lessEq al ah bl bh == -1)
      · have hk := l2 hl
        refine quiet_value_plain (.agg #[.int .i64 al, .int .i64 ah]) rfl ?_ ?_
        · intro wx hx; obtain ⟨_, _, g1, g2, g3, g4, g5, g6, g7, g8⟩ := hx; go_simp
        try simp only [Act.put, List.setIfInBounds_toArray, List.set_cons_zero, List.set_cons_succ]
        refine quiet_value_plain (.agg #[.int .i64 bl, .int .i64 bh]) rfl ?_ ?_
        · intro wx hx; obtain ⟨_, _, g1, g2, g3, g4, g5, g6, g7, g8⟩ := hx; go_simp
        try simp only [Act.put, List.setIfInBounds_toArray, List.set_cons_zero, List.set_cons_succ]
        refine quiet_call_plain (.int .i64 (Sp.lessEq al ah bl bh)) 18 #[.agg #[.int .i64 al, .int .i64 ah], .agg #[.int .i64 bl, .int .i64 bh]] rfl ?_ ?_ ?_
        · intro wx hx; obtain ⟨_, _, g1, g2, g3, g4, g5, g6, g7, g8⟩ := hx; go_simp; try (exact ⟨rfl, rfl⟩)
        · intro wx hx; refine (lessEq_any _ _ _ _ _).mono ?_; rintro e u ⟨rfl, hu⟩; have hz := hu.size; exact ⟨rfl, Below.call (w := w) hx.1 hu, by omega, hx.2.2.keep hu hx.2.1⟩
        try simp only [Act.put, List.setIfInBounds_toArray, List.set_cons_zero, List.set_cons_succ]
        refine quiet_value_plain (.bool false) rfl ?_ ?_
        · intro wx hx; obtain ⟨_, _, g1, g2, g3, g4, g5, g6, g7, g8⟩ := hx; go_simp
        try simp only [Act.put, List.setIfInBounds_toArray, List.set_cons_zero, List.set_cons_succ]
        refine quiet_value_plain (.bool false) rfl ?_ ?_
        · intro wx hx; obtain ⟨_, _, g1, g2, g3, g4, g5, g6, g7, g8⟩ := hx; go_simp
        try simp only [Act.put, List.setIfInBounds_toArray, List.set_cons_zero, List.set_cons_succ]
        refine quiet_value (.agg #[.int .i64 al, .int .i64 ah]) (by go_simp) ?_ ?_
        · intro wx hx; obtain ⟨_, _, g1, g2, g3, g4, g5, g6, g7, g8⟩ := hx; go_simp
        try simp only [Act.put, List.setIfInBounds_toArray, List.set_cons_zero, List.set_cons_succ]
        refine quiet_value (.agg #[.int .i64 bl, .int .i64 bh]) (by go_simp) ?_ ?_
        · intro wx hx; obtain ⟨_, _, g1, g2, g3, g4, g5, g6, g7, g8⟩ := hx; go_simp
        try simp only [Act.put, List.setIfInBounds_toArray, List.set_cons_zero, List.set_cons_succ]
        refine quiet_call (.int .i64 (Sp.lessEq al ah bl bh)) 18 #[.agg #[.int .i64 al, .int .i64 ah], .agg #[.int .i64 bl, .int .i64 bh]] (by go_simp) ?_ ?_ ?_
        · intro wx hx; obtain ⟨_, _, g1, g2, g3, g4, g5, g6, g7, g8⟩ := hx; go_simp; try (exact ⟨rfl, rfl⟩)
        · intro wx hx; refine (lessEq_any _ _ _ _ _).mono ?_; rintro e u ⟨rfl, hu⟩; have hz := hu.size; exact ⟨rfl, Below.call (w := w) hx.1 hu, by omega, hx.2.2.keep hu hx.2.1⟩
        try simp only [Act.put, List.setIfInBounds_toArray, List.set_cons_zero, List.set_cons_succ]
        refine quiet_value (.agg #[.int .i64 cl, .int .i64 ch]) (by go_simp) ?_ ?_
        · intro wx hx; obtain ⟨_, _, g1, g2, g3, g4, g5, g6, g7, g8⟩ := hx; go_simp
        try simp only [Act.put, List.setIfInBounds_toArray, List.set_cons_zero, List.set_cons_succ]
        refine quiet_value (.agg #[.int .i64 dl, .int .i64 dh]) (by go_simp) ?_ ?_
        · intro wx hx; obtain ⟨_, _, g1, g2, g3, g4, g5, g6, g7, g8⟩ := hx; go_simp
        try simp only [Act.put, List.setIfInBounds_toArray, List.set_cons_zero, List.set_cons_succ]
        refine quiet_call (.int .i64 (Sp.lessEq cl ch dl dh)) 18 #[.agg #[.int .i64 cl, .int .i64 ch], .agg #[.int .i64 dl, .int .i64 dh]] (by go_simp) ?_ ?_ ?_
        · intro wx hx; obtain ⟨_, _, g1, g2, g3, g4, g5, g6, g7, g8⟩ := hx; go_simp; try (exact ⟨rfl, rfl⟩)
        · intro wx hx; refine (lessEq_any _ _ _ _ _).mono ?_; rintro e u ⟨rfl, hu⟩; have hz := hu.size; exact ⟨rfl, Below.call (w := w) hx.1 hu, by omega, hx.2.2.keep hu hx.2.1⟩
        try simp only [Act.put, List.setIfInBounds_toArray, List.set_cons_zero, List.set_cons_succ]
        refine quiet_value (.bool true) (by go_simp) ?_ ?_
        · intro wx hx; obtain ⟨_, _, g1, g2, g3, g4, g5, g6, g7, g8⟩ := hx; go_simp
        try simp only [Act.put, List.setIfInBounds_toArray, List.set_cons_zero, List.set_cons_succ]
        refine quiet_value_plain (.bool true) rfl ?_ ?_
        · intro wx hx; obtain ⟨_, _, g1, g2, g3, g4, g5, g6, g7, g8⟩ := hx; go_simp
        try simp only [Act.put, List.setIfInBounds_toArray, List.set_cons_zero, List.set_cons_succ]
        refine quiet_value_plain (.bool true) rfl ?_ ?_
        · intro wx hx; obtain ⟨_, _, g1, g2, g3, g4, g5, g6, g7, g8⟩ := hx; go_simp
        try simp only [Act.put, List.setIfInBounds_toArray, List.set_cons_zero, List.set_cons_succ]
        with_reducible refine wpQuiet_nil ?_
        intro wq hq
        go_wp2_with fail
        go_meet
        exact ⟨rfl, hq⟩
      · have hL : Sp.lessEq al ah bl bh = -1 := by simpa using hl
        have hcn := fun (wz : World) => lessEq_any al ah bl bh wz
        rw [hL] at hcn
        have HCN := Lib.hid hcn
        clear hL hl hcn
        refine quiet_value_plain (.agg #[.int .i64 al, .int .i64 ah]) rfl ?_ ?_
        · intro wx hx; obtain ⟨_, _, g1, g2, g3, g4, g5, g6, g7, g8⟩ := hx; go_simp
        try simp only [Act.put, List.setIfInBounds_toArray, List.set_cons_zero, List.set_cons_succ]
        refine quiet_value_plain (.agg #[.int .i64 bl, .int .i64 bh]) rfl ?_ ?_
        · intro wx hx; obtain ⟨_, _, g1, g2, g3, g4, g5, g6, g7, g8⟩ := hx; go_simp
        try simp only [Act.put, List.setIfInBounds_toArray, List.set_cons_zero, List.set_cons_succ]
        refine quiet_call_plain (.int .i64 (-1)) 18 #[.agg #[.int .i64 al, .int .i64 ah], .agg #[.int .i64 bl, .int .i64 bh]] rfl ?_ ?_ ?_
        · intro wx hx; obtain ⟨_, _, g1, g2, g3, g4, g5, g6, g7, g8⟩ := hx; go_simp; try (exact ⟨rfl, rfl⟩)
        · intro wx hx; refine (HCN.out _).mono ?_; rintro e u ⟨rfl, hu⟩; have hz := hu.size; exact ⟨rfl, Below.call (w := w) hx.1 hu, by omega, hx.2.2.keep hu hx.2.1⟩
        try simp only [Act.put, List.setIfInBounds_toArray, List.set_cons_zero, List.set_cons_succ]
        refine quiet_value_plain (.bool true) rfl ?_ ?_
        · intro wx hx; obtain ⟨_, _, g1, g2, g3, g4, g5, g6, g7, g8⟩ := hx; go_simp
        try simp only [Act.put, List.setIfInBounds_toArray, List.set_cons_zero, List.set_cons_succ]
        refine quiet_value_plain (.bool true) rfl ?_ ?_
        · intro wx hx; obtain ⟨_, _, g1, g2, g3, g4, g5, g6, g7, g8⟩ := hx; go_simp
        try simp only [Act.put, List.setIfInBounds_toArray, List.set_cons_zero, List.set_cons_succ]
        with_reducible refine quiet_skip ?_ ?_
        · go_simp
        try simp only [Act.put, List.setIfInBounds_toArray, List.set_cons_zero, List.set_cons_succ]
        with_reducible refine quiet_skip ?_ ?_
        · go_simp
        try simp only [Act.put, List.setIfInBounds_toArray, List.set_cons_zero, List.set_cons_succ]
        with_reducible refine quiet_skip ?_ ?_
        · go_simp
        try simp only [Act.put, List.setIfInBounds_toArray, List.set_cons_zero, List.set_cons_succ]
        with_reducible refine quiet_skip ?_ ?_
        · go_simp
        try simp only [Act.put, List.setIfInBounds_toArray, List.set_cons_zero, List.set_cons_succ]
        with_reducible refine quiet_skip ?_ ?_
        · go_simp
        try simp only [Act.put, List.setIfInBounds_toArray, List.set_cons_zero, List.set_cons_succ]
        with_reducible refine quiet_skip ?_ ?_
        · go_simp
        try simp only [Act.put, List.setIfInBounds_toArray, List.set_cons_zero, List.set_cons_succ]
        with_reducible refine quiet_skip ?_ ?_
        · go_simp
        try simp only [Act.put, List.setIfInBounds_toArray, List.set_cons_zero, List.set_cons_succ]
        refine quiet_value_plain (.bool true) rfl ?_ ?_
        · intro wx hx; obtain ⟨_, _, g1, g2, g3, g4, g5, g6, g7, g8⟩ := hx; go_simp
        try simp only [Act.put, List.setIfInBounds_toArray, List.set_cons_zero, List.set_cons_succ]
        refine quiet_value_plain (.bool true) rfl ?_ ?_
        · intro wx hx; obtain ⟨_, _, g1, g2, g3, g4, g5, g6, g7, g8⟩ := hx; go_simp
        try simp only [Act.put, List.setIfInBounds_toArray, List.set_cons_zero, List.set_cons_succ]
        with_reducible refine wpQuiet_nil ?_
        intro wq hq
        go_wp2_with fail
        go_meet
        exact ⟨rfl, hq⟩
    case rest =>
      obtain ⟨rfl, hB, hz, hF⟩ := hcut
      rename World => wq20
      have HF := Lib.hid hF; clear hF
      go_upto_region 21 with (fail)
      go_cut [17] (fun s wx => s = .bool true ∧ Below w.heap.size w wx ∧ w.heap.size + 3 < wx.heap.size ∧ Four w.heap.size al ah bl bh cl ch dl dh wx)
      case first =>
        refine quiet_start (fun wx => Below w.heap.size w wx ∧ w.heap.size + 3 < wx.heap.size ∧ Four w.heap.size al ah bl bh cl ch dl dh wx) (by kernel_rfl) (by kernel_rfl) ?_ ?_
        · refine ⟨(by repeat (first | (with_reducible exact Below.refl _ _) | (with_reducible assumption) | refine Below.setCell ?_ (by first | omega | (simp; omega) | (simp; done)) _ | refine Below.alloc ?_ (by first | omega | (simp; omega) | (simp; done)) _ | refine Below.drew ?_)), by simp; omega, ?_⟩
          exact HF.out.drew_
        clear HF hB hz
        clear l1 l2
        cases hl : (Sp.equal al ah bl bh == -1)
        · have hk := l3 hl
          refine quiet_value_plain (.agg #[.int .i64 al, .int .i64 ah]) rfl ?_ ?_
          · intro wx hx; obtain ⟨_, _, g1, g2, g3, g4, g5, g6, g7, g8⟩ := hx; go_simp
          try simp only [Act.put, List.setIfInBounds_toArray, List.set_cons_zero, List.set_cons_succ]
          refine quiet_value_plain (.agg #[.int .i64 bl, .int .i64 bh]) rfl ?_ ?_
          · intro wx hx; obtain ⟨_, _, g1, g2, g3, g4, g5, g6, g7, g8⟩ := hx; go_simp
          try simp only [Act.put, List.setIfInBounds_toArray, List.set_cons_zero, List.set_cons_succ]
          refine quiet_call_plain (.int .i64 (Sp.equal al ah bl bh)) 19 #[.agg #[.int .i64 al, .int .i64 ah], .agg #[.int .i64 bl, .int .i64 bh]] rfl ?_ ?_ ?_
          · intro wx hx; obtain ⟨_, _, g1, g2, g3, g4, g5, g6, g7, g8⟩ := hx; go_simp; try (exact ⟨rfl, rfl⟩)
          · intro wx hx; refine (equal_any _ _ _ _ _).mono ?_; rintro e u ⟨rfl, hu⟩; have hz := hu.size; exact ⟨rfl, Below.call (w := w) hx.1 hu, by omega, hx.2.2.keep hu hx.2.1⟩
          try simp only [Act.put, List.setIfInBounds_toArray, List.set_cons_zero, List.set_cons_succ]
          refine quiet_value_plain (.bool false) rfl ?_ ?_
          · intro wx hx; obtain ⟨_, _, g1, g2, g3, g4, g5, g6, g7, g8⟩ := hx; go_simp
          try simp only [Act.put, List.setIfInBounds_toArray, List.set_cons_zero, List.set_cons_succ]
          refine quiet_value_plain (.bool false) rfl ?_ ?_
          · intro wx hx; obtain ⟨_, _, g1, g2, g3, g4, g5, g6, g7, g8⟩ := hx; go_simp
          try simp only [Act.put, List.setIfInBounds_toArray, List.set_cons_zero, List.set_cons_succ]
          refine quiet_value (.agg #[.int .i64 al, .int .i64 ah]) (by go_simp) ?_ ?_
          · intro wx hx; obtain ⟨_, _, g1, g2, g3, g4, g5, g6, g7, g8⟩ := hx; go_simp
          try simp only [Act.put, List.setIfInBounds_toArray, List.set_cons_zero, List.set_cons_succ]
          refine quiet_value (.agg #[.int .i64 bl, .int .i64 bh]) (by go_simp) ?_ ?_
          · intro wx hx; obtain ⟨_, _, g1, g2, g3, g4, g5, g6, g7, g8⟩ := hx; go_simp
          try simp only [Act.put, List.setIfInBounds_toArray, List.set_cons_zero, List.set_cons_succ]
          refine quiet_call (.int .i64 (Sp.equal al ah bl bh)) 19 #[.agg #[.int .i64 al, .int .i64 ah], .agg #[.int .i64 bl, .int .i64 bh]] (by go_simp) ?_ ?_ ?_
          · intro wx hx; obtain ⟨_, _, g1, g2, g3, g4, g5, g6, g7, g8⟩ := hx; go_simp; try (exact ⟨rfl, rfl⟩)
          · intro wx hx; refine (equal_any _ _ _ _ _).mono ?_; rintro e u ⟨rfl, hu⟩; have hz := hu.size; exact ⟨rfl, Below.call (w := w) hx.1 hu, by omega, hx.2.2.keep hu hx.2.1⟩
          try simp only [Act.put, List.setIfInBounds_toArray, List.set_cons_zero, List.set_cons_succ]
          refine quiet_value (.agg #[.int .i64 cl, .int .i64 ch]) (by go_simp) ?_ ?_
          · intro wx hx; obtain ⟨_, _, g1, g2, g3, g4, g5, g6, g7, g8⟩ := hx; go_simp
          try simp only [Act.put, List.setIfInBounds_toArray, List.set_cons_zero, List.set_cons_succ]
          refine quiet_value (.agg #[.int .i64 dl, .int .i64 dh]) (by go_simp) ?_ ?_
          · intro wx hx; obtain ⟨_, _, g1, g2, g3, g4, g5, g6, g7, g8⟩ := hx; go_simp
          try simp only [Act.put, List.setIfInBounds_toArray, List.set_cons_zero, List.set_cons_succ]
          refine quiet_call (.int .i64 (Sp.equal cl ch dl dh)) 19 #[.agg #[.int .i64 cl, .int .i64 ch], .agg #[.int .i64 dl, .int .i64 dh]] (by go_simp) ?_ ?_ ?_
          · intro wx hx; obtain ⟨_, _, g1, g2, g3, g4, g5, g6, g7, g8⟩ := hx; go_simp; try (exact ⟨rfl, rfl⟩)
          · intro wx hx; refine (equal_any _ _ _ _ _).mono ?_; rintro e u ⟨rfl, hu⟩; have hz := hu.size; exact ⟨rfl, Below.call (w := w) hx.1 hu, by omega, hx.2.2.keep hu hx.2.1⟩
          try simp only [Act.put, List.setIfInBounds_toArray, List.set_cons_zero, List.set_cons_succ]
          refine quiet_value (.bool true) (by go_simp) ?_ ?_
          · intro wx hx; obtain ⟨_, _, g1, g2, g3, g4, g5, g6, g7, g8⟩ := hx; go_simp
          try simp only [Act.put, List.setIfInBounds_toArray, List.set_cons_zero, List.set_cons_succ]
          refine quiet_value_plain (.bool true) rfl ?_ ?_
          · intro wx hx; obtain ⟨_, _, g1, g2, g3, g4, g5, g6, g7, g8⟩ := hx; go_simp
          try simp only [Act.put, List.setIfInBounds_toArray, List.set_cons_zero, List.set_cons_succ]
          refine quiet_value_plain (.bool true) rfl ?_ ?_
          · intro wx hx; obtain ⟨_, _, g1, g2, g3, g4, g5, g6, g7, g8⟩ := hx; go_simp
          try simp only [Act.put, List.setIfInBounds_toArray, List.set_cons_zero, List.set_cons_succ]
          with_reducible refine wpQuiet_nil ?_
          intro wq hq
          go_wp2_with fail
          go_meet
          exact ⟨rfl, hq⟩
        · have hL : Sp.equal al ah bl bh = -1 := by simpa using hl
          have hcn := fun (wz : World) => equal_any al ah bl bh wz
          rw [hL] at hcn
          have HCN := Lib.hid hcn
          clear hL hl hcn
          refine quiet_value_plain (.agg #[.int .i64 al, .int .i64 ah]) rfl ?_ ?_
          · intro wx hx; obtain ⟨_, _, g1, g2, g3, g4, g5, g6, g7, g8⟩ := hx; go_simp
          try simp only [Act.put, List.setIfInBounds_toArray, List.set_cons_zero, List.set_cons_succ]
          refine quiet_value_plain (.agg #[.int .i64 bl, .int .i64 bh]) rfl ?_ ?_
          · intro wx hx; obtain ⟨_, _, g1, g2, g3, g4, g5, g6, g7, g8⟩ := hx; go_simp
          try simp only [Act.put, List.setIfInBounds_toArray, List.set_cons_zero, List.set_cons_succ]
          refine quiet_call_plain (.int .i64 (-1)) 19 #[.agg #[.int .i64 al, .int .i64 ah], .agg #[.int .i64 bl, .int .i64 bh]] rfl ?_ ?_ ?_
          · intro wx hx; obtain ⟨_, _, g1, g2, g3, g4, g5, g6, g7, g8⟩ := hx; go_simp; try (exact ⟨rfl, rfl⟩)
          · intro wx hx; refine (HCN.out _).mono ?_; rintro e u ⟨rfl, hu⟩; have hz := hu.size; exact ⟨rfl, Below.call (w := w) hx.1 hu, by omega, hx.2.2.keep hu hx.2.1⟩
          try simp only [Act.put, List.setIfInBounds_toArray, List.set_cons_zero, List.set_cons_succ]
          refine quiet_value_plain (.bool true) rfl ?_ ?_
          · intro wx hx; obtain ⟨_, _, g1, g2, g3, g4, g5, g6, g7, g8⟩ := hx; go_simp
          try simp only [Act.put, List.setIfInBounds_toArray, List.set_cons_zero, List.set_cons_succ]
          refine quiet_value_plain (.bool true) rfl ?_ ?_
          · intro wx hx; obtain ⟨_, _, g1, g2, g3, g4, g5, g6, g7, g8⟩ := hx; go_simp
          try simp only [Act.put, List.setIfInBounds_toArray, List.set_cons_zero, List.set_cons_succ]
          with_reducible refine quiet_skip ?_ ?_
          · go_simp
          try simp only [Act.put, List.setIfInBounds_toArray, List.set_cons_zero, List.set_cons_succ]
          with_reducible refine quiet_skip ?_ ?_
          · go_simp
          try simp only [Act.put, List.setIfInBounds_toArray, List.set_cons_zero, List.set_cons_succ]
          with_reducible refine quiet_skip ?_ ?_
          · go_simp
          try simp only [Act.put, List.setIfInBounds_toArray, List.set_cons_zero, List.set_cons_succ]
          with_reducible refine quiet_skip ?_ ?_
          · go_simp
          try simp only [Act.put, List.setIfInBounds_toArray, List.set_cons_zero, List.set_cons_succ]
          with_reducible refine quiet_skip ?_ ?_
          · go_simp
          try simp only [Act.put, List.setIfInBounds_toArray, List.set_cons_zero, List.set_cons_succ]
          with_reducible refine quiet_skip ?_ ?_
          · go_simp
          try simp only [Act.put, List.setIfInBounds_toArray, List.set_cons_zero, List.set_cons_succ]
          with_reducible refine quiet_skip ?_ ?_
          · go_simp
          try simp only [Act.put, List.setIfInBounds_toArray, List.set_cons_zero, List.set_cons_succ]
          refine quiet_value_plain (.bool true) rfl ?_ ?_
          · intro wx hx; obtain ⟨_, _, g1, g2, g3, g4, g5, g6, g7, g8⟩ := hx; go_simp
          try simp only [Act.put, List.setIfInBounds_toArray, List.set_cons_zero, List.set_cons_succ]
          refine quiet_value_plain (.bool true) rfl ?_ ?_
          · intro wx hx; obtain ⟨_, _, g1, g2, g3, g4, g5, g6, g7, g8⟩ := hx; go_simp
          try simp only [Act.put, List.setIfInBounds_toArray, List.set_cons_zero, List.set_cons_succ]
          with_reducible refine wpQuiet_nil ?_
          intro wq hq
          go_wp2_with fail
          go_meet
          exact ⟨rfl, hq⟩
      case rest =>
        obtain ⟨rfl, hB, hz, hF⟩ := hcut
        rename World => wq21
        have HF := Lib.hid hF; clear hF
        go_wp2_with fail
        go_ret
        exact ⟨rfl, hB⟩

set_option maxRecDepth 100000 in
set_option maxHeartbeats 2000000 in
theorem narrow_out0 (al ah bl bh cl ch dl dh : Int) (w : World) (ha : Sp.right al ah = false) :
    Calls Try.prog 3 #[.agg #[.int .i64 al, .int .i64 ah], .agg #[.int .i64 bl, .int .i64 bh], .agg #[.int .i64 cl, .int .i64 ch], .agg #[.int .i64 dl, .int .i64 dh]] w fun e w' => e = .returned (.bool true) ∧ Below w.heap.size w w' := by
  go_enter Try.func3, Try.ntmps3
  go_wp2_with fail
  refine (small_any _).mono ?_
  rintro e v1 ⟨rfl, h1⟩
  have z1 := h1.size
  try simp at z1
  have hB1 : Below w.heap.size w v1 := Below.call (w := w) (by repeat (first | (with_reducible exact Below.refl _ _) | (with_reducible assumption) | refine Below.setCell ?_ (by first | omega | (simp; omega) | (simp; done)) _ | refine Below.alloc ?_ (by first | omega | (simp; omega) | (simp; done)) _ | refine Below.drew ?_)) h1
  obtain ⟨k1_0, kc, kf⟩ := keepB h1 (w.heap.size) (by first | omega | (simp; omega) | (simp; done))
  have c1_0_0 : v1.cell? ⟨w.heap.size, 0, none⟩ = some (.int .i64 al) := (kc 0).trans (by simp [go_sem, *])
  have f1_0_0 : v1.frozen? ⟨w.heap.size, 0, none⟩ = false := (kf 0).trans (by simp [go_sem, *])
  have c1_0_1 : v1.cell? ⟨w.heap.size, 1, none⟩ = some (.int .i64 ah) := (kc 1).trans (by simp [go_sem, *])
  have f1_0_1 : v1.frozen? ⟨w.heap.size, 1, none⟩ = false := (kf 1).trans (by simp [go_sem, *])
  clear kc kf
  obtain ⟨k1_1, kc, kf⟩ := keepB h1 (w.heap.size + 1) (by first | omega | (simp; omega) | (simp; done))
  have c1_1_0 : v1.cell? ⟨w.heap.size + 1, 0, none⟩ = some (.int .i64 bl) := (kc 0).trans (by simp [go_sem, *])
  have f1_1_0 : v1.frozen? ⟨w.heap.size + 1, 0, none⟩ = false := (kf 0).trans (by simp [go_sem, *])
  have c1_1_1 : v1.cell? ⟨w.heap.size + 1, 1, none⟩ = some (.int .i64 bh) := (kc 1).trans (by simp [go_sem, *])
  have f1_1_1 : v1.frozen? ⟨w.heap.size + 1, 1, none⟩ = false := (kf 1).trans (by simp [go_sem, *])
  clear kc kf
  obtain ⟨k1_2, kc, kf⟩ := keepB h1 (w.heap.size + 1 + 1) (by first | omega | (simp; omega) | (simp; done))
  have c1_2_0 : v1.cell? ⟨w.heap.size + 1 + 1, 0, none⟩ = some (.int .i64 cl) := (kc 0).trans (by simp [go_sem, *])
  have f1_2_0 : v1.frozen? ⟨w.heap.size + 1 + 1, 0, none⟩ = false := (kf 0).trans (by simp [go_sem, *])
  have c1_2_1 : v1.cell? ⟨w.heap.size + 1 + 1, 1, none⟩ = some (.int .i64 ch) := (kc 1).trans (by simp [go_sem, *])
  have f1_2_1 : v1.frozen? ⟨w.heap.size + 1 + 1, 1, none⟩ = false := (kf 1).trans (by simp [go_sem, *])
  clear kc kf
  obtain ⟨k1_3, kc, kf⟩ := keepB h1 (w.heap.size + 1 + 1 + 1) (by first | omega | (simp; omega) | (simp; done))
  have c1_3_0 : v1.cell? ⟨w.heap.size + 1 + 1 + 1, 0, none⟩ = some (.int .i64 dl) := (kc 0).trans (by simp [go_sem, *])
  have f1_3_0 : v1.frozen? ⟨w.heap.size + 1 + 1 + 1, 0, none⟩ = false := (kf 0).trans (by simp [go_sem, *])
  have c1_3_1 : v1.cell? ⟨w.heap.size + 1 + 1 + 1, 1, none⟩ = some (.int .i64 dh) := (kc 1).trans (by simp [go_sem, *])
  have f1_3_1 : v1.frozen? ⟨w.heap.size + 1 + 1 + 1, 1, none⟩ = false := (kf 1).trans (by simp [go_sem, *])
  clear kc kf
  go_wp2_with fail
  refine (right_any _ _ _).mono ?_
  rintro e v2 ⟨rfl, h2⟩
  have z2 := h2.size
  try simp at z2
  have hB2 : Below w.heap.size w v2 := Below.call (w := w) (by repeat (first | (with_reducible exact Below.refl _ _) | (with_reducible assumption) | refine Below.setCell ?_ (by first | omega | (simp; omega) | (simp; done)) _ | refine Below.alloc ?_ (by first | omega | (simp; omega) | (simp; done)) _ | refine Below.drew ?_)) h2
  obtain ⟨k2_0, kc, kf⟩ := keepB h2 (w.heap.size) (by first | omega | (simp; omega) | (simp; done))
  have c2_0_0 : v2.cell? ⟨w.heap.size, 0, none⟩ = some (.int .i64 al) := (kc 0).trans (by simp [go_sem, *])
  have f2_0_0 : v2.frozen? ⟨w.heap.size, 0, none⟩ = false := (kf 0).trans (by simp [go_sem, *])
  have c2_0_1 : v2.cell? ⟨w.heap.size, 1, none⟩ = some (.int .i64 ah) := (kc 1).trans (by simp [go_sem, *])
  have f2_0_1 : v2.frozen? ⟨w.heap.size, 1, none⟩ = false := (kf 1).trans (by simp [go_sem, *])
  clear kc kf
  obtain ⟨k2_1, kc, kf⟩ := keepB h2 (w.heap.size + 1) (by first | omega | (simp; omega) | (simp; done))
  have c2_1_0 : v2.cell? ⟨w.heap.size + 1, 0, none⟩ = some (.int .i64 bl) := (kc 0).trans (by simp [go_sem, *])
  have f2_1_0 : v2.frozen? ⟨w.heap.size + 1, 0, none⟩ = false := (kf 0).trans (by simp [go_sem, *])
  have c2_1_1 : v2.cell? ⟨w.heap.size + 1, 1, none⟩ = some (.int .i64 bh) := (kc 1).trans (by simp [go_sem, *])
  have f2_1_1 : v2.frozen? ⟨w.heap.size + 1, 1, none⟩ = false := (kf 1).trans (by simp [go_sem, *])
  clear kc kf
  obtain ⟨k2_2, kc, kf⟩ := keepB h2 (w.heap.size + 1 + 1) (by first | omega | (simp; omega) | (simp; done))
  have c2_2_0 : v2.cell? ⟨w.heap.size + 1 + 1, 0, none⟩ = some (.int .i64 cl) := (kc 0).trans (by simp [go_sem, *])
  have f2_2_0 : v2.frozen? ⟨w.heap.size + 1 + 1, 0, none⟩ = false := (kf 0).trans (by simp [go_sem, *])
  have c2_2_1 : v2.cell? ⟨w.heap.size + 1 + 1, 1, none⟩ = some (.int .i64 ch) := (kc 1).trans (by simp [go_sem, *])
  have f2_2_1 : v2.frozen? ⟨w.heap.size + 1 + 1, 1, none⟩ = false := (kf 1).trans (by simp [go_sem, *])
  clear kc kf
  obtain ⟨k2_3, kc, kf⟩ := keepB h2 (w.heap.size + 1 + 1 + 1) (by first | omega | (simp; omega) | (simp; done))
  have c2_3_0 : v2.cell? ⟨w.heap.size + 1 + 1 + 1, 0, none⟩ = some (.int .i64 dl) := (kc 0).trans (by simp [go_sem, *])
  have f2_3_0 : v2.frozen? ⟨w.heap.size + 1 + 1 + 1, 0, none⟩ = false := (kf 0).trans (by simp [go_sem, *])
  have c2_3_1 : v2.cell? ⟨w.heap.size + 1 + 1 + 1, 1, none⟩ = some (.int .i64 dh) := (kc 1).trans (by simp [go_sem, *])
  have f2_3_1 : v2.frozen? ⟨w.heap.size + 1 + 1 + 1, 1, none⟩ = false := (kf 1).trans (by simp [go_sem, *])
  clear kc kf
  clear c1_0_0 f1_0_0 c1_0_1 f1_0_1 c1_1_0 f1_1_0 c1_1_1 f1_1_1 c1_2_0 f1_2_0 c1_2_1 f1_2_1 c1_3_0 f1_3_0 c1_3_1 f1_3_1
  go_wp2
  go_ret
  exact ⟨rfl, by with_reducible assumption⟩

set_option maxRecDepth 100000 in
set_option maxHeartbeats 2000000 in
theorem narrow_out1 (al ah bl bh cl ch dl dh : Int) (w : World) (ha : Sp.right al ah = true) (hb : Sp.right bl bh = false) :
    Calls Try.prog 3 #[.agg #[.int .i64 al, .int .i64 ah], .agg #[.int .i64 bl, .int .i64 bh], .agg #[.int .i64 cl, .int .i64 ch], .agg #[.int .i64 dl, .int .i64 dh]] w fun e w' => e = .returned (.bool true) ∧ Below w.heap.size w w' := by
  go_enter Try.func3, Try.ntmps3
  go_wp2_with fail
  refine (small_any _).mono ?_
  rintro e v1 ⟨rfl, h1⟩
  have z1 := h1.size
  try simp at z1
  have hB1 : Below w.heap.size w v1 := Below.call (w := w) (by repeat (first | (with_reducible exact Below.refl _ _) | (with_reducible assumption) | refine Below.setCell ?_ (by first | omega | (simp; omega) | (simp; done)) _ | refine Below.alloc ?_ (by first | omega | (simp; omega) | (simp; done)) _ | refine Below.drew ?_)) h1
  obtain ⟨k1_0, kc, kf⟩ := keepB h1 (w.heap.size) (by first | omega | (simp; omega) | (simp; done))
  have c1_0_0 : v1.cell? ⟨w.heap.size, 0, none⟩ = some (.int .i64 al) := (kc 0).trans (by simp [go_sem, *])
  have f1_0_0 : v1.frozen? ⟨w.heap.size, 0, none⟩ = false := (kf 0).trans (by simp [go_sem, *])
  have c1_0_1 : v1.cell? ⟨w.heap.size, 1, none⟩ = some (.int .i64 ah) := (kc 1).trans (by simp [go_sem, *])
  have f1_0_1 : v1.frozen? ⟨w.heap.size, 1, none⟩ = false := (kf 1).trans (by simp [go_sem, *])
  clear kc kf
  obtain ⟨k1_1, kc, kf⟩ := keepB h1 (w.heap.size + 1) (by first | omega | (simp; omega) | (simp; done))
  have c1_1_0 : v1.cell? ⟨w.heap.size + 1, 0, none⟩ = some (.int .i64 bl) := (kc 0).trans (by simp [go_sem, *])
  have f1_1_0 : v1.frozen? ⟨w.heap.size + 1, 0, none⟩ = false := (kf 0).trans (by simp [go_sem, *])
  have c1_1_1 : v1.cell? ⟨w.heap.size + 1, 1, none⟩ = some (.int .i64 bh) := (kc 1).trans (by simp [go_sem, *])
  have f1_1_1 : v1.frozen? ⟨w.heap.size + 1, 1, none⟩ = false := (kf 1).trans (by simp [go_sem, *])
  clear kc kf
  obtain ⟨k1_2, kc, kf⟩ := keepB h1 (w.heap.size + 1 + 1) (by first | omega | (simp; omega) | (simp; done))
  have c1_2_0 : v1.cell? ⟨w.heap.size + 1 + 1, 0, none⟩ = some (.int .i64 cl) := (kc 0).trans (by simp [go_sem, *])
  have f1_2_0 : v1.frozen? ⟨w.heap.size + 1 + 1, 0, none⟩ = false := (kf 0).trans (by simp [go_sem, *])
  have c1_2_1 : v1.cell? ⟨w.heap.size + 1 + 1, 1, none⟩ = some (.int .i64 ch) := (kc 1).trans (by simp [go_sem, *])
  have f1_2_1 : v1.frozen? ⟨w.heap.size + 1 + 1, 1, none⟩ = false := (kf 1).trans (by simp [go_sem, *])
  clear kc kf
  obtain ⟨k1_3, kc, kf⟩ := keepB h1 (w.heap.size + 1 + 1 + 1) (by first | omega | (simp; omega) | (simp; done))
  have c1_3_0 : v1.cell? ⟨w.heap.size + 1 + 1 + 1, 0, none⟩ = some (.int .i64 dl) := (kc 0).trans (by simp [go_sem, *])
  have f1_3_0 : v1.frozen? ⟨w.heap.size + 1 + 1 + 1, 0, none⟩ = false := (kf 0).trans (by simp [go_sem, *])
  have c1_3_1 : v1.cell? ⟨w.heap.size + 1 + 1 + 1, 1, none⟩ = some (.int .i64 dh) := (kc 1).trans (by simp [go_sem, *])
  have f1_3_1 : v1.frozen? ⟨w.heap.size + 1 + 1 + 1, 1, none⟩ = false := (kf 1).trans (by simp [go_sem, *])
  clear kc kf
  go_wp2_with fail
  refine (right_any _ _ _).mono ?_
  rintro e v2 ⟨rfl, h2⟩
  have z2 := h2.size
  try simp at z2
  have hB2 : Below w.heap.size w v2 := Below.call (w := w) (by repeat (first | (with_reducible exact Below.refl _ _) | (with_reducible assumption) | refine Below.setCell ?_ (by first | omega | (simp; omega) | (simp; done)) _ | refine Below.alloc ?_ (by first | omega | (simp; omega) | (simp; done)) _ | refine Below.drew ?_)) h2
  obtain ⟨k2_0, kc, kf⟩ := keepB h2 (w.heap.size) (by first | omega | (simp; omega) | (simp; done))
  have c2_0_0 : v2.cell? ⟨w.heap.size, 0, none⟩ = some (.int .i64 al) := (kc 0).trans (by simp [go_sem, *])
  have f2_0_0 : v2.frozen? ⟨w.heap.size, 0, none⟩ = false := (kf 0).trans (by simp [go_sem, *])
  have c2_0_1 : v2.cell? ⟨w.heap.size, 1, none⟩ = some (.int .i64 ah) := (kc 1).trans (by simp [go_sem, *])
  have f2_0_1 : v2.frozen? ⟨w.heap.size, 1, none⟩ = false := (kf 1).trans (by simp [go_sem, *])
  clear kc kf
  obtain ⟨k2_1, kc, kf⟩ := keepB h2 (w.heap.size + 1) (by first | omega | (simp; omega) | (simp; done))
  have c2_1_0 : v2.cell? ⟨w.heap.size + 1, 0, none⟩ = some (.int .i64 bl) := (kc 0).trans (by simp [go_sem, *])
  have f2_1_0 : v2.frozen? ⟨w.heap.size + 1, 0, none⟩ = false := (kf 0).trans (by simp [go_sem, *])
  have c2_1_1 : v2.cell? ⟨w.heap.size + 1, 1, none⟩ = some (.int .i64 bh) := (kc 1).trans (by simp [go_sem, *])
  have f2_1_1 : v2.frozen? ⟨w.heap.size + 1, 1, none⟩ = false := (kf 1).trans (by simp [go_sem, *])
  clear kc kf
  obtain ⟨k2_2, kc, kf⟩ := keepB h2 (w.heap.size + 1 + 1) (by first | omega | (simp; omega) | (simp; done))
  have c2_2_0 : v2.cell? ⟨w.heap.size + 1 + 1, 0, none⟩ = some (.int .i64 cl) := (kc 0).trans (by simp [go_sem, *])
  have f2_2_0 : v2.frozen? ⟨w.heap.size + 1 + 1, 0, none⟩ = false := (kf 0).trans (by simp [go_sem, *])
  have c2_2_1 : v2.cell? ⟨w.heap.size + 1 + 1, 1, none⟩ = some (.int .i64 ch) := (kc 1).trans (by simp [go_sem, *])
  have f2_2_1 : v2.frozen? ⟨w.heap.size + 1 + 1, 1, none⟩ = false := (kf 1).trans (by simp [go_sem, *])
  clear kc kf
  obtain ⟨k2_3, kc, kf⟩ := keepB h2 (w.heap.size + 1 + 1 + 1) (by first | omega | (simp; omega) | (simp; done))
  have c2_3_0 : v2.cell? ⟨w.heap.size + 1 + 1 + 1, 0, none⟩ = some (.int .i64 dl) := (kc 0).trans (by simp [go_sem, *])
  have f2_3_0 : v2.frozen? ⟨w.heap.size + 1 + 1 + 1, 0, none⟩ = false := (kf 0).trans (by simp [go_sem, *])
  have c2_3_1 : v2.cell? ⟨w.heap.size + 1 + 1 + 1, 1, none⟩ = some (.int .i64 dh) := (kc 1).trans (by simp [go_sem, *])
  have f2_3_1 : v2.frozen? ⟨w.heap.size + 1 + 1 + 1, 1, none⟩ = false := (kf 1).trans (by simp [go_sem, *])
  clear kc kf
  clear c1_0_0 f1_0_0 c1_0_1 f1_0_1 c1_1_0 f1_1_0 c1_1_1 f1_1_1 c1_2_0 f1_2_0 c1_2_1 f1_2_1 c1_3_0 f1_3_0 c1_3_1 f1_3_1
  go_wp2_with fail
  refine (right_any _ _ _).mono ?_
  rintro e v3 ⟨rfl, h3⟩
  have z3 := h3.size
  try simp at z3
  have hB3 : Below w.heap.size w v3 := Below.call (w := w) (by repeat (first | (with_reducible exact Below.refl _ _) | (with_reducible assumption) | refine Below.setCell ?_ (by first | omega | (simp; omega) | (simp; done)) _ | refine Below.alloc ?_ (by first | omega | (simp; omega) | (simp; done)) _ | refine Below.drew ?_)) h3
  obtain ⟨k3_0, kc, kf⟩ := keepB h3 (w.heap.size) (by first | omega | (simp; omega) | (simp; done))
  have c3_0_0 : v3.cell? ⟨w.heap.size, 0, none⟩ = some (.int .i64 al) := (kc 0).trans (by simp [go_sem, *])
  have f3_0_0 : v3.frozen? ⟨w.heap.size, 0, none⟩ = false := (kf 0).trans (by simp [go_sem, *])
  have c3_0_1 : v3.cell? ⟨w.heap.size, 1, none⟩ = some (.int .i64 ah) := (kc 1).trans (by simp [go_sem, *])
  have f3_0_1 : v3.frozen? ⟨w.heap.size, 1, none⟩ = false := (kf 1).trans (by simp [go_sem, *])
  clear kc kf
  obtain ⟨k3_1, kc, kf⟩ := keepB h3 (w.heap.size + 1) (by first | omega | (simp; omega) | (simp; done))
  have c3_1_0 : v3.cell? ⟨w.heap.size + 1, 0, none⟩ = some (.int .i64 bl) := (kc 0).trans (by simp [go_sem, *])
  have f3_1_0 : v3.frozen? ⟨w.heap.size + 1, 0, none⟩ = false := (kf 0).trans (by simp [go_sem, *])
  have c3_1_1 : v3.cell? ⟨w.heap.size + 1, 1, none⟩ = some (.int .i64 bh) := (kc 1).trans (by simp [go_sem, *])
  have f3_1_1 : v3.frozen? ⟨w.heap.size + 1, 1, none⟩ = false := (kf 1).trans (by simp [go_sem, *])
  clear kc kf
  obtain ⟨k3_2, kc, kf⟩ := keepB h3 (w.heap.size + 1 + 1) (by first | omega | (simp; omega) | (simp; done))
  have c3_2_0 : v3.cell? ⟨w.heap.size + 1 + 1, 0, none⟩ = some (.int .i64 cl) := (kc 0).trans (by simp [go_sem, *])
  have f3_2_0 : v3.frozen? ⟨w.heap.size + 1 + 1, 0, none⟩ = false := (kf 0).trans (by simp [go_sem, *])
  have c3_2_1 : v3.cell? ⟨w.heap.size + 1 + 1, 1, none⟩ = some (.int .i64 ch) := (kc 1).trans (by simp [go_sem, *])
  have f3_2_1 : v3.frozen? ⟨w.heap.size + 1 + 1, 1, none⟩ = false := (kf 1).trans (by simp [go_sem, *])
  clear kc kf
  obtain ⟨k3_3, kc, kf⟩ := keepB h3 (w.heap.size + 1 + 1 + 1) (by first | omega | (simp; omega) | (simp; done))
  have c3_3_0 : v3.cell? ⟨w.heap.size + 1 + 1 + 1, 0, none⟩ = some (.int .i64 dl) := (kc 0).trans (by simp [go_sem, *])
  have f3_3_0 : v3.frozen? ⟨w.heap.size + 1 + 1 + 1, 0, none⟩ = false := (kf 0).trans (by simp [go_sem, *])
  have c3_3_1 : v3.cell? ⟨w.heap.size + 1 + 1 + 1, 1, none⟩ = some (.int .i64 dh) := (kc 1).trans (by simp [go_sem, *])
  have f3_3_1 : v3.frozen? ⟨w.heap.size + 1 + 1 + 1, 1, none⟩ = false := (kf 1).trans (by simp [go_sem, *])
  clear kc kf
  clear c2_0_0 f2_0_0 c2_0_1 f2_0_1 c2_1_0 f2_1_0 c2_1_1 f2_1_1 c2_2_0 f2_2_0 c2_2_1 f2_2_1 c2_3_0 f2_3_0 c2_3_1 f2_3_1
  go_wp2
  go_ret
  exact ⟨rfl, by with_reducible assumption⟩

set_option maxRecDepth 100000 in
set_option maxHeartbeats 2000000 in
theorem narrow_out2 (al ah bl bh cl ch dl dh : Int) (w : World) (ha : Sp.right al ah = true) (hb : Sp.right bl bh = true) (hc : Sp.right cl ch = false) :
    Calls Try.prog 3 #[.agg #[.int .i64 al, .int .i64 ah], .agg #[.int .i64 bl, .int .i64 bh], .agg #[.int .i64 cl, .int .i64 ch], .agg #[.int .i64 dl, .int .i64 dh]] w fun e w' => e = .returned (.bool true) ∧ Below w.heap.size w w' := by
  go_enter Try.func3, Try.ntmps3
  go_wp2_with fail
  refine (small_any _).mono ?_
  rintro e v1 ⟨rfl, h1⟩
  have z1 := h1.size
  try simp at z1
  have hB1 : Below w.heap.size w v1 := Below.call (w := w) (by repeat (first | (with_reducible exact Below.refl _ _) | (with_reducible assumption) | refine Below.setCell ?_ (by first | omega | (simp; omega) | (simp; done)) _ | refine Below.alloc ?_ (by first | omega | (simp; omega) | (simp; done)) _ | refine Below.drew ?_)) h1
  obtain ⟨k1_0, kc, kf⟩ := keepB h1 (w.heap.size) (by first | omega | (simp; omega) | (simp; done))
  have c1_0_0 : v1.cell? ⟨w.heap.size, 0, none⟩ = some (.int .i64 al) := (kc 0).trans (by simp [go_sem, *])
  have f1_0_0 : v1.frozen? ⟨w.heap.size, 0, none⟩ = false := (kf 0).trans (by simp [go_sem, *])
  have c1_0_1 : v1.cell? ⟨w.heap.size, 1, none⟩ = some (.int .i64 ah) := (kc 1).trans (by simp [go_sem, *])
  have f1_0_1 : v1.frozen? ⟨w.heap.size, 1, none⟩ = false := (kf 1).trans (by simp [go_sem, *])
  clear kc kf
  obtain ⟨k1_1, kc, kf⟩ := keepB h1 (w.heap.size + 1) (by first | omega | (simp; omega) | (simp; done))
  have c1_1_0 : v1.cell? ⟨w.heap.size + 1, 0, none⟩ = some (.int .i64 bl) := (kc 0).trans (by simp [go_sem, *])
  have f1_1_0 : v1.frozen? ⟨w.heap.size + 1, 0, none⟩ = false := (kf 0).trans (by simp [go_sem, *])
  have c1_1_1 : v1.cell? ⟨w.heap.size + 1, 1, none⟩ = some (.int .i64 bh) := (kc 1).trans (by simp [go_sem, *])
  have f1_1_1 : v1.frozen? ⟨w.heap.size + 1, 1, none⟩ = false := (kf 1).trans (by simp [go_sem, *])
  clear kc kf
  obtain ⟨k1_2, kc, kf⟩ := keepB h1 (w.heap.size + 1 + 1) (by first | omega | (simp; omega) | (simp; done))
  have c1_2_0 : v1.cell? ⟨w.heap.size + 1 + 1, 0, none⟩ = some (.int .i64 cl) := (kc 0).trans (by simp [go_sem, *])
  have f1_2_0 : v1.frozen? ⟨w.heap.size + 1 + 1, 0, none⟩ = false := (kf 0).trans (by simp [go_sem, *])
  have c1_2_1 : v1.cell? ⟨w.heap.size + 1 + 1, 1, none⟩ = some (.int .i64 ch) := (kc 1).trans (by simp [go_sem, *])
  have f1_2_1 : v1.frozen? ⟨w.heap.size + 1 + 1, 1, none⟩ = false := (kf 1).trans (by simp [go_sem, *])
  clear kc kf
  obtain ⟨k1_3, kc, kf⟩ := keepB h1 (w.heap.size + 1 + 1 + 1) (by first | omega | (simp; omega) | (simp; done))
  have c1_3_0 : v1.cell? ⟨w.heap.size + 1 + 1 + 1, 0, none⟩ = some (.int .i64 dl) := (kc 0).trans (by simp [go_sem, *])
  have f1_3_0 : v1.frozen? ⟨w.heap.size + 1 + 1 + 1, 0, none⟩ = false := (kf 0).trans (by simp [go_sem, *])
  have c1_3_1 : v1.cell? ⟨w.heap.size + 1 + 1 + 1, 1, none⟩ = some (.int .i64 dh) := (kc 1).trans (by simp [go_sem, *])
  have f1_3_1 : v1.frozen? ⟨w.heap.size + 1 + 1 + 1, 1, none⟩ = false := (kf 1).trans (by simp [go_sem, *])
  clear kc kf
  go_wp2_with fail
  refine (right_any _ _ _).mono ?_
  rintro e v2 ⟨rfl, h2⟩
  have z2 := h2.size
  try simp at z2
  have hB2 : Below w.heap.size w v2 := Below.call (w := w) (by repeat (first | (with_reducible exact Below.refl _ _) | (with_reducible assumption) | refine Below.setCell ?_ (by first | omega | (simp; omega) | (simp; done)) _ | refine Below.alloc ?_ (by first | omega | (simp; omega) | (simp; done)) _ | refine Below.drew ?_)) h2
  obtain ⟨k2_0, kc, kf⟩ := keepB h2 (w.heap.size) (by first | omega | (simp; omega) | (simp; done))
  have c2_0_0 : v2.cell? ⟨w.heap.size, 0, none⟩ = some (.int .i64 al) := (kc 0).trans (by simp [go_sem, *])
  have f2_0_0 : v2.frozen? ⟨w.heap.size, 0, none⟩ = false := (kf 0).trans (by simp [go_sem, *])
  have c2_0_1 : v2.cell? ⟨w.heap.size, 1, none⟩ = some (.int .i64 ah) := (kc 1).trans (by simp [go_sem, *])
  have f2_0_1 : v2.frozen? ⟨w.heap.size, 1, none⟩ = false := (kf 1).trans (by simp [go_sem, *])
  clear kc kf
  obtain ⟨k2_1, kc, kf⟩ := keepB h2 (w.heap.size + 1) (by first | omega | (simp; omega) | (simp; done))
  have c2_1_0 : v2.cell? ⟨w.heap.size + 1, 0, none⟩ = some (.int .i64 bl) := (kc 0).trans (by simp [go_sem, *])
  have f2_1_0 : v2.frozen? ⟨w.heap.size + 1, 0, none⟩ = false := (kf 0).trans (by simp [go_sem, *])
  have c2_1_1 : v2.cell? ⟨w.heap.size + 1, 1, none⟩ = some (.int .i64 bh) := (kc 1).trans (by simp [go_sem, *])
  have f2_1_1 : v2.frozen? ⟨w.heap.size + 1, 1, none⟩ = false := (kf 1).trans (by simp [go_sem, *])
  clear kc kf
  obtain ⟨k2_2, kc, kf⟩ := keepB h2 (w.heap.size + 1 + 1) (by first | omega | (simp; omega) | (simp; done))
  have c2_2_0 : v2.cell? ⟨w.heap.size + 1 + 1, 0, none⟩ = some (.int .i64 cl) := (kc 0).trans (by simp [go_sem, *])
  have f2_2_0 : v2.frozen? ⟨w.heap.size + 1 + 1, 0, none⟩ = false := (kf 0).trans (by simp [go_sem, *])
  have c2_2_1 : v2.cell? ⟨w.heap.size + 1 + 1, 1, none⟩ = some (.int .i64 ch) := (kc 1).trans (by simp [go_sem, *])
  have f2_2_1 : v2.frozen? ⟨w.heap.size + 1 + 1, 1, none⟩ = false := (kf 1).trans (by simp [go_sem, *])
  clear kc kf
  obtain ⟨k2_3, kc, kf⟩ := keepB h2 (w.heap.size + 1 + 1 + 1) (by first | omega | (simp; omega) | (simp; done))
  have c2_3_0 : v2.cell? ⟨w.heap.size + 1 + 1 + 1, 0, none⟩ = some (.int .i64 dl) := (kc 0).trans (by simp [go_sem, *])
  have f2_3_0 : v2.frozen? ⟨w.heap.size + 1 + 1 + 1, 0, none⟩ = false := (kf 0).trans (by simp [go_sem, *])
  have c2_3_1 : v2.cell? ⟨w.heap.size + 1 + 1 + 1, 1, none⟩ = some (.int .i64 dh) := (kc 1).trans (by simp [go_sem, *])
  have f2_3_1 : v2.frozen? ⟨w.heap.size + 1 + 1 + 1, 1, none⟩ = false := (kf 1).trans (by simp [go_sem, *])
  clear kc kf
  clear c1_0_0 f1_0_0 c1_0_1 f1_0_1 c1_1_0 f1_1_0 c1_1_1 f1_1_1 c1_2_0 f1_2_0 c1_2_1 f1_2_1 c1_3_0 f1_3_0 c1_3_1 f1_3_1
  go_wp2_with fail
  refine (right_any _ _ _).mono ?_
  rintro e v3 ⟨rfl, h3⟩
  have z3 := h3.size
  try simp at z3
  have hB3 : Below w.heap.size w v3 := Below.call (w := w) (by repeat (first | (with_reducible exact Below.refl _ _) | (with_reducible assumption) | refine Below.setCell ?_ (by first | omega | (simp; omega) | (simp; done)) _ | refine Below.alloc ?_ (by first | omega | (simp; omega) | (simp; done)) _ | refine Below.drew ?_)) h3
  obtain ⟨k3_0, kc, kf⟩ := keepB h3 (w.heap.size) (by first | omega | (simp; omega) | (simp; done))
  have c3_0_0 : v3.cell? ⟨w.heap.size, 0, none⟩ = some (.int .i64 al) := (kc 0).trans (by simp [go_sem, *])
  have f3_0_0 : v3.frozen? ⟨w.heap.size, 0, none⟩ = false := (kf 0).trans (by simp [go_sem, *])
  have c3_0_1 : v3.cell? ⟨w.heap.size, 1, none⟩ = some (.int .i64 ah) := (kc 1).trans (by simp [go_sem, *])
  have f3_0_1 : v3.frozen? ⟨w.heap.size, 1, none⟩ = false := (kf 1).trans (by simp [go_sem, *])
  clear kc kf
  obtain ⟨k3_1, kc, kf⟩ := keepB h3 (w.heap.size + 1) (by first | omega | (simp; omega) | (simp; done))
  have c3_1_0 : v3.cell? ⟨w.heap.size + 1, 0, none⟩ = some (.int .i64 bl) := (kc 0).trans (by simp [go_sem, *])
  have f3_1_0 : v3.frozen? ⟨w.heap.size + 1, 0, none⟩ = false := (kf 0).trans (by simp [go_sem, *])
  have c3_1_1 : v3.cell? ⟨w.heap.size + 1, 1, none⟩ = some (.int .i64 bh) := (kc 1).trans (by simp [go_sem, *])
  have f3_1_1 : v3.frozen? ⟨w.heap.size + 1, 1, none⟩ = false := (kf 1).trans (by simp [go_sem, *])
  clear kc kf
  obtain ⟨k3_2, kc, kf⟩ := keepB h3 (w.heap.size + 1 + 1) (by first | omega | (simp; omega) | (simp; done))
  have c3_2_0 : v3.cell? ⟨w.heap.size + 1 + 1, 0, none⟩ = some (.int .i64 cl) := (kc 0).trans (by simp [go_sem, *])
  have f3_2_0 : v3.frozen? ⟨w.heap.size + 1 + 1, 0, none⟩ = false := (kf 0).trans (by simp [go_sem, *])
  have c3_2_1 : v3.cell? ⟨w.heap.size + 1 + 1, 1, none⟩ = some (.int .i64 ch) := (kc 1).trans (by simp [go_sem, *])
  have f3_2_1 : v3.frozen? ⟨w.heap.size + 1 + 1, 1, none⟩ = false := (kf 1).trans (by simp [go_sem, *])
  clear kc kf
  obtain ⟨k3_3, kc, kf⟩ := keepB h3 (w.heap.size + 1 + 1 + 1) (by first | omega | (simp; omega) | (simp; done))
  have c3_3_0 : v3.cell? ⟨w.heap.size + 1 + 1 + 1, 0, none⟩ = some (.int .i64 dl) := (kc 0).trans (by simp [go_sem, *])
  have f3_3_0 : v3.frozen? ⟨w.heap.size + 1 + 1 + 1, 0, none⟩ = false := (kf 0).trans (by simp [go_sem, *])
  have c3_3_1 : v3.cell? ⟨w.heap.size + 1 + 1 + 1, 1, none⟩ = some (.int .i64 dh) := (kc 1).trans (by simp [go_sem, *])
  have f3_3_1 : v3.frozen? ⟨w.heap.size + 1 + 1 + 1, 1, none⟩ = false := (kf 1).trans (by simp [go_sem, *])
  clear kc kf
  clear c2_0_0 f2_0_0 c2_0_1 f2_0_1 c2_1_0 f2_1_0 c2_1_1 f2_1_1 c2_2_0 f2_2_0 c2_2_1 f2_2_1 c2_3_0 f2_3_0 c2_3_1 f2_3_1
  go_wp2_with fail
  refine (right_any _ _ _).mono ?_
  rintro e v4 ⟨rfl, h4⟩
  have z4 := h4.size
  try simp at z4
  have hB4 : Below w.heap.size w v4 := Below.call (w := w) (by repeat (first | (with_reducible exact Below.refl _ _) | (with_reducible assumption) | refine Below.setCell ?_ (by first | omega | (simp; omega) | (simp; done)) _ | refine Below.alloc ?_ (by first | omega | (simp; omega) | (simp; done)) _ | refine Below.drew ?_)) h4
  obtain ⟨k4_0, kc, kf⟩ := keepB h4 (w.heap.size) (by first | omega | (simp; omega) | (simp; done))
  have c4_0_0 : v4.cell? ⟨w.heap.size, 0, none⟩ = some (.int .i64 al) := (kc 0).trans (by simp [go_sem, *])
  have f4_0_0 : v4.frozen? ⟨w.heap.size, 0, none⟩ = false := (kf 0).trans (by simp [go_sem, *])
  have c4_0_1 : v4.cell? ⟨w.heap.size, 1, none⟩ = some (.int .i64 ah) := (kc 1).trans (by simp [go_sem, *])
  have f4_0_1 : v4.frozen? ⟨w.heap.size, 1, none⟩ = false := (kf 1).trans (by simp [go_sem, *])
  clear kc kf
  obtain ⟨k4_1, kc, kf⟩ := keepB h4 (w.heap.size + 1) (by first | omega | (simp; omega) | (simp; done))
  have c4_1_0 : v4.cell? ⟨w.heap.size + 1, 0, none⟩ = some (.int .i64 bl) := (kc 0).trans (by simp [go_sem, *])
  have f4_1_0 : v4.frozen? ⟨w.heap.size + 1, 0, none⟩ = false := (kf 0).trans (by simp [go_sem, *])
  have c4_1_1 : v4.cell? ⟨w.heap.size + 1, 1, none⟩ = some (.int .i64 bh) := (kc 1).trans (by simp [go_sem, *])
  have f4_1_1 : v4.frozen? ⟨w.heap.size + 1, 1, none⟩ = false := (kf 1).trans (by simp [go_sem, *])
  clear kc kf
  obtain ⟨k4_2, kc, kf⟩ := keepB h4 (w.heap.size + 1 + 1) (by first | omega | (simp; omega) | (simp; done))
  have c4_2_0 : v4.cell? ⟨w.heap.size + 1 + 1, 0, none⟩ = some (.int .i64 cl) := (kc 0).trans (by simp [go_sem, *])
  have f4_2_0 : v4.frozen? ⟨w.heap.size + 1 + 1, 0, none⟩ = false := (kf 0).trans (by simp [go_sem, *])
  have c4_2_1 : v4.cell? ⟨w.heap.size + 1 + 1, 1, none⟩ = some (.int .i64 ch) := (kc 1).trans (by simp [go_sem, *])
  have f4_2_1 : v4.frozen? ⟨w.heap.size + 1 + 1, 1, none⟩ = false := (kf 1).trans (by simp [go_sem, *])
  clear kc kf
  obtain ⟨k4_3, kc, kf⟩ := keepB h4 (w.heap.size + 1 + 1 + 1) (by first | omega | (simp; omega) | (simp; done))
  have c4_3_0 : v4.cell? ⟨w.heap.size + 1 + 1 + 1, 0, none⟩ = some (.int .i64 dl) := (kc 0).trans (by simp [go_sem, *])
  have f4_3_0 : v4.frozen? ⟨w.heap.size + 1 + 1 + 1, 0, none⟩ = false := (kf 0).trans (by simp [go_sem, *])
  have c4_3_1 : v4.cell? ⟨w.heap.size + 1 + 1 + 1, 1, none⟩ = some (.int .i64 dh) := (kc 1).trans (by simp [go_sem, *])
  have f4_3_1 : v4.frozen? ⟨w.heap.size + 1 + 1 + 1, 1, none⟩ = false := (kf 1).trans (by simp [go_sem, *])
  clear kc kf
  clear c3_0_0 f3_0_0 c3_0_1 f3_0_1 c3_1_0 f3_1_0 c3_1_1 f3_1_1 c3_2_0 f3_2_0 c3_2_1 f3_2_1 c3_3_0 f3_3_0 c3_3_1 f3_3_1
  go_wp2
  go_ret
  exact ⟨rfl, by with_reducible assumption⟩

set_option maxRecDepth 100000 in
set_option maxHeartbeats 2000000 in
theorem narrow_out3 (al ah bl bh cl ch dl dh : Int) (w : World) (ha : Sp.right al ah = true) (hb : Sp.right bl bh = true) (hc : Sp.right cl ch = true) (hd : Sp.right dl dh = false) :
    Calls Try.prog 3 #[.agg #[.int .i64 al, .int .i64 ah], .agg #[.int .i64 bl, .int .i64 bh], .agg #[.int .i64 cl, .int .i64 ch], .agg #[.int .i64 dl, .int .i64 dh]] w fun e w' => e = .returned (.bool true) ∧ Below w.heap.size w w' := by
  go_enter Try.func3, Try.ntmps3
  go_wp2_with fail
  refine (small_any _).mono ?_
  rintro e v1 ⟨rfl, h1⟩
  have z1 := h1.size
  try simp at z1
  have hB1 : Below w.heap.size w v1 := Below.call (w := w) (by repeat (first | (with_reducible exact Below.refl _ _) | (with_reducible assumption) | refine Below.setCell ?_ (by first | omega | (simp; omega) | (simp; done)) _ | refine Below.alloc ?_ (by first | omega | (simp; omega) | (simp; done)) _ | refine Below.drew ?_)) h1
  obtain ⟨k1_0, kc, kf⟩ := keepB h1 (w.heap.size) (by first | omega | (simp; omega) | (simp; done))
  have c1_0_0 : v1.cell? ⟨w.heap.size, 0, none⟩ = some (.int .i64 al) := (kc 0).trans (by simp [go_sem, *])
  have f1_0_0 : v1.frozen? ⟨w.heap.size, 0, none⟩ = false := (kf 0).trans (by simp [go_sem, *])
  have c1_0_1 : v1.cell? ⟨w.heap.size, 1, none⟩ = some (.int .i64 ah) := (kc 1).trans (by simp [go_sem, *])
  have f1_0_1 : v1.frozen? ⟨w.heap.size, 1, none⟩ = false := (kf 1).trans (by simp [go_sem, *])
  clear kc kf
  obtain ⟨k1_1, kc, kf⟩ := keepB h1 (w.heap.size + 1) (by first | omega | (simp; omega) | (simp; done))
  have c1_1_0 : v1.cell? ⟨w.heap.size + 1, 0, none⟩ = some (.int .i64 bl) := (kc 0).trans (by simp [go_sem, *])
  have f1_1_0 : v1.frozen? ⟨w.heap.size + 1, 0, none⟩ = false := (kf 0).trans (by simp [go_sem, *])
  have c1_1_1 : v1.cell? ⟨w.heap.size + 1, 1, none⟩ = some (.int .i64 bh) := (kc 1).trans (by simp [go_sem, *])
  have f1_1_1 : v1.frozen? ⟨w.heap.size + 1, 1, none⟩ = false := (kf 1).trans (by simp [go_sem, *])
  clear kc kf
  obtain ⟨k1_2, kc, kf⟩ := keepB h1 (w.heap.size + 1 + 1) (by first | omega | (simp; omega) | (simp; done))
  have c1_2_0 : v1.cell? ⟨w.heap.size + 1 + 1, 0, none⟩ = some (.int .i64 cl) := (kc 0).trans (by simp [go_sem, *])
  have f1_2_0 : v1.frozen? ⟨w.heap.size + 1 + 1, 0, none⟩ = false := (kf 0).trans (by simp [go_sem, *])
  have c1_2_1 : v1.cell? ⟨w.heap.size + 1 + 1, 1, none⟩ = some (.int .i64 ch) := (kc 1).trans (by simp [go_sem, *])
  have f1_2_1 : v1.frozen? ⟨w.heap.size + 1 + 1, 1, none⟩ = false := (kf 1).trans (by simp [go_sem, *])
  clear kc kf
  obtain ⟨k1_3, kc, kf⟩ := keepB h1 (w.heap.size + 1 + 1 + 1) (by first | omega | (simp; omega) | (simp; done))
  have c1_3_0 : v1.cell? ⟨w.heap.size + 1 + 1 + 1, 0, none⟩ = some (.int .i64 dl) := (kc 0).trans (by simp [go_sem, *])
  have f1_3_0 : v1.frozen? ⟨w.heap.size + 1 + 1 + 1, 0, none⟩ = false := (kf 0).trans (by simp [go_sem, *])
  have c1_3_1 : v1.cell? ⟨w.heap.size + 1 + 1 + 1, 1, none⟩ = some (.int .i64 dh) := (kc 1).trans (by simp [go_sem, *])
  have f1_3_1 : v1.frozen? ⟨w.heap.size + 1 + 1 + 1, 1, none⟩ = false := (kf 1).trans (by simp [go_sem, *])
  clear kc kf
  go_wp2_with fail
  refine (right_any _ _ _).mono ?_
  rintro e v2 ⟨rfl, h2⟩
  have z2 := h2.size
  try simp at z2
  have hB2 : Below w.heap.size w v2 := Below.call (w := w) (by repeat (first | (with_reducible exact Below.refl _ _) | (with_reducible assumption) | refine Below.setCell ?_ (by first | omega | (simp; omega) | (simp; done)) _ | refine Below.alloc ?_ (by first | omega | (simp; omega) | (simp; done)) _ | refine Below.drew ?_)) h2
  obtain ⟨k2_0, kc, kf⟩ := keepB h2 (w.heap.size) (by first | omega | (simp; omega) | (simp; done))
  have c2_0_0 : v2.cell? ⟨w.heap.size, 0, none⟩ = some (.int .i64 al) := (kc 0).trans (by simp [go_sem, *])
  have f2_0_0 : v2.frozen? ⟨w.heap.size, 0, none⟩ = false := (kf 0).trans (by simp [go_sem, *])
  have c2_0_1 : v2.cell? ⟨w.heap.size, 1, none⟩ = some (.int .i64 ah) := (kc 1).trans (by simp [go_sem, *])
  have f2_0_1 : v2.frozen? ⟨w.heap.size, 1, none⟩ = false := (kf 1).trans (by simp [go_sem, *])
  clear kc kf
  obtain ⟨k2_1, kc, kf⟩ := keepB h2 (w.heap.size + 1) (by first | omega | (simp; omega) | (simp; done))
  have c2_1_0 : v2.cell? ⟨w.heap.size + 1, 0, none⟩ = some (.int .i64 bl) := (kc 0).trans (by simp [go_sem, *])
  have f2_1_0 : v2.frozen? ⟨w.heap.size + 1, 0, none⟩ = false := (kf 0).trans (by simp [go_sem, *])
  have c2_1_1 : v2.cell? ⟨w.heap.size + 1, 1, none⟩ = some (.int .i64 bh) := (kc 1).trans (by simp [go_sem, *])
  have f2_1_1 : v2.frozen? ⟨w.heap.size + 1, 1, none⟩ = false := (kf 1).trans (by simp [go_sem, *])
  clear kc kf
  obtain ⟨k2_2, kc, kf⟩ := keepB h2 (w.heap.size + 1 + 1) (by first | omega | (simp; omega) | (simp; done))
  have c2_2_0 : v2.cell? ⟨w.heap.size + 1 + 1, 0, none⟩ = some (.int .i64 cl) := (kc 0).trans (by simp [go_sem, *])
  have f2_2_0 : v2.frozen? ⟨w.heap.size + 1 + 1, 0, none⟩ = false := (kf 0).trans (by simp [go_sem, *])
  have c2_2_1 : v2.cell? ⟨w.heap.size + 1 + 1, 1, none⟩ = some (.int .i64 ch) := (kc 1).trans (by simp [go_sem, *])
  have f2_2_1 : v2.frozen? ⟨w.heap.size + 1 + 1, 1, none⟩ = false := (kf 1).trans (by simp [go_sem, *])
  clear kc kf
  obtain ⟨k2_3, kc, kf⟩ := keepB h2 (w.heap.size + 1 + 1 + 1) (by first | omega | (simp; omega) | (simp; done))
  have c2_3_0 : v2.cell? ⟨w.heap.size + 1 + 1 + 1, 0, none⟩ = some (.int .i64 dl) := (kc 0).trans (by simp [go_sem, *])
  have f2_3_0 : v2.frozen? ⟨w.heap.size + 1 + 1 + 1, 0, none⟩ = false := (kf 0).trans (by simp [go_sem, *])
  have c2_3_1 : v2.cell? ⟨w.heap.size + 1 + 1 + 1, 1, none⟩ = some (.int .i64 dh) := (kc 1).trans (by simp [go_sem, *])
  have f2_3_1 : v2.frozen? ⟨w.heap.size + 1 + 1 + 1, 1, none⟩ = false := (kf 1).trans (by simp [go_sem, *])
  clear kc kf
  clear c1_0_0 f1_0_0 c1_0_1 f1_0_1 c1_1_0 f1_1_0 c1_1_1 f1_1_1 c1_2_0 f1_2_0 c1_2_1 f1_2_1 c1_3_0 f1_3_0 c1_3_1 f1_3_1
  go_wp2_with fail
  refine (right_any _ _ _).mono ?_
  rintro e v3 ⟨rfl, h3⟩
  have z3 := h3.size
  try simp at z3
  have hB3 : Below w.heap.size w v3 := Below.call (w := w) (by repeat (first | (with_reducible exact Below.refl _ _) | (with_reducible assumption) | refine Below.setCell ?_ (by first | omega | (simp; omega) | (simp; done)) _ | refine Below.alloc ?_ (by first | omega | (simp; omega) | (simp; done)) _ | refine Below.drew ?_)) h3
  obtain ⟨k3_0, kc, kf⟩ := keepB h3 (w.heap.size) (by first | omega | (simp; omega) | (simp; done))
  have c3_0_0 : v3.cell? ⟨w.heap.size, 0, none⟩ = some (.int .i64 al) := (kc 0).trans (by simp [go_sem, *])
  have f3_0_0 : v3.frozen? ⟨w.heap.size, 0, none⟩ = false := (kf 0).trans (by simp [go_sem, *])
  have c3_0_1 : v3.cell? ⟨w.heap.size, 1, none⟩ = some (.int .i64 ah) := (kc 1).trans (by simp [go_sem, *])
  have f3_0_1 : v3.frozen? ⟨w.heap.size, 1, none⟩ = false := (kf 1).trans (by simp [go_sem, *])
  clear kc kf
  obtain ⟨k3_1, kc, kf⟩ := keepB h3 (w.heap.size + 1) (by first | omega | (simp; omega) | (simp; done))
  have c3_1_0 : v3.cell? ⟨w.heap.size + 1, 0, none⟩ = some (.int .i64 bl) := (kc 0).trans (by simp [go_sem, *])
  have f3_1_0 : v3.frozen? ⟨w.heap.size + 1, 0, none⟩ = false := (kf 0).trans (by simp [go_sem, *])
  have c3_1_1 : v3.cell? ⟨w.heap.size + 1, 1, none⟩ = some (.int .i64 bh) := (kc 1).trans (by simp [go_sem, *])
  have f3_1_1 : v3.frozen? ⟨w.heap.size + 1, 1, none⟩ = false := (kf 1).trans (by simp [go_sem, *])
  clear kc kf
  obtain ⟨k3_2, kc, kf⟩ := keepB h3 (w.heap.size + 1 + 1) (by first | omega | (simp; omega) | (simp; done))
  have c3_2_0 : v3.cell? ⟨w.heap.size + 1 + 1, 0, none⟩ = some (.int .i64 cl) := (kc 0).trans (by simp [go_sem, *])
  have f3_2_0 : v3.frozen? ⟨w.heap.size + 1 + 1, 0, none⟩ = false := (kf 0).trans (by simp [go_sem, *])
  have c3_2_1 : v3.cell? ⟨w.heap.size + 1 + 1, 1, none⟩ = some (.int .i64 ch) := (kc 1).trans (by simp [go_sem, *])
  have f3_2_1 : v3.frozen? ⟨w.heap.size + 1 + 1, 1, none⟩ = false := (kf 1).trans (by simp [go_sem, *])
  clear kc kf
  obtain ⟨k3_3, kc, kf⟩ := keepB h3 (w.heap.size + 1 + 1 + 1) (by first | omega | (simp; omega) | (simp; done))
  have c3_3_0 : v3.cell? ⟨w.heap.size + 1 + 1 + 1, 0, none⟩ = some (.int .i64 dl) := (kc 0).trans (by simp [go_sem, *])
  have f3_3_0 : v3.frozen? ⟨w.heap.size + 1 + 1 + 1, 0, none⟩ = false := (kf 0).trans (by simp [go_sem, *])
  have c3_3_1 : v3.cell? ⟨w.heap.size + 1 + 1 + 1, 1, none⟩ = some (.int .i64 dh) := (kc 1).trans (by simp [go_sem, *])
  have f3_3_1 : v3.frozen? ⟨w.heap.size + 1 + 1 + 1, 1, none⟩ = false := (kf 1).trans (by simp [go_sem, *])
  clear kc kf
  clear c2_0_0 f2_0_0 c2_0_1 f2_0_1 c2_1_0 f2_1_0 c2_1_1 f2_1_1 c2_2_0 f2_2_0 c2_2_1 f2_2_1 c2_3_0 f2_3_0 c2_3_1 f2_3_1
  go_wp2_with fail
  refine (right_any _ _ _).mono ?_
  rintro e v4 ⟨rfl, h4⟩
  have z4 := h4.size
  try simp at z4
  have hB4 : Below w.heap.size w v4 := Below.call (w := w) (by repeat (first | (with_reducible exact Below.refl _ _) | (with_reducible assumption) | refine Below.setCell ?_ (by first | omega | (simp; omega) | (simp; done)) _ | refine Below.alloc ?_ (by first | omega | (simp; omega) | (simp; done)) _ | refine Below.drew ?_)) h4
  obtain ⟨k4_0, kc, kf⟩ := keepB h4 (w.heap.size) (by first | omega | (simp; omega) | (simp; done))
  have c4_0_0 : v4.cell? ⟨w.heap.size, 0, none⟩ = some (.int .i64 al) := (kc 0).trans (by simp [go_sem, *])
  have f4_0_0 : v4.frozen? ⟨w.heap.size, 0, none⟩ = false := (kf 0).trans (by simp [go_sem, *])
  have c4_0_1 : v4.cell? ⟨w.heap.size, 1, none⟩ = some (.int .i64 ah) := (kc 1).trans (by simp [go_sem, *])
  have f4_0_1 : v4.frozen? ⟨w.heap.size, 1, none⟩ = false := (kf 1).trans (by simp [go_sem, *])
  clear kc kf
  obtain ⟨k4_1, kc, kf⟩ := keepB h4 (w.heap.size + 1) (by first | omega | (simp; omega) | (simp; done))
  have c4_1_0 : v4.cell? ⟨w.heap.size + 1, 0, none⟩ = some (.int .i64 bl) := (kc 0).trans (by simp [go_sem, *])
  have f4_1_0 : v4.frozen? ⟨w.heap.size + 1, 0, none⟩ = false := (kf 0).trans (by simp [go_sem, *])
  have c4_1_1 : v4.cell? ⟨w.heap.size + 1, 1, none⟩ = some (.int .i64 bh) := (kc 1).trans (by simp [go_sem, *])
  have f4_1_1 : v4.frozen? ⟨w.heap.size + 1, 1, none⟩ = false := (kf 1).trans (by simp [go_sem, *])
  clear kc kf
  obtain ⟨k4_2, kc, kf⟩ := keepB h4 (w.heap.size + 1 + 1) (by first | omega | (simp; omega) | (simp; done))
  have c4_2_0 : v4.cell? ⟨w.heap.size + 1 + 1, 0, none⟩ = some (.int .i64 cl) := (kc 0).trans (by simp [go_sem, *])
  have f4_2_0 : v4.frozen? ⟨w.heap.size + 1 + 1, 0, none⟩ = false := (kf 0).trans (by simp [go_sem, *])
  have c4_2_1 : v4.cell? ⟨w.heap.size + 1 + 1, 1, none⟩ = some (.int .i64 ch) := (kc 1).trans (by simp [go_sem, *])
  have f4_2_1 : v4.frozen? ⟨w.heap.size + 1 + 1, 1, none⟩ = false := (kf 1).trans (by simp [go_sem, *])
  clear kc kf
  obtain ⟨k4_3, kc, kf⟩ := keepB h4 (w.heap.size + 1 + 1 + 1) (by first | omega | (simp; omega) | (simp; done))
  have c4_3_0 : v4.cell? ⟨w.heap.size + 1 + 1 + 1, 0, none⟩ = some (.int .i64 dl) := (kc 0).trans (by simp [go_sem, *])
  have f4_3_0 : v4.frozen? ⟨w.heap.size + 1 + 1 + 1, 0, none⟩ = false := (kf 0).trans (by simp [go_sem, *])
  have c4_3_1 : v4.cell? ⟨w.heap.size + 1 + 1 + 1, 1, none⟩ = some (.int .i64 dh) := (kc 1).trans (by simp [go_sem, *])
  have f4_3_1 : v4.frozen? ⟨w.heap.size + 1 + 1 + 1, 1, none⟩ = false := (kf 1).trans (by simp [go_sem, *])
  clear kc kf
  clear c3_0_0 f3_0_0 c3_0_1 f3_0_1 c3_1_0 f3_1_0 c3_1_1 f3_1_1 c3_2_0 f3_2_0 c3_2_1 f3_2_1 c3_3_0 f3_3_0 c3_3_1 f3_3_1
  go_wp2_with fail
  refine (right_any _ _ _).mono ?_
  rintro e v5 ⟨rfl, h5⟩
  have z5 := h5.size
  try simp at z5
  have hB5 : Below w.heap.size w v5 := Below.call (w := w) (by repeat (first | (with_reducible exact Below.refl _ _) | (with_reducible assumption) | refine Below.setCell ?_ (by first | omega | (simp; omega) | (simp; done)) _ | refine Below.alloc ?_ (by first | omega | (simp; omega) | (simp; done)) _ | refine Below.drew ?_)) h5
  obtain ⟨k5_0, kc, kf⟩ := keepB h5 (w.heap.size) (by first | omega | (simp; omega) | (simp; done))
  have c5_0_0 : v5.cell? ⟨w.heap.size, 0, none⟩ = some (.int .i64 al) := (kc 0).trans (by simp [go_sem, *])
  have f5_0_0 : v5.frozen? ⟨w.heap.size, 0, none⟩ = false := (kf 0).trans (by simp [go_sem, *])
  have c5_0_1 : v5.cell? ⟨w.heap.size, 1, none⟩ = some (.int .i64 ah) := (kc 1).trans (by simp [go_sem, *])
  have f5_0_1 : v5.frozen? ⟨w.heap.size, 1, none⟩ = false := (kf 1).trans (by simp [go_sem, *])
  clear kc kf
  obtain ⟨k5_1, kc, kf⟩ := keepB h5 (w.heap.size + 1) (by first | omega | (simp; omega) | (simp; done))
  have c5_1_0 : v5.cell? ⟨w.heap.size + 1, 0, none⟩ = some (.int .i64 bl) := (kc 0).trans (by simp [go_sem, *])
  have f5_1_0 : v5.frozen? ⟨w.heap.size + 1, 0, none⟩ = false := (kf 0).trans (by simp [go_sem, *])
  have c5_1_1 : v5.cell? ⟨w.heap.size + 1, 1, none⟩ = some (.int .i64 bh) := (kc 1).trans (by simp [go_sem, *])
  have f5_1_1 : v5.frozen? ⟨w.heap.size + 1, 1, none⟩ = false := (kf 1).trans (by simp [go_sem, *])
  clear kc kf
  obtain ⟨k5_2, kc, kf⟩ := keepB h5 (w.heap.size + 1 + 1) (by first | omega | (simp; omega) | (simp; done))
  have c5_2_0 : v5.cell? ⟨w.heap.size + 1 + 1, 0, none⟩ = some (.int .i64 cl) := (kc 0).trans (by simp [go_sem, *])
  have f5_2_0 : v5.frozen? ⟨w.heap.size + 1 + 1, 0, none⟩ = false := (kf 0).trans (by simp [go_sem, *])
  have c5_2_1 : v5.cell? ⟨w.heap.size + 1 + 1, 1, none⟩ = some (.int .i64 ch) := (kc 1).trans (by simp [go_sem, *])
  have f5_2_1 : v5.frozen? ⟨w.heap.size + 1 + 1, 1, none⟩ = false := (kf 1).trans (by simp [go_sem, *])
  clear kc kf
  obtain ⟨k5_3, kc, kf⟩ := keepB h5 (w.heap.size + 1 + 1 + 1) (by first | omega | (simp; omega) | (simp; done))
  have c5_3_0 : v5.cell? ⟨w.heap.size + 1 + 1 + 1, 0, none⟩ = some (.int .i64 dl) := (kc 0).trans (by simp [go_sem, *])
  have f5_3_0 : v5.frozen? ⟨w.heap.size + 1 + 1 + 1, 0, none⟩ = false := (kf 0).trans (by simp [go_sem, *])
  have c5_3_1 : v5.cell? ⟨w.heap.size + 1 + 1 + 1, 1, none⟩ = some (.int .i64 dh) := (kc 1).trans (by simp [go_sem, *])
  have f5_3_1 : v5.frozen? ⟨w.heap.size + 1 + 1 + 1, 1, none⟩ = false := (kf 1).trans (by simp [go_sem, *])
  clear kc kf
  clear c4_0_0 f4_0_0 c4_0_1 f4_0_1 c4_1_0 f4_1_0 c4_1_1 f4_1_1 c4_2_0 f4_2_0 c4_2_1 f4_2_1 c4_3_0 f4_3_0 c4_3_1 f4_3_1
  go_wp2
  go_ret
  exact ⟨rfl, by with_reducible assumption⟩

set_option maxRecDepth 100000 in
set_option maxHeartbeats 2000000 in
theorem narrow_out4 (al ah bl bh cl ch dl dh : Int) (w : World) (ha : Sp.right al ah = true) (hb : Sp.right bl bh = true) (hc : Sp.right cl ch = true) (hd : Sp.right dl dh = true) (hx : Sp.withinB cl ch al ah = false) :
    Calls Try.prog 3 #[.agg #[.int .i64 al, .int .i64 ah], .agg #[.int .i64 bl, .int .i64 bh], .agg #[.int .i64 cl, .int .i64 ch], .agg #[.int .i64 dl, .int .i64 dh]] w fun e w' => e = .returned (.bool true) ∧ Below w.heap.size w w' := by
  go_enter Try.func3, Try.ntmps3
  go_wp2_with fail
  refine (small_any _).mono ?_
  rintro e v1 ⟨rfl, h1⟩
  have z1 := h1.size
  try simp at z1
  have hB1 : Below w.heap.size w v1 := Below.call (w := w) (by repeat (first | (with_reducible exact Below.refl _ _) | (with_reducible assumption) | refine Below.setCell ?_ (by first | omega | (simp; omega) | (simp; done)) _ | refine Below.alloc ?_ (by first | omega | (simp; omega) | (simp; done)) _ | refine Below.drew ?_)) h1
  obtain ⟨k1_0, kc, kf⟩ := keepB h1 (w.heap.size) (by first | omega | (simp; omega) | (simp; done))
  have c1_0_0 : v1.cell? ⟨w.heap.size, 0, none⟩ = some (.int .i64 al) := (kc 0).trans (by simp [go_sem, *])
  have f1_0_0 : v1.frozen? ⟨w.heap.size, 0, none⟩ = false := (kf 0).trans (by simp [go_sem, *])
  have c1_0_1 : v1.cell? ⟨w.heap.size, 1, none⟩ = some (.int .i64 ah) := (kc 1).trans (by simp [go_sem, *])
  have f1_0_1 : v1.frozen? ⟨w.heap.size, 1, none⟩ = false := (kf 1).trans (by simp [go_sem, *])
  clear kc kf
  obtain ⟨k1_1, kc, kf⟩ := keepB h1 (w.heap.size + 1) (by first | omega | (simp; omega) | (simp; done))
  have c1_1_0 : v1.cell? ⟨w.heap.size + 1, 0, none⟩ = some (.int .i64 bl) := (kc 0).trans (by simp [go_sem, *])
  have f1_1_0 : v1.frozen? ⟨w.heap.size + 1, 0, none⟩ = false := (kf 0).trans (by simp [go_sem, *])
  have c1_1_1 : v1.cell? ⟨w.heap.size + 1, 1, none⟩ = some (.int .i64 bh) := (kc 1).trans (by simp [go_sem, *])
  have f1_1_1 : v1.frozen? ⟨w.heap.size + 1, 1, none⟩ = false := (kf 1).trans (by simp [go_sem, *])
  clear kc kf
  obtain ⟨k1_2, kc, kf⟩ := keepB h1 (w.heap.size + 1 + 1) (by first | omega | (simp; omega) | (simp; done))
  have c1_2_0 : v1.cell? ⟨w.heap.size + 1 + 1, 0, none⟩ = some (.int .i64 cl) := (kc 0).trans (by simp [go_sem, *])
  have f1_2_0 : v1.frozen? ⟨w.heap.size + 1 + 1, 0, none⟩ = false := (kf 0).trans (by simp [go_sem, *])
  have c1_2_1 : v1.cell? ⟨w.heap.size + 1 + 1, 1, none⟩ = some (.int .i64 ch) := (kc 1).trans (by simp [go_sem, *])
  have f1_2_1 : v1.frozen? ⟨w.heap.size + 1 + 1, 1, none⟩ = false := (kf 1).trans (by simp [go_sem, *])
  clear kc kf
  obtain ⟨k1_3, kc, kf⟩ := keepB h1 (w.heap.size + 1 + 1 + 1) (by first | omega | (simp; omega) | (simp; done))
  have c1_3_0 : v1.cell? ⟨w.heap.size + 1 + 1 + 1, 0, none⟩ = some (.int .i64 dl) := (kc 0).trans (by simp [go_sem, *])
  have f1_3_0 : v1.frozen? ⟨w.heap.size + 1 + 1 + 1, 0, none⟩ = false := (kf 0).trans (by simp [go_sem, *])
  have c1_3_1 : v1.cell? ⟨w.heap.size + 1 + 1 + 1, 1, none⟩ = some (.int .i64 dh) := (kc 1).trans (by simp [go_sem, *])
  have f1_3_1 : v1.frozen? ⟨w.heap.size + 1 + 1 + 1, 1, none⟩ = false := (kf 1).trans (by simp [go_sem, *])
  clear kc kf
  go_wp2_with fail
  refine (right_any _ _ _).mono ?_
  rintro e v2 ⟨rfl, h2⟩
  have z2 := h2.size
  try simp at z2
  have hB2 : Below w.heap.size w v2 := Below.call (w := w) (by repeat (first | (with_reducible exact Below.refl _ _) | (with_reducible assumption) | refine Below.setCell ?_ (by first | omega | (simp; omega) | (simp; done)) _ | refine Below.alloc ?_ (by first | omega | (simp; omega) | (simp; done)) _ | refine Below.drew ?_)) h2
  obtain ⟨k2_0, kc, kf⟩ := keepB h2 (w.heap.size) (by first | omega | (simp; omega) | (simp; done))
  have c2_0_0 : v2.cell? ⟨w.heap.size, 0, none⟩ = some (.int .i64 al) := (kc 0).trans (by simp [go_sem, *])
  have f2_0_0 : v2.frozen? ⟨w.heap.size, 0, none⟩ = false := (kf 0).trans (by simp [go_sem, *])
  have c2_0_1 : v2.cell? ⟨w.heap.size, 1, none⟩ = some (.int .i64 ah) := (kc 1).trans (by simp [go_sem, *])
  have f2_0_1 : v2.frozen? ⟨w.heap.size, 1, none⟩ = false := (kf 1).trans (by simp [go_sem, *])
  clear kc kf
  obtain ⟨k2_1, kc, kf⟩ := keepB h2 (w.heap.size + 1) (by first | omega | (simp; omega) | (simp; done))
  have c2_1_0 : v2.cell? ⟨w.heap.size + 1, 0, none⟩ = some (.int .i64 bl) := (kc 0).trans (by simp [go_sem, *])
  have f2_1_0 : v2.frozen? ⟨w.heap.size + 1, 0, none⟩ = false := (kf 0).trans (by simp [go_sem, *])
  have c2_1_1 : v2.cell? ⟨w.heap.size + 1, 1, none⟩ = some (.int .i64 bh) := (kc 1).trans (by simp [go_sem, *])
  have f2_1_1 : v2.frozen? ⟨w.heap.size + 1, 1, none⟩ = false := (kf 1).trans (by simp [go_sem, *])
  clear kc kf
  obtain ⟨k2_2, kc, kf⟩ := keepB h2 (w.heap.size + 1 + 1) (by first | omega | (simp; omega) | (simp; done))
  have c2_2_0 : v2.cell? ⟨w.heap.size + 1 + 1, 0, none⟩ = some (.int .i64 cl) := (kc 0).trans (by simp [go_sem, *])
  have f2_2_0 : v2.frozen? ⟨w.heap.size + 1 + 1, 0, none⟩ = false := (kf 0).trans (by simp [go_sem, *])
  have c2_2_1 : v2.cell? ⟨w.heap.size + 1 + 1, 1, none⟩ = some (.int .i64 ch) := (kc 1).trans (by simp [go_sem, *])
  have f2_2_1 : v2.frozen? ⟨w.heap.size + 1 + 1, 1, none⟩ = false := (kf 1).trans (by simp [go_sem, *])
  clear kc kf
  obtain ⟨k2_3, kc, kf⟩ := keepB h2 (w.heap.size + 1 + 1 + 1) (by first | omega | (simp; omega) | (simp; done))
  have c2_3_0 : v2.cell? ⟨w.heap.size + 1 + 1 + 1, 0, none⟩ = some (.int .i64 dl) := (kc 0).trans (by simp [go_sem, *])
  have f2_3_0 : v2.frozen? ⟨w.heap.size + 1 + 1 + 1, 0, none⟩ = false := (kf 0).trans (by simp [go_sem, *])
  have c2_3_1 : v2.cell? ⟨w.heap.size + 1 + 1 + 1, 1, none⟩ = some (.int .i64 dh) := (kc 1).trans (by simp [go_sem, *])
  have f2_3_1 : v2.frozen? ⟨w.heap.size + 1 + 1 + 1, 1, none⟩ = false := (kf 1).trans (by simp [go_sem, *])
  clear kc kf
  clear c1_0_0 f1_0_0 c1_0_1 f1_0_1 c1_1_0 f1_1_0 c1_1_1 f1_1_1 c1_2_0 f1_2_0 c1_2_1 f1_2_1 c1_3_0 f1_3_0 c1_3_1 f1_3_1
  go_wp2_with fail
  refine (right_any _ _ _).mono ?_
  rintro e v3 ⟨rfl, h3⟩
  have z3 := h3.size
  try simp at z3
  have hB3 : Below w.heap.size w v3 := Below.call (w := w) (by repeat (first | (with_reducible exact Below.refl _ _) | (with_reducible assumption) | refine Below.setCell ?_ (by first | omega | (simp; omega) | (simp; done)) _ | refine Below.alloc ?_ (by first | omega | (simp; omega) | (simp; done)) _ | refine Below.drew ?_)) h3
  obtain ⟨k3_0, kc, kf⟩ := keepB h3 (w.heap.size) (by first | omega | (simp; omega) | (simp; done))
  have c3_0_0 : v3.cell? ⟨w.heap.size, 0, none⟩ = some (.int .i64 al) := (kc 0).trans (by simp [go_sem, *])
  have f3_0_0 : v3.frozen? ⟨w.heap.size, 0, none⟩ = false := (kf 0).trans (by simp [go_sem, *])
  have c3_0_1 : v3.cell? ⟨w.heap.size, 1, none⟩ = some (.int .i64 ah) := (kc 1).trans (by simp [go_sem, *])
  have f3_0_1 : v3.frozen? ⟨w.heap.size, 1, none⟩ = false := (kf 1).trans (by simp [go_sem, *])
  clear kc kf
  obtain ⟨k3_1, kc, kf⟩ := keepB h3 (w.heap.size + 1) (by first | omega | (simp; omega) | (simp; done))
  have c3_1_0 : v3.cell? ⟨w.heap.size + 1, 0, none⟩ = some (.int .i64 bl) := (kc 0).trans (by simp [go_sem, *])
  have f3_1_0 : v3.frozen? ⟨w.heap.size + 1, 0, none⟩ = false := (kf 0).trans (by simp [go_sem, *])
  have c3_1_1 : v3.cell? ⟨w.heap.size + 1, 1, none⟩ = some (.int .i64 bh) := (kc 1).trans (by simp [go_sem, *])
  have f3_1_1 : v3.frozen? ⟨w.heap.size + 1, 1, none⟩ = false := (kf 1).trans (by simp [go_sem, *])
  clear kc kf
  obtain ⟨k3_2, kc, kf⟩ := keepB h3 (w.heap.size + 1 + 1) (by first | omega | (simp; omega) | (simp; done))
  have c3_2_0 : v3.cell? ⟨w.heap.size + 1 + 1, 0, none⟩ = some (.int .i64 cl) := (kc 0).trans (by simp [go_sem, *])
  have f3_2_0 : v3.frozen? ⟨w.heap.size + 1 + 1, 0, none⟩ = false := (kf 0).trans (by simp [go_sem, *])
  have c3_2_1 : v3.cell? ⟨w.heap.size + 1 + 1, 1, none⟩ = some (.int .i64 ch) := (kc 1).trans (by simp [go_sem, *])
  have f3_2_1 : v3.frozen? ⟨w.heap.size + 1 + 1, 1, none⟩ = false := (kf 1).trans (by simp [go_sem, *])
  clear kc kf
  obtain ⟨k3_3, kc, kf⟩ := keepB h3 (w.heap.size + 1 + 1 + 1) (by first | omega | (simp; omega) | (simp; done))
  have c3_3_0 : v3.cell? ⟨w.heap.size + 1 + 1 + 1, 0, none⟩ = some (.int .i64 dl) := (kc 0).trans (by simp [go_sem, *])
  have f3_3_0 : v3.frozen? ⟨w.heap.size + 1 + 1 + 1, 0, none⟩ = false := (kf 0).trans (by simp [go_sem, *])
  have c3_3_1 : v3.cell? ⟨w.heap.size + 1 + 1 + 1, 1, none⟩ = some (.int .i64 dh) := (kc 1).trans (by simp [go_sem, *])
  have f3_3_1 : v3.frozen? ⟨w.heap.size + 1 + 1 + 1, 1, none⟩ = false := (kf 1).trans (by simp [go_sem, *])
  clear kc kf
  clear c2_0_0 f2_0_0 c2_0_1 f2_0_1 c2_1_0 f2_1_0 c2_1_1 f2_1_1 c2_2_0 f2_2_0 c2_2_1 f2_2_1 c2_3_0 f2_3_0 c2_3_1 f2_3_1
  go_wp2_with fail
  refine (right_any _ _ _).mono ?_
  rintro e v4 ⟨rfl, h4⟩
  have z4 := h4.size
  try simp at z4
  have hB4 : Below w.heap.size w v4 := Below.call (w := w) (by repeat (first | (with_reducible exact Below.refl _ _) | (with_reducible assumption) | refine Below.setCell ?_ (by first | omega | (simp; omega) | (simp; done)) _ | refine Below.alloc ?_ (by first | omega | (simp; omega) | (simp; done)) _ | refine Below.drew ?_)) h4
  obtain ⟨k4_0, kc, kf⟩ := keepB h4 (w.heap.size) (by first | omega | (simp; omega) | (simp; done))
  have c4_0_0 : v4.cell? ⟨w.heap.size, 0, none⟩ = some (.int .i64 al) := (kc 0).trans (by simp [go_sem, *])
  have f4_0_0 : v4.frozen? ⟨w.heap.size, 0, none⟩ = false := (kf 0).trans (by simp [go_sem, *])
  have c4_0_1 : v4.cell? ⟨w.heap.size, 1, none⟩ = some (.int .i64 ah) := (kc 1).trans (by simp [go_sem, *])
  have f4_0_1 : v4.frozen? ⟨w.heap.size, 1, none⟩ = false := (kf 1).trans (by simp [go_sem, *])
  clear kc kf
  obtain ⟨k4_1, kc, kf⟩ := keepB h4 (w.heap.size + 1) (by first | omega | (simp; omega) | (simp; done))
  have c4_1_0 : v4.cell? ⟨w.heap.size + 1, 0, none⟩ = some (.int .i64 bl) := (kc 0).trans (by simp [go_sem, *])
  have f4_1_0 : v4.frozen? ⟨w.heap.size + 1, 0, none⟩ = false := (kf 0).trans (by simp [go_sem, *])
  have c4_1_1 : v4.cell? ⟨w.heap.size + 1, 1, none⟩ = some (.int .i64 bh) := (kc 1).trans (by simp [go_sem, *])
  have f4_1_1 : v4.frozen? ⟨w.heap.size + 1, 1, none⟩ = false := (kf 1).trans (by simp [go_sem, *])
  clear kc kf
  obtain ⟨k4_2, kc, kf⟩ := keepB h4 (w.heap.size + 1 + 1) (by first | omega | (simp; omega) | (simp; done))
  have c4_2_0 : v4.cell? ⟨w.heap.size + 1 + 1, 0, none⟩ = some (.int .i64 cl) := (kc 0).trans (by simp [go_sem, *])
  have f4_2_0 : v4.frozen? ⟨w.heap.size + 1 + 1, 0, none⟩ = false := (kf 0).trans (by simp [go_sem, *])
  have c4_2_1 : v4.cell? ⟨w.heap.size + 1 + 1, 1, none⟩ = some (.int .i64 ch) := (kc 1).trans (by simp [go_sem, *])
  have f4_2_1 : v4.frozen? ⟨w.heap.size + 1 + 1, 1, none⟩ = false := (kf 1).trans (by simp [go_sem, *])
  clear kc kf
  obtain ⟨k4_3, kc, kf⟩ := keepB h4 (w.heap.size + 1 + 1 + 1) (by first | omega | (simp; omega) | (simp; done))
  have c4_3_0 : v4.cell? ⟨w.heap.size + 1 + 1 + 1, 0, none⟩ = some (.int .i64 dl) := (kc 0).trans (by simp [go_sem, *])
  have f4_3_0 : v4.frozen? ⟨w.heap.size + 1 + 1 + 1, 0, none⟩ = false := (kf 0).trans (by simp [go_sem, *])
  have c4_3_1 : v4.cell? ⟨w.heap.size + 1 + 1 + 1, 1, none⟩ = some (.int .i64 dh) := (kc 1).trans (by simp [go_sem, *])
  have f4_3_1 : v4.frozen? ⟨w.heap.size + 1 + 1 + 1, 1, none⟩ = false := (kf 1).trans (by simp [go_sem, *])
  clear kc kf
  clear c3_0_0 f3_0_0 c3_0_1 f3_0_1 c3_1_0 f3_1_0 c3_1_1 f3_1_1 c3_2_0 f3_2_0 c3_2_1 f3_2_1 c3_3_0 f3_3_0 c3_3_1 f3_3_1
  go_wp2_with fail
  refine (right_any _ _ _).mono ?_
  rintro e v5 ⟨rfl, h5⟩
  have z5 := h5.size
  try simp at z5
  have hB5 : Below w.heap.size w v5 := Below.call (w := w) (by repeat (first | (with_reducible exact Below.refl _ _) | (with_reducible assumption) | refine Below.setCell ?_ (by first | omega | (simp; omega) | (simp; done)) _ | refine Below.alloc ?_ (by first | omega | (simp; omega) | (simp; done)) _ | refine Below.drew ?_)) h5
  obtain ⟨k5_0, kc, kf⟩ := keepB h5 (w.heap.size) (by first | omega | (simp; omega) | (simp; done))
  have c5_0_0 : v5.cell? ⟨w.heap.size, 0, none⟩ = some (.int .i64 al) := (kc 0).trans (by simp [go_sem, *])
  have f5_0_0 : v5.frozen? ⟨w.heap.size, 0, none⟩ = false := (kf 0).trans (by simp [go_sem, *])
  have c5_0_1 : v5.cell? ⟨w.heap.size, 1, none⟩ = some (.int .i64 ah) := (kc 1).trans (by simp [go_sem, *])
  have f5_0_1 : v5.frozen? ⟨w.heap.size, 1, none⟩ = false := (kf 1).trans (by simp [go_sem, *])
  clear kc kf
  obtain ⟨k5_1, kc, kf⟩ := keepB h5 (w.heap.size + 1) (by first | omega | (simp; omega) | (simp; done))
  have c5_1_0 : v5.cell? ⟨w.heap.size + 1, 0, none⟩ = some (.int .i64 bl) := (kc 0).trans (by simp [go_sem, *])
  have f5_1_0 : v5.frozen? ⟨w.heap.size + 1, 0, none⟩ = false := (kf 0).trans (by simp [go_sem, *])
  have c5_1_1 : v5.cell? ⟨w.heap.size + 1, 1, none⟩ = some (.int .i64 bh) := (kc 1).trans (by simp [go_sem, *])
  have f5_1_1 : v5.frozen? ⟨w.heap.size + 1, 1, none⟩ = false := (kf 1).trans (by simp [go_sem, *])
  clear kc kf
  obtain ⟨k5_2, kc, kf⟩ := keepB h5 (w.heap.size + 1 + 1) (by first | omega | (simp; omega) | (simp; done))
  have c5_2_0 : v5.cell? ⟨w.heap.size + 1 + 1, 0, none⟩ = some (.int .i64 cl) := (kc 0).trans (by simp [go_sem, *])
  have f5_2_0 : v5.frozen? ⟨w.heap.size + 1 + 1, 0, none⟩ = false := (kf 0).trans (by simp [go_sem, *])
  have c5_2_1 : v5.cell? ⟨w.heap.size + 1 + 1, 1, none⟩ = some (.int .i64 ch) := (kc 1).trans (by simp [go_sem, *])
  have f5_2_1 : v5.frozen? ⟨w.heap.size + 1 + 1, 1, none⟩ = false := (kf 1).trans (by simp [go_sem, *])
  clear kc kf
  obtain ⟨k5_3, kc, kf⟩ := keepB h5 (w.heap.size + 1 + 1 + 1) (by first | omega | (simp; omega) | (simp; done))
  have c5_3_0 : v5.cell? ⟨w.heap.size + 1 + 1 + 1, 0, none⟩ = some (.int .i64 dl) := (kc 0).trans (by simp [go_sem, *])
  have f5_3_0 : v5.frozen? ⟨w.heap.size + 1 + 1 + 1, 0, none⟩ = false := (kf 0).trans (by simp [go_sem, *])
  have c5_3_1 : v5.cell? ⟨w.heap.size + 1 + 1 + 1, 1, none⟩ = some (.int .i64 dh) := (kc 1).trans (by simp [go_sem, *])
  have f5_3_1 : v5.frozen? ⟨w.heap.size + 1 + 1 + 1, 1, none⟩ = false := (kf 1).trans (by simp [go_sem, *])
  clear kc kf
  clear c4_0_0 f4_0_0 c4_0_1 f4_0_1 c4_1_0 f4_1_0 c4_1_1 f4_1_1 c4_2_0 f4_2_0 c4_2_1 f4_2_1 c4_3_0 f4_3_0 c4_3_1 f4_3_1
  go_wp2_with fail
  refine (within_any _ _ _ _ _).mono ?_
  rintro e v6 ⟨rfl, h6⟩
  have z6 := h6.size
  try simp at z6
  have hB6 : Below w.heap.size w v6 := Below.call (w := w) (by repeat (first | (with_reducible exact Below.refl _ _) | (with_reducible assumption) | refine Below.setCell ?_ (by first | omega | (simp; omega) | (simp; done)) _ | refine Below.alloc ?_ (by first | omega | (simp; omega) | (simp; done)) _ | refine Below.drew ?_)) h6
  obtain ⟨k6_0, kc, kf⟩ := keepB h6 (w.heap.size) (by first | omega | (simp; omega) | (simp; done))
  have c6_0_0 : v6.cell? ⟨w.heap.size, 0, none⟩ = some (.int .i64 al) := (kc 0).trans (by simp [go_sem, *])
  have f6_0_0 : v6.frozen? ⟨w.heap.size, 0, none⟩ = false := (kf 0).trans (by simp [go_sem, *])
  have c6_0_1 : v6.cell? ⟨w.heap.size, 1, none⟩ = some (.int .i64 ah) := (kc 1).trans (by simp [go_sem, *])
  have f6_0_1 : v6.frozen? ⟨w.heap.size, 1, none⟩ = false := (kf 1).trans (by simp [go_sem, *])
  clear kc kf
  obtain ⟨k6_1, kc, kf⟩ := keepB h6 (w.heap.size + 1) (by first | omega | (simp; omega) | (simp; done))
  have c6_1_0 : v6.cell? ⟨w.heap.size + 1, 0, none⟩ = some (.int .i64 bl) := (kc 0).trans (by simp [go_sem, *])
  have f6_1_0 : v6.frozen? ⟨w.heap.size + 1, 0, none⟩ = false := (kf 0).trans (by simp [go_sem, *])
  have c6_1_1 : v6.cell? ⟨w.heap.size + 1, 1, none⟩ = some (.int .i64 bh) := (kc 1).trans (by simp [go_sem, *])
  have f6_1_1 : v6.frozen? ⟨w.heap.size + 1, 1, none⟩ = false := (kf 1).trans (by simp [go_sem, *])
  clear kc kf
  obtain ⟨k6_2, kc, kf⟩ := keepB h6 (w.heap.size + 1 + 1) (by first | omega | (simp; omega) | (simp; done))
  have c6_2_0 : v6.cell? ⟨w.heap.size + 1 + 1, 0, none⟩ = some (.int .i64 cl) := (kc 0).trans (by simp [go_sem, *])
  have f6_2_0 : v6.frozen? ⟨w.heap.size + 1 + 1, 0, none⟩ = false := (kf 0).trans (by simp [go_sem, *])
  have c6_2_1 : v6.cell? ⟨w.heap.size + 1 + 1, 1, none⟩ = some (.int .i64 ch) := (kc 1).trans (by simp [go_sem, *])
  have f6_2_1 : v6.frozen? ⟨w.heap.size + 1 + 1, 1, none⟩ = false := (kf 1).trans (by simp [go_sem, *])
  clear kc kf
  obtain ⟨k6_3, kc, kf⟩ := keepB h6 (w.heap.size + 1 + 1 + 1) (by first | omega | (simp; omega) | (simp; done))
  have c6_3_0 : v6.cell? ⟨w.heap.size + 1 + 1 + 1, 0, none⟩ = some (.int .i64 dl) := (kc 0).trans (by simp [go_sem, *])
  have f6_3_0 : v6.frozen? ⟨w.heap.size + 1 + 1 + 1, 0, none⟩ = false := (kf 0).trans (by simp [go_sem, *])
  have c6_3_1 : v6.cell? ⟨w.heap.size + 1 + 1 + 1, 1, none⟩ = some (.int .i64 dh) := (kc 1).trans (by simp [go_sem, *])
  have f6_3_1 : v6.frozen? ⟨w.heap.size + 1 + 1 + 1, 1, none⟩ = false := (kf 1).trans (by simp [go_sem, *])
  clear kc kf
  clear c5_0_0 f5_0_0 c5_0_1 f5_0_1 c5_1_0 f5_1_0 c5_1_1 f5_1_1 c5_2_0 f5_2_0 c5_2_1 f5_2_1 c5_3_0 f5_3_0 c5_3_1 f5_3_1
  go_wp2
  go_ret
  exact ⟨rfl, by with_reducible assumption⟩

set_option maxRecDepth 100000 in
set_option maxHeartbeats 2000000 in
theorem narrow_out5 (al ah bl bh cl ch dl dh : Int) (w : World) (ha : Sp.right al ah = true) (hb : Sp.right bl bh = true) (hc : Sp.right cl ch = true) (hd : Sp.right dl dh = true) (hx : Sp.withinB cl ch al ah = true) (hy : Sp.withinB dl dh bl bh = false) :
    Calls Try.prog 3 #[.agg #[.int .i64 al, .int .i64 ah], .agg #[.int .i64 bl, .int .i64 bh], .agg #[.int .i64 cl, .int .i64 ch], .agg #[.int .i64 dl, .int .i64 dh]] w fun e w' => e = .returned (.bool true) ∧ Below w.heap.size w w' := by
  go_enter Try.func3, Try.ntmps3
  go_wp2_with fail
  refine (small_any _).mono ?_
  rintro e v1 ⟨rfl, h1⟩
  have z1 := h1.size
  try simp at z1
  have hB1 : Below w.heap.size w v1 := Below.call (w := w) (by repeat (first | (with_reducible exact Below.refl _ _) | (with_reducible assumption) | refine Below.setCell ?_ (by first | omega | (simp; omega) | (simp; done)) _ | refine Below.alloc ?_ (by first | omega | (simp; omega) | (simp; done)) _ | refine Below.drew ?_)) h1
  obtain ⟨k1_0, kc, kf⟩ := keepB h1 (w.heap.size) (by first | omega | (simp; omega) | (simp; done))
  have c1_0_0 : v1.cell? ⟨w.heap.size, 0, none⟩ = some (.int .i64 al) := (kc 0).trans (by simp [go_sem, *])
  have f1_0_0 : v1.frozen? ⟨w.heap.size, 0, none⟩ = false := (kf 0).trans (by simp [go_sem, *])
  have c1_0_1 : v1.cell? ⟨w.heap.size, 1, none⟩ = some (.int .i64 ah) := (kc 1).trans (by simp [go_sem, *])
  have f1_0_1 : v1.frozen? ⟨w.heap.size, 1, none⟩ = false := (kf 1).trans (by simp [go_sem, *])
  clear kc kf
  obtain ⟨k1_1, kc, kf⟩ := keepB h1 (w.heap.size + 1) (by first | omega | (simp; omega) | (simp; done))
  have c1_1_0 : v1.cell? ⟨w.heap.size + 1, 0, none⟩ = some (.int .i64 bl) := (kc 0).trans (by simp [go_sem, *])
  have f1_1_0 : v1.frozen? ⟨w.heap.size + 1, 0, none⟩ = false := (kf 0).trans (by simp [go_sem, *])
  have c1_1_1 : v1.cell? ⟨w.heap.size + 1, 1, none⟩ = some (.int .i64 bh) := (kc 1).trans (by simp [go_sem, *])
  have f1_1_1 : v1.frozen? ⟨w.heap.size + 1, 1, none⟩ = false := (kf 1).trans (by simp [go_sem, *])
  clear kc kf
  obtain ⟨k1_2, kc, kf⟩ := keepB h1 (w.heap.size + 1 + 1) (by first | omega | (simp; omega) | (simp; done))
  have c1_2_0 : v1.cell? ⟨w.heap.size + 1 + 1, 0, none⟩ = some (.int .i64 cl) := (kc 0).trans (by simp [go_sem, *])
  have f1_2_0 : v1.frozen? ⟨w.heap.size + 1 + 1, 0, none⟩ = false := (kf 0).trans (by simp [go_sem, *])
  have c1_2_1 : v1.cell? ⟨w.heap.size + 1 + 1, 1, none⟩ = some (.int .i64 ch) := (kc 1).trans (by simp [go_sem, *])
  have f1_2_1 : v1.frozen? ⟨w.heap.size + 1 + 1, 1, none⟩ = false := (kf 1).trans (by simp [go_sem, *])
  clear kc kf
  obtain ⟨k1_3, kc, kf⟩ := keepB h1 (w.heap.size + 1 + 1 + 1) (by first | omega | (simp; omega) | (simp; done))
  have c1_3_0 : v1.cell? ⟨w.heap.size + 1 + 1 + 1, 0, none⟩ = some (.int .i64 dl) := (kc 0).trans (by simp [go_sem, *])
  have f1_3_0 : v1.frozen? ⟨w.heap.size + 1 + 1 + 1, 0, none⟩ = false := (kf 0).trans (by simp [go_sem, *])
  have c1_3_1 : v1.cell? ⟨w.heap.size + 1 + 1 + 1, 1, none⟩ = some (.int .i64 dh) := (kc 1).trans (by simp [go_sem, *])
  have f1_3_1 : v1.frozen? ⟨w.heap.size + 1 + 1 + 1, 1, none⟩ = false := (kf 1).trans (by simp [go_sem, *])
  clear kc kf
  go_wp2_with fail
  refine (right_any _ _ _).mono ?_
  rintro e v2 ⟨rfl, h2⟩
  have z2 := h2.size
  try simp at z2
  have hB2 : Below w.heap.size w v2 := Below.call (w := w) (by repeat (first | (with_reducible exact Below.refl _ _) | (with_reducible assumption) | refine Below.setCell ?_ (by first | omega | (simp; omega) | (simp; done)) _ | refine Below.alloc ?_ (by first | omega | (simp; omega) | (simp; done)) _ | refine Below.drew ?_)) h2
  obtain ⟨k2_0, kc, kf⟩ := keepB h2 (w.heap.size) (by first | omega | (simp; omega) | (simp; done))
  have c2_0_0 : v2.cell? ⟨w.heap.size, 0, none⟩ = some (.int .i64 al) := (kc 0).trans (by simp [go_sem, *])
  have f2_0_0 : v2.frozen? ⟨w.heap.size, 0, none⟩ = false := (kf 0).trans (by simp [go_sem, *])
  have c2_0_1 : v2.cell? ⟨w.heap.size, 1, none⟩ = some (.int .i64 ah) := (kc 1).trans (by simp [go_sem, *])
  have f2_0_1 : v2.frozen? ⟨w.heap.size, 1, none⟩ = false := (kf 1).trans (by simp [go_sem, *])
  clear kc kf
  obtain ⟨k2_1, kc, kf⟩ := keepB h2 (w.heap.size + 1) (by first | omega | (simp; omega) | (simp; done))
  have c2_1_0 : v2.cell? ⟨w.heap.size + 1, 0, none⟩ = some (.int .i64 bl) := (kc 0).trans (by simp [go_sem, *])
  have f2_1_0 : v2.frozen? ⟨w.heap.size + 1, 0, none⟩ = false := (kf 0).trans (by simp [go_sem, *])
  have c2_1_1 : v2.cell? ⟨w.heap.size + 1, 1, none⟩ = some (.int .i64 bh) := (kc 1).trans (by simp [go_sem, *])
  have f2_1_1 : v2.frozen? ⟨w.heap.size + 1, 1, none⟩ = false := (kf 1).trans (by simp [go_sem, *])
  clear kc kf
  obtain ⟨k2_2, kc, kf⟩ := keepB h2 (w.heap.size + 1 + 1) (by first | omega | (simp; omega) | (simp; done))
  have c2_2_0 : v2.cell? ⟨w.heap.size + 1 + 1, 0, none⟩ = some (.int .i64 cl) := (kc 0).trans (by simp [go_sem, *])
  have f2_2_0 : v2.frozen? ⟨w.heap.size + 1 + 1, 0, none⟩ = false := (kf 0).trans (by simp [go_sem, *])
  have c2_2_1 : v2.cell? ⟨w.heap.size + 1 + 1, 1, none⟩ = some (.int .i64 ch) := (kc 1).trans (by simp [go_sem, *])
  have f2_2_1 : v2.frozen? ⟨w.heap.size + 1 + 1, 1, none⟩ = false := (kf 1).trans (by simp [go_sem, *])
  clear kc kf
  obtain ⟨k2_3, kc, kf⟩ := keepB h2 (w.heap.size + 1 + 1 + 1) (by first | omega | (simp; omega) | (simp; done))
  have c2_3_0 : v2.cell? ⟨w.heap.size + 1 + 1 + 1, 0, none⟩ = some (.int .i64 dl) := (kc 0).trans (by simp [go_sem, *])
  have f2_3_0 : v2.frozen? ⟨w.heap.size + 1 + 1 + 1, 0, none⟩ = false := (kf 0).trans (by simp [go_sem, *])
  have c2_3_1 : v2.cell? ⟨w.heap.size + 1 + 1 + 1, 1, none⟩ = some (.int .i64 dh) := (kc 1).trans (by simp [go_sem, *])
  have f2_3_1 : v2.frozen? ⟨w.heap.size + 1 + 1 + 1, 1, none⟩ = false := (kf 1).trans (by simp [go_sem, *])
  clear kc kf
  clear c1_0_0 f1_0_0 c1_0_1 f1_0_1 c1_1_0 f1_1_0 c1_1_1 f1_1_1 c1_2_0 f1_2_0 c1_2_1 f1_2_1 c1_3_0 f1_3_0 c1_3_1 f1_3_1
  go_wp2_with fail
  refine (right_any _ _ _).mono ?_
  rintro e v3 ⟨rfl, h3⟩
  have z3 := h3.size
  try simp at z3
  have hB3 : Below w.heap.size w v3 := Below.call (w := w) (by repeat (first | (with_reducible exact Below.refl _ _) | (with_reducible assumption) | refine Below.setCell ?_ (by first | omega | (simp; omega) | (simp; done)) _ | refine Below.alloc ?_ (by first | omega | (simp; omega) | (simp; done)) _ | refine Below.drew ?_)) h3
  obtain ⟨k3_0, kc, kf⟩ := keepB h3 (w.heap.size) (by first | omega | (simp; omega) | (simp; done))
  have c3_0_0 : v3.cell? ⟨w.heap.size, 0, none⟩ = some (.int .i64 al) := (kc 0).trans (by simp [go_sem, *])
  have f3_0_0 : v3.frozen? ⟨w.heap.size, 0, none⟩ = false := (kf 0).trans (by simp [go_sem, *])
  have c3_0_1 : v3.cell? ⟨w.heap.size, 1, none⟩ = some (.int .i64 ah) := (kc 1).trans (by simp [go_sem, *])
  have f3_0_1 : v3.frozen? ⟨w.heap.size, 1, none⟩ = false := (kf 1).trans (by simp [go_sem, *])
  clear kc kf
  obtain ⟨k3_1, kc, kf⟩ := keepB h3 (w.heap.size + 1) (by first | omega | (simp; omega) | (simp; done))
  have c3_1_0 : v3.cell? ⟨w.heap.size + 1, 0, none⟩ = some (.int .i64 bl) := (kc 0).trans (by simp [go_sem, *])
  have f3_1_0 : v3.frozen? ⟨w.heap.size + 1, 0, none⟩ = false := (kf 0).trans (by simp [go_sem, *])
  have c3_1_1 : v3.cell? ⟨w.heap.size + 1, 1, none⟩ = some (.int .i64 bh) := (kc 1).trans (by simp [go_sem, *])
  have f3_1_1 : v3.frozen? ⟨w.heap.size + 1, 1, none⟩ = false := (kf 1).trans (by simp [go_sem, *])
  clear kc kf
  obtain ⟨k3_2, kc, kf⟩ := keepB h3 (w.heap.size + 1 + 1) (by first | omega | (simp; omega) | (simp; done))
  have c3_2_0 : v3.cell? ⟨w.heap.size + 1 + 1, 0, none⟩ = some (.int .i64 cl) := (kc 0).trans (by simp [go_sem, *])
  have f3_2_0 : v3.frozen? ⟨w.heap.size + 1 + 1, 0, none⟩ = false := (kf 0).trans (by simp [go_sem, *])
  have c3_2_1 : v3.cell? ⟨w.heap.size + 1 + 1, 1, none⟩ = some (.int .i64 ch) := (kc 1).trans (by simp [go_sem, *])
  have f3_2_1 : v3.frozen? ⟨w.heap.size + 1 + 1, 1, none⟩ = false := (kf 1).trans (by simp [go_sem, *])
  clear kc kf
  obtain ⟨k3_3, kc, kf⟩ := keepB h3 (w.heap.size + 1 + 1 + 1) (by first | omega | (simp; omega) | (simp; done))
  have c3_3_0 : v3.cell? ⟨w.heap.size + 1 + 1 + 1, 0, none⟩ = some (.int .i64 dl) := (kc 0).trans (by simp [go_sem, *])
  have f3_3_0 : v3.frozen? ⟨w.heap.size + 1 + 1 + 1, 0, none⟩ = false := (kf 0).trans (by simp [go_sem, *])
  have c3_3_1 : v3.cell? ⟨w.heap.size + 1 + 1 + 1, 1, none⟩ = some (.int .i64 dh) := (kc 1).trans (by simp [go_sem, *])
  have f3_3_1 : v3.frozen? ⟨w.heap.size + 1 + 1 + 1, 1, none⟩ = false := (kf 1).trans (by simp [go_sem, *])
  clear kc kf
  clear c2_0_0 f2_0_0 c2_0_1 f2_0_1 c2_1_0 f2_1_0 c2_1_1 f2_1_1 c2_2_0 f2_2_0 c2_2_1 f2_2_1 c2_3_0 f2_3_0 c2_3_1 f2_3_1
  go_wp2_with fail
  refine (right_any _ _ _).mono ?_
  rintro e v4 ⟨rfl, h4⟩
  have z4 := h4.size
  try simp at z4
  have hB4 : Below w.heap.size w v4 := Below.call (w := w) (by repeat (first | (with_reducible exact Below.refl _ _) | (with_reducible assumption) | refine Below.setCell ?_ (by first | omega | (simp; omega) | (simp; done)) _ | refine Below.alloc ?_ (by first | omega | (simp; omega) | (simp; done)) _ | refine Below.drew ?_)) h4
  obtain ⟨k4_0, kc, kf⟩ := keepB h4 (w.heap.size) (by first | omega | (simp; omega) | (simp; done))
  have c4_0_0 : v4.cell? ⟨w.heap.size, 0, none⟩ = some (.int .i64 al) := (kc 0).trans (by simp [go_sem, *])
  have f4_0_0 : v4.frozen? ⟨w.heap.size, 0, none⟩ = false := (kf 0).trans (by simp [go_sem, *])
  have c4_0_1 : v4.cell? ⟨w.heap.size, 1, none⟩ = some (.int .i64 ah) := (kc 1).trans (by simp [go_sem, *])
  have f4_0_1 : v4.frozen? ⟨w.heap.size, 1, none⟩ = false := (kf 1).trans (by simp [go_sem, *])
  clear kc kf
  obtain ⟨k4_1, kc, kf⟩ := keepB h4 (w.heap.size + 1) (by first | omega | (simp; omega) | (simp; done))
  have c4_1_0 : v4.cell? ⟨w.heap.size + 1, 0, none⟩ = some (.int .i64 bl) := (kc 0).trans (by simp [go_sem, *])
  have f4_1_0 : v4.frozen? ⟨w.heap.size + 1, 0, none⟩ = false := (kf 0).trans (by simp [go_sem, *])
  have c4_1_1 : v4.cell? ⟨w.heap.size + 1, 1, none⟩ = some (.int .i64 bh) := (kc 1).trans (by simp [go_sem, *])
  have f4_1_1 : v4.frozen? ⟨w.heap.size + 1, 1, none⟩ = false := (kf 1).trans (by simp [go_sem, *])
  clear kc kf
  obtain ⟨k4_2, kc, kf⟩ := keepB h4 (w.heap.size + 1 + 1) (by first | omega | (simp; omega) | (simp; done))
  have c4_2_0 : v4.cell? ⟨w.heap.size + 1 + 1, 0, none⟩ = some (.int .i64 cl) := (kc 0).trans (by simp [go_sem, *])
  have f4_2_0 : v4.frozen? ⟨w.heap.size + 1 + 1, 0, none⟩ = false := (kf 0).trans (by simp [go_sem, *])
  have c4_2_1 : v4.cell? ⟨w.heap.size + 1 + 1, 1, none⟩ = some (.int .i64 ch) := (kc 1).trans (by simp [go_sem, *])
  have f4_2_1 : v4.frozen? ⟨w.heap.size + 1 + 1, 1, none⟩ = false := (kf 1).trans (by simp [go_sem, *])
  clear kc kf
  obtain ⟨k4_3, kc, kf⟩ := keepB h4 (w.heap.size + 1 + 1 + 1) (by first | omega | (simp; omega) | (simp; done))
  have c4_3_0 : v4.cell? ⟨w.heap.size + 1 + 1 + 1, 0, none⟩ = some (.int .i64 dl) := (kc 0).trans (by simp [go_sem, *])
  have f4_3_0 : v4.frozen? ⟨w.heap.size + 1 + 1 + 1, 0, none⟩ = false := (kf 0).trans (by simp [go_sem, *])
  have c4_3_1 : v4.cell? ⟨w.heap.size + 1 + 1 + 1, 1, none⟩ = some (.int .i64 dh) := (kc 1).trans (by simp [go_sem, *])
  have f4_3_1 : v4.frozen? ⟨w.heap.size + 1 + 1 + 1, 1, none⟩ = false := (kf 1).trans (by simp [go_sem, *])
  clear kc kf
  clear c3_0_0 f3_0_0 c3_0_1 f3_0_1 c3_1_0 f3_1_0 c3_1_1 f3_1_1 c3_2_0 f3_2_0 c3_2_1 f3_2_1 c3_3_0 f3_3_0 c3_3_1 f3_3_1
  go_wp2_with fail
  refine (right_any _ _ _).mono ?_
  rintro e v5 ⟨rfl, h5⟩
  have z5 := h5.size
  try simp at z5
  have hB5 : Below w.heap.size w v5 := Below.call (w := w) (by repeat (first | (with_reducible exact Below.refl _ _) | (with_reducible assumption) | refine Below.setCell ?_ (by first | omega | (simp; omega) | (simp; done)) _ | refine Below.alloc ?_ (by first | omega | (simp; omega) | (simp; done)) _ | refine Below.drew ?_)) h5
  obtain ⟨k5_0, kc, kf⟩ := keepB h5 (w.heap.size) (by first | omega | (simp; omega) | (simp; done))
  have c5_0_0 : v5.cell? ⟨w.heap.size, 0, none⟩ = some (.int .i64 al) := (kc 0).trans (by simp [go_sem, *])
  have f5_0_0 : v5.frozen? ⟨w.heap.size, 0, none⟩ = false := (kf 0).trans (by simp [go_sem, *])
  have c5_0_1 : v5.cell? ⟨w.heap.size, 1, none⟩ = some (.int .i64 ah) := (kc 1).trans (by simp [go_sem, *])
  have f5_0_1 : v5.frozen? ⟨w.heap.size, 1, none⟩ = false := (kf 1).trans (by simp [go_sem, *])
  clear kc kf
  obtain ⟨k5_1, kc, kf⟩ := keepB h5 (w.heap.size + 1) (by first | omega | (simp; omega) | (simp; done))
  have c5_1_0 : v5.cell? ⟨w.heap.size + 1, 0, none⟩ = some (.int .i64 bl) := (kc 0).trans (by simp [go_sem, *])
  have f5_1_0 : v5.frozen? ⟨w.heap.size + 1, 0, none⟩ = false := (kf 0).trans (by simp [go_sem, *])
  have c5_1_1 : v5.cell? ⟨w.heap.size + 1, 1, none⟩ = some (.int .i64 bh) := (kc 1).trans (by simp [go_sem, *])
  have f5_1_1 : v5.frozen? ⟨w.heap.size + 1, 1, none⟩ = false := (kf 1).trans (by simp [go_sem, *])
  clear kc kf
  obtain ⟨k5_2, kc, kf⟩ := keepB h5 (w.heap.size + 1 + 1) (by first | omega | (simp; omega) | (simp; done))
  have c5_2_0 : v5.cell? ⟨w.heap.size + 1 + 1, 0, none⟩ = some (.int .i64 cl) := (kc 0).trans (by simp [go_sem, *])
  have f5_2_0 : v5.frozen? ⟨w.heap.size + 1 + 1, 0, none⟩ = false := (kf 0).trans (by simp [go_sem, *])
  have c5_2_1 : v5.cell? ⟨w.heap.size + 1 + 1, 1, none⟩ = some (.int .i64 ch) := (kc 1).trans (by simp [go_sem, *])
  have f5_2_1 : v5.frozen? ⟨w.heap.size + 1 + 1, 1, none⟩ = false := (kf 1).trans (by simp [go_sem, *])
  clear kc kf
  obtain ⟨k5_3, kc, kf⟩ := keepB h5 (w.heap.size + 1 + 1 + 1) (by first | omega | (simp; omega) | (simp; done))
  have c5_3_0 : v5.cell? ⟨w.heap.size + 1 + 1 + 1, 0, none⟩ = some (.int .i64 dl) := (kc 0).trans (by simp [go_sem, *])
  have f5_3_0 : v5.frozen? ⟨w.heap.size + 1 + 1 + 1, 0, none⟩ = false := (kf 0).trans (by simp [go_sem, *])
  have c5_3_1 : v5.cell? ⟨w.heap.size + 1 + 1 + 1, 1, none⟩ = some (.int .i64 dh) := (kc 1).trans (by simp [go_sem, *])
  have f5_3_1 : v5.frozen? ⟨w.heap.size + 1 + 1 + 1, 1, none⟩ = false := (kf 1).trans (by simp [go_sem, *])
  clear kc kf
  clear c4_0_0 f4_0_0 c4_0_1 f4_0_1 c4_1_0 f4_1_0 c4_1_1 f4_1_1 c4_2_0 f4_2_0 c4_2_1 f4_2_1 c4_3_0 f4_3_0 c4_3_1 f4_3_1
  go_wp2_with fail
  refine (within_any _ _ _ _ _).mono ?_
  rintro e v6 ⟨rfl, h6⟩
  have z6 := h6.size
  try simp at z6
  have hB6 : Below w.heap.size w v6 := Below.call (w := w) (by repeat (first | (with_reducible exact Below.refl _ _) | (with_reducible assumption) | refine Below.setCell ?_ (by first | omega | (simp; omega) | (simp; done)) _ | refine Below.alloc ?_ (by first | omega | (simp; omega) | (simp; done)) _ | refine Below.drew ?_)) h6
  obtain ⟨k6_0, kc, kf⟩ := keepB h6 (w.heap.size) (by first | omega | (simp; omega) | (simp; done))
  have c6_0_0 : v6.cell? ⟨w.heap.size, 0, none⟩ = some (.int .i64 al) := (kc 0).trans (by simp [go_sem, *])
  have f6_0_0 : v6.frozen? ⟨w.heap.size, 0, none⟩ = false := (kf 0).trans (by simp [go_sem, *])
  have c6_0_1 : v6.cell? ⟨w.heap.size, 1, none⟩ = some (.int .i64 ah) := (kc 1).trans (by simp [go_sem, *])
  have f6_0_1 : v6.frozen? ⟨w.heap.size, 1, none⟩ = false := (kf 1).trans (by simp [go_sem, *])
  clear kc kf
  obtain ⟨k6_1, kc, kf⟩ := keepB h6 (w.heap.size + 1) (by first | omega | (simp; omega) | (simp; done))
  have c6_1_0 : v6.cell? ⟨w.heap.size + 1, 0, none⟩ = some (.int .i64 bl) := (kc 0).trans (by simp [go_sem, *])
  have f6_1_0 : v6.frozen? ⟨w.heap.size + 1, 0, none⟩ = false := (kf 0).trans (by simp [go_sem, *])
  have c6_1_1 : v6.cell? ⟨w.heap.size + 1, 1, none⟩ = some (.int .i64 bh) := (kc 1).trans (by simp [go_sem, *])
  have f6_1_1 : v6.frozen? ⟨w.heap.size + 1, 1, none⟩ = false := (kf 1).trans (by simp [go_sem, *])
  clear kc kf
  obtain ⟨k6_2, kc, kf⟩ := keepB h6 (w.heap.size + 1 + 1) (by first | omega | (simp; omega) | (simp; done))
  have c6_2_0 : v6.cell? ⟨w.heap.size + 1 + 1, 0, none⟩ = some (.int .i64 cl) := (kc 0).trans (by simp [go_sem, *])
  have f6_2_0 : v6.frozen? ⟨w.heap.size + 1 + 1, 0, none⟩ = false := (kf 0).trans (by simp [go_sem, *])
  have c6_2_1 : v6.cell? ⟨w.heap.size + 1 + 1, 1, none⟩ = some (.int .i64 ch) := (kc 1).trans (by simp [go_sem, *])
  have f6_2_1 : v6.frozen? ⟨w.heap.size + 1 + 1, 1, none⟩ = false := (kf 1).trans (by simp [go_sem, *])
  clear kc kf
  obtain ⟨k6_3, kc, kf⟩ := keepB h6 (w.heap.size + 1 + 1 + 1) (by first | omega | (simp; omega) | (simp; done))
  have c6_3_0 : v6.cell? ⟨w.heap.size + 1 + 1 + 1, 0, none⟩ = some (.int .i64 dl) := (kc 0).trans (by simp [go_sem, *])
  have f6_3_0 : v6.frozen? ⟨w.heap.size + 1 + 1 + 1, 0, none⟩ = false := (kf 0).trans (by simp [go_sem, *])
  have c6_3_1 : v6.cell? ⟨w.heap.size + 1 + 1 + 1, 1, none⟩ = some (.int .i64 dh) := (kc 1).trans (by simp [go_sem, *])
  have f6_3_1 : v6.frozen? ⟨w.heap.size + 1 + 1 + 1, 1, none⟩ = false := (kf 1).trans (by simp [go_sem, *])
  clear kc kf
  clear c5_0_0 f5_0_0 c5_0_1 f5_0_1 c5_1_0 f5_1_0 c5_1_1 f5_1_1 c5_2_0 f5_2_0 c5_2_1 f5_2_1 c5_3_0 f5_3_0 c5_3_1 f5_3_1
  go_wp2_with fail
  refine (within_any _ _ _ _ _).mono ?_
  rintro e v7 ⟨rfl, h7⟩
  have z7 := h7.size
  try simp at z7
  have hB7 : Below w.heap.size w v7 := Below.call (w := w) (by repeat (first | (with_reducible exact Below.refl _ _) | (with_reducible assumption) | refine Below.setCell ?_ (by first | omega | (simp; omega) | (simp; done)) _ | refine Below.alloc ?_ (by first | omega | (simp; omega) | (simp; done)) _ | refine Below.drew ?_)) h7
  obtain ⟨k7_0, kc, kf⟩ := keepB h7 (w.heap.size) (by first | omega | (simp; omega) | (simp; done))
  have c7_0_0 : v7.cell? ⟨w.heap.size, 0, none⟩ = some (.int .i64 al) := (kc 0).trans (by simp [go_sem, *])
  have f7_0_0 : v7.frozen? ⟨w.heap.size, 0, none⟩ = false := (kf 0).trans (by simp [go_sem, *])
  have c7_0_1 : v7.cell? ⟨w.heap.size, 1, none⟩ = some (.int .i64 ah) := (kc 1).trans (by simp [go_sem, *])
  have f7_0_1 : v7.frozen? ⟨w.heap.size, 1, none⟩ = false := (kf 1).trans (by simp [go_sem, *])
  clear kc kf
  obtain ⟨k7_1, kc, kf⟩ := keepB h7 (w.heap.size + 1) (by first | omega | (simp; omega) | (simp; done))
  have c7_1_0 : v7.cell? ⟨w.heap.size + 1, 0, none⟩ = some (.int .i64 bl) := (kc 0).trans (by simp [go_sem, *])
  have f7_1_0 : v7.frozen? ⟨w.heap.size + 1, 0, none⟩ = false := (kf 0).trans (by simp [go_sem, *])
  have c7_1_1 : v7.cell? ⟨w.heap.size + 1, 1, none⟩ = some (.int .i64 bh) := (kc 1).trans (by simp [go_sem, *])
  have f7_1_1 : v7.frozen? ⟨w.heap.size + 1, 1, none⟩ = false := (kf 1).trans (by simp [go_sem, *])
  clear kc kf
  obtain ⟨k7_2, kc, kf⟩ := keepB h7 (w.heap.size + 1 + 1) (by first | omega | (simp; omega) | (simp; done))
  have c7_2_0 : v7.cell? ⟨w.heap.size + 1 + 1, 0, none⟩ = some (.int .i64 cl) := (kc 0).trans (by simp [go_sem, *])
  have f7_2_0 : v7.frozen? ⟨w.heap.size + 1 + 1, 0, none⟩ = false := (kf 0).trans (by simp [go_sem, *])
  have c7_2_1 : v7.cell? ⟨w.heap.size + 1 + 1, 1, none⟩ = some (.int .i64 ch) := (kc 1).trans (by simp [go_sem, *])
  have f7_2_1 : v7.frozen? ⟨w.heap.size + 1 + 1, 1, none⟩ = false := (kf 1).trans (by simp [go_sem, *])
  clear kc kf
  obtain ⟨k7_3, kc, kf⟩ := keepB h7 (w.heap.size + 1 + 1 + 1) (by first | omega | (simp; omega) | (simp; done))
  have c7_3_0 : v7.cell? ⟨w.heap.size + 1 + 1 + 1, 0, none⟩ = some (.int .i64 dl) := (kc 0).trans (by simp [go_sem, *])
  have f7_3_0 : v7.frozen? ⟨w.heap.size + 1 + 1 + 1, 0, none⟩ = false := (kf 0).trans (by simp [go_sem, *])
  have c7_3_1 : v7.cell? ⟨w.heap.size + 1 + 1 + 1, 1, none⟩ = some (.int .i64 dh) := (kc 1).trans (by simp [go_sem, *])
  have f7_3_1 : v7.frozen? ⟨w.heap.size + 1 + 1 + 1, 1, none⟩ = false := (kf 1).trans (by simp [go_sem, *])
  clear kc kf
  clear c6_0_0 f6_0_0 c6_0_1 f6_0_1 c6_1_0 f6_1_0 c6_1_1 f6_1_1 c6_2_0 f6_2_0 c6_2_1 f6_2_1 c6_3_0 f6_3_0 c6_3_1 f6_3_1
  go_wp2
  go_ret
  exact ⟨rfl, by with_reducible assumption⟩

theorem narrow_law (al ah bl bh cl ch dl dh : Int) (w : World) :
    Calls Try.prog 3 #[.agg #[.int .i64 al, .int .i64 ah], .agg #[.int .i64 bl, .int .i64 bh], .agg #[.int .i64 cl, .int .i64 ch], .agg #[.int .i64 dl, .int .i64 dh]] w fun e w' => e = .returned (.bool true) ∧ Below w.heap.size w w' := by
  cases ha : Sp.right al ah with
  | false => exact narrow_out0 al ah bl bh cl ch dl dh w ha
  | true =>
    cases hb : Sp.right bl bh with
    | false => exact narrow_out1 al ah bl bh cl ch dl dh w ha hb
    | true =>
      cases hc : Sp.right cl ch with
      | false => exact narrow_out2 al ah bl bh cl ch dl dh w ha hb hc
      | true =>
        cases hd : Sp.right dl dh with
        | false => exact narrow_out3 al ah bl bh cl ch dl dh w ha hb hc hd
        | true =>
          cases hx : Sp.withinB cl ch al ah with
          | false => exact narrow_out4 al ah bl bh cl ch dl dh w ha hb hc hd hx
          | true =>
            cases hy : Sp.withinB dl dh bl bh with
            | false => exact narrow_out5 al ah bl bh cl ch dl dh w ha hb hc hd hx hy
            | true =>
              exact narrow_walk al ah bl bh cl ch dl dh w ha hb hc hd hx hy
end Go.Proofs.Ytjdppnkmhgihnaa
