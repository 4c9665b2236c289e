/- The walk of SpanTells. -/
import Derived.Test.YtjdppnkmhgihnaaRe
import Derived.Test.YtjdppnkmhgihnaaHeld
import Derived.Deep.DeepCutAuto
namespace Go.Proofs.Ytjdppnkmhgihnaa
open Go.RowKit

set_option maxRecDepth 100000 in
set_option maxHeartbeats 8000000 in
theorem tells_walk (al ah bl bh : Int) (k : Int) (t : ByteArray) (n m : Int) (s : ByteArray) (a : Option Addr) (l c : Nat) (w : World) :
    Calls Try.prog 5 #[.agg #[.int .i64 al, .int .i64 ah], .agg #[.int .i64 bl, .int .i64 bh], av k t n m s a l c] w fun e w' => e = .returned (.bool true) ∧ Below w.heap.size w w' := by
  go_enter Try.func5, Try.ntmps5
  go_wp2_with fail
  refine (small_any _).mono ?_
  rintro e v1 ⟨rfl, h1⟩
  have z1 := h1.size
  try simp at z1
  have hB1 : Below w.heap.size w v1 := Below.call (w := w) (by repeat (first | (with_reducible exact Below.refl _ _) | (with_reducible assumption) | refine Below.setCell ?_ (by first | omega | (simp; omega) | (simp; done)) _ | refine Below.alloc ?_ (by first | omega | (simp; omega) | (simp; done)) _ | refine Below.drew ?_)) h1
  obtain ⟨k1_0, kc, kf⟩ := keepB h1 (w.heap.size) (by first | omega | (simp; omega) | (simp; done))
  have c1_0_0 : v1.cell? ⟨w.heap.size, 0, none⟩ = some (.int .i64 al) := (kc 0).trans (by simp [go_sem, *])
  have f1_0_0 : v1.frozen? ⟨w.heap.size, 0, none⟩ = false := (kf 0).trans (by simp [go_sem, *])
  have c1_0_1 : v1.cell? ⟨w.heap.size, 1, none⟩ = some (.int .i64 ah) := (kc 1).trans (by simp [go_sem, *])
  have f1_0_1 : v1.frozen? ⟨w.heap.size, 1, none⟩ = false := (kf 1).trans (by simp [go_sem, *])
  clear kc kf
  obtain ⟨k1_1, kc, kf⟩ := keepB h1 (w.heap.size + 1) (by first | omega | (simp; omega) | (simp; done))
  have c1_1_0 : v1.cell? ⟨w.heap.size + 1, 0, none⟩ = some (.int .i64 bl) := (kc 0).trans (by simp [go_sem, *])
  have f1_1_0 : v1.frozen? ⟨w.heap.size + 1, 0, none⟩ = false := (kf 0).trans (by simp [go_sem, *])
  have c1_1_1 : v1.cell? ⟨w.heap.size + 1, 1, none⟩ = some (.int .i64 bh) := (kc 1).trans (by simp [go_sem, *])
  have f1_1_1 : v1.frozen? ⟨w.heap.size + 1, 1, none⟩ = false := (kf 1).trans (by simp [go_sem, *])
  clear kc kf
  obtain ⟨k1_2, kc, kf⟩ := keepB h1 (w.heap.size + 1 + 1) (by first | omega | (simp; omega) | (simp; done))
  have c1_2_0 : v1.cell? ⟨w.heap.size + 1 + 1, 0, none⟩ = some (.int .i64 k) := (kc 0).trans (by simp [go_sem, *])
  have f1_2_0 : v1.frozen? ⟨w.heap.size + 1 + 1, 0, none⟩ = false := (kf 0).trans (by simp [go_sem, *])
  have c1_2_1 : v1.cell? ⟨w.heap.size + 1 + 1, 1, none⟩ = some (.string t) := (kc 1).trans (by simp [go_sem, *])
  have f1_2_1 : v1.frozen? ⟨w.heap.size + 1 + 1, 1, none⟩ = false := (kf 1).trans (by simp [go_sem, *])
  have c1_2_2 : v1.cell? ⟨w.heap.size + 1 + 1, 2, none⟩ = some (.int .i64 n) := (kc 2).trans (by simp [go_sem, *])
  have f1_2_2 : v1.frozen? ⟨w.heap.size + 1 + 1, 2, none⟩ = false := (kf 2).trans (by simp [go_sem, *])
  have c1_2_3 : v1.cell? ⟨w.heap.size + 1 + 1, 3, none⟩ = some (.int .i64 m) := (kc 3).trans (by simp [go_sem, *])
  have f1_2_3 : v1.frozen? ⟨w.heap.size + 1 + 1, 3, none⟩ = false := (kf 3).trans (by simp [go_sem, *])
  have c1_2_4 : v1.cell? ⟨w.heap.size + 1 + 1, 4, none⟩ = some (.string s) := (kc 4).trans (by simp [go_sem, *])
  have f1_2_4 : v1.frozen? ⟨w.heap.size + 1 + 1, 4, none⟩ = false := (kf 4).trans (by simp [go_sem, *])
  have c1_2_5 : v1.cell? ⟨w.heap.size + 1 + 1, 5, none⟩ = some (.slice a l c) := (kc 5).trans (by simp [go_sem, *])
  have f1_2_5 : v1.frozen? ⟨w.heap.size + 1 + 1, 5, none⟩ = false := (kf 5).trans (by simp [go_sem, *])
  clear kc kf
  go_wp2_with fail
  refine (twin_any _ _ _).mono ?_
  rintro e v2 ⟨rfl, h2⟩
  have z2 := h2.size
  try simp at z2
  have hB2 : Below w.heap.size w v2 := Below.call (w := w) (by repeat (first | (with_reducible exact Below.refl _ _) | (with_reducible assumption) | refine Below.setCell ?_ (by first | omega | (simp; omega) | (simp; done)) _ | refine Below.alloc ?_ (by first | omega | (simp; omega) | (simp; done)) _ | refine Below.drew ?_)) h2
  obtain ⟨k2_0, kc, kf⟩ := keepB h2 (w.heap.size) (by first | omega | (simp; omega) | (simp; done))
  have c2_0_0 : v2.cell? ⟨w.heap.size, 0, none⟩ = some (.int .i64 al) := (kc 0).trans (by simp [go_sem, *])
  have f2_0_0 : v2.frozen? ⟨w.heap.size, 0, none⟩ = false := (kf 0).trans (by simp [go_sem, *])
  have c2_0_1 : v2.cell? ⟨w.heap.size, 1, none⟩ = some (.int .i64 ah) := (kc 1).trans (by simp [go_sem, *])
  have f2_0_1 : v2.frozen? ⟨w.heap.size, 1, none⟩ = false := (kf 1).trans (by simp [go_sem, *])
  clear kc kf
  obtain ⟨k2_1, kc, kf⟩ := keepB h2 (w.heap.size + 1) (by first | omega | (simp; omega) | (simp; done))
  have c2_1_0 : v2.cell? ⟨w.heap.size + 1, 0, none⟩ = some (.int .i64 bl) := (kc 0).trans (by simp [go_sem, *])
  have f2_1_0 : v2.frozen? ⟨w.heap.size + 1, 0, none⟩ = false := (kf 0).trans (by simp [go_sem, *])
  have c2_1_1 : v2.cell? ⟨w.heap.size + 1, 1, none⟩ = some (.int .i64 bh) := (kc 1).trans (by simp [go_sem, *])
  have f2_1_1 : v2.frozen? ⟨w.heap.size + 1, 1, none⟩ = false := (kf 1).trans (by simp [go_sem, *])
  clear kc kf
  obtain ⟨k2_2, kc, kf⟩ := keepB h2 (w.heap.size + 1 + 1) (by first | omega | (simp; omega) | (simp; done))
  have c2_2_0 : v2.cell? ⟨w.heap.size + 1 + 1, 0, none⟩ = some (.int .i64 k) := (kc 0).trans (by simp [go_sem, *])
  have f2_2_0 : v2.frozen? ⟨w.heap.size + 1 + 1, 0, none⟩ = false := (kf 0).trans (by simp [go_sem, *])
  have c2_2_1 : v2.cell? ⟨w.heap.size + 1 + 1, 1, none⟩ = some (.string t) := (kc 1).trans (by simp [go_sem, *])
  have f2_2_1 : v2.frozen? ⟨w.heap.size + 1 + 1, 1, none⟩ = false := (kf 1).trans (by simp [go_sem, *])
  have c2_2_2 : v2.cell? ⟨w.heap.size + 1 + 1, 2, none⟩ = some (.int .i64 n) := (kc 2).trans (by simp [go_sem, *])
  have f2_2_2 : v2.frozen? ⟨w.heap.size + 1 + 1, 2, none⟩ = false := (kf 2).trans (by simp [go_sem, *])
  have c2_2_3 : v2.cell? ⟨w.heap.size + 1 + 1, 3, none⟩ = some (.int .i64 m) := (kc 3).trans (by simp [go_sem, *])
  have f2_2_3 : v2.frozen? ⟨w.heap.size + 1 + 1, 3, none⟩ = false := (kf 3).trans (by simp [go_sem, *])
  have c2_2_4 : v2.cell? ⟨w.heap.size + 1 + 1, 4, none⟩ = some (.string s) := (kc 4).trans (by simp [go_sem, *])
  have f2_2_4 : v2.frozen? ⟨w.heap.size + 1 + 1, 4, none⟩ = false := (kf 4).trans (by simp [go_sem, *])
  have c2_2_5 : v2.cell? ⟨w.heap.size + 1 + 1, 5, none⟩ = some (.slice a l c) := (kc 5).trans (by simp [go_sem, *])
  have f2_2_5 : v2.frozen? ⟨w.heap.size + 1 + 1, 5, none⟩ = false := (kf 5).trans (by simp [go_sem, *])
  clear kc kf
  clear c1_0_0 f1_0_0 c1_0_1 f1_0_1 c1_1_0 f1_1_0 c1_1_1 f1_1_1 c1_2_0 f1_2_0 c1_2_1 f1_2_1 c1_2_2 f1_2_2 c1_2_3 f1_2_3 c1_2_4 f1_2_4 c1_2_5 f1_2_5
  go_wp2_with fail
  refine (twin_any _ _ _).mono ?_
  rintro e v3 ⟨rfl, h3⟩
  have z3 := h3.size
  try simp at z3
  have hB3 : Below w.heap.size w v3 := Below.call (w := w) (by repeat (first | (with_reducible exact Below.refl _ _) | (with_reducible assumption) | refine Below.setCell ?_ (by first | omega | (simp; omega) | (simp; done)) _ | refine Below.alloc ?_ (by first | omega | (simp; omega) | (simp; done)) _ | refine Below.drew ?_)) h3
  obtain ⟨k3_0, kc, kf⟩ := keepB h3 (w.heap.size) (by first | omega | (simp; omega) | (simp; done))
  have c3_0_0 : v3.cell? ⟨w.heap.size, 0, none⟩ = some (.int .i64 al) := (kc 0).trans (by simp [go_sem, *])
  have f3_0_0 : v3.frozen? ⟨w.heap.size, 0, none⟩ = false := (kf 0).trans (by simp [go_sem, *])
  have c3_0_1 : v3.cell? ⟨w.heap.size, 1, none⟩ = some (.int .i64 ah) := (kc 1).trans (by simp [go_sem, *])
  have f3_0_1 : v3.frozen? ⟨w.heap.size, 1, none⟩ = false := (kf 1).trans (by simp [go_sem, *])
  clear kc kf
  obtain ⟨k3_1, kc, kf⟩ := keepB h3 (w.heap.size + 1) (by first | omega | (simp; omega) | (simp; done))
  have c3_1_0 : v3.cell? ⟨w.heap.size + 1, 0, none⟩ = some (.int .i64 bl) := (kc 0).trans (by simp [go_sem, *])
  have f3_1_0 : v3.frozen? ⟨w.heap.size + 1, 0, none⟩ = false := (kf 0).trans (by simp [go_sem, *])
  have c3_1_1 : v3.cell? ⟨w.heap.size + 1, 1, none⟩ = some (.int .i64 bh) := (kc 1).trans (by simp [go_sem, *])
  have f3_1_1 : v3.frozen? ⟨w.heap.size + 1, 1, none⟩ = false := (kf 1).trans (by simp [go_sem, *])
  clear kc kf
  obtain ⟨k3_2, kc, kf⟩ := keepB h3 (w.heap.size + 1 + 1) (by first | omega | (simp; omega) | (simp; done))
  have c3_2_0 : v3.cell? ⟨w.heap.size + 1 + 1, 0, none⟩ = some (.int .i64 k) := (kc 0).trans (by simp [go_sem, *])
  have f3_2_0 : v3.frozen? ⟨w.heap.size + 1 + 1, 0, none⟩ = false := (kf 0).trans (by simp [go_sem, *])
  have c3_2_1 : v3.cell? ⟨w.heap.size + 1 + 1, 1, none⟩ = some (.string t) := (kc 1).trans (by simp [go_sem, *])
  have f3_2_1 : v3.frozen? ⟨w.heap.size + 1 + 1, 1, none⟩ = false := (kf 1).trans (by simp [go_sem, *])
  have c3_2_2 : v3.cell? ⟨w.heap.size + 1 + 1, 2, none⟩ = some (.int .i64 n) := (kc 2).trans (by simp [go_sem, *])
  have f3_2_2 : v3.frozen? ⟨w.heap.size + 1 + 1, 2, none⟩ = false := (kf 2).trans (by simp [go_sem, *])
  have c3_2_3 : v3.cell? ⟨w.heap.size + 1 + 1, 3, none⟩ = some (.int .i64 m) := (kc 3).trans (by simp [go_sem, *])
  have f3_2_3 : v3.frozen? ⟨w.heap.size + 1 + 1, 3, none⟩ = false := (kf 3).trans (by simp [go_sem, *])
  have c3_2_4 : v3.cell? ⟨w.heap.size + 1 + 1, 4, none⟩ = some (.string s) := (kc 4).trans (by simp [go_sem, *])
  have f3_2_4 : v3.frozen? ⟨w.heap.size + 1 + 1, 4, none⟩ = false := (kf 4).trans (by simp [go_sem, *])
  have c3_2_5 : v3.cell? ⟨w.heap.size + 1 + 1, 5, none⟩ = some (.slice a l c) := (kc 5).trans (by simp [go_sem, *])
  have f3_2_5 : v3.frozen? ⟨w.heap.size + 1 + 1, 5, none⟩ = false := (kf 5).trans (by simp [go_sem, *])
  clear kc kf
  obtain ⟨k3_3, kc, kf⟩ := keepB h3 (v2.heap.size) (by first | omega | (simp; omega) | (simp; done))
  have c3_3_0 : v3.cell? ⟨v2.heap.size, 0, none⟩ = some (.int .i64 al) := (kc 0).trans (by simp [go_sem, *])
  have f3_3_0 : v3.frozen? ⟨v2.heap.size, 0, none⟩ = false := (kf 0).trans (by simp [go_sem, *])
  have c3_3_1 : v3.cell? ⟨v2.heap.size, 1, none⟩ = some (.int .i64 ah) := (kc 1).trans (by simp [go_sem, *])
  have f3_3_1 : v3.frozen? ⟨v2.heap.size, 1, none⟩ = false := (kf 1).trans (by simp [go_sem, *])
  clear kc kf
  clear c2_0_0 f2_0_0 c2_0_1 f2_0_1 c2_1_0 f2_1_0 c2_1_1 f2_1_1 c2_2_0 f2_2_0 c2_2_1 f2_2_1 c2_2_2 f2_2_2 c2_2_3 f2_2_3 c2_2_4 f2_2_4 c2_2_5 f2_2_5
  go_wp2_with fail
  refine (add_any _ _ _ _ _).mono ?_
  rintro e v4 ⟨rfl, h4⟩
  have z4 := h4.size
  try simp at z4
  have hB4 : Below w.heap.size w v4 := Below.call (w := w) (by repeat (first | (with_reducible exact Below.refl _ _) | (with_reducible assumption) | refine Below.setCell ?_ (by first | omega | (simp; omega) | (simp; done)) _ | refine Below.alloc ?_ (by first | omega | (simp; omega) | (simp; done)) _ | refine Below.drew ?_)) h4
  obtain ⟨k4_0, kc, kf⟩ := keepB h4 (w.heap.size) (by first | omega | (simp; omega) | (simp; done))
  have c4_0_0 : v4.cell? ⟨w.heap.size, 0, none⟩ = some (.int .i64 al) := (kc 0).trans (by simp [go_sem, *])
  have f4_0_0 : v4.frozen? ⟨w.heap.size, 0, none⟩ = false := (kf 0).trans (by simp [go_sem, *])
  have c4_0_1 : v4.cell? ⟨w.heap.size, 1, none⟩ = some (.int .i64 ah) := (kc 1).trans (by simp [go_sem, *])
  have f4_0_1 : v4.frozen? ⟨w.heap.size, 1, none⟩ = false := (kf 1).trans (by simp [go_sem, *])
  clear kc kf
  obtain ⟨k4_1, kc, kf⟩ := keepB h4 (w.heap.size + 1) (by first | omega | (simp; omega) | (simp; done))
  have c4_1_0 : v4.cell? ⟨w.heap.size + 1, 0, none⟩ = some (.int .i64 bl) := (kc 0).trans (by simp [go_sem, *])
  have f4_1_0 : v4.frozen? ⟨w.heap.size + 1, 0, none⟩ = false := (kf 0).trans (by simp [go_sem, *])
  have c4_1_1 : v4.cell? ⟨w.heap.size + 1, 1, none⟩ = some (.int .i64 bh) := (kc 1).trans (by simp [go_sem, *])
  have f4_1_1 : v4.frozen? ⟨w.heap.size + 1, 1, none⟩ = false := (kf 1).trans (by simp [go_sem, *])
  clear kc kf
  obtain ⟨k4_2, kc, kf⟩ := keepB h4 (w.heap.size + 1 + 1) (by first | omega | (simp; omega) | (simp; done))
  have c4_2_0 : v4.cell? ⟨w.heap.size + 1 + 1, 0, none⟩ = some (.int .i64 k) := (kc 0).trans (by simp [go_sem, *])
  have f4_2_0 : v4.frozen? ⟨w.heap.size + 1 + 1, 0, none⟩ = false := (kf 0).trans (by simp [go_sem, *])
  have c4_2_1 : v4.cell? ⟨w.heap.size + 1 + 1, 1, none⟩ = some (.string t) := (kc 1).trans (by simp [go_sem, *])
  have f4_2_1 : v4.frozen? ⟨w.heap.size + 1 + 1, 1, none⟩ = false := (kf 1).trans (by simp [go_sem, *])
  have c4_2_2 : v4.cell? ⟨w.heap.size + 1 + 1, 2, none⟩ = some (.int .i64 n) := (kc 2).trans (by simp [go_sem, *])
  have f4_2_2 : v4.frozen? ⟨w.heap.size + 1 + 1, 2, none⟩ = false := (kf 2).trans (by simp [go_sem, *])
  have c4_2_3 : v4.cell? ⟨w.heap.size + 1 + 1, 3, none⟩ = some (.int .i64 m) := (kc 3).trans (by simp [go_sem, *])
  have f4_2_3 : v4.frozen? ⟨w.heap.size + 1 + 1, 3, none⟩ = false := (kf 3).trans (by simp [go_sem, *])
  have c4_2_4 : v4.cell? ⟨w.heap.size + 1 + 1, 4, none⟩ = some (.string s) := (kc 4).trans (by simp [go_sem, *])
  have f4_2_4 : v4.frozen? ⟨w.heap.size + 1 + 1, 4, none⟩ = false := (kf 4).trans (by simp [go_sem, *])
  have c4_2_5 : v4.cell? ⟨w.heap.size + 1 + 1, 5, none⟩ = some (.slice a l c) := (kc 5).trans (by simp [go_sem, *])
  have f4_2_5 : v4.frozen? ⟨w.heap.size + 1 + 1, 5, none⟩ = false := (kf 5).trans (by simp [go_sem, *])
  clear kc kf
  obtain ⟨k4_3, kc, kf⟩ := keepB h4 (v2.heap.size) (by first | omega | (simp; omega) | (simp; done))
  have c4_3_0 : v4.cell? ⟨v2.heap.size, 0, none⟩ = some (.int .i64 al) := (kc 0).trans (by simp [go_sem, *])
  have f4_3_0 : v4.frozen? ⟨v2.heap.size, 0, none⟩ = false := (kf 0).trans (by simp [go_sem, *])
  have c4_3_1 : v4.cell? ⟨v2.heap.size, 1, none⟩ = some (.int .i64 ah) := (kc 1).trans (by simp [go_sem, *])
  have f4_3_1 : v4.frozen? ⟨v2.heap.size, 1, none⟩ = false := (kf 1).trans (by simp [go_sem, *])
  clear kc kf
  obtain ⟨k4_4, kc, kf⟩ := keepB h4 (v3.heap.size) (by first | omega | (simp; omega) | (simp; done))
  have c4_4_0 : v4.cell? ⟨v3.heap.size, 0, none⟩ = some (.int .i64 bl) := (kc 0).trans (by simp [go_sem, *])
  have f4_4_0 : v4.frozen? ⟨v3.heap.size, 0, none⟩ = false := (kf 0).trans (by simp [go_sem, *])
  have c4_4_1 : v4.cell? ⟨v3.heap.size, 1, none⟩ = some (.int .i64 bh) := (kc 1).trans (by simp [go_sem, *])
  have f4_4_1 : v4.frozen? ⟨v3.heap.size, 1, none⟩ = false := (kf 1).trans (by simp [go_sem, *])
  clear kc kf
  clear c3_0_0 f3_0_0 c3_0_1 f3_0_1 c3_1_0 f3_1_0 c3_1_1 f3_1_1 c3_2_0 f3_2_0 c3_2_1 f3_2_1 c3_2_2 f3_2_2 c3_2_3 f3_2_3 c3_2_4 f3_2_4 c3_2_5 f3_2_5 c3_3_0 f3_3_0 c3_3_1 f3_3_1
  go_wp2_with fail
  refine (radd_any _ _ _ _ _).mono ?_
  rintro e v5 ⟨rfl, h5⟩
  have z5 := h5.size
  try simp at z5
  have hB5 : Below w.heap.size w v5 := Below.call (w := w) (by repeat (first | (with_reducible exact Below.refl _ _) | (with_reducible assumption) | refine Below.setCell ?_ (by first | omega | (simp; omega) | (simp; done)) _ | refine Below.alloc ?_ (by first | omega | (simp; omega) | (simp; done)) _ | refine Below.drew ?_)) h5
  obtain ⟨k5_0, kc, kf⟩ := keepB h5 (w.heap.size) (by first | omega | (simp; omega) | (simp; done))
  have c5_0_0 : v5.cell? ⟨w.heap.size, 0, none⟩ = some (.int .i64 al) := (kc 0).trans (by simp [go_sem, *])
  have f5_0_0 : v5.frozen? ⟨w.heap.size, 0, none⟩ = false := (kf 0).trans (by simp [go_sem, *])
  have c5_0_1 : v5.cell? ⟨w.heap.size, 1, none⟩ = some (.int .i64 ah) := (kc 1).trans (by simp [go_sem, *])
  have f5_0_1 : v5.frozen? ⟨w.heap.size, 1, none⟩ = false := (kf 1).trans (by simp [go_sem, *])
  clear kc kf
  obtain ⟨k5_1, kc, kf⟩ := keepB h5 (w.heap.size + 1) (by first | omega | (simp; omega) | (simp; done))
  have c5_1_0 : v5.cell? ⟨w.heap.size + 1, 0, none⟩ = some (.int .i64 bl) := (kc 0).trans (by simp [go_sem, *])
  have f5_1_0 : v5.frozen? ⟨w.heap.size + 1, 0, none⟩ = false := (kf 0).trans (by simp [go_sem, *])
  have c5_1_1 : v5.cell? ⟨w.heap.size + 1, 1, none⟩ = some (.int .i64 bh) := (kc 1).trans (by simp [go_sem, *])
  have f5_1_1 : v5.frozen? ⟨w.heap.size + 1, 1, none⟩ = false := (kf 1).trans (by simp [go_sem, *])
  clear kc kf
  obtain ⟨k5_2, kc, kf⟩ := keepB h5 (w.heap.size + 1 + 1) (by first | omega | (simp; omega) | (simp; done))
  have c5_2_0 : v5.cell? ⟨w.heap.size + 1 + 1, 0, none⟩ = some (.int .i64 k) := (kc 0).trans (by simp [go_sem, *])
  have f5_2_0 : v5.frozen? ⟨w.heap.size + 1 + 1, 0, none⟩ = false := (kf 0).trans (by simp [go_sem, *])
  have c5_2_1 : v5.cell? ⟨w.heap.size + 1 + 1, 1, none⟩ = some (.string t) := (kc 1).trans (by simp [go_sem, *])
  have f5_2_1 : v5.frozen? ⟨w.heap.size + 1 + 1, 1, none⟩ = false := (kf 1).trans (by simp [go_sem, *])
  have c5_2_2 : v5.cell? ⟨w.heap.size + 1 + 1, 2, none⟩ = some (.int .i64 n) := (kc 2).trans (by simp [go_sem, *])
  have f5_2_2 : v5.frozen? ⟨w.heap.size + 1 + 1, 2, none⟩ = false := (kf 2).trans (by simp [go_sem, *])
  have c5_2_3 : v5.cell? ⟨w.heap.size + 1 + 1, 3, none⟩ = some (.int .i64 m) := (kc 3).trans (by simp [go_sem, *])
  have f5_2_3 : v5.frozen? ⟨w.heap.size + 1 + 1, 3, none⟩ = false := (kf 3).trans (by simp [go_sem, *])
  have c5_2_4 : v5.cell? ⟨w.heap.size + 1 + 1, 4, none⟩ = some (.string s) := (kc 4).trans (by simp [go_sem, *])
  have f5_2_4 : v5.frozen? ⟨w.heap.size + 1 + 1, 4, none⟩ = false := (kf 4).trans (by simp [go_sem, *])
  have c5_2_5 : v5.cell? ⟨w.heap.size + 1 + 1, 5, none⟩ = some (.slice a l c) := (kc 5).trans (by simp [go_sem, *])
  have f5_2_5 : v5.frozen? ⟨w.heap.size + 1 + 1, 5, none⟩ = false := (kf 5).trans (by simp [go_sem, *])
  clear kc kf
  obtain ⟨k5_3, kc, kf⟩ := keepB h5 (v2.heap.size) (by first | omega | (simp; omega) | (simp; done))
  have c5_3_0 : v5.cell? ⟨v2.heap.size, 0, none⟩ = some (.int .i64 al) := (kc 0).trans (by simp [go_sem, *])
  have f5_3_0 : v5.frozen? ⟨v2.heap.size, 0, none⟩ = false := (kf 0).trans (by simp [go_sem, *])
  have c5_3_1 : v5.cell? ⟨v2.heap.size, 1, none⟩ = some (.int .i64 ah) := (kc 1).trans (by simp [go_sem, *])
  have f5_3_1 : v5.frozen? ⟨v2.heap.size, 1, none⟩ = false := (kf 1).trans (by simp [go_sem, *])
  clear kc kf
  obtain ⟨k5_4, kc, kf⟩ := keepB h5 (v3.heap.size) (by first | omega | (simp; omega) | (simp; done))
  have c5_4_0 : v5.cell? ⟨v3.heap.size, 0, none⟩ = some (.int .i64 bl) := (kc 0).trans (by simp [go_sem, *])
  have f5_4_0 : v5.frozen? ⟨v3.heap.size, 0, none⟩ = false := (kf 0).trans (by simp [go_sem, *])
  have c5_4_1 : v5.cell? ⟨v3.heap.size, 1, none⟩ = some (.int .i64 bh) := (kc 1).trans (by simp [go_sem, *])
  have f5_4_1 : v5.frozen? ⟨v3.heap.size, 1, none⟩ = false := (kf 1).trans (by simp [go_sem, *])
  clear kc kf
  obtain ⟨k5_5, kc, kf⟩ := keepB h5 (v4.heap.size) (by first | omega | (simp; omega) | (simp; done))
  have c5_5_0 : v5.cell? ⟨v4.heap.size, 0, none⟩ = some (.int .i64 (Sp.add al ah bl bh).lo) := (kc 0).trans (by simp [go_sem, *])
  have f5_5_0 : v5.frozen? ⟨v4.heap.size, 0, none⟩ = false := (kf 0).trans (by simp [go_sem, *])
  have c5_5_1 : v5.cell? ⟨v4.heap.size, 1, none⟩ = some (.int .i64 (Sp.add al ah bl bh).hi) := (kc 1).trans (by simp [go_sem, *])
  have f5_5_1 : v5.frozen? ⟨v4.heap.size, 1, none⟩ = false := (kf 1).trans (by simp [go_sem, *])
  clear kc kf
  clear c4_0_0 f4_0_0 c4_0_1 f4_0_1 c4_1_0 f4_1_0 c4_1_1 f4_1_1 c4_2_0 f4_2_0 c4_2_1 f4_2_1 c4_2_2 f4_2_2 c4_2_3 f4_2_3 c4_2_4 f4_2_4 c4_2_5 f4_2_5 c4_3_0 f4_3_0 c4_3_1 f4_3_1 c4_4_0 f4_4_0 c4_4_1 f4_4_1
  go_wp2_with fail
  refine (alike_any _ _ _ _).mono ?_
  rintro e v6 ⟨rfl, h6⟩
  have z6 := h6.size
  try simp at z6
  have hB6 : Below w.heap.size w v6 := Below.call (w := w) (by repeat (first | (with_reducible exact Below.refl _ _) | (with_reducible assumption) | refine Below.setCell ?_ (by first | omega | (simp; omega) | (simp; done)) _ | refine Below.alloc ?_ (by first | omega | (simp; omega) | (simp; done)) _ | refine Below.drew ?_)) h6
  obtain ⟨k6_0, kc, kf⟩ := keepB h6 (w.heap.size) (by first | omega | (simp; omega) | (simp; done))
  have c6_0_0 : v6.cell? ⟨w.heap.size, 0, none⟩ = some (.int .i64 al) := (kc 0).trans (by simp [go_sem, *])
  have f6_0_0 : v6.frozen? ⟨w.heap.size, 0, none⟩ = false := (kf 0).trans (by simp [go_sem, *])
  have c6_0_1 : v6.cell? ⟨w.heap.size, 1, none⟩ = some (.int .i64 ah) := (kc 1).trans (by simp [go_sem, *])
  have f6_0_1 : v6.frozen? ⟨w.heap.size, 1, none⟩ = false := (kf 1).trans (by simp [go_sem, *])
  clear kc kf
  obtain ⟨k6_1, kc, kf⟩ := keepB h6 (w.heap.size + 1) (by first | omega | (simp; omega) | (simp; done))
  have c6_1_0 : v6.cell? ⟨w.heap.size + 1, 0, none⟩ = some (.int .i64 bl) := (kc 0).trans (by simp [go_sem, *])
  have f6_1_0 : v6.frozen? ⟨w.heap.size + 1, 0, none⟩ = false := (kf 0).trans (by simp [go_sem, *])
  have c6_1_1 : v6.cell? ⟨w.heap.size + 1, 1, none⟩ = some (.int .i64 bh) := (kc 1).trans (by simp [go_sem, *])
  have f6_1_1 : v6.frozen? ⟨w.heap.size + 1, 1, none⟩ = false := (kf 1).trans (by simp [go_sem, *])
  clear kc kf
  obtain ⟨k6_2, kc, kf⟩ := keepB h6 (w.heap.size + 1 + 1) (by first | omega | (simp; omega) | (simp; done))
  have c6_2_0 : v6.cell? ⟨w.heap.size + 1 + 1, 0, none⟩ = some (.int .i64 k) := (kc 0).trans (by simp [go_sem, *])
  have f6_2_0 : v6.frozen? ⟨w.heap.size + 1 + 1, 0, none⟩ = false := (kf 0).trans (by simp [go_sem, *])
  have c6_2_1 : v6.cell? ⟨w.heap.size + 1 + 1, 1, none⟩ = some (.string t) := (kc 1).trans (by simp [go_sem, *])
  have f6_2_1 : v6.frozen? ⟨w.heap.size + 1 + 1, 1, none⟩ = false := (kf 1).trans (by simp [go_sem, *])
  have c6_2_2 : v6.cell? ⟨w.heap.size + 1 + 1, 2, none⟩ = some (.int .i64 n) := (kc 2).trans (by simp [go_sem, *])
  have f6_2_2 : v6.frozen? ⟨w.heap.size + 1 + 1, 2, none⟩ = false := (kf 2).trans (by simp [go_sem, *])
  have c6_2_3 : v6.cell? ⟨w.heap.size + 1 + 1, 3, none⟩ = some (.int .i64 m) := (kc 3).trans (by simp [go_sem, *])
  have f6_2_3 : v6.frozen? ⟨w.heap.size + 1 + 1, 3, none⟩ = false := (kf 3).trans (by simp [go_sem, *])
  have c6_2_4 : v6.cell? ⟨w.heap.size + 1 + 1, 4, none⟩ = some (.string s) := (kc 4).trans (by simp [go_sem, *])
  have f6_2_4 : v6.frozen? ⟨w.heap.size + 1 + 1, 4, none⟩ = false := (kf 4).trans (by simp [go_sem, *])
  have c6_2_5 : v6.cell? ⟨w.heap.size + 1 + 1, 5, none⟩ = some (.slice a l c) := (kc 5).trans (by simp [go_sem, *])
  have f6_2_5 : v6.frozen? ⟨w.heap.size + 1 + 1, 5, none⟩ = false := (kf 5).trans (by simp [go_sem, *])
  clear kc kf
  obtain ⟨k6_3, kc, kf⟩ := keepB h6 (v2.heap.size) (by first | omega | (simp; omega) | (simp; done))
  have c6_3_0 : v6.cell? ⟨v2.heap.size, 0, none⟩ = some (.int .i64 al) := (kc 0).trans (by simp [go_sem, *])
  have f6_3_0 : v6.frozen? ⟨v2.heap.size, 0, none⟩ = false := (kf 0).trans (by simp [go_sem, *])
  have c6_3_1 : v6.cell? ⟨v2.heap.size, 1, none⟩ = some (.int .i64 ah) := (kc 1).trans (by simp [go_sem, *])
  have f6_3_1 : v6.frozen? ⟨v2.heap.size, 1, none⟩ = false := (kf 1).trans (by simp [go_sem, *])
  clear kc kf
  obtain ⟨k6_4, kc, kf⟩ := keepB h6 (v3.heap.size) (by first | omega | (simp; omega) | (simp; done))
  have c6_4_0 : v6.cell? ⟨v3.heap.size, 0, none⟩ = some (.int .i64 bl) := (kc 0).trans (by simp [go_sem, *])
  have f6_4_0 : v6.frozen? ⟨v3.heap.size, 0, none⟩ = false := (kf 0).trans (by simp [go_sem, *])
  have c6_4_1 : v6.cell? ⟨v3.heap.size, 1, none⟩ = some (.int .i64 bh) := (kc 1).trans (by simp [go_sem, *])
  have f6_4_1 : v6.frozen? ⟨v3.heap.size, 1, none⟩ = false := (kf 1).trans (by simp [go_sem, *])
  clear kc kf
  obtain ⟨k6_5, kc, kf⟩ := keepB h6 (v4.heap.size) (by first | omega | (simp; omega) | (simp; done))
  have c6_5_0 : v6.cell? ⟨v4.heap.size, 0, none⟩ = some (.int .i64 (Sp.add al ah bl bh).lo) := (kc 0).trans (by simp [go_sem, *])
  have f6_5_0 : v6.frozen? ⟨v4.heap.size, 0, none⟩ = false := (kf 0).trans (by simp [go_sem, *])
  have c6_5_1 : v6.cell? ⟨v4.heap.size, 1, none⟩ = some (.int .i64 (Sp.add al ah bl bh).hi) := (kc 1).trans (by simp [go_sem, *])
  have f6_5_1 : v6.frozen? ⟨v4.heap.size, 1, none⟩ = false := (kf 1).trans (by simp [go_sem, *])
  clear kc kf
  obtain ⟨k6_6, kc, kf⟩ := keepB h6 (v5.heap.size) (by first | omega | (simp; omega) | (simp; done))
  have c6_6_0 : v6.cell? ⟨v5.heap.size, 0, none⟩ = some (.int .i64 (Sp.add al ah bl bh).lo) := (kc 0).trans (by simp [go_sem, *])
  have f6_6_0 : v6.frozen? ⟨v5.heap.size, 0, none⟩ = false := (kf 0).trans (by simp [go_sem, *])
  have c6_6_1 : v6.cell? ⟨v5.heap.size, 1, none⟩ = some (.int .i64 (Sp.add al ah bl bh).hi) := (kc 1).trans (by simp [go_sem, *])
  have f6_6_1 : v6.frozen? ⟨v5.heap.size, 1, none⟩ = false := (kf 1).trans (by simp [go_sem, *])
  clear kc kf
  clear c5_0_0 f5_0_0 c5_0_1 f5_0_1 c5_1_0 f5_1_0 c5_1_1 f5_1_1 c5_2_0 f5_2_0 c5_2_1 f5_2_1 c5_2_2 f5_2_2 c5_2_3 f5_2_3 c5_2_4 f5_2_4 c5_2_5 f5_2_5 c5_3_0 f5_3_0 c5_3_1 f5_3_1 c5_4_0 f5_4_0 c5_4_1 f5_4_1 c5_5_0 f5_5_0 c5_5_1 f5_5_1
  go_wp2_with fail
  refine (sub_any _ _ _ _ _).mono ?_
  rintro e v7 ⟨rfl, h7⟩
  have z7 := h7.size
  try simp at z7
  have hB7 : Below w.heap.size w v7 := Below.call (w := w) (by repeat (first | (with_reducible exact Below.refl _ _) | (with_reducible assumption) | refine Below.setCell ?_ (by first | omega | (simp; omega) | (simp; done)) _ | refine Below.alloc ?_ (by first | omega | (simp; omega) | (simp; done)) _ | refine Below.drew ?_)) h7
  obtain ⟨k7_0, kc, kf⟩ := keepB h7 (w.heap.size) (by first | omega | (simp; omega) | (simp; done))
  have c7_0_0 : v7.cell? ⟨w.heap.size, 0, none⟩ = some (.int .i64 al) := (kc 0).trans (by simp [go_sem, *])
  have f7_0_0 : v7.frozen? ⟨w.heap.size, 0, none⟩ = false := (kf 0).trans (by simp [go_sem, *])
  have c7_0_1 : v7.cell? ⟨w.heap.size, 1, none⟩ = some (.int .i64 ah) := (kc 1).trans (by simp [go_sem, *])
  have f7_0_1 : v7.frozen? ⟨w.heap.size, 1, none⟩ = false := (kf 1).trans (by simp [go_sem, *])
  clear kc kf
  obtain ⟨k7_1, kc, kf⟩ := keepB h7 (w.heap.size + 1) (by first | omega | (simp; omega) | (simp; done))
  have c7_1_0 : v7.cell? ⟨w.heap.size + 1, 0, none⟩ = some (.int .i64 bl) := (kc 0).trans (by simp [go_sem, *])
  have f7_1_0 : v7.frozen? ⟨w.heap.size + 1, 0, none⟩ = false := (kf 0).trans (by simp [go_sem, *])
  have c7_1_1 : v7.cell? ⟨w.heap.size + 1, 1, none⟩ = some (.int .i64 bh) := (kc 1).trans (by simp [go_sem, *])
  have f7_1_1 : v7.frozen? ⟨w.heap.size + 1, 1, none⟩ = false := (kf 1).trans (by simp [go_sem, *])
  clear kc kf
  obtain ⟨k7_2, kc, kf⟩ := keepB h7 (w.heap.size + 1 + 1) (by first | omega | (simp; omega) | (simp; done))
  have c7_2_0 : v7.cell? ⟨w.heap.size + 1 + 1, 0, none⟩ = some (.int .i64 k) := (kc 0).trans (by simp [go_sem, *])
  have f7_2_0 : v7.frozen? ⟨w.heap.size + 1 + 1, 0, none⟩ = false := (kf 0).trans (by simp [go_sem, *])
  have c7_2_1 : v7.cell? ⟨w.heap.size + 1 + 1, 1, none⟩ = some (.string t) := (kc 1).trans (by simp [go_sem, *])
  have f7_2_1 : v7.frozen? ⟨w.heap.size + 1 + 1, 1, none⟩ = false := (kf 1).trans (by simp [go_sem, *])
  have c7_2_2 : v7.cell? ⟨w.heap.size + 1 + 1, 2, none⟩ = some (.int .i64 n) := (kc 2).trans (by simp [go_sem, *])
  have f7_2_2 : v7.frozen? ⟨w.heap.size + 1 + 1, 2, none⟩ = false := (kf 2).trans (by simp [go_sem, *])
  have c7_2_3 : v7.cell? ⟨w.heap.size + 1 + 1, 3, none⟩ = some (.int .i64 m) := (kc 3).trans (by simp [go_sem, *])
  have f7_2_3 : v7.frozen? ⟨w.heap.size + 1 + 1, 3, none⟩ = false := (kf 3).trans (by simp [go_sem, *])
  have c7_2_4 : v7.cell? ⟨w.heap.size + 1 + 1, 4, none⟩ = some (.string s) := (kc 4).trans (by simp [go_sem, *])
  have f7_2_4 : v7.frozen? ⟨w.heap.size + 1 + 1, 4, none⟩ = false := (kf 4).trans (by simp [go_sem, *])
  have c7_2_5 : v7.cell? ⟨w.heap.size + 1 + 1, 5, none⟩ = some (.slice a l c) := (kc 5).trans (by simp [go_sem, *])
  have f7_2_5 : v7.frozen? ⟨w.heap.size + 1 + 1, 5, none⟩ = false := (kf 5).trans (by simp [go_sem, *])
  clear kc kf
  obtain ⟨k7_3, kc, kf⟩ := keepB h7 (v2.heap.size) (by first | omega | (simp; omega) | (simp; done))
  have c7_3_0 : v7.cell? ⟨v2.heap.size, 0, none⟩ = some (.int .i64 al) := (kc 0).trans (by simp [go_sem, *])
  have f7_3_0 : v7.frozen? ⟨v2.heap.size, 0, none⟩ = false := (kf 0).trans (by simp [go_sem, *])
  have c7_3_1 : v7.cell? ⟨v2.heap.size, 1, none⟩ = some (.int .i64 ah) := (kc 1).trans (by simp [go_sem, *])
  have f7_3_1 : v7.frozen? ⟨v2.heap.size, 1, none⟩ = false := (kf 1).trans (by simp [go_sem, *])
  clear kc kf
  obtain ⟨k7_4, kc, kf⟩ := keepB h7 (v3.heap.size) (by first | omega | (simp; omega) | (simp; done))
  have c7_4_0 : v7.cell? ⟨v3.heap.size, 0, none⟩ = some (.int .i64 bl) := (kc 0).trans (by simp [go_sem, *])
  have f7_4_0 : v7.frozen? ⟨v3.heap.size, 0, none⟩ = false := (kf 0).trans (by simp [go_sem, *])
  have c7_4_1 : v7.cell? ⟨v3.heap.size, 1, none⟩ = some (.int .i64 bh) := (kc 1).trans (by simp [go_sem, *])
  have f7_4_1 : v7.frozen? ⟨v3.heap.size, 1, none⟩ = false := (kf 1).trans (by simp [go_sem, *])
  clear kc kf
  obtain ⟨k7_5, kc, kf⟩ := keepB h7 (v4.heap.size) (by first | omega | (simp; omega) | (simp; done))
  have c7_5_0 : v7.cell? ⟨v4.heap.size, 0, none⟩ = some (.int .i64 (Sp.add al ah bl bh).lo) := (kc 0).trans (by simp [go_sem, *])
  have f7_5_0 : v7.frozen? ⟨v4.heap.size, 0, none⟩ = false := (kf 0).trans (by simp [go_sem, *])
  have c7_5_1 : v7.cell? ⟨v4.heap.size, 1, none⟩ = some (.int .i64 (Sp.add al ah bl bh).hi) := (kc 1).trans (by simp [go_sem, *])
  have f7_5_1 : v7.frozen? ⟨v4.heap.size, 1, none⟩ = false := (kf 1).trans (by simp [go_sem, *])
  clear kc kf
  obtain ⟨k7_6, kc, kf⟩ := keepB h7 (v5.heap.size) (by first | omega | (simp; omega) | (simp; done))
  have c7_6_0 : v7.cell? ⟨v5.heap.size, 0, none⟩ = some (.int .i64 (Sp.add al ah bl bh).lo) := (kc 0).trans (by simp [go_sem, *])
  have f7_6_0 : v7.frozen? ⟨v5.heap.size, 0, none⟩ = false := (kf 0).trans (by simp [go_sem, *])
  have c7_6_1 : v7.cell? ⟨v5.heap.size, 1, none⟩ = some (.int .i64 (Sp.add al ah bl bh).hi) := (kc 1).trans (by simp [go_sem, *])
  have f7_6_1 : v7.frozen? ⟨v5.heap.size, 1, none⟩ = false := (kf 1).trans (by simp [go_sem, *])
  clear kc kf
  clear c6_0_0 f6_0_0 c6_0_1 f6_0_1 c6_1_0 f6_1_0 c6_1_1 f6_1_1 c6_2_0 f6_2_0 c6_2_1 f6_2_1 c6_2_2 f6_2_2 c6_2_3 f6_2_3 c6_2_4 f6_2_4 c6_2_5 f6_2_5 c6_3_0 f6_3_0 c6_3_1 f6_3_1 c6_4_0 f6_4_0 c6_4_1 f6_4_1 c6_5_0 f6_5_0 c6_5_1 f6_5_1 c6_6_0 f6_6_0 c6_6_1 f6_6_1
  go_wp2_with fail
  refine (rsub_any _ _ _ _ _).mono ?_
  rintro e v8 ⟨rfl, h8⟩
  have z8 := h8.size
  try simp at z8
  have hB8 : Below w.heap.size w v8 := Below.call (w := w) (by repeat (first | (with_reducible exact Below.refl _ _) | (with_reducible assumption) | refine Below.setCell ?_ (by first | omega | (simp; omega) | (simp; done)) _ | refine Below.alloc ?_ (by first | omega | (simp; omega) | (simp; done)) _ | refine Below.drew ?_)) h8
  obtain ⟨k8_0, kc, kf⟩ := keepB h8 (w.heap.size) (by first | omega | (simp; omega) | (simp; done))
  have c8_0_0 : v8.cell? ⟨w.heap.size, 0, none⟩ = some (.int .i64 al) := (kc 0).trans (by simp [go_sem, *])
  have f8_0_0 : v8.frozen? ⟨w.heap.size, 0, none⟩ = false := (kf 0).trans (by simp [go_sem, *])
  have c8_0_1 : v8.cell? ⟨w.heap.size, 1, none⟩ = some (.int .i64 ah) := (kc 1).trans (by simp [go_sem, *])
  have f8_0_1 : v8.frozen? ⟨w.heap.size, 1, none⟩ = false := (kf 1).trans (by simp [go_sem, *])
  clear kc kf
  obtain ⟨k8_1, kc, kf⟩ := keepB h8 (w.heap.size + 1) (by first | omega | (simp; omega) | (simp; done))
  have c8_1_0 : v8.cell? ⟨w.heap.size + 1, 0, none⟩ = some (.int .i64 bl) := (kc 0).trans (by simp [go_sem, *])
  have f8_1_0 : v8.frozen? ⟨w.heap.size + 1, 0, none⟩ = false := (kf 0).trans (by simp [go_sem, *])
  have c8_1_1 : v8.cell? ⟨w.heap.size + 1, 1, none⟩ = some (.int .i64 bh) := (kc 1).trans (by simp [go_sem, *])
  have f8_1_1 : v8.frozen? ⟨w.heap.size + 1, 1, none⟩ = false := (kf 1).trans (by simp [go_sem, *])
  clear kc kf
  obtain ⟨k8_2, kc, kf⟩ := keepB h8 (w.heap.size + 1 + 1) (by first | omega | (simp; omega) | (simp; done))
  have c8_2_0 : v8.cell? ⟨w.heap.size + 1 + 1, 0, none⟩ = some (.int .i64 k) := (kc 0).trans (by simp [go_sem, *])
  have f8_2_0 : v8.frozen? ⟨w.heap.size + 1 + 1, 0, none⟩ = false := (kf 0).trans (by simp [go_sem, *])
  have c8_2_1 : v8.cell? ⟨w.heap.size + 1 + 1, 1, none⟩ = some (.string t) := (kc 1).trans (by simp [go_sem, *])
  have f8_2_1 : v8.frozen? ⟨w.heap.size + 1 + 1, 1, none⟩ = false := (kf 1).trans (by simp [go_sem, *])
  have c8_2_2 : v8.cell? ⟨w.heap.size + 1 + 1, 2, none⟩ = some (.int .i64 n) := (kc 2).trans (by simp [go_sem, *])
  have f8_2_2 : v8.frozen? ⟨w.heap.size + 1 + 1, 2, none⟩ = false := (kf 2).trans (by simp [go_sem, *])
  have c8_2_3 : v8.cell? ⟨w.heap.size + 1 + 1, 3, none⟩ = some (.int .i64 m) := (kc 3).trans (by simp [go_sem, *])
  have f8_2_3 : v8.frozen? ⟨w.heap.size + 1 + 1, 3, none⟩ = false := (kf 3).trans (by simp [go_sem, *])
  have c8_2_4 : v8.cell? ⟨w.heap.size + 1 + 1, 4, none⟩ = some (.string s) := (kc 4).trans (by simp [go_sem, *])
  have f8_2_4 : v8.frozen? ⟨w.heap.size + 1 + 1, 4, none⟩ = false := (kf 4).trans (by simp [go_sem, *])
  have c8_2_5 : v8.cell? ⟨w.heap.size + 1 + 1, 5, none⟩ = some (.slice a l c) := (kc 5).trans (by simp [go_sem, *])
  have f8_2_5 : v8.frozen? ⟨w.heap.size + 1 + 1, 5, none⟩ = false := (kf 5).trans (by simp [go_sem, *])
  clear kc kf
  obtain ⟨k8_3, kc, kf⟩ := keepB h8 (v2.heap.size) (by first | omega | (simp; omega) | (simp; done))
  have c8_3_0 : v8.cell? ⟨v2.heap.size, 0, none⟩ = some (.int .i64 al) := (kc 0).trans (by simp [go_sem, *])
  have f8_3_0 : v8.frozen? ⟨v2.heap.size, 0, none⟩ = false := (kf 0).trans (by simp [go_sem, *])
  have c8_3_1 : v8.cell? ⟨v2.heap.size, 1, none⟩ = some (.int .i64 ah) := (kc 1).trans (by simp [go_sem, *])
  have f8_3_1 : v8.frozen? ⟨v2.heap.size, 1, none⟩ = false := (kf 1).trans (by simp [go_sem, *])
  clear kc kf
  obtain ⟨k8_4, kc, kf⟩ := keepB h8 (v3.heap.size) (by first | omega | (simp; omega) | (simp; done))
  have c8_4_0 : v8.cell? ⟨v3.heap.size, 0, none⟩ = some (.int .i64 bl) := (kc 0).trans (by simp [go_sem, *])
  have f8_4_0 : v8.frozen? ⟨v3.heap.size, 0, none⟩ = false := (kf 0).trans (by simp [go_sem, *])
  have c8_4_1 : v8.cell? ⟨v3.heap.size, 1, none⟩ = some (.int .i64 bh) := (kc 1).trans (by simp [go_sem, *])
  have f8_4_1 : v8.frozen? ⟨v3.heap.size, 1, none⟩ = false := (kf 1).trans (by simp [go_sem, *])
  clear kc kf
  obtain ⟨k8_5, kc, kf⟩ := keepB h8 (v4.heap.size) (by first | omega | (simp; omega) | (simp; done))
  have c8_5_0 : v8.cell? ⟨v4.heap.size, 0, none⟩ = some (.int .i64 (Sp.sub al ah bl bh).lo) := (kc 0).trans (by simp [go_sem, *])
  have f8_5_0 : v8.frozen? ⟨v4.heap.size, 0, none⟩ = false := (kf 0).trans (by simp [go_sem, *])
  have c8_5_1 : v8.cell? ⟨v4.heap.size, 1, none⟩ = some (.int .i64 (Sp.sub al ah bl bh).hi) := (kc 1).trans (by simp [go_sem, *])
  have f8_5_1 : v8.frozen? ⟨v4.heap.size, 1, none⟩ = false := (kf 1).trans (by simp [go_sem, *])
  clear kc kf
  obtain ⟨k8_6, kc, kf⟩ := keepB h8 (v5.heap.size) (by first | omega | (simp; omega) | (simp; done))
  have c8_6_0 : v8.cell? ⟨v5.heap.size, 0, none⟩ = some (.int .i64 (Sp.add al ah bl bh).lo) := (kc 0).trans (by simp [go_sem, *])
  have f8_6_0 : v8.frozen? ⟨v5.heap.size, 0, none⟩ = false := (kf 0).trans (by simp [go_sem, *])
  have c8_6_1 : v8.cell? ⟨v5.heap.size, 1, none⟩ = some (.int .i64 (Sp.add al ah bl bh).hi) := (kc 1).trans (by simp [go_sem, *])
  have f8_6_1 : v8.frozen? ⟨v5.heap.size, 1, none⟩ = false := (kf 1).trans (by simp [go_sem, *])
  clear kc kf
  clear c7_0_0 f7_0_0 c7_0_1 f7_0_1 c7_1_0 f7_1_0 c7_1_1 f7_1_1 c7_2_0 f7_2_0 c7_2_1 f7_2_1 c7_2_2 f7_2_2 c7_2_3 f7_2_3 c7_2_4 f7_2_4 c7_2_5 f7_2_5 c7_3_0 f7_3_0 c7_3_1 f7_3_1 c7_4_0 f7_4_0 c7_4_1 f7_4_1 c7_5_0 f7_5_0 c7_5_1 f7_5_1 c7_6_0 f7_6_0 c7_6_1 f7_6_1
  go_wp2_with fail
  refine (alike_any _ _ _ _).mono ?_
  rintro e v9 ⟨rfl, h9⟩
  have z9 := h9.size
  try simp at z9
  have hB9 : Below w.heap.size w v9 := Below.call (w := w) (by repeat (first | (with_reducible exact Below.refl _ _) | (with_reducible assumption) | refine Below.setCell ?_ (by first | omega | (simp; omega) | (simp; done)) _ | refine Below.alloc ?_ (by first | omega | (simp; omega) | (simp; done)) _ | refine Below.drew ?_)) h9
  obtain ⟨k9_0, kc, kf⟩ := keepB h9 (w.heap.size) (by first | omega | (simp; omega) | (simp; done))
  have c9_0_0 : v9.cell? ⟨w.heap.size, 0, none⟩ = some (.int .i64 al) := (kc 0).trans (by simp [go_sem, *])
  have f9_0_0 : v9.frozen? ⟨w.heap.size, 0, none⟩ = false := (kf 0).trans (by simp [go_sem, *])
  have c9_0_1 : v9.cell? ⟨w.heap.size, 1, none⟩ = some (.int .i64 ah) := (kc 1).trans (by simp [go_sem, *])
  have f9_0_1 : v9.frozen? ⟨w.heap.size, 1, none⟩ = false := (kf 1).trans (by simp [go_sem, *])
  clear kc kf
  obtain ⟨k9_1, kc, kf⟩ := keepB h9 (w.heap.size + 1) (by first | omega | (simp; omega) | (simp; done))
  have c9_1_0 : v9.cell? ⟨w.heap.size + 1, 0, none⟩ = some (.int .i64 bl) := (kc 0).trans (by simp [go_sem, *])
  have f9_1_0 : v9.frozen? ⟨w.heap.size + 1, 0, none⟩ = false := (kf 0).trans (by simp [go_sem, *])
  have c9_1_1 : v9.cell? ⟨w.heap.size + 1, 1, none⟩ = some (.int .i64 bh) := (kc 1).trans (by simp [go_sem, *])
  have f9_1_1 : v9.frozen? ⟨w.heap.size + 1, 1, none⟩ = false := (kf 1).trans (by simp [go_sem, *])
  clear kc kf
  obtain ⟨k9_2, kc, kf⟩ := keepB h9 (w.heap.size + 1 + 1) (by first | omega | (simp; omega) | (simp; done))
  have c9_2_0 : v9.cell? ⟨w.heap.size + 1 + 1, 0, none⟩ = some (.int .i64 k) := (kc 0).trans (by simp [go_sem, *])
  have f9_2_0 : v9.frozen? ⟨w.heap.size + 1 + 1, 0, none⟩ = false := (kf 0).trans (by simp [go_sem, *])
  have c9_2_1 : v9.cell? ⟨w.heap.size + 1 + 1, 1, none⟩ = some (.string t) := (kc 1).trans (by simp [go_sem, *])
  have f9_2_1 : v9.frozen? ⟨w.heap.size + 1 + 1, 1, none⟩ = false := (kf 1).trans (by simp [go_sem, *])
  have c9_2_2 : v9.cell? ⟨w.heap.size + 1 + 1, 2, none⟩ = some (.int .i64 n) := (kc 2).trans (by simp [go_sem, *])
  have f9_2_2 : v9.frozen? ⟨w.heap.size + 1 + 1, 2, none⟩ = false := (kf 2).trans (by simp [go_sem, *])
  have c9_2_3 : v9.cell? ⟨w.heap.size + 1 + 1, 3, none⟩ = some (.int .i64 m) := (kc 3).trans (by simp [go_sem, *])
  have f9_2_3 : v9.frozen? ⟨w.heap.size + 1 + 1, 3, none⟩ = false := (kf 3).trans (by simp [go_sem, *])
  have c9_2_4 : v9.cell? ⟨w.heap.size + 1 + 1, 4, none⟩ = some (.string s) := (kc 4).trans (by simp [go_sem, *])
  have f9_2_4 : v9.frozen? ⟨w.heap.size + 1 + 1, 4, none⟩ = false := (kf 4).trans (by simp [go_sem, *])
  have c9_2_5 : v9.cell? ⟨w.heap.size + 1 + 1, 5, none⟩ = some (.slice a l c) := (kc 5).trans (by simp [go_sem, *])
  have f9_2_5 : v9.frozen? ⟨w.heap.size + 1 + 1, 5, none⟩ = false := (kf 5).trans (by simp [go_sem, *])
  clear kc kf
  obtain ⟨k9_3, kc, kf⟩ := keepB h9 (v2.heap.size) (by first | omega | (simp; omega) | (simp; done))
  have c9_3_0 : v9.cell? ⟨v2.heap.size, 0, none⟩ = some (.int .i64 al) := (kc 0).trans (by simp [go_sem, *])
  have f9_3_0 : v9.frozen? ⟨v2.heap.size, 0, none⟩ = false := (kf 0).trans (by simp [go_sem, *])
  have c9_3_1 : v9.cell? ⟨v2.heap.size, 1, none⟩ = some (.int .i64 ah) := (kc 1).trans (by simp [go_sem, *])
  have f9_3_1 : v9.frozen? ⟨v2.heap.size, 1, none⟩ = false := (kf 1).trans (by simp [go_sem, *])
  clear kc kf
  obtain ⟨k9_4, kc, kf⟩ := keepB h9 (v3.heap.size) (by first | omega | (simp; omega) | (simp; done))
  have c9_4_0 : v9.cell? ⟨v3.heap.size, 0, none⟩ = some (.int .i64 bl) := (kc 0).trans (by simp [go_sem, *])
  have f9_4_0 : v9.frozen? ⟨v3.heap.size, 0, none⟩ = false := (kf 0).trans (by simp [go_sem, *])
  have c9_4_1 : v9.cell? ⟨v3.heap.size, 1, none⟩ = some (.int .i64 bh) := (kc 1).trans (by simp [go_sem, *])
  have f9_4_1 : v9.frozen? ⟨v3.heap.size, 1, none⟩ = false := (kf 1).trans (by simp [go_sem, *])
  clear kc kf
  obtain ⟨k9_5, kc, kf⟩ := keepB h9 (v4.heap.size) (by first | omega | (simp; omega) | (simp; done))
  have c9_5_0 : v9.cell? ⟨v4.heap.size, 0, none⟩ = some (.int .i64 (Sp.sub al ah bl bh).lo) := (kc 0).trans (by simp [go_sem, *])
  have f9_5_0 : v9.frozen? ⟨v4.heap.size, 0, none⟩ = false := (kf 0).trans (by simp [go_sem, *])
  have c9_5_1 : v9.cell? ⟨v4.heap.size, 1, none⟩ = some (.int .i64 (Sp.sub al ah bl bh).hi) := (kc 1).trans (by simp [go_sem, *])
  have f9_5_1 : v9.frozen? ⟨v4.heap.size, 1, none⟩ = false := (kf 1).trans (by simp [go_sem, *])
  clear kc kf
  obtain ⟨k9_6, kc, kf⟩ := keepB h9 (v5.heap.size) (by first | omega | (simp; omega) | (simp; done))
  have c9_6_0 : v9.cell? ⟨v5.heap.size, 0, none⟩ = some (.int .i64 (Sp.sub al ah bl bh).lo) := (kc 0).trans (by simp [go_sem, *])
  have f9_6_0 : v9.frozen? ⟨v5.heap.size, 0, none⟩ = false := (kf 0).trans (by simp [go_sem, *])
  have c9_6_1 : v9.cell? ⟨v5.heap.size, 1, none⟩ = some (.int .i64 (Sp.sub al ah bl bh).hi) := (kc 1).trans (by simp [go_sem, *])
  have f9_6_1 : v9.frozen? ⟨v5.heap.size, 1, none⟩ = false := (kf 1).trans (by simp [go_sem, *])
  clear kc kf
  clear c8_0_0 f8_0_0 c8_0_1 f8_0_1 c8_1_0 f8_1_0 c8_1_1 f8_1_1 c8_2_0 f8_2_0 c8_2_1 f8_2_1 c8_2_2 f8_2_2 c8_2_3 f8_2_3 c8_2_4 f8_2_4 c8_2_5 f8_2_5 c8_3_0 f8_3_0 c8_3_1 f8_3_1 c8_4_0 f8_4_0 c8_4_1 f8_4_1 c8_5_0 f8_5_0 c8_5_1 f8_5_1 c8_6_0 f8_6_0 c8_6_1 f8_6_1
  go_wp2_with fail
  refine (mul_any _ _ _ _ _).mono ?_
  rintro e v10 ⟨rfl, h10⟩
  have z10 := h10.size
  try simp at z10
  have hB10 : Below w.heap.size w v10 := Below.call (w := w) (by repeat (first | (with_reducible exact Below.refl _ _) | (with_reducible assumption) | refine Below.setCell ?_ (by first | omega | (simp; omega) | (simp; done)) _ | refine Below.alloc ?_ (by first | omega | (simp; omega) | (simp; done)) _ | refine Below.drew ?_)) h10
  obtain ⟨k10_0, kc, kf⟩ := keepB h10 (w.heap.size) (by first | omega | (simp; omega) | (simp; done))
  have c10_0_0 : v10.cell? ⟨w.heap.size, 0, none⟩ = some (.int .i64 al) := (kc 0).trans (by simp [go_sem, *])
  have f10_0_0 : v10.frozen? ⟨w.heap.size, 0, none⟩ = false := (kf 0).trans (by simp [go_sem, *])
  have c10_0_1 : v10.cell? ⟨w.heap.size, 1, none⟩ = some (.int .i64 ah) := (kc 1).trans (by simp [go_sem, *])
  have f10_0_1 : v10.frozen? ⟨w.heap.size, 1, none⟩ = false := (kf 1).trans (by simp [go_sem, *])
  clear kc kf
  obtain ⟨k10_1, kc, kf⟩ := keepB h10 (w.heap.size + 1) (by first | omega | (simp; omega) | (simp; done))
  have c10_1_0 : v10.cell? ⟨w.heap.size + 1, 0, none⟩ = some (.int .i64 bl) := (kc 0).trans (by simp [go_sem, *])
  have f10_1_0 : v10.frozen? ⟨w.heap.size + 1, 0, none⟩ = false := (kf 0).trans (by simp [go_sem, *])
  have c10_1_1 : v10.cell? ⟨w.heap.size + 1, 1, none⟩ = some (.int .i64 bh) := (kc 1).trans (by simp [go_sem, *])
  have f10_1_1 : v10.frozen? ⟨w.heap.size + 1, 1, none⟩ = false := (kf 1).trans (by simp [go_sem, *])
  clear kc kf
  obtain ⟨k10_2, kc, kf⟩ := keepB h10 (w.heap.size + 1 + 1) (by first | omega | (simp; omega) | (simp; done))
  have c10_2_0 : v10.cell? ⟨w.heap.size + 1 + 1, 0, none⟩ = some (.int .i64 k) := (kc 0).trans (by simp [go_sem, *])
  have f10_2_0 : v10.frozen? ⟨w.heap.size + 1 + 1, 0, none⟩ = false := (kf 0).trans (by simp [go_sem, *])
  have c10_2_1 : v10.cell? ⟨w.heap.size + 1 + 1, 1, none⟩ = some (.string t) := (kc 1).trans (by simp [go_sem, *])
  have f10_2_1 : v10.frozen? ⟨w.heap.size + 1 + 1, 1, none⟩ = false := (kf 1).trans (by simp [go_sem, *])
  have c10_2_2 : v10.cell? ⟨w.heap.size + 1 + 1, 2, none⟩ = some (.int .i64 n) := (kc 2).trans (by simp [go_sem, *])
  have f10_2_2 : v10.frozen? ⟨w.heap.size + 1 + 1, 2, none⟩ = false := (kf 2).trans (by simp [go_sem, *])
  have c10_2_3 : v10.cell? ⟨w.heap.size + 1 + 1, 3, none⟩ = some (.int .i64 m) := (kc 3).trans (by simp [go_sem, *])
  have f10_2_3 : v10.frozen? ⟨w.heap.size + 1 + 1, 3, none⟩ = false := (kf 3).trans (by simp [go_sem, *])
  have c10_2_4 : v10.cell? ⟨w.heap.size + 1 + 1, 4, none⟩ = some (.string s) := (kc 4).trans (by simp [go_sem, *])
  have f10_2_4 : v10.frozen? ⟨w.heap.size + 1 + 1, 4, none⟩ = false := (kf 4).trans (by simp [go_sem, *])
  have c10_2_5 : v10.cell? ⟨w.heap.size + 1 + 1, 5, none⟩ = some (.slice a l c) := (kc 5).trans (by simp [go_sem, *])
  have f10_2_5 : v10.frozen? ⟨w.heap.size + 1 + 1, 5, none⟩ = false := (kf 5).trans (by simp [go_sem, *])
  clear kc kf
  obtain ⟨k10_3, kc, kf⟩ := keepB h10 (v2.heap.size) (by first | omega | (simp; omega) | (simp; done))
  have c10_3_0 : v10.cell? ⟨v2.heap.size, 0, none⟩ = some (.int .i64 al) := (kc 0).trans (by simp [go_sem, *])
  have f10_3_0 : v10.frozen? ⟨v2.heap.size, 0, none⟩ = false := (kf 0).trans (by simp [go_sem, *])
  have c10_3_1 : v10.cell? ⟨v2.heap.size, 1, none⟩ = some (.int .i64 ah) := (kc 1).trans (by simp [go_sem, *])
  have f10_3_1 : v10.frozen? ⟨v2.heap.size, 1, none⟩ = false := (kf 1).trans (by simp [go_sem, *])
  clear kc kf
  obtain ⟨k10_4, kc, kf⟩ := keepB h10 (v3.heap.size) (by first | omega | (simp; omega) | (simp; done))
  have c10_4_0 : v10.cell? ⟨v3.heap.size, 0, none⟩ = some (.int .i64 bl) := (kc 0).trans (by simp [go_sem, *])
  have f10_4_0 : v10.frozen? ⟨v3.heap.size, 0, none⟩ = false := (kf 0).trans (by simp [go_sem, *])
  have c10_4_1 : v10.cell? ⟨v3.heap.size, 1, none⟩ = some (.int .i64 bh) := (kc 1).trans (by simp [go_sem, *])
  have f10_4_1 : v10.frozen? ⟨v3.heap.size, 1, none⟩ = false := (kf 1).trans (by simp [go_sem, *])
  clear kc kf
  obtain ⟨k10_5, kc, kf⟩ := keepB h10 (v4.heap.size) (by first | omega | (simp; omega) | (simp; done))
  have c10_5_0 : v10.cell? ⟨v4.heap.size, 0, none⟩ = some (.int .i64 (Sp.sub al ah bl bh).lo) := (kc 0).trans (by simp [go_sem, *])
  have f10_5_0 : v10.frozen? ⟨v4.heap.size, 0, none⟩ = false := (kf 0).trans (by simp [go_sem, *])
  have c10_5_1 : v10.cell? ⟨v4.heap.size, 1, none⟩ = some (.int .i64 (Sp.sub al ah bl bh).hi) := (kc 1).trans (by simp [go_sem, *])
  have f10_5_1 : v10.frozen? ⟨v4.heap.size, 1, none⟩ = false := (kf 1).trans (by simp [go_sem, *])
  clear kc kf
  obtain ⟨k10_6, kc, kf⟩ := keepB h10 (v5.heap.size) (by first | omega | (simp; omega) | (simp; done))
  have c10_6_0 : v10.cell? ⟨v5.heap.size, 0, none⟩ = some (.int .i64 (Sp.sub al ah bl bh).lo) := (kc 0).trans (by simp [go_sem, *])
  have f10_6_0 : v10.frozen? ⟨v5.heap.size, 0, none⟩ = false := (kf 0).trans (by simp [go_sem, *])
  have c10_6_1 : v10.cell? ⟨v5.heap.size, 1, none⟩ = some (.int .i64 (Sp.sub al ah bl bh).hi) := (kc 1).trans (by simp [go_sem, *])
  have f10_6_1 : v10.frozen? ⟨v5.heap.size, 1, none⟩ = false := (kf 1).trans (by simp [go_sem, *])
  clear kc kf
  clear c9_0_0 f9_0_0 c9_0_1 f9_0_1 c9_1_0 f9_1_0 c9_1_1 f9_1_1 c9_2_0 f9_2_0 c9_2_1 f9_2_1 c9_2_2 f9_2_2 c9_2_3 f9_2_3 c9_2_4 f9_2_4 c9_2_5 f9_2_5 c9_3_0 f9_3_0 c9_3_1 f9_3_1 c9_4_0 f9_4_0 c9_4_1 f9_4_1 c9_5_0 f9_5_0 c9_5_1 f9_5_1 c9_6_0 f9_6_0 c9_6_1 f9_6_1
  go_wp2_with fail
  refine (rmul_any _ _ _ _ _).mono ?_
  rintro e v11 ⟨rfl, h11⟩
  have z11 := h11.size
  try simp at z11
  have hB11 : Below w.heap.size w v11 := Below.call (w := w) (by repeat (first | (with_reducible exact Below.refl _ _) | (with_reducible assumption) | refine Below.setCell ?_ (by first | omega | (simp; omega) | (simp; done)) _ | refine Below.alloc ?_ (by first | omega | (simp; omega) | (simp; done)) _ | refine Below.drew ?_)) h11
  obtain ⟨k11_0, kc, kf⟩ := keepB h11 (w.heap.size) (by first | omega | (simp; omega) | (simp; done))
  have c11_0_0 : v11.cell? ⟨w.heap.size, 0, none⟩ = some (.int .i64 al) := (kc 0).trans (by simp [go_sem, *])
  have f11_0_0 : v11.frozen? ⟨w.heap.size, 0, none⟩ = false := (kf 0).trans (by simp [go_sem, *])
  have c11_0_1 : v11.cell? ⟨w.heap.size, 1, none⟩ = some (.int .i64 ah) := (kc 1).trans (by simp [go_sem, *])
  have f11_0_1 : v11.frozen? ⟨w.heap.size, 1, none⟩ = false := (kf 1).trans (by simp [go_sem, *])
  clear kc kf
  obtain ⟨k11_1, kc, kf⟩ := keepB h11 (w.heap.size + 1) (by first | omega | (simp; omega) | (simp; done))
  have c11_1_0 : v11.cell? ⟨w.heap.size + 1, 0, none⟩ = some (.int .i64 bl) := (kc 0).trans (by simp [go_sem, *])
  have f11_1_0 : v11.frozen? ⟨w.heap.size + 1, 0, none⟩ = false := (kf 0).trans (by simp [go_sem, *])
  have c11_1_1 : v11.cell? ⟨w.heap.size + 1, 1, none⟩ = some (.int .i64 bh) := (kc 1).trans (by simp [go_sem, *])
  have f11_1_1 : v11.frozen? ⟨w.heap.size + 1, 1, none⟩ = false := (kf 1).trans (by simp [go_sem, *])
  clear kc kf
  obtain ⟨k11_2, kc, kf⟩ := keepB h11 (w.heap.size + 1 + 1) (by first | omega | (simp; omega) | (simp; done))
  have c11_2_0 : v11.cell? ⟨w.heap.size + 1 + 1, 0, none⟩ = some (.int .i64 k) := (kc 0).trans (by simp [go_sem, *])
  have f11_2_0 : v11.frozen? ⟨w.heap.size + 1 + 1, 0, none⟩ = false := (kf 0).trans (by simp [go_sem, *])
  have c11_2_1 : v11.cell? ⟨w.heap.size + 1 + 1, 1, none⟩ = some (.string t) := (kc 1).trans (by simp [go_sem, *])
  have f11_2_1 : v11.frozen? ⟨w.heap.size + 1 + 1, 1, none⟩ = false := (kf 1).trans (by simp [go_sem, *])
  have c11_2_2 : v11.cell? ⟨w.heap.size + 1 + 1, 2, none⟩ = some (.int .i64 n) := (kc 2).trans (by simp [go_sem, *])
  have f11_2_2 : v11.frozen? ⟨w.heap.size + 1 + 1, 2, none⟩ = false := (kf 2).trans (by simp [go_sem, *])
  have c11_2_3 : v11.cell? ⟨w.heap.size + 1 + 1, 3, none⟩ = some (.int .i64 m) := (kc 3).trans (by simp [go_sem, *])
  have f11_2_3 : v11.frozen? ⟨w.heap.size + 1 + 1, 3, none⟩ = false := (kf 3).trans (by simp [go_sem, *])
  have c11_2_4 : v11.cell? ⟨w.heap.size + 1 + 1, 4, none⟩ = some (.string s) := (kc 4).trans (by simp [go_sem, *])
  have f11_2_4 : v11.frozen? ⟨w.heap.size + 1 + 1, 4, none⟩ = false := (kf 4).trans (by simp [go_sem, *])
  have c11_2_5 : v11.cell? ⟨w.heap.size + 1 + 1, 5, none⟩ = some (.slice a l c) := (kc 5).trans (by simp [go_sem, *])
  have f11_2_5 : v11.frozen? ⟨w.heap.size + 1 + 1, 5, none⟩ = false := (kf 5).trans (by simp [go_sem, *])
  clear kc kf
  obtain ⟨k11_3, kc, kf⟩ := keepB h11 (v2.heap.size) (by first | omega | (simp; omega) | (simp; done))
  have c11_3_0 : v11.cell? ⟨v2.heap.size, 0, none⟩ = some (.int .i64 al) := (kc 0).trans (by simp [go_sem, *])
  have f11_3_0 : v11.frozen? ⟨v2.heap.size, 0, none⟩ = false := (kf 0).trans (by simp [go_sem, *])
  have c11_3_1 : v11.cell? ⟨v2.heap.size, 1, none⟩ = some (.int .i64 ah) := (kc 1).trans (by simp [go_sem, *])
  have f11_3_1 : v11.frozen? ⟨v2.heap.size, 1, none⟩ = false := (kf 1).trans (by simp [go_sem, *])
  clear kc kf
  obtain ⟨k11_4, kc, kf⟩ := keepB h11 (v3.heap.size) (by first | omega | (simp; omega) | (simp; done))
  have c11_4_0 : v11.cell? ⟨v3.heap.size, 0, none⟩ = some (.int .i64 bl) := (kc 0).trans (by simp [go_sem, *])
  have f11_4_0 : v11.frozen? ⟨v3.heap.size, 0, none⟩ = false := (kf 0).trans (by simp [go_sem, *])
  have c11_4_1 : v11.cell? ⟨v3.heap.size, 1, none⟩ = some (.int .i64 bh) := (kc 1).trans (by simp [go_sem, *])
  have f11_4_1 : v11.frozen? ⟨v3.heap.size, 1, none⟩ = false := (kf 1).trans (by simp [go_sem, *])
  clear kc kf
  obtain ⟨k11_5, kc, kf⟩ := keepB h11 (v4.heap.size) (by first | omega | (simp; omega) | (simp; done))
  have c11_5_0 : v11.cell? ⟨v4.heap.size, 0, none⟩ = some (.int .i64 (Sp.mul al ah bl bh).lo) := (kc 0).trans (by simp [go_sem, *])
  have f11_5_0 : v11.frozen? ⟨v4.heap.size, 0, none⟩ = false := (kf 0).trans (by simp [go_sem, *])
  have c11_5_1 : v11.cell? ⟨v4.heap.size, 1, none⟩ = some (.int .i64 (Sp.mul al ah bl bh).hi) := (kc 1).trans (by simp [go_sem, *])
  have f11_5_1 : v11.frozen? ⟨v4.heap.size, 1, none⟩ = false := (kf 1).trans (by simp [go_sem, *])
  clear kc kf
  obtain ⟨k11_6, kc, kf⟩ := keepB h11 (v5.heap.size) (by first | omega | (simp; omega) | (simp; done))
  have c11_6_0 : v11.cell? ⟨v5.heap.size, 0, none⟩ = some (.int .i64 (Sp.sub al ah bl bh).lo) := (kc 0).trans (by simp [go_sem, *])
  have f11_6_0 : v11.frozen? ⟨v5.heap.size, 0, none⟩ = false := (kf 0).trans (by simp [go_sem, *])
  have c11_6_1 : v11.cell? ⟨v5.heap.size, 1, none⟩ = some (.int .i64 (Sp.sub al ah bl bh).hi) := (kc 1).trans (by simp [go_sem, *])
  have f11_6_1 : v11.frozen? ⟨v5.heap.size, 1, none⟩ = false := (kf 1).trans (by simp [go_sem, *])
  clear kc kf
  clear c10_0_0 f10_0_0 c10_0_1 f10_0_1 c10_1_0 f10_1_0 c10_1_1 f10_1_1 c10_2_0 f10_2_0 c10_2_1 f10_2_1 c10_2_2 f10_2_2 c10_2_3 f10_2_3 c10_2_4 f10_2_4 c10_2_5 f10_2_5 c10_3_0 f10_3_0 c10_3_1 f10_3_1 c10_4_0 f10_4_0 c10_4_1 f10_4_1 c10_5_0 f10_5_0 c10_5_1 f10_5_1 c10_6_0 f10_6_0 c10_6_1 f10_6_1
  go_wp2_with fail
  refine (alike_any _ _ _ _).mono ?_
  rintro e v12 ⟨rfl, h12⟩
  have z12 := h12.size
  try simp at z12
  have hB12 : Below w.heap.size w v12 := Below.call (w := w) (by repeat (first | (with_reducible exact Below.refl _ _) | (with_reducible assumption) | refine Below.setCell ?_ (by first | omega | (simp; omega) | (simp; done)) _ | refine Below.alloc ?_ (by first | omega | (simp; omega) | (simp; done)) _ | refine Below.drew ?_)) h12
  obtain ⟨k12_0, kc, kf⟩ := keepB h12 (w.heap.size) (by first | omega | (simp; omega) | (simp; done))
  have c12_0_0 : v12.cell? ⟨w.heap.size, 0, none⟩ = some (.int .i64 al) := (kc 0).trans (by simp [go_sem, *])
  have f12_0_0 : v12.frozen? ⟨w.heap.size, 0, none⟩ = false := (kf 0).trans (by simp [go_sem, *])
  have c12_0_1 : v12.cell? ⟨w.heap.size, 1, none⟩ = some (.int .i64 ah) := (kc 1).trans (by simp [go_sem, *])
  have f12_0_1 : v12.frozen? ⟨w.heap.size, 1, none⟩ = false := (kf 1).trans (by simp [go_sem, *])
  clear kc kf
  obtain ⟨k12_1, kc, kf⟩ := keepB h12 (w.heap.size + 1) (by first | omega | (simp; omega) | (simp; done))
  have c12_1_0 : v12.cell? ⟨w.heap.size + 1, 0, none⟩ = some (.int .i64 bl) := (kc 0).trans (by simp [go_sem, *])
  have f12_1_0 : v12.frozen? ⟨w.heap.size + 1, 0, none⟩ = false := (kf 0).trans (by simp [go_sem, *])
  have c12_1_1 : v12.cell? ⟨w.heap.size + 1, 1, none⟩ = some (.int .i64 bh) := (kc 1).trans (by simp [go_sem, *])
  have f12_1_1 : v12.frozen? ⟨w.heap.size + 1, 1, none⟩ = false := (kf 1).trans (by simp [go_sem, *])
  clear kc kf
  obtain ⟨k12_2, kc, kf⟩ := keepB h12 (w.heap.size + 1 + 1) (by first | omega | (simp; omega) | (simp; done))
  have c12_2_0 : v12.cell? ⟨w.heap.size + 1 + 1, 0, none⟩ = some (.int .i64 k) := (kc 0).trans (by simp [go_sem, *])
  have f12_2_0 : v12.frozen? ⟨w.heap.size + 1 + 1, 0, none⟩ = false := (kf 0).trans (by simp [go_sem, *])
  have c12_2_1 : v12.cell? ⟨w.heap.size + 1 + 1, 1, none⟩ = some (.string t) := (kc 1).trans (by simp [go_sem, *])
  have f12_2_1 : v12.frozen? ⟨w.heap.size + 1 + 1, 1, none⟩ = false := (kf 1).trans (by simp [go_sem, *])
  have c12_2_2 : v12.cell? ⟨w.heap.size + 1 + 1, 2, none⟩ = some (.int .i64 n) := (kc 2).trans (by simp [go_sem, *])
  have f12_2_2 : v12.frozen? ⟨w.heap.size + 1 + 1, 2, none⟩ = false := (kf 2).trans (by simp [go_sem, *])
  have c12_2_3 : v12.cell? ⟨w.heap.size + 1 + 1, 3, none⟩ = some (.int .i64 m) := (kc 3).trans (by simp [go_sem, *])
  have f12_2_3 : v12.frozen? ⟨w.heap.size + 1 + 1, 3, none⟩ = false := (kf 3).trans (by simp [go_sem, *])
  have c12_2_4 : v12.cell? ⟨w.heap.size + 1 + 1, 4, none⟩ = some (.string s) := (kc 4).trans (by simp [go_sem, *])
  have f12_2_4 : v12.frozen? ⟨w.heap.size + 1 + 1, 4, none⟩ = false := (kf 4).trans (by simp [go_sem, *])
  have c12_2_5 : v12.cell? ⟨w.heap.size + 1 + 1, 5, none⟩ = some (.slice a l c) := (kc 5).trans (by simp [go_sem, *])
  have f12_2_5 : v12.frozen? ⟨w.heap.size + 1 + 1, 5, none⟩ = false := (kf 5).trans (by simp [go_sem, *])
  clear kc kf
  obtain ⟨k12_3, kc, kf⟩ := keepB h12 (v2.heap.size) (by first | omega | (simp; omega) | (simp; done))
  have c12_3_0 : v12.cell? ⟨v2.heap.size, 0, none⟩ = some (.int .i64 al) := (kc 0).trans (by simp [go_sem, *])
  have f12_3_0 : v12.frozen? ⟨v2.heap.size, 0, none⟩ = false := (kf 0).trans (by simp [go_sem, *])
  have c12_3_1 : v12.cell? ⟨v2.heap.size, 1, none⟩ = some (.int .i64 ah) := (kc 1).trans (by simp [go_sem, *])
  have f12_3_1 : v12.frozen? ⟨v2.heap.size, 1, none⟩ = false := (kf 1).trans (by simp [go_sem, *])
  clear kc kf
  obtain ⟨k12_4, kc, kf⟩ := keepB h12 (v3.heap.size) (by first | omega | (simp; omega) | (simp; done))
  have c12_4_0 : v12.cell? ⟨v3.heap.size, 0, none⟩ = some (.int .i64 bl) := (kc 0).trans (by simp [go_sem, *])
  have f12_4_0 : v12.frozen? ⟨v3.heap.size, 0, none⟩ = false := (kf 0).trans (by simp [go_sem, *])
  have c12_4_1 : v12.cell? ⟨v3.heap.size, 1, none⟩ = some (.int .i64 bh) := (kc 1).trans (by simp [go_sem, *])
  have f12_4_1 : v12.frozen? ⟨v3.heap.size, 1, none⟩ = false := (kf 1).trans (by simp [go_sem, *])
  clear kc kf
  obtain ⟨k12_5, kc, kf⟩ := keepB h12 (v4.heap.size) (by first | omega | (simp; omega) | (simp; done))
  have c12_5_0 : v12.cell? ⟨v4.heap.size, 0, none⟩ = some (.int .i64 (Sp.mul al ah bl bh).lo) := (kc 0).trans (by simp [go_sem, *])
  have f12_5_0 : v12.frozen? ⟨v4.heap.size, 0, none⟩ = false := (kf 0).trans (by simp [go_sem, *])
  have c12_5_1 : v12.cell? ⟨v4.heap.size, 1, none⟩ = some (.int .i64 (Sp.mul al ah bl bh).hi) := (kc 1).trans (by simp [go_sem, *])
  have f12_5_1 : v12.frozen? ⟨v4.heap.size, 1, none⟩ = false := (kf 1).trans (by simp [go_sem, *])
  clear kc kf
  obtain ⟨k12_6, kc, kf⟩ := keepB h12 (v5.heap.size) (by first | omega | (simp; omega) | (simp; done))
  have c12_6_0 : v12.cell? ⟨v5.heap.size, 0, none⟩ = some (.int .i64 (Sp.mul al ah bl bh).lo) := (kc 0).trans (by simp [go_sem, *])
  have f12_6_0 : v12.frozen? ⟨v5.heap.size, 0, none⟩ = false := (kf 0).trans (by simp [go_sem, *])
  have c12_6_1 : v12.cell? ⟨v5.heap.size, 1, none⟩ = some (.int .i64 (Sp.mul al ah bl bh).hi) := (kc 1).trans (by simp [go_sem, *])
  have f12_6_1 : v12.frozen? ⟨v5.heap.size, 1, none⟩ = false := (kf 1).trans (by simp [go_sem, *])
  clear kc kf
  clear c11_0_0 f11_0_0 c11_0_1 f11_0_1 c11_1_0 f11_1_0 c11_1_1 f11_1_1 c11_2_0 f11_2_0 c11_2_1 f11_2_1 c11_2_2 f11_2_2 c11_2_3 f11_2_3 c11_2_4 f11_2_4 c11_2_5 f11_2_5 c11_3_0 f11_3_0 c11_3_1 f11_3_1 c11_4_0 f11_4_0 c11_4_1 f11_4_1 c11_5_0 f11_5_0 c11_5_1 f11_5_1 c11_6_0 f11_6_0 c11_6_1 f11_6_1
  go_wp2_with fail
  refine (div_any _ _ _ _ _).mono ?_
  rintro e v13 ⟨rfl, h13⟩
  have z13 := h13.size
  try simp at z13
  have hB13 : Below w.heap.size w v13 := Below.call (w := w) (by repeat (first | (with_reducible exact Below.refl _ _) | (with_reducible assumption) | refine Below.setCell ?_ (by first | omega | (simp; omega) | (simp; done)) _ | refine Below.alloc ?_ (by first | omega | (simp; omega) | (simp; done)) _ | refine Below.drew ?_)) h13
  obtain ⟨k13_0, kc, kf⟩ := keepB h13 (w.heap.size) (by first | omega | (simp; omega) | (simp; done))
  have c13_0_0 : v13.cell? ⟨w.heap.size, 0, none⟩ = some (.int .i64 al) := (kc 0).trans (by simp [go_sem, *])
  have f13_0_0 : v13.frozen? ⟨w.heap.size, 0, none⟩ = false := (kf 0).trans (by simp [go_sem, *])
  have c13_0_1 : v13.cell? ⟨w.heap.size, 1, none⟩ = some (.int .i64 ah) := (kc 1).trans (by simp [go_sem, *])
  have f13_0_1 : v13.frozen? ⟨w.heap.size, 1, none⟩ = false := (kf 1).trans (by simp [go_sem, *])
  clear kc kf
  obtain ⟨k13_1, kc, kf⟩ := keepB h13 (w.heap.size + 1) (by first | omega | (simp; omega) | (simp; done))
  have c13_1_0 : v13.cell? ⟨w.heap.size + 1, 0, none⟩ = some (.int .i64 bl) := (kc 0).trans (by simp [go_sem, *])
  have f13_1_0 : v13.frozen? ⟨w.heap.size + 1, 0, none⟩ = false := (kf 0).trans (by simp [go_sem, *])
  have c13_1_1 : v13.cell? ⟨w.heap.size + 1, 1, none⟩ = some (.int .i64 bh) := (kc 1).trans (by simp [go_sem, *])
  have f13_1_1 : v13.frozen? ⟨w.heap.size + 1, 1, none⟩ = false := (kf 1).trans (by simp [go_sem, *])
  clear kc kf
  obtain ⟨k13_2, kc, kf⟩ := keepB h13 (w.heap.size + 1 + 1) (by first | omega | (simp; omega) | (simp; done))
  have c13_2_0 : v13.cell? ⟨w.heap.size + 1 + 1, 0, none⟩ = some (.int .i64 k) := (kc 0).trans (by simp [go_sem, *])
  have f13_2_0 : v13.frozen? ⟨w.heap.size + 1 + 1, 0, none⟩ = false := (kf 0).trans (by simp [go_sem, *])
  have c13_2_1 : v13.cell? ⟨w.heap.size + 1 + 1, 1, none⟩ = some (.string t) := (kc 1).trans (by simp [go_sem, *])
  have f13_2_1 : v13.frozen? ⟨w.heap.size + 1 + 1, 1, none⟩ = false := (kf 1).trans (by simp [go_sem, *])
  have c13_2_2 : v13.cell? ⟨w.heap.size + 1 + 1, 2, none⟩ = some (.int .i64 n) := (kc 2).trans (by simp [go_sem, *])
  have f13_2_2 : v13.frozen? ⟨w.heap.size + 1 + 1, 2, none⟩ = false := (kf 2).trans (by simp [go_sem, *])
  have c13_2_3 : v13.cell? ⟨w.heap.size + 1 + 1, 3, none⟩ = some (.int .i64 m) := (kc 3).trans (by simp [go_sem, *])
  have f13_2_3 : v13.frozen? ⟨w.heap.size + 1 + 1, 3, none⟩ = false := (kf 3).trans (by simp [go_sem, *])
  have c13_2_4 : v13.cell? ⟨w.heap.size + 1 + 1, 4, none⟩ = some (.string s) := (kc 4).trans (by simp [go_sem, *])
  have f13_2_4 : v13.frozen? ⟨w.heap.size + 1 + 1, 4, none⟩ = false := (kf 4).trans (by simp [go_sem, *])
  have c13_2_5 : v13.cell? ⟨w.heap.size + 1 + 1, 5, none⟩ = some (.slice a l c) := (kc 5).trans (by simp [go_sem, *])
  have f13_2_5 : v13.frozen? ⟨w.heap.size + 1 + 1, 5, none⟩ = false := (kf 5).trans (by simp [go_sem, *])
  clear kc kf
  obtain ⟨k13_3, kc, kf⟩ := keepB h13 (v2.heap.size) (by first | omega | (simp; omega) | (simp; done))
  have c13_3_0 : v13.cell? ⟨v2.heap.size, 0, none⟩ = some (.int .i64 al) := (kc 0).trans (by simp [go_sem, *])
  have f13_3_0 : v13.frozen? ⟨v2.heap.size, 0, none⟩ = false := (kf 0).trans (by simp [go_sem, *])
  have c13_3_1 : v13.cell? ⟨v2.heap.size, 1, none⟩ = some (.int .i64 ah) := (kc 1).trans (by simp [go_sem, *])
  have f13_3_1 : v13.frozen? ⟨v2.heap.size, 1, none⟩ = false := (kf 1).trans (by simp [go_sem, *])
  clear kc kf
  obtain ⟨k13_4, kc, kf⟩ := keepB h13 (v3.heap.size) (by first | omega | (simp; omega) | (simp; done))
  have c13_4_0 : v13.cell? ⟨v3.heap.size, 0, none⟩ = some (.int .i64 bl) := (kc 0).trans (by simp [go_sem, *])
  have f13_4_0 : v13.frozen? ⟨v3.heap.size, 0, none⟩ = false := (kf 0).trans (by simp [go_sem, *])
  have c13_4_1 : v13.cell? ⟨v3.heap.size, 1, none⟩ = some (.int .i64 bh) := (kc 1).trans (by simp [go_sem, *])
  have f13_4_1 : v13.frozen? ⟨v3.heap.size, 1, none⟩ = false := (kf 1).trans (by simp [go_sem, *])
  clear kc kf
  obtain ⟨k13_5, kc, kf⟩ := keepB h13 (v4.heap.size) (by first | omega | (simp; omega) | (simp; done))
  have c13_5_0 : v13.cell? ⟨v4.heap.size, 0, none⟩ = some (.int .i64 (Sp.mul al ah bl bh).lo) := (kc 0).trans (by simp [go_sem, *])
  have f13_5_0 : v13.frozen? ⟨v4.heap.size, 0, none⟩ = false := (kf 0).trans (by simp [go_sem, *])
  have c13_5_1 : v13.cell? ⟨v4.heap.size, 1, none⟩ = some (.int .i64 (Sp.mul al ah bl bh).hi) := (kc 1).trans (by simp [go_sem, *])
  have f13_5_1 : v13.frozen? ⟨v4.heap.size, 1, none⟩ = false := (kf 1).trans (by simp [go_sem, *])
  clear kc kf
  obtain ⟨k13_6, kc, kf⟩ := keepB h13 (v5.heap.size) (by first | omega | (simp; omega) | (simp; done))
  have c13_6_0 : v13.cell? ⟨v5.heap.size, 0, none⟩ = some (.int .i64 (Sp.mul al ah bl bh).lo) := (kc 0).trans (by simp [go_sem, *])
  have f13_6_0 : v13.frozen? ⟨v5.heap.size, 0, none⟩ = false := (kf 0).trans (by simp [go_sem, *])
  have c13_6_1 : v13.cell? ⟨v5.heap.size, 1, none⟩ = some (.int .i64 (Sp.mul al ah bl bh).hi) := (kc 1).trans (by simp [go_sem, *])
  have f13_6_1 : v13.frozen? ⟨v5.heap.size, 1, none⟩ = false := (kf 1).trans (by simp [go_sem, *])
  clear kc kf
  clear c12_0_0 f12_0_0 c12_0_1 f12_0_1 c12_1_0 f12_1_0 c12_1_1 f12_1_1 c12_2_0 f12_2_0 c12_2_1 f12_2_1 c12_2_2 f12_2_2 c12_2_3 f12_2_3 c12_2_4 f12_2_4 c12_2_5 f12_2_5 c12_3_0 f12_3_0 c12_3_1 f12_3_1 c12_4_0 f12_4_0 c12_4_1 f12_4_1 c12_5_0 f12_5_0 c12_5_1 f12_5_1 c12_6_0 f12_6_0 c12_6_1 f12_6_1
  go_wp2_with fail
  refine (rdiv_any _ _ _ _ _).mono ?_
  rintro e v14 ⟨rfl, h14⟩
  have z14 := h14.size
  try simp at z14
  have hB14 : Below w.heap.size w v14 := Below.call (w := w) (by repeat (first | (with_reducible exact Below.refl _ _) | (with_reducible assumption) | refine Below.setCell ?_ (by first | omega | (simp; omega) | (simp; done)) _ | refine Below.alloc ?_ (by first | omega | (simp; omega) | (simp; done)) _ | refine Below.drew ?_)) h14
  obtain ⟨k14_0, kc, kf⟩ := keepB h14 (w.heap.size) (by first | omega | (simp; omega) | (simp; done))
  have c14_0_0 : v14.cell? ⟨w.heap.size, 0, none⟩ = some (.int .i64 al) := (kc 0).trans (by simp [go_sem, *])
  have f14_0_0 : v14.frozen? ⟨w.heap.size, 0, none⟩ = false := (kf 0).trans (by simp [go_sem, *])
  have c14_0_1 : v14.cell? ⟨w.heap.size, 1, none⟩ = some (.int .i64 ah) := (kc 1).trans (by simp [go_sem, *])
  have f14_0_1 : v14.frozen? ⟨w.heap.size, 1, none⟩ = false := (kf 1).trans (by simp [go_sem, *])
  clear kc kf
  obtain ⟨k14_1, kc, kf⟩ := keepB h14 (w.heap.size + 1) (by first | omega | (simp; omega) | (simp; done))
  have c14_1_0 : v14.cell? ⟨w.heap.size + 1, 0, none⟩ = some (.int .i64 bl) := (kc 0).trans (by simp [go_sem, *])
  have f14_1_0 : v14.frozen? ⟨w.heap.size + 1, 0, none⟩ = false := (kf 0).trans (by simp [go_sem, *])
  have c14_1_1 : v14.cell? ⟨w.heap.size + 1, 1, none⟩ = some (.int .i64 bh) := (kc 1).trans (by simp [go_sem, *])
  have f14_1_1 : v14.frozen? ⟨w.heap.size + 1, 1, none⟩ = false := (kf 1).trans (by simp [go_sem, *])
  clear kc kf
  obtain ⟨k14_2, kc, kf⟩ := keepB h14 (w.heap.size + 1 + 1) (by first | omega | (simp; omega) | (simp; done))
  have c14_2_0 : v14.cell? ⟨w.heap.size + 1 + 1, 0, none⟩ = some (.int .i64 k) := (kc 0).trans (by simp [go_sem, *])
  have f14_2_0 : v14.frozen? ⟨w.heap.size + 1 + 1, 0, none⟩ = false := (kf 0).trans (by simp [go_sem, *])
  have c14_2_1 : v14.cell? ⟨w.heap.size + 1 + 1, 1, none⟩ = some (.string t) := (kc 1).trans (by simp [go_sem, *])
  have f14_2_1 : v14.frozen? ⟨w.heap.size + 1 + 1, 1, none⟩ = false := (kf 1).trans (by simp [go_sem, *])
  have c14_2_2 : v14.cell? ⟨w.heap.size + 1 + 1, 2, none⟩ = some (.int .i64 n) := (kc 2).trans (by simp [go_sem, *])
  have f14_2_2 : v14.frozen? ⟨w.heap.size + 1 + 1, 2, none⟩ = false := (kf 2).trans (by simp [go_sem, *])
  have c14_2_3 : v14.cell? ⟨w.heap.size + 1 + 1, 3, none⟩ = some (.int .i64 m) := (kc 3).trans (by simp [go_sem, *])
  have f14_2_3 : v14.frozen? ⟨w.heap.size + 1 + 1, 3, none⟩ = false := (kf 3).trans (by simp [go_sem, *])
  have c14_2_4 : v14.cell? ⟨w.heap.size + 1 + 1, 4, none⟩ = some (.string s) := (kc 4).trans (by simp [go_sem, *])
  have f14_2_4 : v14.frozen? ⟨w.heap.size + 1 + 1, 4, none⟩ = false := (kf 4).trans (by simp [go_sem, *])
  have c14_2_5 : v14.cell? ⟨w.heap.size + 1 + 1, 5, none⟩ = some (.slice a l c) := (kc 5).trans (by simp [go_sem, *])
  have f14_2_5 : v14.frozen? ⟨w.heap.size + 1 + 1, 5, none⟩ = false := (kf 5).trans (by simp [go_sem, *])
  clear kc kf
  obtain ⟨k14_3, kc, kf⟩ := keepB h14 (v2.heap.size) (by first | omega | (simp; omega) | (simp; done))
  have c14_3_0 : v14.cell? ⟨v2.heap.size, 0, none⟩ = some (.int .i64 al) := (kc 0).trans (by simp [go_sem, *])
  have f14_3_0 : v14.frozen? ⟨v2.heap.size, 0, none⟩ = false := (kf 0).trans (by simp [go_sem, *])
  have c14_3_1 : v14.cell? ⟨v2.heap.size, 1, none⟩ = some (.int .i64 ah) := (kc 1).trans (by simp [go_sem, *])
  have f14_3_1 : v14.frozen? ⟨v2.heap.size, 1, none⟩ = false := (kf 1).trans (by simp [go_sem, *])
  clear kc kf
  obtain ⟨k14_4, kc, kf⟩ := keepB h14 (v3.heap.size) (by first | omega | (simp; omega) | (simp; done))
  have c14_4_0 : v14.cell? ⟨v3.heap.size, 0, none⟩ = some (.int .i64 bl) := (kc 0).trans (by simp [go_sem, *])
  have f14_4_0 : v14.frozen? ⟨v3.heap.size, 0, none⟩ = false := (kf 0).trans (by simp [go_sem, *])
  have c14_4_1 : v14.cell? ⟨v3.heap.size, 1, none⟩ = some (.int .i64 bh) := (kc 1).trans (by simp [go_sem, *])
  have f14_4_1 : v14.frozen? ⟨v3.heap.size, 1, none⟩ = false := (kf 1).trans (by simp [go_sem, *])
  clear kc kf
  obtain ⟨k14_5, kc, kf⟩ := keepB h14 (v4.heap.size) (by first | omega | (simp; omega) | (simp; done))
  have c14_5_0 : v14.cell? ⟨v4.heap.size, 0, none⟩ = some (.int .i64 (Sp.div al ah bl bh).lo) := (kc 0).trans (by simp [go_sem, *])
  have f14_5_0 : v14.frozen? ⟨v4.heap.size, 0, none⟩ = false := (kf 0).trans (by simp [go_sem, *])
  have c14_5_1 : v14.cell? ⟨v4.heap.size, 1, none⟩ = some (.int .i64 (Sp.div al ah bl bh).hi) := (kc 1).trans (by simp [go_sem, *])
  have f14_5_1 : v14.frozen? ⟨v4.heap.size, 1, none⟩ = false := (kf 1).trans (by simp [go_sem, *])
  clear kc kf
  obtain ⟨k14_6, kc, kf⟩ := keepB h14 (v5.heap.size) (by first | omega | (simp; omega) | (simp; done))
  have c14_6_0 : v14.cell? ⟨v5.heap.size, 0, none⟩ = some (.int .i64 (Sp.mul al ah bl bh).lo) := (kc 0).trans (by simp [go_sem, *])
  have f14_6_0 : v14.frozen? ⟨v5.heap.size, 0, none⟩ = false := (kf 0).trans (by simp [go_sem, *])
  have c14_6_1 : v14.cell? ⟨v5.heap.size, 1, none⟩ = some (.int .i64 (Sp.mul al ah bl bh).hi) := (kc 1).trans (by simp [go_sem, *])
  have f14_6_1 : v14.frozen? ⟨v5.heap.size, 1, none⟩ = false := (kf 1).trans (by simp [go_sem, *])
  clear kc kf
  clear c13_0_0 f13_0_0 c13_0_1 f13_0_1 c13_1_0 f13_1_0 c13_1_1 f13_1_1 c13_2_0 f13_2_0 c13_2_1 f13_2_1 c13_2_2 f13_2_2 c13_2_3 f13_2_3 c13_2_4 f13_2_4 c13_2_5 f13_2_5 c13_3_0 f13_3_0 c13_3_1 f13_3_1 c13_4_0 f13_4_0 c13_4_1 f13_4_1 c13_5_0 f13_5_0 c13_5_1 f13_5_1 c13_6_0 f13_6_0 c13_6_1 f13_6_1
  go_wp2_with fail
  refine (alike_any _ _ _ _).mono ?_
  rintro e v15 ⟨rfl, h15⟩
  have z15 := h15.size
  try simp at z15
  have hB15 : Below w.heap.size w v15 := Below.call (w := w) (by repeat (first | (with_reducible exact Below.refl _ _) | (with_reducible assumption) | refine Below.setCell ?_ (by first | omega | (simp; omega) | (simp; done)) _ | refine Below.alloc ?_ (by first | omega | (simp; omega) | (simp; done)) _ | refine Below.drew ?_)) h15
  obtain ⟨k15_0, kc, kf⟩ := keepB h15 (w.heap.size) (by first | omega | (simp; omega) | (simp; done))
  have c15_0_0 : v15.cell? ⟨w.heap.size, 0, none⟩ = some (.int .i64 al) := (kc 0).trans (by simp [go_sem, *])
  have f15_0_0 : v15.frozen? ⟨w.heap.size, 0, none⟩ = false := (kf 0).trans (by simp [go_sem, *])
  have c15_0_1 : v15.cell? ⟨w.heap.size, 1, none⟩ = some (.int .i64 ah) := (kc 1).trans (by simp [go_sem, *])
  have f15_0_1 : v15.frozen? ⟨w.heap.size, 1, none⟩ = false := (kf 1).trans (by simp [go_sem, *])
  clear kc kf
  obtain ⟨k15_1, kc, kf⟩ := keepB h15 (w.heap.size + 1) (by first | omega | (simp; omega) | (simp; done))
  have c15_1_0 : v15.cell? ⟨w.heap.size + 1, 0, none⟩ = some (.int .i64 bl) := (kc 0).trans (by simp [go_sem, *])
  have f15_1_0 : v15.frozen? ⟨w.heap.size + 1, 0, none⟩ = false := (kf 0).trans (by simp [go_sem, *])
  have c15_1_1 : v15.cell? ⟨w.heap.size + 1, 1, none⟩ = some (.int .i64 bh) := (kc 1).trans (by simp [go_sem, *])
  have f15_1_1 : v15.frozen? ⟨w.heap.size + 1, 1, none⟩ = false := (kf 1).trans (by simp [go_sem, *])
  clear kc kf
  obtain ⟨k15_2, kc, kf⟩ := keepB h15 (w.heap.size + 1 + 1) (by first | omega | (simp; omega) | (simp; done))
  have c15_2_0 : v15.cell? ⟨w.heap.size + 1 + 1, 0, none⟩ = some (.int .i64 k) := (kc 0).trans (by simp [go_sem, *])
  have f15_2_0 : v15.frozen? ⟨w.heap.size + 1 + 1, 0, none⟩ = false := (kf 0).trans (by simp [go_sem, *])
  have c15_2_1 : v15.cell? ⟨w.heap.size + 1 + 1, 1, none⟩ = some (.string t) := (kc 1).trans (by simp [go_sem, *])
  have f15_2_1 : v15.frozen? ⟨w.heap.size + 1 + 1, 1, none⟩ = false := (kf 1).trans (by simp [go_sem, *])
  have c15_2_2 : v15.cell? ⟨w.heap.size + 1 + 1, 2, none⟩ = some (.int .i64 n) := (kc 2).trans (by simp [go_sem, *])
  have f15_2_2 : v15.frozen? ⟨w.heap.size + 1 + 1, 2, none⟩ = false := (kf 2).trans (by simp [go_sem, *])
  have c15_2_3 : v15.cell? ⟨w.heap.size + 1 + 1, 3, none⟩ = some (.int .i64 m) := (kc 3).trans (by simp [go_sem, *])
  have f15_2_3 : v15.frozen? ⟨w.heap.size + 1 + 1, 3, none⟩ = false := (kf 3).trans (by simp [go_sem, *])
  have c15_2_4 : v15.cell? ⟨w.heap.size + 1 + 1, 4, none⟩ = some (.string s) := (kc 4).trans (by simp [go_sem, *])
  have f15_2_4 : v15.frozen? ⟨w.heap.size + 1 + 1, 4, none⟩ = false := (kf 4).trans (by simp [go_sem, *])
  have c15_2_5 : v15.cell? ⟨w.heap.size + 1 + 1, 5, none⟩ = some (.slice a l c) := (kc 5).trans (by simp [go_sem, *])
  have f15_2_5 : v15.frozen? ⟨w.heap.size + 1 + 1, 5, none⟩ = false := (kf 5).trans (by simp [go_sem, *])
  clear kc kf
  obtain ⟨k15_3, kc, kf⟩ := keepB h15 (v2.heap.size) (by first | omega | (simp; omega) | (simp; done))
  have c15_3_0 : v15.cell? ⟨v2.heap.size, 0, none⟩ = some (.int .i64 al) := (kc 0).trans (by simp [go_sem, *])
  have f15_3_0 : v15.frozen? ⟨v2.heap.size, 0, none⟩ = false := (kf 0).trans (by simp [go_sem, *])
  have c15_3_1 : v15.cell? ⟨v2.heap.size, 1, none⟩ = some (.int .i64 ah) := (kc 1).trans (by simp [go_sem, *])
  have f15_3_1 : v15.frozen? ⟨v2.heap.size, 1, none⟩ = false := (kf 1).trans (by simp [go_sem, *])
  clear kc kf
  obtain ⟨k15_4, kc, kf⟩ := keepB h15 (v3.heap.size) (by first | omega | (simp; omega) | (simp; done))
  have c15_4_0 : v15.cell? ⟨v3.heap.size, 0, none⟩ = some (.int .i64 bl) := (kc 0).trans (by simp [go_sem, *])
  have f15_4_0 : v15.frozen? ⟨v3.heap.size, 0, none⟩ = false := (kf 0).trans (by simp [go_sem, *])
  have c15_4_1 : v15.cell? ⟨v3.heap.size, 1, none⟩ = some (.int .i64 bh) := (kc 1).trans (by simp [go_sem, *])
  have f15_4_1 : v15.frozen? ⟨v3.heap.size, 1, none⟩ = false := (kf 1).trans (by simp [go_sem, *])
  clear kc kf
  obtain ⟨k15_5, kc, kf⟩ := keepB h15 (v4.heap.size) (by first | omega | (simp; omega) | (simp; done))
  have c15_5_0 : v15.cell? ⟨v4.heap.size, 0, none⟩ = some (.int .i64 (Sp.div al ah bl bh).lo) := (kc 0).trans (by simp [go_sem, *])
  have f15_5_0 : v15.frozen? ⟨v4.heap.size, 0, none⟩ = false := (kf 0).trans (by simp [go_sem, *])
  have c15_5_1 : v15.cell? ⟨v4.heap.size, 1, none⟩ = some (.int .i64 (Sp.div al ah bl bh).hi) := (kc 1).trans (by simp [go_sem, *])
  have f15_5_1 : v15.frozen? ⟨v4.heap.size, 1, none⟩ = false := (kf 1).trans (by simp [go_sem, *])
  clear kc kf
  obtain ⟨k15_6, kc, kf⟩ := keepB h15 (v5.heap.size) (by first | omega | (simp; omega) | (simp; done))
  have c15_6_0 : v15.cell? ⟨v5.heap.size, 0, none⟩ = some (.int .i64 (Sp.div al ah bl bh).lo) := (kc 0).trans (by simp [go_sem, *])
  have f15_6_0 : v15.frozen? ⟨v5.heap.size, 0, none⟩ = false := (kf 0).trans (by simp [go_sem, *])
  have c15_6_1 : v15.cell? ⟨v5.heap.size, 1, none⟩ = some (.int .i64 (Sp.div al ah bl bh).hi) := (kc 1).trans (by simp [go_sem, *])
  have f15_6_1 : v15.frozen? ⟨v5.heap.size, 1, none⟩ = false := (kf 1).trans (by simp [go_sem, *])
  clear kc kf
  clear c14_0_0 f14_0_0 c14_0_1 f14_0_1 c14_1_0 f14_1_0 c14_1_1 f14_1_1 c14_2_0 f14_2_0 c14_2_1 f14_2_1 c14_2_2 f14_2_2 c14_2_3 f14_2_3 c14_2_4 f14_2_4 c14_2_5 f14_2_5 c14_3_0 f14_3_0 c14_3_1 f14_3_1 c14_4_0 f14_4_0 c14_4_1 f14_4_1 c14_5_0 f14_5_0 c14_5_1 f14_5_1 c14_6_0 f14_6_0 c14_6_1 f14_6_1
  go_wp2_with fail
  refine (mod_any _ _ _ _ _).mono ?_
  rintro e v16 ⟨rfl, h16⟩
  have z16 := h16.size
  try simp at z16
  have hB16 : Below w.heap.size w v16 := Below.call (w := w) (by repeat (first | (with_reducible exact Below.refl _ _) | (with_reducible assumption) | refine Below.setCell ?_ (by first | omega | (simp; omega) | (simp; done)) _ | refine Below.alloc ?_ (by first | omega | (simp; omega) | (simp; done)) _ | refine Below.drew ?_)) h16
  obtain ⟨k16_0, kc, kf⟩ := keepB h16 (w.heap.size) (by first | omega | (simp; omega) | (simp; done))
  have c16_0_0 : v16.cell? ⟨w.heap.size, 0, none⟩ = some (.int .i64 al) := (kc 0).trans (by simp [go_sem, *])
  have f16_0_0 : v16.frozen? ⟨w.heap.size, 0, none⟩ = false := (kf 0).trans (by simp [go_sem, *])
  have c16_0_1 : v16.cell? ⟨w.heap.size, 1, none⟩ = some (.int .i64 ah) := (kc 1).trans (by simp [go_sem, *])
  have f16_0_1 : v16.frozen? ⟨w.heap.size, 1, none⟩ = false := (kf 1).trans (by simp [go_sem, *])
  clear kc kf
  obtain ⟨k16_1, kc, kf⟩ := keepB h16 (w.heap.size + 1) (by first | omega | (simp; omega) | (simp; done))
  have c16_1_0 : v16.cell? ⟨w.heap.size + 1, 0, none⟩ = some (.int .i64 bl) := (kc 0).trans (by simp [go_sem, *])
  have f16_1_0 : v16.frozen? ⟨w.heap.size + 1, 0, none⟩ = false := (kf 0).trans (by simp [go_sem, *])
  have c16_1_1 : v16.cell? ⟨w.heap.size + 1, 1, none⟩ = some (.int .i64 bh) := (kc 1).trans (by simp [go_sem, *])
  have f16_1_1 : v16.frozen? ⟨w.heap.size + 1, 1, none⟩ = false := (kf 1).trans (by simp [go_sem, *])
  clear kc kf
  obtain ⟨k16_2, kc, kf⟩ := keepB h16 (w.heap.size + 1 + 1) (by first | omega | (simp; omega) | (simp; done))
  have c16_2_0 : v16.cell? ⟨w.heap.size + 1 + 1, 0, none⟩ = some (.int .i64 k) := (kc 0).trans (by simp [go_sem, *])
  have f16_2_0 : v16.frozen? ⟨w.heap.size + 1 + 1, 0, none⟩ = false := (kf 0).trans (by simp [go_sem, *])
  have c16_2_1 : v16.cell? ⟨w.heap.size + 1 + 1, 1, none⟩ = some (.string t) := (kc 1).trans (by simp [go_sem, *])
  have f16_2_1 : v16.frozen? ⟨w.heap.size + 1 + 1, 1, none⟩ = false := (kf 1).trans (by simp [go_sem, *])
  have c16_2_2 : v16.cell? ⟨w.heap.size + 1 + 1, 2, none⟩ = some (.int .i64 n) := (kc 2).trans (by simp [go_sem, *])
  have f16_2_2 : v16.frozen? ⟨w.heap.size + 1 + 1, 2, none⟩ = false := (kf 2).trans (by simp [go_sem, *])
  have c16_2_3 : v16.cell? ⟨w.heap.size + 1 + 1, 3, none⟩ = some (.int .i64 m) := (kc 3).trans (by simp [go_sem, *])
  have f16_2_3 : v16.frozen? ⟨w.heap.size + 1 + 1, 3, none⟩ = false := (kf 3).trans (by simp [go_sem, *])
  have c16_2_4 : v16.cell? ⟨w.heap.size + 1 + 1, 4, none⟩ = some (.string s) := (kc 4).trans (by simp [go_sem, *])
  have f16_2_4 : v16.frozen? ⟨w.heap.size + 1 + 1, 4, none⟩ = false := (kf 4).trans (by simp [go_sem, *])
  have c16_2_5 : v16.cell? ⟨w.heap.size + 1 + 1, 5, none⟩ = some (.slice a l c) := (kc 5).trans (by simp [go_sem, *])
  have f16_2_5 : v16.frozen? ⟨w.heap.size + 1 + 1, 5, none⟩ = false := (kf 5).trans (by simp [go_sem, *])
  clear kc kf
  obtain ⟨k16_3, kc, kf⟩ := keepB h16 (v2.heap.size) (by first | omega | (simp; omega) | (simp; done))
  have c16_3_0 : v16.cell? ⟨v2.heap.size, 0, none⟩ = some (.int .i64 al) := (kc 0).trans (by simp [go_sem, *])
  have f16_3_0 : v16.frozen? ⟨v2.heap.size, 0, none⟩ = false := (kf 0).trans (by simp [go_sem, *])
  have c16_3_1 : v16.cell? ⟨v2.heap.size, 1, none⟩ = some (.int .i64 ah) := (kc 1).trans (by simp [go_sem, *])
  have f16_3_1 : v16.frozen? ⟨v2.heap.size, 1, none⟩ = false := (kf 1).trans (by simp [go_sem, *])
  clear kc kf
  obtain ⟨k16_4, kc, kf⟩ := keepB h16 (v3.heap.size) (by first | omega | (simp; omega) | (simp; done))
  have c16_4_0 : v16.cell? ⟨v3.heap.size, 0, none⟩ = some (.int .i64 bl) := (kc 0).trans (by simp [go_sem, *])
  have f16_4_0 : v16.frozen? ⟨v3.heap.size, 0, none⟩ = false := (kf 0).trans (by simp [go_sem, *])
  have c16_4_1 : v16.cell? ⟨v3.heap.size, 1, none⟩ = some (.int .i64 bh) := (kc 1).trans (by simp [go_sem, *])
  have f16_4_1 : v16.frozen? ⟨v3.heap.size, 1, none⟩ = false := (kf 1).trans (by simp [go_sem, *])
  clear kc kf
  obtain ⟨k16_5, kc, kf⟩ := keepB h16 (v4.heap.size) (by first | omega | (simp; omega) | (simp; done))
  have c16_5_0 : v16.cell? ⟨v4.heap.size, 0, none⟩ = some (.int .i64 (Sp.div al ah bl bh).lo) := (kc 0).trans (by simp [go_sem, *])
  have f16_5_0 : v16.frozen? ⟨v4.heap.size, 0, none⟩ = false := (kf 0).trans (by simp [go_sem, *])
  have c16_5_1 : v16.cell? ⟨v4.heap.size, 1, none⟩ = some (.int .i64 (Sp.div al ah bl bh).hi) := (kc 1).trans (by simp [go_sem, *])
  have f16_5_1 : v16.frozen? ⟨v4.heap.size, 1, none⟩ = false := (kf 1).trans (by simp [go_sem, *])
  clear kc kf
  obtain ⟨k16_6, kc, kf⟩ := keepB h16 (v5.heap.size) (by first | omega | (simp; omega) | (simp; done))
  have c16_6_0 : v16.cell? ⟨v5.heap.size, 0, none⟩ = some (.int .i64 (Sp.div al ah bl bh).lo) := (kc 0).trans (by simp [go_sem, *])
  have f16_6_0 : v16.frozen? ⟨v5.heap.size, 0, none⟩ = false := (kf 0).trans (by simp [go_sem, *])
  have c16_6_1 : v16.cell? ⟨v5.heap.size, 1, none⟩ = some (.int .i64 (Sp.div al ah bl bh).hi) := (kc 1).trans (by simp [go_sem, *])
  have f16_6_1 : v16.frozen? ⟨v5.heap.size, 1, none⟩ = false := (kf 1).trans (by simp [go_sem, *])
  clear kc kf
  clear c15_0_0 f15_0_0 c15_0_1 f15_0_1 c15_1_0 f15_1_0 c15_1_1 f15_1_1 c15_2_0 f15_2_0 c15_2_1 f15_2_1 c15_2_2 f15_2_2 c15_2_3 f15_2_3 c15_2_4 f15_2_4 c15_2_5 f15_2_5 c15_3_0 f15_3_0 c15_3_1 f15_3_1 c15_4_0 f15_4_0 c15_4_1 f15_4_1 c15_5_0 f15_5_0 c15_5_1 f15_5_1 c15_6_0 f15_6_0 c15_6_1 f15_6_1
  go_wp2_with fail
  refine (rmod_any _ _ _ _ _).mono ?_
  rintro e v17 ⟨rfl, h17⟩
  have z17 := h17.size
  try simp at z17
  have hB17 : Below w.heap.size w v17 := Below.call (w := w) (by repeat (first | (with_reducible exact Below.refl _ _) | (with_reducible assumption) | refine Below.setCell ?_ (by first | omega | (simp; omega) | (simp; done)) _ | refine Below.alloc ?_ (by first | omega | (simp; omega) | (simp; done)) _ | refine Below.drew ?_)) h17
  obtain ⟨k17_0, kc, kf⟩ := keepB h17 (w.heap.size) (by first | omega | (simp; omega) | (simp; done))
  have c17_0_0 : v17.cell? ⟨w.heap.size, 0, none⟩ = some (.int .i64 al) := (kc 0).trans (by simp [go_sem, *])
  have f17_0_0 : v17.frozen? ⟨w.heap.size, 0, none⟩ = false := (kf 0).trans (by simp [go_sem, *])
  have c17_0_1 : v17.cell? ⟨w.heap.size, 1, none⟩ = some (.int .i64 ah) := (kc 1).trans (by simp [go_sem, *])
  have f17_0_1 : v17.frozen? ⟨w.heap.size, 1, none⟩ = false := (kf 1).trans (by simp [go_sem, *])
  clear kc kf
  obtain ⟨k17_1, kc, kf⟩ := keepB h17 (w.heap.size + 1) (by first | omega | (simp; omega) | (simp; done))
  have c17_1_0 : v17.cell? ⟨w.heap.size + 1, 0, none⟩ = some (.int .i64 bl) := (kc 0).trans (by simp [go_sem, *])
  have f17_1_0 : v17.frozen? ⟨w.heap.size + 1, 0, none⟩ = false := (kf 0).trans (by simp [go_sem, *])
  have c17_1_1 : v17.cell? ⟨w.heap.size + 1, 1, none⟩ = some (.int .i64 bh) := (kc 1).trans (by simp [go_sem, *])
  have f17_1_1 : v17.frozen? ⟨w.heap.size + 1, 1, none⟩ = false := (kf 1).trans (by simp [go_sem, *])
  clear kc kf
  obtain ⟨k17_2, kc, kf⟩ := keepB h17 (w.heap.size + 1 + 1) (by first | omega | (simp; omega) | (simp; done))
  have c17_2_0 : v17.cell? ⟨w.heap.size + 1 + 1, 0, none⟩ = some (.int .i64 k) := (kc 0).trans (by simp [go_sem, *])
  have f17_2_0 : v17.frozen? ⟨w.heap.size + 1 + 1, 0, none⟩ = false := (kf 0).trans (by simp [go_sem, *])
  have c17_2_1 : v17.cell? ⟨w.heap.size + 1 + 1, 1, none⟩ = some (.string t) := (kc 1).trans (by simp [go_sem, *])
  have f17_2_1 : v17.frozen? ⟨w.heap.size + 1 + 1, 1, none⟩ = false := (kf 1).trans (by simp [go_sem, *])
  have c17_2_2 : v17.cell? ⟨w.heap.size + 1 + 1, 2, none⟩ = some (.int .i64 n) := (kc 2).trans (by simp [go_sem, *])
  have f17_2_2 : v17.frozen? ⟨w.heap.size + 1 + 1, 2, none⟩ = false := (kf 2).trans (by simp [go_sem, *])
  have c17_2_3 : v17.cell? ⟨w.heap.size + 1 + 1, 3, none⟩ = some (.int .i64 m) := (kc 3).trans (by simp [go_sem, *])
  have f17_2_3 : v17.frozen? ⟨w.heap.size + 1 + 1, 3, none⟩ = false := (kf 3).trans (by simp [go_sem, *])
  have c17_2_4 : v17.cell? ⟨w.heap.size + 1 + 1, 4, none⟩ = some (.string s) := (kc 4).trans (by simp [go_sem, *])
  have f17_2_4 : v17.frozen? ⟨w.heap.size + 1 + 1, 4, none⟩ = false := (kf 4).trans (by simp [go_sem, *])
  have c17_2_5 : v17.cell? ⟨w.heap.size + 1 + 1, 5, none⟩ = some (.slice a l c) := (kc 5).trans (by simp [go_sem, *])
  have f17_2_5 : v17.frozen? ⟨w.heap.size + 1 + 1, 5, none⟩ = false := (kf 5).trans (by simp [go_sem, *])
  clear kc kf
  obtain ⟨k17_3, kc, kf⟩ := keepB h17 (v2.heap.size) (by first | omega | (simp; omega) | (simp; done))
  have c17_3_0 : v17.cell? ⟨v2.heap.size, 0, none⟩ = some (.int .i64 al) := (kc 0).trans (by simp [go_sem, *])
  have f17_3_0 : v17.frozen? ⟨v2.heap.size, 0, none⟩ = false := (kf 0).trans (by simp [go_sem, *])
  have c17_3_1 : v17.cell? ⟨v2.heap.size, 1, none⟩ = some (.int .i64 ah) := (kc 1).trans (by simp [go_sem, *])
  have f17_3_1 : v17.frozen? ⟨v2.heap.size, 1, none⟩ = false := (kf 1).trans (by simp [go_sem, *])
  clear kc kf
  obtain ⟨k17_4, kc, kf⟩ := keepB h17 (v3.heap.size) (by first | omega | (simp; omega) | (simp; done))
  have c17_4_0 : v17.cell? ⟨v3.heap.size, 0, none⟩ = some (.int .i64 bl) := (kc 0).trans (by simp [go_sem, *])
  have f17_4_0 : v17.frozen? ⟨v3.heap.size, 0, none⟩ = false := (kf 0).trans (by simp [go_sem, *])
  have c17_4_1 : v17.cell? ⟨v3.heap.size, 1, none⟩ = some (.int .i64 bh) := (kc 1).trans (by simp [go_sem, *])
  have f17_4_1 : v17.frozen? ⟨v3.heap.size, 1, none⟩ = false := (kf 1).trans (by simp [go_sem, *])
  clear kc kf
  obtain ⟨k17_5, kc, kf⟩ := keepB h17 (v4.heap.size) (by first | omega | (simp; omega) | (simp; done))
  have c17_5_0 : v17.cell? ⟨v4.heap.size, 0, none⟩ = some (.int .i64 (Sp.mod al ah bl bh).lo) := (kc 0).trans (by simp [go_sem, *])
  have f17_5_0 : v17.frozen? ⟨v4.heap.size, 0, none⟩ = false := (kf 0).trans (by simp [go_sem, *])
  have c17_5_1 : v17.cell? ⟨v4.heap.size, 1, none⟩ = some (.int .i64 (Sp.mod al ah bl bh).hi) := (kc 1).trans (by simp [go_sem, *])
  have f17_5_1 : v17.frozen? ⟨v4.heap.size, 1, none⟩ = false := (kf 1).trans (by simp [go_sem, *])
  clear kc kf
  obtain ⟨k17_6, kc, kf⟩ := keepB h17 (v5.heap.size) (by first | omega | (simp; omega) | (simp; done))
  have c17_6_0 : v17.cell? ⟨v5.heap.size, 0, none⟩ = some (.int .i64 (Sp.div al ah bl bh).lo) := (kc 0).trans (by simp [go_sem, *])
  have f17_6_0 : v17.frozen? ⟨v5.heap.size, 0, none⟩ = false := (kf 0).trans (by simp [go_sem, *])
  have c17_6_1 : v17.cell? ⟨v5.heap.size, 1, none⟩ = some (.int .i64 (Sp.div al ah bl bh).hi) := (kc 1).trans (by simp [go_sem, *])
  have f17_6_1 : v17.frozen? ⟨v5.heap.size, 1, none⟩ = false := (kf 1).trans (by simp [go_sem, *])
  clear kc kf
  clear c16_0_0 f16_0_0 c16_0_1 f16_0_1 c16_1_0 f16_1_0 c16_1_1 f16_1_1 c16_2_0 f16_2_0 c16_2_1 f16_2_1 c16_2_2 f16_2_2 c16_2_3 f16_2_3 c16_2_4 f16_2_4 c16_2_5 f16_2_5 c16_3_0 f16_3_0 c16_3_1 f16_3_1 c16_4_0 f16_4_0 c16_4_1 f16_4_1 c16_5_0 f16_5_0 c16_5_1 f16_5_1 c16_6_0 f16_6_0 c16_6_1 f16_6_1
  go_wp2_with fail
  refine (alike_any _ _ _ _).mono ?_
  rintro e v18 ⟨rfl, h18⟩
  have z18 := h18.size
  try simp at z18
  have hB18 : Below w.heap.size w v18 := Below.call (w := w) (by repeat (first | (with_reducible exact Below.refl _ _) | (with_reducible assumption) | refine Below.setCell ?_ (by first | omega | (simp; omega) | (simp; done)) _ | refine Below.alloc ?_ (by first | omega | (simp; omega) | (simp; done)) _ | refine Below.drew ?_)) h18
  obtain ⟨k18_0, kc, kf⟩ := keepB h18 (w.heap.size) (by first | omega | (simp; omega) | (simp; done))
  have c18_0_0 : v18.cell? ⟨w.heap.size, 0, none⟩ = some (.int .i64 al) := (kc 0).trans (by simp [go_sem, *])
  have f18_0_0 : v18.frozen? ⟨w.heap.size, 0, none⟩ = false := (kf 0).trans (by simp [go_sem, *])
  have c18_0_1 : v18.cell? ⟨w.heap.size, 1, none⟩ = some (.int .i64 ah) := (kc 1).trans (by simp [go_sem, *])
  have f18_0_1 : v18.frozen? ⟨w.heap.size, 1, none⟩ = false := (kf 1).trans (by simp [go_sem, *])
  clear kc kf
  obtain ⟨k18_1, kc, kf⟩ := keepB h18 (w.heap.size + 1) (by first | omega | (simp; omega) | (simp; done))
  have c18_1_0 : v18.cell? ⟨w.heap.size + 1, 0, none⟩ = some (.int .i64 bl) := (kc 0).trans (by simp [go_sem, *])
  have f18_1_0 : v18.frozen? ⟨w.heap.size + 1, 0, none⟩ = false := (kf 0).trans (by simp [go_sem, *])
  have c18_1_1 : v18.cell? ⟨w.heap.size + 1, 1, none⟩ = some (.int .i64 bh) := (kc 1).trans (by simp [go_sem, *])
  have f18_1_1 : v18.frozen? ⟨w.heap.size + 1, 1, none⟩ = false := (kf 1).trans (by simp [go_sem, *])
  clear kc kf
  obtain ⟨k18_2, kc, kf⟩ := keepB h18 (w.heap.size + 1 + 1) (by first | omega | (simp; omega) | (simp; done))
  have c18_2_0 : v18.cell? ⟨w.heap.size + 1 + 1, 0, none⟩ = some (.int .i64 k) := (kc 0).trans (by simp [go_sem, *])
  have f18_2_0 : v18.frozen? ⟨w.heap.size + 1 + 1, 0, none⟩ = false := (kf 0).trans (by simp [go_sem, *])
  have c18_2_1 : v18.cell? ⟨w.heap.size + 1 + 1, 1, none⟩ = some (.string t) := (kc 1).trans (by simp [go_sem, *])
  have f18_2_1 : v18.frozen? ⟨w.heap.size + 1 + 1, 1, none⟩ = false := (kf 1).trans (by simp [go_sem, *])
  have c18_2_2 : v18.cell? ⟨w.heap.size + 1 + 1, 2, none⟩ = some (.int .i64 n) := (kc 2).trans (by simp [go_sem, *])
  have f18_2_2 : v18.frozen? ⟨w.heap.size + 1 + 1, 2, none⟩ = false := (kf 2).trans (by simp [go_sem, *])
  have c18_2_3 : v18.cell? ⟨w.heap.size + 1 + 1, 3, none⟩ = some (.int .i64 m) := (kc 3).trans (by simp [go_sem, *])
  have f18_2_3 : v18.frozen? ⟨w.heap.size + 1 + 1, 3, none⟩ = false := (kf 3).trans (by simp [go_sem, *])
  have c18_2_4 : v18.cell? ⟨w.heap.size + 1 + 1, 4, none⟩ = some (.string s) := (kc 4).trans (by simp [go_sem, *])
  have f18_2_4 : v18.frozen? ⟨w.heap.size + 1 + 1, 4, none⟩ = false := (kf 4).trans (by simp [go_sem, *])
  have c18_2_5 : v18.cell? ⟨w.heap.size + 1 + 1, 5, none⟩ = some (.slice a l c) := (kc 5).trans (by simp [go_sem, *])
  have f18_2_5 : v18.frozen? ⟨w.heap.size + 1 + 1, 5, none⟩ = false := (kf 5).trans (by simp [go_sem, *])
  clear kc kf
  obtain ⟨k18_3, kc, kf⟩ := keepB h18 (v2.heap.size) (by first | omega | (simp; omega) | (simp; done))
  have c18_3_0 : v18.cell? ⟨v2.heap.size, 0, none⟩ = some (.int .i64 al) := (kc 0).trans (by simp [go_sem, *])
  have f18_3_0 : v18.frozen? ⟨v2.heap.size, 0, none⟩ = false := (kf 0).trans (by simp [go_sem, *])
  have c18_3_1 : v18.cell? ⟨v2.heap.size, 1, none⟩ = some (.int .i64 ah) := (kc 1).trans (by simp [go_sem, *])
  have f18_3_1 : v18.frozen? ⟨v2.heap.size, 1, none⟩ = false := (kf 1).trans (by simp [go_sem, *])
  clear kc kf
  obtain ⟨k18_4, kc, kf⟩ := keepB h18 (v3.heap.size) (by first | omega | (simp; omega) | (simp; done))
  have c18_4_0 : v18.cell? ⟨v3.heap.size, 0, none⟩ = some (.int .i64 bl) := (kc 0).trans (by simp [go_sem, *])
  have f18_4_0 : v18.frozen? ⟨v3.heap.size, 0, none⟩ = false := (kf 0).trans (by simp [go_sem, *])
  have c18_4_1 : v18.cell? ⟨v3.heap.size, 1, none⟩ = some (.int .i64 bh) := (kc 1).trans (by simp [go_sem, *])
  have f18_4_1 : v18.frozen? ⟨v3.heap.size, 1, none⟩ = false := (kf 1).trans (by simp [go_sem, *])
  clear kc kf
  obtain ⟨k18_5, kc, kf⟩ := keepB h18 (v4.heap.size) (by first | omega | (simp; omega) | (simp; done))
  have c18_5_0 : v18.cell? ⟨v4.heap.size, 0, none⟩ = some (.int .i64 (Sp.mod al ah bl bh).lo) := (kc 0).trans (by simp [go_sem, *])
  have f18_5_0 : v18.frozen? ⟨v4.heap.size, 0, none⟩ = false := (kf 0).trans (by simp [go_sem, *])
  have c18_5_1 : v18.cell? ⟨v4.heap.size, 1, none⟩ = some (.int .i64 (Sp.mod al ah bl bh).hi) := (kc 1).trans (by simp [go_sem, *])
  have f18_5_1 : v18.frozen? ⟨v4.heap.size, 1, none⟩ = false := (kf 1).trans (by simp [go_sem, *])
  clear kc kf
  obtain ⟨k18_6, kc, kf⟩ := keepB h18 (v5.heap.size) (by first | omega | (simp; omega) | (simp; done))
  have c18_6_0 : v18.cell? ⟨v5.heap.size, 0, none⟩ = some (.int .i64 (Sp.mod al ah bl bh).lo) := (kc 0).trans (by simp [go_sem, *])
  have f18_6_0 : v18.frozen? ⟨v5.heap.size, 0, none⟩ = false := (kf 0).trans (by simp [go_sem, *])
  have c18_6_1 : v18.cell? ⟨v5.heap.size, 1, none⟩ = some (.int .i64 (Sp.mod al ah bl bh).hi) := (kc 1).trans (by simp [go_sem, *])
  have f18_6_1 : v18.frozen? ⟨v5.heap.size, 1, none⟩ = false := (kf 1).trans (by simp [go_sem, *])
  clear kc kf
  clear c17_0_0 f17_0_0 c17_0_1 f17_0_1 c17_1_0 f17_1_0 c17_1_1 f17_1_1 c17_2_0 f17_2_0 c17_2_1 f17_2_1 c17_2_2 f17_2_2 c17_2_3 f17_2_3 c17_2_4 f17_2_4 c17_2_5 f17_2_5 c17_3_0 f17_3_0 c17_3_1 f17_3_1 c17_4_0 f17_4_0 c17_4_1 f17_4_1 c17_5_0 f17_5_0 c17_5_1 f17_5_1 c17_6_0 f17_6_0 c17_6_1 f17_6_1
  go_wp2_with fail
  refine (neg_any _ _ _).mono ?_
  rintro e v19 ⟨rfl, h19⟩
  have z19 := h19.size
  try simp at z19
  have hB19 : Below w.heap.size w v19 := Below.call (w := w) (by repeat (first | (with_reducible exact Below.refl _ _) | (with_reducible assumption) | refine Below.setCell ?_ (by first | omega | (simp; omega) | (simp; done)) _ | refine Below.alloc ?_ (by first | omega | (simp; omega) | (simp; done)) _ | refine Below.drew ?_)) h19
  obtain ⟨k19_0, kc, kf⟩ := keepB h19 (w.heap.size) (by first | omega | (simp; omega) | (simp; done))
  have c19_0_0 : v19.cell? ⟨w.heap.size, 0, none⟩ = some (.int .i64 al) := (kc 0).trans (by simp [go_sem, *])
  have f19_0_0 : v19.frozen? ⟨w.heap.size, 0, none⟩ = false := (kf 0).trans (by simp [go_sem, *])
  have c19_0_1 : v19.cell? ⟨w.heap.size, 1, none⟩ = some (.int .i64 ah) := (kc 1).trans (by simp [go_sem, *])
  have f19_0_1 : v19.frozen? ⟨w.heap.size, 1, none⟩ = false := (kf 1).trans (by simp [go_sem, *])
  clear kc kf
  obtain ⟨k19_1, kc, kf⟩ := keepB h19 (w.heap.size + 1) (by first | omega | (simp; omega) | (simp; done))
  have c19_1_0 : v19.cell? ⟨w.heap.size + 1, 0, none⟩ = some (.int .i64 bl) := (kc 0).trans (by simp [go_sem, *])
  have f19_1_0 : v19.frozen? ⟨w.heap.size + 1, 0, none⟩ = false := (kf 0).trans (by simp [go_sem, *])
  have c19_1_1 : v19.cell? ⟨w.heap.size + 1, 1, none⟩ = some (.int .i64 bh) := (kc 1).trans (by simp [go_sem, *])
  have f19_1_1 : v19.frozen? ⟨w.heap.size + 1, 1, none⟩ = false := (kf 1).trans (by simp [go_sem, *])
  clear kc kf
  obtain ⟨k19_2, kc, kf⟩ := keepB h19 (w.heap.size + 1 + 1) (by first | omega | (simp; omega) | (simp; done))
  have c19_2_0 : v19.cell? ⟨w.heap.size + 1 + 1, 0, none⟩ = some (.int .i64 k) := (kc 0).trans (by simp [go_sem, *])
  have f19_2_0 : v19.frozen? ⟨w.heap.size + 1 + 1, 0, none⟩ = false := (kf 0).trans (by simp [go_sem, *])
  have c19_2_1 : v19.cell? ⟨w.heap.size + 1 + 1, 1, none⟩ = some (.string t) := (kc 1).trans (by simp [go_sem, *])
  have f19_2_1 : v19.frozen? ⟨w.heap.size + 1 + 1, 1, none⟩ = false := (kf 1).trans (by simp [go_sem, *])
  have c19_2_2 : v19.cell? ⟨w.heap.size + 1 + 1, 2, none⟩ = some (.int .i64 n) := (kc 2).trans (by simp [go_sem, *])
  have f19_2_2 : v19.frozen? ⟨w.heap.size + 1 + 1, 2, none⟩ = false := (kf 2).trans (by simp [go_sem, *])
  have c19_2_3 : v19.cell? ⟨w.heap.size + 1 + 1, 3, none⟩ = some (.int .i64 m) := (kc 3).trans (by simp [go_sem, *])
  have f19_2_3 : v19.frozen? ⟨w.heap.size + 1 + 1, 3, none⟩ = false := (kf 3).trans (by simp [go_sem, *])
  have c19_2_4 : v19.cell? ⟨w.heap.size + 1 + 1, 4, none⟩ = some (.string s) := (kc 4).trans (by simp [go_sem, *])
  have f19_2_4 : v19.frozen? ⟨w.heap.size + 1 + 1, 4, none⟩ = false := (kf 4).trans (by simp [go_sem, *])
  have c19_2_5 : v19.cell? ⟨w.heap.size + 1 + 1, 5, none⟩ = some (.slice a l c) := (kc 5).trans (by simp [go_sem, *])
  have f19_2_5 : v19.frozen? ⟨w.heap.size + 1 + 1, 5, none⟩ = false := (kf 5).trans (by simp [go_sem, *])
  clear kc kf
  obtain ⟨k19_3, kc, kf⟩ := keepB h19 (v2.heap.size) (by first | omega | (simp; omega) | (simp; done))
  have c19_3_0 : v19.cell? ⟨v2.heap.size, 0, none⟩ = some (.int .i64 al) := (kc 0).trans (by simp [go_sem, *])
  have f19_3_0 : v19.frozen? ⟨v2.heap.size, 0, none⟩ = false := (kf 0).trans (by simp [go_sem, *])
  have c19_3_1 : v19.cell? ⟨v2.heap.size, 1, none⟩ = some (.int .i64 ah) := (kc 1).trans (by simp [go_sem, *])
  have f19_3_1 : v19.frozen? ⟨v2.heap.size, 1, none⟩ = false := (kf 1).trans (by simp [go_sem, *])
  clear kc kf
  obtain ⟨k19_4, kc, kf⟩ := keepB h19 (v3.heap.size) (by first | omega | (simp; omega) | (simp; done))
  have c19_4_0 : v19.cell? ⟨v3.heap.size, 0, none⟩ = some (.int .i64 bl) := (kc 0).trans (by simp [go_sem, *])
  have f19_4_0 : v19.frozen? ⟨v3.heap.size, 0, none⟩ = false := (kf 0).trans (by simp [go_sem, *])
  have c19_4_1 : v19.cell? ⟨v3.heap.size, 1, none⟩ = some (.int .i64 bh) := (kc 1).trans (by simp [go_sem, *])
  have f19_4_1 : v19.frozen? ⟨v3.heap.size, 1, none⟩ = false := (kf 1).trans (by simp [go_sem, *])
  clear kc kf
  obtain ⟨k19_5, kc, kf⟩ := keepB h19 (v4.heap.size) (by first | omega | (simp; omega) | (simp; done))
  have c19_5_0 : v19.cell? ⟨v4.heap.size, 0, none⟩ = some (.int .i64 (Sp.mod al ah bl bh).lo) := (kc 0).trans (by simp [go_sem, *])
  have f19_5_0 : v19.frozen? ⟨v4.heap.size, 0, none⟩ = false := (kf 0).trans (by simp [go_sem, *])
  have c19_5_1 : v19.cell? ⟨v4.heap.size, 1, none⟩ = some (.int .i64 (Sp.mod al ah bl bh).hi) := (kc 1).trans (by simp [go_sem, *])
  have f19_5_1 : v19.frozen? ⟨v4.heap.size, 1, none⟩ = false := (kf 1).trans (by simp [go_sem, *])
  clear kc kf
  obtain ⟨k19_6, kc, kf⟩ := keepB h19 (v5.heap.size) (by first | omega | (simp; omega) | (simp; done))
  have c19_6_0 : v19.cell? ⟨v5.heap.size, 0, none⟩ = some (.int .i64 (Sp.mod al ah bl bh).lo) := (kc 0).trans (by simp [go_sem, *])
  have f19_6_0 : v19.frozen? ⟨v5.heap.size, 0, none⟩ = false := (kf 0).trans (by simp [go_sem, *])
  have c19_6_1 : v19.cell? ⟨v5.heap.size, 1, none⟩ = some (.int .i64 (Sp.mod al ah bl bh).hi) := (kc 1).trans (by simp [go_sem, *])
  have f19_6_1 : v19.frozen? ⟨v5.heap.size, 1, none⟩ = false := (kf 1).trans (by simp [go_sem, *])
  clear kc kf
  clear c18_0_0 f18_0_0 c18_0_1 f18_0_1 c18_1_0 f18_1_0 c18_1_1 f18_1_1 c18_2_0 f18_2_0 c18_2_1 f18_2_1 c18_2_2 f18_2_2 c18_2_3 f18_2_3 c18_2_4 f18_2_4 c18_2_5 f18_2_5 c18_3_0 f18_3_0 c18_3_1 f18_3_1 c18_4_0 f18_4_0 c18_4_1 f18_4_1 c18_5_0 f18_5_0 c18_5_1 f18_5_1 c18_6_0 f18_6_0 c18_6_1 f18_6_1
  go_wp2_with fail
  refine (rneg_any _ _ _).mono ?_
  rintro e v20 ⟨rfl, h20⟩
  have z20 := h20.size
  try simp at z20
  have hB20 : Below w.heap.size w v20 := Below.call (w := w) (by repeat (first | (with_reducible exact Below.refl _ _) | (with_reducible assumption) | refine Below.setCell ?_ (by first | omega | (simp; omega) | (simp; done)) _ | refine Below.alloc ?_ (by first | omega | (simp; omega) | (simp; done)) _ | refine Below.drew ?_)) h20
  obtain ⟨k20_0, kc, kf⟩ := keepB h20 (w.heap.size) (by first | omega | (simp; omega) | (simp; done))
  have c20_0_0 : v20.cell? ⟨w.heap.size, 0, none⟩ = some (.int .i64 al) := (kc 0).trans (by simp [go_sem, *])
  have f20_0_0 : v20.frozen? ⟨w.heap.size, 0, none⟩ = false := (kf 0).trans (by simp [go_sem, *])
  have c20_0_1 : v20.cell? ⟨w.heap.size, 1, none⟩ = some (.int .i64 ah) := (kc 1).trans (by simp [go_sem, *])
  have f20_0_1 : v20.frozen? ⟨w.heap.size, 1, none⟩ = false := (kf 1).trans (by simp [go_sem, *])
  clear kc kf
  obtain ⟨k20_1, kc, kf⟩ := keepB h20 (w.heap.size + 1) (by first | omega | (simp; omega) | (simp; done))
  have c20_1_0 : v20.cell? ⟨w.heap.size + 1, 0, none⟩ = some (.int .i64 bl) := (kc 0).trans (by simp [go_sem, *])
  have f20_1_0 : v20.frozen? ⟨w.heap.size + 1, 0, none⟩ = false := (kf 0).trans (by simp [go_sem, *])
  have c20_1_1 : v20.cell? ⟨w.heap.size + 1, 1, none⟩ = some (.int .i64 bh) := (kc 1).trans (by simp [go_sem, *])
  have f20_1_1 : v20.frozen? ⟨w.heap.size + 1, 1, none⟩ = false := (kf 1).trans (by simp [go_sem, *])
  clear kc kf
  obtain ⟨k20_2, kc, kf⟩ := keepB h20 (w.heap.size + 1 + 1) (by first | omega | (simp; omega) | (simp; done))
  have c20_2_0 : v20.cell? ⟨w.heap.size + 1 + 1, 0, none⟩ = some (.int .i64 k) := (kc 0).trans (by simp [go_sem, *])
  have f20_2_0 : v20.frozen? ⟨w.heap.size + 1 + 1, 0, none⟩ = false := (kf 0).trans (by simp [go_sem, *])
  have c20_2_1 : v20.cell? ⟨w.heap.size + 1 + 1, 1, none⟩ = some (.string t) := (kc 1).trans (by simp [go_sem, *])
  have f20_2_1 : v20.frozen? ⟨w.heap.size + 1 + 1, 1, none⟩ = false := (kf 1).trans (by simp [go_sem, *])
  have c20_2_2 : v20.cell? ⟨w.heap.size + 1 + 1, 2, none⟩ = some (.int .i64 n) := (kc 2).trans (by simp [go_sem, *])
  have f20_2_2 : v20.frozen? ⟨w.heap.size + 1 + 1, 2, none⟩ = false := (kf 2).trans (by simp [go_sem, *])
  have c20_2_3 : v20.cell? ⟨w.heap.size + 1 + 1, 3, none⟩ = some (.int .i64 m) := (kc 3).trans (by simp [go_sem, *])
  have f20_2_3 : v20.frozen? ⟨w.heap.size + 1 + 1, 3, none⟩ = false := (kf 3).trans (by simp [go_sem, *])
  have c20_2_4 : v20.cell? ⟨w.heap.size + 1 + 1, 4, none⟩ = some (.string s) := (kc 4).trans (by simp [go_sem, *])
  have f20_2_4 : v20.frozen? ⟨w.heap.size + 1 + 1, 4, none⟩ = false := (kf 4).trans (by simp [go_sem, *])
  have c20_2_5 : v20.cell? ⟨w.heap.size + 1 + 1, 5, none⟩ = some (.slice a l c) := (kc 5).trans (by simp [go_sem, *])
  have f20_2_5 : v20.frozen? ⟨w.heap.size + 1 + 1, 5, none⟩ = false := (kf 5).trans (by simp [go_sem, *])
  clear kc kf
  obtain ⟨k20_3, kc, kf⟩ := keepB h20 (v2.heap.size) (by first | omega | (simp; omega) | (simp; done))
  have c20_3_0 : v20.cell? ⟨v2.heap.size, 0, none⟩ = some (.int .i64 al) := (kc 0).trans (by simp [go_sem, *])
  have f20_3_0 : v20.frozen? ⟨v2.heap.size, 0, none⟩ = false := (kf 0).trans (by simp [go_sem, *])
  have c20_3_1 : v20.cell? ⟨v2.heap.size, 1, none⟩ = some (.int .i64 ah) := (kc 1).trans (by simp [go_sem, *])
  have f20_3_1 : v20.frozen? ⟨v2.heap.size, 1, none⟩ = false := (kf 1).trans (by simp [go_sem, *])
  clear kc kf
  obtain ⟨k20_4, kc, kf⟩ := keepB h20 (v3.heap.size) (by first | omega | (simp; omega) | (simp; done))
  have c20_4_0 : v20.cell? ⟨v3.heap.size, 0, none⟩ = some (.int .i64 bl) := (kc 0).trans (by simp [go_sem, *])
  have f20_4_0 : v20.frozen? ⟨v3.heap.size, 0, none⟩ = false := (kf 0).trans (by simp [go_sem, *])
  have c20_4_1 : v20.cell? ⟨v3.heap.size, 1, none⟩ = some (.int .i64 bh) := (kc 1).trans (by simp [go_sem, *])
  have f20_4_1 : v20.frozen? ⟨v3.heap.size, 1, none⟩ = false := (kf 1).trans (by simp [go_sem, *])
  clear kc kf
  obtain ⟨k20_5, kc, kf⟩ := keepB h20 (v4.heap.size) (by first | omega | (simp; omega) | (simp; done))
  have c20_5_0 : v20.cell? ⟨v4.heap.size, 0, none⟩ = some (.int .i64 (Sp.neg al ah).lo) := (kc 0).trans (by simp [go_sem, *])
  have f20_5_0 : v20.frozen? ⟨v4.heap.size, 0, none⟩ = false := (kf 0).trans (by simp [go_sem, *])
  have c20_5_1 : v20.cell? ⟨v4.heap.size, 1, none⟩ = some (.int .i64 (Sp.neg al ah).hi) := (kc 1).trans (by simp [go_sem, *])
  have f20_5_1 : v20.frozen? ⟨v4.heap.size, 1, none⟩ = false := (kf 1).trans (by simp [go_sem, *])
  clear kc kf
  obtain ⟨k20_6, kc, kf⟩ := keepB h20 (v5.heap.size) (by first | omega | (simp; omega) | (simp; done))
  have c20_6_0 : v20.cell? ⟨v5.heap.size, 0, none⟩ = some (.int .i64 (Sp.mod al ah bl bh).lo) := (kc 0).trans (by simp [go_sem, *])
  have f20_6_0 : v20.frozen? ⟨v5.heap.size, 0, none⟩ = false := (kf 0).trans (by simp [go_sem, *])
  have c20_6_1 : v20.cell? ⟨v5.heap.size, 1, none⟩ = some (.int .i64 (Sp.mod al ah bl bh).hi) := (kc 1).trans (by simp [go_sem, *])
  have f20_6_1 : v20.frozen? ⟨v5.heap.size, 1, none⟩ = false := (kf 1).trans (by simp [go_sem, *])
  clear kc kf
  clear c19_0_0 f19_0_0 c19_0_1 f19_0_1 c19_1_0 f19_1_0 c19_1_1 f19_1_1 c19_2_0 f19_2_0 c19_2_1 f19_2_1 c19_2_2 f19_2_2 c19_2_3 f19_2_3 c19_2_4 f19_2_4 c19_2_5 f19_2_5 c19_3_0 f19_3_0 c19_3_1 f19_3_1 c19_4_0 f19_4_0 c19_4_1 f19_4_1 c19_5_0 f19_5_0 c19_5_1 f19_5_1 c19_6_0 f19_6_0 c19_6_1 f19_6_1
  go_wp2_with fail
  refine (alike_any _ _ _ _).mono ?_
  rintro e v21 ⟨rfl, h21⟩
  have z21 := h21.size
  try simp at z21
  have hB21 : Below w.heap.size w v21 := Below.call (w := w) (by repeat (first | (with_reducible exact Below.refl _ _) | (with_reducible assumption) | refine Below.setCell ?_ (by first | omega | (simp; omega) | (simp; done)) _ | refine Below.alloc ?_ (by first | omega | (simp; omega) | (simp; done)) _ | refine Below.drew ?_)) h21
  obtain ⟨k21_0, kc, kf⟩ := keepB h21 (w.heap.size) (by first | omega | (simp; omega) | (simp; done))
  have c21_0_0 : v21.cell? ⟨w.heap.size, 0, none⟩ = some (.int .i64 al) := (kc 0).trans (by simp [go_sem, *])
  have f21_0_0 : v21.frozen? ⟨w.heap.size, 0, none⟩ = false := (kf 0).trans (by simp [go_sem, *])
  have c21_0_1 : v21.cell? ⟨w.heap.size, 1, none⟩ = some (.int .i64 ah) := (kc 1).trans (by simp [go_sem, *])
  have f21_0_1 : v21.frozen? ⟨w.heap.size, 1, none⟩ = false := (kf 1).trans (by simp [go_sem, *])
  clear kc kf
  obtain ⟨k21_1, kc, kf⟩ := keepB h21 (w.heap.size + 1) (by first | omega | (simp; omega) | (simp; done))
  have c21_1_0 : v21.cell? ⟨w.heap.size + 1, 0, none⟩ = some (.int .i64 bl) := (kc 0).trans (by simp [go_sem, *])
  have f21_1_0 : v21.frozen? ⟨w.heap.size + 1, 0, none⟩ = false := (kf 0).trans (by simp [go_sem, *])
  have c21_1_1 : v21.cell? ⟨w.heap.size + 1, 1, none⟩ = some (.int .i64 bh) := (kc 1).trans (by simp [go_sem, *])
  have f21_1_1 : v21.frozen? ⟨w.heap.size + 1, 1, none⟩ = false := (kf 1).trans (by simp [go_sem, *])
  clear kc kf
  obtain ⟨k21_2, kc, kf⟩ := keepB h21 (w.heap.size + 1 + 1) (by first | omega | (simp; omega) | (simp; done))
  have c21_2_0 : v21.cell? ⟨w.heap.size + 1 + 1, 0, none⟩ = some (.int .i64 k) := (kc 0).trans (by simp [go_sem, *])
  have f21_2_0 : v21.frozen? ⟨w.heap.size + 1 + 1, 0, none⟩ = false := (kf 0).trans (by simp [go_sem, *])
  have c21_2_1 : v21.cell? ⟨w.heap.size + 1 + 1, 1, none⟩ = some (.string t) := (kc 1).trans (by simp [go_sem, *])
  have f21_2_1 : v21.frozen? ⟨w.heap.size + 1 + 1, 1, none⟩ = false := (kf 1).trans (by simp [go_sem, *])
  have c21_2_2 : v21.cell? ⟨w.heap.size + 1 + 1, 2, none⟩ = some (.int .i64 n) := (kc 2).trans (by simp [go_sem, *])
  have f21_2_2 : v21.frozen? ⟨w.heap.size + 1 + 1, 2, none⟩ = false := (kf 2).trans (by simp [go_sem, *])
  have c21_2_3 : v21.cell? ⟨w.heap.size + 1 + 1, 3, none⟩ = some (.int .i64 m) := (kc 3).trans (by simp [go_sem, *])
  have f21_2_3 : v21.frozen? ⟨w.heap.size + 1 + 1, 3, none⟩ = false := (kf 3).trans (by simp [go_sem, *])
  have c21_2_4 : v21.cell? ⟨w.heap.size + 1 + 1, 4, none⟩ = some (.string s) := (kc 4).trans (by simp [go_sem, *])
  have f21_2_4 : v21.frozen? ⟨w.heap.size + 1 + 1, 4, none⟩ = false := (kf 4).trans (by simp [go_sem, *])
  have c21_2_5 : v21.cell? ⟨w.heap.size + 1 + 1, 5, none⟩ = some (.slice a l c) := (kc 5).trans (by simp [go_sem, *])
  have f21_2_5 : v21.frozen? ⟨w.heap.size + 1 + 1, 5, none⟩ = false := (kf 5).trans (by simp [go_sem, *])
  clear kc kf
  obtain ⟨k21_3, kc, kf⟩ := keepB h21 (v2.heap.size) (by first | omega | (simp; omega) | (simp; done))
  have c21_3_0 : v21.cell? ⟨v2.heap.size, 0, none⟩ = some (.int .i64 al) := (kc 0).trans (by simp [go_sem, *])
  have f21_3_0 : v21.frozen? ⟨v2.heap.size, 0, none⟩ = false := (kf 0).trans (by simp [go_sem, *])
  have c21_3_1 : v21.cell? ⟨v2.heap.size, 1, none⟩ = some (.int .i64 ah) := (kc 1).trans (by simp [go_sem, *])
  have f21_3_1 : v21.frozen? ⟨v2.heap.size, 1, none⟩ = false := (kf 1).trans (by simp [go_sem, *])
  clear kc kf
  obtain ⟨k21_4, kc, kf⟩ := keepB h21 (v3.heap.size) (by first | omega | (simp; omega) | (simp; done))
  have c21_4_0 : v21.cell? ⟨v3.heap.size, 0, none⟩ = some (.int .i64 bl) := (kc 0).trans (by simp [go_sem, *])
  have f21_4_0 : v21.frozen? ⟨v3.heap.size, 0, none⟩ = false := (kf 0).trans (by simp [go_sem, *])
  have c21_4_1 : v21.cell? ⟨v3.heap.size, 1, none⟩ = some (.int .i64 bh) := (kc 1).trans (by simp [go_sem, *])
  have f21_4_1 : v21.frozen? ⟨v3.heap.size, 1, none⟩ = false := (kf 1).trans (by simp [go_sem, *])
  clear kc kf
  obtain ⟨k21_5, kc, kf⟩ := keepB h21 (v4.heap.size) (by first | omega | (simp; omega) | (simp; done))
  have c21_5_0 : v21.cell? ⟨v4.heap.size, 0, none⟩ = some (.int .i64 (Sp.neg al ah).lo) := (kc 0).trans (by simp [go_sem, *])
  have f21_5_0 : v21.frozen? ⟨v4.heap.size, 0, none⟩ = false := (kf 0).trans (by simp [go_sem, *])
  have c21_5_1 : v21.cell? ⟨v4.heap.size, 1, none⟩ = some (.int .i64 (Sp.neg al ah).hi) := (kc 1).trans (by simp [go_sem, *])
  have f21_5_1 : v21.frozen? ⟨v4.heap.size, 1, none⟩ = false := (kf 1).trans (by simp [go_sem, *])
  clear kc kf
  obtain ⟨k21_6, kc, kf⟩ := keepB h21 (v5.heap.size) (by first | omega | (simp; omega) | (simp; done))
  have c21_6_0 : v21.cell? ⟨v5.heap.size, 0, none⟩ = some (.int .i64 (Sp.neg al ah).lo) := (kc 0).trans (by simp [go_sem, *])
  have f21_6_0 : v21.frozen? ⟨v5.heap.size, 0, none⟩ = false := (kf 0).trans (by simp [go_sem, *])
  have c21_6_1 : v21.cell? ⟨v5.heap.size, 1, none⟩ = some (.int .i64 (Sp.neg al ah).hi) := (kc 1).trans (by simp [go_sem, *])
  have f21_6_1 : v21.frozen? ⟨v5.heap.size, 1, none⟩ = false := (kf 1).trans (by simp [go_sem, *])
  clear kc kf
  clear c20_0_0 f20_0_0 c20_0_1 f20_0_1 c20_1_0 f20_1_0 c20_1_1 f20_1_1 c20_2_0 f20_2_0 c20_2_1 f20_2_1 c20_2_2 f20_2_2 c20_2_3 f20_2_3 c20_2_4 f20_2_4 c20_2_5 f20_2_5 c20_3_0 f20_3_0 c20_3_1 f20_3_1 c20_4_0 f20_4_0 c20_4_1 f20_4_1 c20_5_0 f20_5_0 c20_5_1 f20_5_1 c20_6_0 f20_6_0 c20_6_1 f20_6_1
  go_wp2_with fail
  refine (of_any _ _ _ _ _ _ _ _ _).mono ?_
  rintro e v22 ⟨rfl, h22⟩
  have z22 := h22.size
  try simp at z22
  have hB22 : Below w.heap.size w v22 := Below.call (w := w) (by repeat (first | (with_reducible exact Below.refl _ _) | (with_reducible assumption) | refine Below.setCell ?_ (by first | omega | (simp; omega) | (simp; done)) _ | refine Below.alloc ?_ (by first | omega | (simp; omega) | (simp; done)) _ | refine Below.drew ?_)) h22
  obtain ⟨k22_0, kc, kf⟩ := keepB h22 (w.heap.size) (by first | omega | (simp; omega) | (simp; done))
  have c22_0_0 : v22.cell? ⟨w.heap.size, 0, none⟩ = some (.int .i64 al) := (kc 0).trans (by simp [go_sem, *])
  have f22_0_0 : v22.frozen? ⟨w.heap.size, 0, none⟩ = false := (kf 0).trans (by simp [go_sem, *])
  have c22_0_1 : v22.cell? ⟨w.heap.size, 1, none⟩ = some (.int .i64 ah) := (kc 1).trans (by simp [go_sem, *])
  have f22_0_1 : v22.frozen? ⟨w.heap.size, 1, none⟩ = false := (kf 1).trans (by simp [go_sem, *])
  clear kc kf
  obtain ⟨k22_1, kc, kf⟩ := keepB h22 (w.heap.size + 1) (by first | omega | (simp; omega) | (simp; done))
  have c22_1_0 : v22.cell? ⟨w.heap.size + 1, 0, none⟩ = some (.int .i64 bl) := (kc 0).trans (by simp [go_sem, *])
  have f22_1_0 : v22.frozen? ⟨w.heap.size + 1, 0, none⟩ = false := (kf 0).trans (by simp [go_sem, *])
  have c22_1_1 : v22.cell? ⟨w.heap.size + 1, 1, none⟩ = some (.int .i64 bh) := (kc 1).trans (by simp [go_sem, *])
  have f22_1_1 : v22.frozen? ⟨w.heap.size + 1, 1, none⟩ = false := (kf 1).trans (by simp [go_sem, *])
  clear kc kf
  obtain ⟨k22_2, kc, kf⟩ := keepB h22 (w.heap.size + 1 + 1) (by first | omega | (simp; omega) | (simp; done))
  have c22_2_0 : v22.cell? ⟨w.heap.size + 1 + 1, 0, none⟩ = some (.int .i64 k) := (kc 0).trans (by simp [go_sem, *])
  have f22_2_0 : v22.frozen? ⟨w.heap.size + 1 + 1, 0, none⟩ = false := (kf 0).trans (by simp [go_sem, *])
  have c22_2_1 : v22.cell? ⟨w.heap.size + 1 + 1, 1, none⟩ = some (.string t) := (kc 1).trans (by simp [go_sem, *])
  have f22_2_1 : v22.frozen? ⟨w.heap.size + 1 + 1, 1, none⟩ = false := (kf 1).trans (by simp [go_sem, *])
  have c22_2_2 : v22.cell? ⟨w.heap.size + 1 + 1, 2, none⟩ = some (.int .i64 n) := (kc 2).trans (by simp [go_sem, *])
  have f22_2_2 : v22.frozen? ⟨w.heap.size + 1 + 1, 2, none⟩ = false := (kf 2).trans (by simp [go_sem, *])
  have c22_2_3 : v22.cell? ⟨w.heap.size + 1 + 1, 3, none⟩ = some (.int .i64 m) := (kc 3).trans (by simp [go_sem, *])
  have f22_2_3 : v22.frozen? ⟨w.heap.size + 1 + 1, 3, none⟩ = false := (kf 3).trans (by simp [go_sem, *])
  have c22_2_4 : v22.cell? ⟨w.heap.size + 1 + 1, 4, none⟩ = some (.string s) := (kc 4).trans (by simp [go_sem, *])
  have f22_2_4 : v22.frozen? ⟨w.heap.size + 1 + 1, 4, none⟩ = false := (kf 4).trans (by simp [go_sem, *])
  have c22_2_5 : v22.cell? ⟨w.heap.size + 1 + 1, 5, none⟩ = some (.slice a l c) := (kc 5).trans (by simp [go_sem, *])
  have f22_2_5 : v22.frozen? ⟨w.heap.size + 1 + 1, 5, none⟩ = false := (kf 5).trans (by simp [go_sem, *])
  clear kc kf
  obtain ⟨k22_3, kc, kf⟩ := keepB h22 (v2.heap.size) (by first | omega | (simp; omega) | (simp; done))
  have c22_3_0 : v22.cell? ⟨v2.heap.size, 0, none⟩ = some (.int .i64 al) := (kc 0).trans (by simp [go_sem, *])
  have f22_3_0 : v22.frozen? ⟨v2.heap.size, 0, none⟩ = false := (kf 0).trans (by simp [go_sem, *])
  have c22_3_1 : v22.cell? ⟨v2.heap.size, 1, none⟩ = some (.int .i64 ah) := (kc 1).trans (by simp [go_sem, *])
  have f22_3_1 : v22.frozen? ⟨v2.heap.size, 1, none⟩ = false := (kf 1).trans (by simp [go_sem, *])
  clear kc kf
  obtain ⟨k22_4, kc, kf⟩ := keepB h22 (v3.heap.size) (by first | omega | (simp; omega) | (simp; done))
  have c22_4_0 : v22.cell? ⟨v3.heap.size, 0, none⟩ = some (.int .i64 bl) := (kc 0).trans (by simp [go_sem, *])
  have f22_4_0 : v22.frozen? ⟨v3.heap.size, 0, none⟩ = false := (kf 0).trans (by simp [go_sem, *])
  have c22_4_1 : v22.cell? ⟨v3.heap.size, 1, none⟩ = some (.int .i64 bh) := (kc 1).trans (by simp [go_sem, *])
  have f22_4_1 : v22.frozen? ⟨v3.heap.size, 1, none⟩ = false := (kf 1).trans (by simp [go_sem, *])
  clear kc kf
  clear c21_0_0 f21_0_0 c21_0_1 f21_0_1 c21_1_0 f21_1_0 c21_1_1 f21_1_1 c21_2_0 f21_2_0 c21_2_1 f21_2_1 c21_2_2 f21_2_2 c21_2_3 f21_2_3 c21_2_4 f21_2_4 c21_2_5 f21_2_5 c21_3_0 f21_3_0 c21_3_1 f21_3_1 c21_4_0 f21_4_0 c21_4_1 f21_4_1 c21_5_0 f21_5_0 c21_5_1 f21_5_1 c21_6_0 f21_6_0 c21_6_1 f21_6_1
  go_wp2_with fail
  refine (rof_any _ _ _ _ _ _ _ _ _).mono ?_
  rintro e v23 ⟨rfl, h23⟩
  have z23 := h23.size
  try simp at z23
  have hB23 : Below w.heap.size w v23 := Below.call (w := w) (by repeat (first | (with_reducible exact Below.refl _ _) | (with_reducible assumption) | refine Below.setCell ?_ (by first | omega | (simp; omega) | (simp; done)) _ | refine Below.alloc ?_ (by first | omega | (simp; omega) | (simp; done)) _ | refine Below.drew ?_)) h23
  obtain ⟨k23_0, kc, kf⟩ := keepB h23 (w.heap.size) (by first | omega | (simp; omega) | (simp; done))
  have c23_0_0 : v23.cell? ⟨w.heap.size, 0, none⟩ = some (.int .i64 al) := (kc 0).trans (by simp [go_sem, *])
  have f23_0_0 : v23.frozen? ⟨w.heap.size, 0, none⟩ = false := (kf 0).trans (by simp [go_sem, *])
  have c23_0_1 : v23.cell? ⟨w.heap.size, 1, none⟩ = some (.int .i64 ah) := (kc 1).trans (by simp [go_sem, *])
  have f23_0_1 : v23.frozen? ⟨w.heap.size, 1, none⟩ = false := (kf 1).trans (by simp [go_sem, *])
  clear kc kf
  obtain ⟨k23_1, kc, kf⟩ := keepB h23 (w.heap.size + 1) (by first | omega | (simp; omega) | (simp; done))
  have c23_1_0 : v23.cell? ⟨w.heap.size + 1, 0, none⟩ = some (.int .i64 bl) := (kc 0).trans (by simp [go_sem, *])
  have f23_1_0 : v23.frozen? ⟨w.heap.size + 1, 0, none⟩ = false := (kf 0).trans (by simp [go_sem, *])
  have c23_1_1 : v23.cell? ⟨w.heap.size + 1, 1, none⟩ = some (.int .i64 bh) := (kc 1).trans (by simp [go_sem, *])
  have f23_1_1 : v23.frozen? ⟨w.heap.size + 1, 1, none⟩ = false := (kf 1).trans (by simp [go_sem, *])
  clear kc kf
  obtain ⟨k23_2, kc, kf⟩ := keepB h23 (w.heap.size + 1 + 1) (by first | omega | (simp; omega) | (simp; done))
  have c23_2_0 : v23.cell? ⟨w.heap.size + 1 + 1, 0, none⟩ = some (.int .i64 k) := (kc 0).trans (by simp [go_sem, *])
  have f23_2_0 : v23.frozen? ⟨w.heap.size + 1 + 1, 0, none⟩ = false := (kf 0).trans (by simp [go_sem, *])
  have c23_2_1 : v23.cell? ⟨w.heap.size + 1 + 1, 1, none⟩ = some (.string t) := (kc 1).trans (by simp [go_sem, *])
  have f23_2_1 : v23.frozen? ⟨w.heap.size + 1 + 1, 1, none⟩ = false := (kf 1).trans (by simp [go_sem, *])
  have c23_2_2 : v23.cell? ⟨w.heap.size + 1 + 1, 2, none⟩ = some (.int .i64 n) := (kc 2).trans (by simp [go_sem, *])
  have f23_2_2 : v23.frozen? ⟨w.heap.size + 1 + 1, 2, none⟩ = false := (kf 2).trans (by simp [go_sem, *])
  have c23_2_3 : v23.cell? ⟨w.heap.size + 1 + 1, 3, none⟩ = some (.int .i64 m) := (kc 3).trans (by simp [go_sem, *])
  have f23_2_3 : v23.frozen? ⟨w.heap.size + 1 + 1, 3, none⟩ = false := (kf 3).trans (by simp [go_sem, *])
  have c23_2_4 : v23.cell? ⟨w.heap.size + 1 + 1, 4, none⟩ = some (.string s) := (kc 4).trans (by simp [go_sem, *])
  have f23_2_4 : v23.frozen? ⟨w.heap.size + 1 + 1, 4, none⟩ = false := (kf 4).trans (by simp [go_sem, *])
  have c23_2_5 : v23.cell? ⟨w.heap.size + 1 + 1, 5, none⟩ = some (.slice a l c) := (kc 5).trans (by simp [go_sem, *])
  have f23_2_5 : v23.frozen? ⟨w.heap.size + 1 + 1, 5, none⟩ = false := (kf 5).trans (by simp [go_sem, *])
  clear kc kf
  obtain ⟨k23_3, kc, kf⟩ := keepB h23 (v2.heap.size) (by first | omega | (simp; omega) | (simp; done))
  have c23_3_0 : v23.cell? ⟨v2.heap.size, 0, none⟩ = some (.int .i64 al) := (kc 0).trans (by simp [go_sem, *])
  have f23_3_0 : v23.frozen? ⟨v2.heap.size, 0, none⟩ = false := (kf 0).trans (by simp [go_sem, *])
  have c23_3_1 : v23.cell? ⟨v2.heap.size, 1, none⟩ = some (.int .i64 ah) := (kc 1).trans (by simp [go_sem, *])
  have f23_3_1 : v23.frozen? ⟨v2.heap.size, 1, none⟩ = false := (kf 1).trans (by simp [go_sem, *])
  clear kc kf
  obtain ⟨k23_4, kc, kf⟩ := keepB h23 (v3.heap.size) (by first | omega | (simp; omega) | (simp; done))
  have c23_4_0 : v23.cell? ⟨v3.heap.size, 0, none⟩ = some (.int .i64 bl) := (kc 0).trans (by simp [go_sem, *])
  have f23_4_0 : v23.frozen? ⟨v3.heap.size, 0, none⟩ = false := (kf 0).trans (by simp [go_sem, *])
  have c23_4_1 : v23.cell? ⟨v3.heap.size, 1, none⟩ = some (.int .i64 bh) := (kc 1).trans (by simp [go_sem, *])
  have f23_4_1 : v23.frozen? ⟨v3.heap.size, 1, none⟩ = false := (kf 1).trans (by simp [go_sem, *])
  clear kc kf
  obtain ⟨k23_5, kc, kf⟩ := keepB h23 (v22.heap.size) (by first | omega | (simp; omega) | (simp; done))
  have c23_5_0 : v23.cell? ⟨v22.heap.size, 0, none⟩ = some (.int .i64 (Sp.ofLo k n m)) := (kc 0).trans (by simp [go_sem, *])
  have f23_5_0 : v23.frozen? ⟨v22.heap.size, 0, none⟩ = false := (kf 0).trans (by simp [go_sem, *])
  have c23_5_1 : v23.cell? ⟨v22.heap.size, 1, none⟩ = some (.int .i64 (Sp.ofHi k n m)) := (kc 1).trans (by simp [go_sem, *])
  have f23_5_1 : v23.frozen? ⟨v22.heap.size, 1, none⟩ = false := (kf 1).trans (by simp [go_sem, *])
  clear kc kf
  clear c22_0_0 f22_0_0 c22_0_1 f22_0_1 c22_1_0 f22_1_0 c22_1_1 f22_1_1 c22_2_0 f22_2_0 c22_2_1 f22_2_1 c22_2_2 f22_2_2 c22_2_3 f22_2_3 c22_2_4 f22_2_4 c22_2_5 f22_2_5 c22_3_0 f22_3_0 c22_3_1 f22_3_1 c22_4_0 f22_4_0 c22_4_1 f22_4_1
  go_upto_region 24 with (fail)
  go_cut [19] (fun s wx => s = .bool true ∧ HeldAt w [(w.heap.size, 0, .int .i64 al), (w.heap.size, 1, .int .i64 ah), (w.heap.size + 1, 0, .int .i64 bl), (w.heap.size + 1, 1, .int .i64 bh), (v2.heap.size, 0, .int .i64 al), (v2.heap.size, 1, .int .i64 ah), (v3.heap.size, 0, .int .i64 bl), (v3.heap.size, 1, .int .i64 bh), (v22.heap.size, 0, .int .i64 (Sp.ofLo k n m)), (v22.heap.size, 1, .int .i64 (Sp.ofHi k n m)), (v23.heap.size, 0, .int .i64 (Sp.ofLo k n m)), (v23.heap.size, 1, .int .i64 (Sp.ofHi k n m))] wx)
  case first =>
    refine quiet_start (HeldAt w [(w.heap.size, 0, .int .i64 al), (w.heap.size, 1, .int .i64 ah), (w.heap.size + 1, 0, .int .i64 bl), (w.heap.size + 1, 1, .int .i64 bh), (v2.heap.size, 0, .int .i64 al), (v2.heap.size, 1, .int .i64 ah), (v3.heap.size, 0, .int .i64 bl), (v3.heap.size, 1, .int .i64 bh), (v22.heap.size, 0, .int .i64 (Sp.ofLo k n m)), (v22.heap.size, 1, .int .i64 (Sp.ofHi k n m)), (v23.heap.size, 0, .int .i64 (Sp.ofLo k n m)), (v23.heap.size, 1, .int .i64 (Sp.ofHi k n m))]) (by kernel_rfl) (by kernel_rfl) ?_ ?_
    · refine ⟨(by repeat (first | (with_reducible exact Below.refl _ _) | (with_reducible assumption) | refine Below.setCell ?_ (by first | omega | (simp; omega) | (simp; done)) _ | refine Below.alloc ?_ (by first | omega | (simp; omega) | (simp; done)) _ | refine Below.drew ?_)), ?_, ?_⟩
      · refine InHeap.drew ?_; simp [InHeap]; omega
      · simp [CellsAre, go_sem, *]
    clear h1 z1 hB1 k1_0 k1_1 k1_2 h2 z2 hB2 k2_0 k2_1 k2_2 h3 z3 hB3 k3_0 k3_1 k3_2 k3_3 h4 z4 hB4 k4_0 k4_1 k4_2 k4_3 k4_4 h5 z5 hB5 k5_0 k5_1 k5_2 k5_3 k5_4 k5_5 h6 z6 hB6 k6_0 k6_1 k6_2 k6_3 k6_4 k6_5 k6_6 h7 z7 hB7 k7_0 k7_1 k7_2 k7_3 k7_4 k7_5 k7_6 h8 z8 hB8 k8_0 k8_1 k8_2 k8_3 k8_4 k8_5 k8_6 h9 z9 hB9 k9_0 k9_1 k9_2 k9_3 k9_4 k9_5 k9_6 h10 z10 hB10 k10_0 k10_1 k10_2 k10_3 k10_4 k10_5 k10_6 h11 z11 hB11 k11_0 k11_1 k11_2 k11_3 k11_4 k11_5 k11_6 h12 z12 hB12 k12_0 k12_1 k12_2 k12_3 k12_4 k12_5 k12_6 h13 z13 hB13 k13_0 k13_1 k13_2 k13_3 k13_4 k13_5 k13_6 h14 z14 hB14 k14_0 k14_1 k14_2 k14_3 k14_4 k14_5 k14_6 h15 z15 hB15 k15_0 k15_1 k15_2 k15_3 k15_4 k15_5 k15_6 h16 z16 hB16 k16_0 k16_1 k16_2 k16_3 k16_4 k16_5 k16_6 h17 z17 hB17 k17_0 k17_1 k17_2 k17_3 k17_4 k17_5 k17_6 h18 z18 hB18 k18_0 k18_1 k18_2 k18_3 k18_4 k18_5 k18_6 h19 z19 hB19 k19_0 k19_1 k19_2 k19_3 k19_4 k19_5 k19_6 h20 z20 hB20 k20_0 k20_1 k20_2 k20_3 k20_4 k20_5 k20_6 h21 z21 hB21 k21_0 k21_1 k21_2 k21_3 k21_4 k21_5 k21_6 h22 z22 hB22 k22_0 k22_1 k22_2 k22_3 k22_4 h23 z23 hB23 k23_0 k23_1 k23_2 k23_3 k23_4 k23_5 c23_0_0 f23_0_0 c23_0_1 f23_0_1 c23_1_0 f23_1_0 c23_1_1 f23_1_1 c23_2_0 f23_2_0 c23_2_1 f23_2_1 c23_2_2 f23_2_2 c23_2_3 f23_2_3 c23_2_4 f23_2_4 c23_2_5 f23_2_5 c23_3_0 f23_3_0 c23_3_1 f23_3_1 c23_4_0 f23_4_0 c23_4_1 f23_4_1 c23_5_0 f23_5_0 c23_5_1 f23_5_1
    with_reducible refine quiet_value_plain (.agg #[.int .i64 al, .int .i64 ah]) rfl ?_ ?_
    · intro wx hx; obtain ⟨_, _, g0, g1, g2, g3, g4, g5, g6, g7, g8, g9, g10, g11, _⟩ := hx; go_simp
    try simp only [Act.put, List.setIfInBounds_toArray, List.set_cons_zero, List.set_cons_succ]
    with_reducible refine quiet_value_plain (.agg #[.int .i64 bl, .int .i64 bh]) rfl ?_ ?_
    · intro wx hx; obtain ⟨_, _, g0, g1, g2, g3, g4, g5, g6, g7, g8, g9, g10, g11, _⟩ := hx; go_simp
    try simp only [Act.put, List.setIfInBounds_toArray, List.set_cons_zero, List.set_cons_succ]
    with_reducible refine quiet_call_plain (.int .i64 (Sp.less al ah bl bh)) 17 #[.agg #[.int .i64 al, .int .i64 ah], .agg #[.int .i64 bl, .int .i64 bh]] rfl ?_ ?_ ?_
    · intro wx hx; obtain ⟨_, _, g0, g1, g2, g3, g4, g5, g6, g7, g8, g9, g10, g11, _⟩ := hx; go_simp; try (exact ⟨rfl, rfl⟩)
    · intro wx hx; refine (less_any _ _ _ _ _).mono ?_; rintro e u ⟨rfl, hu⟩; exact ⟨rfl, hx.call hu⟩
    try simp only [Act.put, List.setIfInBounds_toArray, List.set_cons_zero, List.set_cons_succ]
    with_reducible refine quiet_value_plain (.agg #[.int .i64 al, .int .i64 ah]) rfl ?_ ?_
    · intro wx hx; obtain ⟨_, _, g0, g1, g2, g3, g4, g5, g6, g7, g8, g9, g10, g11, _⟩ := hx; go_simp
    try simp only [Act.put, List.setIfInBounds_toArray, List.set_cons_zero, List.set_cons_succ]
    with_reducible refine quiet_value_plain (.agg #[.int .i64 bl, .int .i64 bh]) rfl ?_ ?_
    · intro wx hx; obtain ⟨_, _, g0, g1, g2, g3, g4, g5, g6, g7, g8, g9, g10, g11, _⟩ := hx; go_simp
    try simp only [Act.put, List.setIfInBounds_toArray, List.set_cons_zero, List.set_cons_succ]
    with_reducible refine quiet_call_plain (.int .i64 (Sp.less al ah bl bh)) 31 #[.agg #[.int .i64 al, .int .i64 ah], .agg #[.int .i64 bl, .int .i64 bh]] rfl ?_ ?_ ?_
    · intro wx hx; obtain ⟨_, _, g0, g1, g2, g3, g4, g5, g6, g7, g8, g9, g10, g11, _⟩ := hx; go_simp; try (exact ⟨rfl, rfl⟩)
    · intro wx hx; refine (rless_any _ _ _ _ _).mono ?_; rintro e u ⟨rfl, hu⟩; exact ⟨rfl, hx.call hu⟩
    try simp only [Act.put, List.setIfInBounds_toArray, List.set_cons_zero, List.set_cons_succ]
    with_reducible refine quiet_value_plain (.bool true) rfl ?_ ?_
    · intro wx hx; obtain ⟨_, _, g0, g1, g2, g3, g4, g5, g6, g7, g8, g9, g10, g11, _⟩ := hx; go_simp
    try simp only [Act.put, List.setIfInBounds_toArray, List.set_cons_zero, List.set_cons_succ]
    with_reducible refine quiet_value_plain (.bool true) rfl ?_ ?_
    · intro wx hx; obtain ⟨_, _, g0, g1, g2, g3, g4, g5, g6, g7, g8, g9, g10, g11, _⟩ := hx; go_simp
    try simp only [Act.put, List.setIfInBounds_toArray, List.set_cons_zero, List.set_cons_succ]
    with_reducible refine quiet_value (.agg #[.int .i64 al, .int .i64 ah]) ?_ ?_ ?_
    · go_simp
    · intro wx hx; obtain ⟨_, _, g0, g1, g2, g3, g4, g5, g6, g7, g8, g9, g10, g11, _⟩ := hx; go_simp
    try simp only [Act.put, List.setIfInBounds_toArray, List.set_cons_zero, List.set_cons_succ]
    with_reducible refine quiet_value (.agg #[.int .i64 bl, .int .i64 bh]) ?_ ?_ ?_
    · go_simp
    · intro wx hx; obtain ⟨_, _, g0, g1, g2, g3, g4, g5, g6, g7, g8, g9, g10, g11, _⟩ := hx; go_simp
    try simp only [Act.put, List.setIfInBounds_toArray, List.set_cons_zero, List.set_cons_succ]
    with_reducible refine quiet_call (.int .i64 (Sp.lessEq al ah bl bh)) 18 #[.agg #[.int .i64 al, .int .i64 ah], .agg #[.int .i64 bl, .int .i64 bh]] ?_ ?_ ?_ ?_
    · go_simp
    · intro wx hx; obtain ⟨_, _, g0, g1, g2, g3, g4, g5, g6, g7, g8, g9, g10, g11, _⟩ := hx; go_simp; try (exact ⟨rfl, rfl⟩)
    · intro wx hx; refine (lessEq_any _ _ _ _ _).mono ?_; rintro e u ⟨rfl, hu⟩; exact ⟨rfl, hx.call hu⟩
    try simp only [Act.put, List.setIfInBounds_toArray, List.set_cons_zero, List.set_cons_succ]
    with_reducible refine quiet_value (.agg #[.int .i64 al, .int .i64 ah]) ?_ ?_ ?_
    · go_simp
    · intro wx hx; obtain ⟨_, _, g0, g1, g2, g3, g4, g5, g6, g7, g8, g9, g10, g11, _⟩ := hx; go_simp
    try simp only [Act.put, List.setIfInBounds_toArray, List.set_cons_zero, List.set_cons_succ]
    with_reducible refine quiet_value (.agg #[.int .i64 bl, .int .i64 bh]) ?_ ?_ ?_
    · go_simp
    · intro wx hx; obtain ⟨_, _, g0, g1, g2, g3, g4, g5, g6, g7, g8, g9, g10, g11, _⟩ := hx; go_simp
    try simp only [Act.put, List.setIfInBounds_toArray, List.set_cons_zero, List.set_cons_succ]
    with_reducible refine quiet_call (.int .i64 (Sp.lessEq al ah bl bh)) 32 #[.agg #[.int .i64 al, .int .i64 ah], .agg #[.int .i64 bl, .int .i64 bh]] ?_ ?_ ?_ ?_
    · go_simp
    · intro wx hx; obtain ⟨_, _, g0, g1, g2, g3, g4, g5, g6, g7, g8, g9, g10, g11, _⟩ := hx; go_simp; try (exact ⟨rfl, rfl⟩)
    · intro wx hx; refine (rlessEq_any _ _ _ _ _).mono ?_; rintro e u ⟨rfl, hu⟩; exact ⟨rfl, hx.call hu⟩
    try simp only [Act.put, List.setIfInBounds_toArray, List.set_cons_zero, List.set_cons_succ]
    with_reducible refine quiet_value (.bool true) ?_ ?_ ?_
    · go_simp
    · intro wx hx; obtain ⟨_, _, g0, g1, g2, g3, g4, g5, g6, g7, g8, g9, g10, g11, _⟩ := hx; go_simp
    try simp only [Act.put, List.setIfInBounds_toArray, List.set_cons_zero, List.set_cons_succ]
    with_reducible refine quiet_value_plain (.bool true) rfl ?_ ?_
    · intro wx hx; obtain ⟨_, _, g0, g1, g2, g3, g4, g5, g6, g7, g8, g9, g10, g11, _⟩ := hx; go_simp
    try simp only [Act.put, List.setIfInBounds_toArray, List.set_cons_zero, List.set_cons_succ]
    with_reducible refine quiet_value_plain (.bool true) rfl ?_ ?_
    · intro wx hx; obtain ⟨_, _, g0, g1, g2, g3, g4, g5, g6, g7, g8, g9, g10, g11, _⟩ := hx; go_simp
    try simp only [Act.put, List.setIfInBounds_toArray, List.set_cons_zero, List.set_cons_succ]
    with_reducible refine quiet_value (.agg #[.int .i64 al, .int .i64 ah]) ?_ ?_ ?_
    · go_simp
    · intro wx hx; obtain ⟨_, _, g0, g1, g2, g3, g4, g5, g6, g7, g8, g9, g10, g11, _⟩ := hx; go_simp
    try simp only [Act.put, List.setIfInBounds_toArray, List.set_cons_zero, List.set_cons_succ]
    with_reducible refine quiet_value (.agg #[.int .i64 bl, .int .i64 bh]) ?_ ?_ ?_
    · go_simp
    · intro wx hx; obtain ⟨_, _, g0, g1, g2, g3, g4, g5, g6, g7, g8, g9, g10, g11, _⟩ := hx; go_simp
    try simp only [Act.put, List.setIfInBounds_toArray, List.set_cons_zero, List.set_cons_succ]
    with_reducible refine quiet_call (.int .i64 (Sp.equal al ah bl bh)) 19 #[.agg #[.int .i64 al, .int .i64 ah], .agg #[.int .i64 bl, .int .i64 bh]] ?_ ?_ ?_ ?_
    · go_simp
    · intro wx hx; obtain ⟨_, _, g0, g1, g2, g3, g4, g5, g6, g7, g8, g9, g10, g11, _⟩ := hx; go_simp; try (exact ⟨rfl, rfl⟩)
    · intro wx hx; refine (equal_any _ _ _ _ _).mono ?_; rintro e u ⟨rfl, hu⟩; exact ⟨rfl, hx.call hu⟩
    try simp only [Act.put, List.setIfInBounds_toArray, List.set_cons_zero, List.set_cons_succ]
    with_reducible refine quiet_value (.agg #[.int .i64 al, .int .i64 ah]) ?_ ?_ ?_
    · go_simp
    · intro wx hx; obtain ⟨_, _, g0, g1, g2, g3, g4, g5, g6, g7, g8, g9, g10, g11, _⟩ := hx; go_simp
    try simp only [Act.put, List.setIfInBounds_toArray, List.set_cons_zero, List.set_cons_succ]
    with_reducible refine quiet_value (.agg #[.int .i64 bl, .int .i64 bh]) ?_ ?_ ?_
    · go_simp
    · intro wx hx; obtain ⟨_, _, g0, g1, g2, g3, g4, g5, g6, g7, g8, g9, g10, g11, _⟩ := hx; go_simp
    try simp only [Act.put, List.setIfInBounds_toArray, List.set_cons_zero, List.set_cons_succ]
    with_reducible refine quiet_call (.int .i64 (Sp.equal al ah bl bh)) 33 #[.agg #[.int .i64 al, .int .i64 ah], .agg #[.int .i64 bl, .int .i64 bh]] ?_ ?_ ?_ ?_
    · go_simp
    · intro wx hx; obtain ⟨_, _, g0, g1, g2, g3, g4, g5, g6, g7, g8, g9, g10, g11, _⟩ := hx; go_simp; try (exact ⟨rfl, rfl⟩)
    · intro wx hx; refine (requal_any _ _ _ _ _).mono ?_; rintro e u ⟨rfl, hu⟩; exact ⟨rfl, hx.call hu⟩
    try simp only [Act.put, List.setIfInBounds_toArray, List.set_cons_zero, List.set_cons_succ]
    with_reducible refine quiet_value (.bool true) ?_ ?_ ?_
    · go_simp
    · intro wx hx; obtain ⟨_, _, g0, g1, g2, g3, g4, g5, g6, g7, g8, g9, g10, g11, _⟩ := hx; go_simp
    try simp only [Act.put, List.setIfInBounds_toArray, List.set_cons_zero, List.set_cons_succ]
    with_reducible refine quiet_value_plain (.bool true) rfl ?_ ?_
    · intro wx hx; obtain ⟨_, _, g0, g1, g2, g3, g4, g5, g6, g7, g8, g9, g10, g11, _⟩ := hx; go_simp
    try simp only [Act.put, List.setIfInBounds_toArray, List.set_cons_zero, List.set_cons_succ]
    with_reducible refine quiet_value_plain (.bool true) rfl ?_ ?_
    · intro wx hx; obtain ⟨_, _, g0, g1, g2, g3, g4, g5, g6, g7, g8, g9, g10, g11, _⟩ := hx; go_simp
    try simp only [Act.put, List.setIfInBounds_toArray, List.set_cons_zero, List.set_cons_succ]
    with_reducible refine wpQuiet_nil ?_
    intro wq hq
    go_wp2_with fail
    go_meet
    exact ⟨rfl, hq⟩
  case rest =>
    obtain ⟨rfl, hH⟩ := hcut
    clear h1 z1 hB1 k1_0 k1_1 k1_2 h2 z2 hB2 k2_0 k2_1 k2_2 h3 z3 hB3 k3_0 k3_1 k3_2 k3_3 h4 z4 hB4 k4_0 k4_1 k4_2 k4_3 k4_4 h5 z5 hB5 k5_0 k5_1 k5_2 k5_3 k5_4 k5_5 h6 z6 hB6 k6_0 k6_1 k6_2 k6_3 k6_4 k6_5 k6_6 h7 z7 hB7 k7_0 k7_1 k7_2 k7_3 k7_4 k7_5 k7_6 h8 z8 hB8 k8_0 k8_1 k8_2 k8_3 k8_4 k8_5 k8_6 h9 z9 hB9 k9_0 k9_1 k9_2 k9_3 k9_4 k9_5 k9_6 h10 z10 hB10 k10_0 k10_1 k10_2 k10_3 k10_4 k10_5 k10_6 h11 z11 hB11 k11_0 k11_1 k11_2 k11_3 k11_4 k11_5 k11_6 h12 z12 hB12 k12_0 k12_1 k12_2 k12_3 k12_4 k12_5 k12_6 h13 z13 hB13 k13_0 k13_1 k13_2 k13_3 k13_4 k13_5 k13_6 h14 z14 hB14 k14_0 k14_1 k14_2 k14_3 k14_4 k14_5 k14_6 h15 z15 hB15 k15_0 k15_1 k15_2 k15_3 k15_4 k15_5 k15_6 h16 z16 hB16 k16_0 k16_1 k16_2 k16_3 k16_4 k16_5 k16_6 h17 z17 hB17 k17_0 k17_1 k17_2 k17_3 k17_4 k17_5 k17_6 h18 z18 hB18 k18_0 k18_1 k18_2 k18_3 k18_4 k18_5 k18_6 h19 z19 hB19 k19_0 k19_1 k19_2 k19_3 k19_4 k19_5 k19_6 h20 z20 hB20 k20_0 k20_1 k20_2 k20_3 k20_4 k20_5 k20_6 h21 z21 hB21 k21_0 k21_1 k21_2 k21_3 k21_4 k21_5 k21_6 h22 z22 hB22 k22_0 k22_1 k22_2 k22_3 k22_4 h23 z23 hB23 k23_0 k23_1 k23_2 k23_3 k23_4 k23_5 c23_0_0 f23_0_0 c23_0_1 f23_0_1 c23_1_0 f23_1_0 c23_1_1 f23_1_1 c23_2_0 f23_2_0 c23_2_1 f23_2_1 c23_2_2 f23_2_2 c23_2_3 f23_2_3 c23_2_4 f23_2_4 c23_2_5 f23_2_5 c23_3_0 f23_3_0 c23_3_1 f23_3_1 c23_4_0 f23_4_0 c23_4_1 f23_4_1 c23_5_0 f23_5_0 c23_5_1 f23_5_1
    rename World => wq24
    have HH := Lib.hid hH; clear hH
    go_upto_region 25 with (fail)
    refine quiet_start (HeldAt w [(w.heap.size, 0, .int .i64 al), (w.heap.size, 1, .int .i64 ah), (w.heap.size + 1, 0, .int .i64 bl), (w.heap.size + 1, 1, .int .i64 bh), (v2.heap.size, 0, .int .i64 al), (v2.heap.size, 1, .int .i64 ah), (v3.heap.size, 0, .int .i64 bl), (v3.heap.size, 1, .int .i64 bh), (v22.heap.size, 0, .int .i64 (Sp.ofLo k n m)), (v22.heap.size, 1, .int .i64 (Sp.ofHi k n m)), (v23.heap.size, 0, .int .i64 (Sp.ofLo k n m)), (v23.heap.size, 1, .int .i64 (Sp.ofHi k n m))]) (by kernel_rfl) (by kernel_rfl) (HH.out.drew) ?_
    clear HH
    with_reducible refine quiet_value_plain (.bool true) rfl ?_ ?_
    · intro wx hx; obtain ⟨_, _, g0, g1, g2, g3, g4, g5, g6, g7, g8, g9, g10, g11, _⟩ := hx; go_simp
    try simp only [Act.put, List.setIfInBounds_toArray, List.set_cons_zero, List.set_cons_succ]
    with_reducible refine quiet_value_plain (.bool true) rfl ?_ ?_
    · intro wx hx; obtain ⟨_, _, g0, g1, g2, g3, g4, g5, g6, g7, g8, g9, g10, g11, _⟩ := hx; go_simp
    try simp only [Act.put, List.setIfInBounds_toArray, List.set_cons_zero, List.set_cons_succ]
    with_reducible refine quiet_value (.bool true) ?_ ?_ ?_
    · go_simp
    · intro wx hx; obtain ⟨_, _, g0, g1, g2, g3, g4, g5, g6, g7, g8, g9, g10, g11, _⟩ := hx; go_simp
    try simp only [Act.put, List.setIfInBounds_toArray, List.set_cons_zero, List.set_cons_succ]
    with_reducible refine quiet_value_plain (.bool true) rfl ?_ ?_
    · intro wx hx; obtain ⟨_, _, g0, g1, g2, g3, g4, g5, g6, g7, g8, g9, g10, g11, _⟩ := hx; go_simp
    try simp only [Act.put, List.setIfInBounds_toArray, List.set_cons_zero, List.set_cons_succ]
    with_reducible refine quiet_value_plain (.bool true) rfl ?_ ?_
    · intro wx hx; obtain ⟨_, _, g0, g1, g2, g3, g4, g5, g6, g7, g8, g9, g10, g11, _⟩ := hx; go_simp
    try simp only [Act.put, List.setIfInBounds_toArray, List.set_cons_zero, List.set_cons_succ]
    with_reducible refine quiet_value (.bool true) ?_ ?_ ?_
    · go_simp
    · intro wx hx; obtain ⟨_, _, g0, g1, g2, g3, g4, g5, g6, g7, g8, g9, g10, g11, _⟩ := hx; go_simp
    try simp only [Act.put, List.setIfInBounds_toArray, List.set_cons_zero, List.set_cons_succ]
    with_reducible refine quiet_value_plain (.bool true) rfl ?_ ?_
    · intro wx hx; obtain ⟨_, _, g0, g1, g2, g3, g4, g5, g6, g7, g8, g9, g10, g11, _⟩ := hx; go_simp
    try simp only [Act.put, List.setIfInBounds_toArray, List.set_cons_zero, List.set_cons_succ]
    with_reducible refine quiet_value_plain (.bool true) rfl ?_ ?_
    · intro wx hx; obtain ⟨_, _, g0, g1, g2, g3, g4, g5, g6, g7, g8, g9, g10, g11, _⟩ := hx; go_simp
    try simp only [Act.put, List.setIfInBounds_toArray, List.set_cons_zero, List.set_cons_succ]
    with_reducible refine quiet_value (.agg #[.int .i64 (Sp.ofLo k n m), .int .i64 (Sp.ofHi k n m)]) ?_ ?_ ?_
    · go_simp
    · intro wx hx; obtain ⟨_, _, g0, g1, g2, g3, g4, g5, g6, g7, g8, g9, g10, g11, _⟩ := hx; go_simp
    try simp only [Act.put, List.setIfInBounds_toArray, List.set_cons_zero, List.set_cons_succ]
    with_reducible refine quiet_call (.agg #[.int .i64 (Sp.ofLo k n m), .int .i64 (Sp.ofHi k n m)]) 21 #[.agg #[.int .i64 (Sp.ofLo k n m), .int .i64 (Sp.ofHi k n m)]] ?_ ?_ ?_ ?_
    · go_simp
    · intro wx hx; obtain ⟨_, _, g0, g1, g2, g3, g4, g5, g6, g7, g8, g9, g10, g11, _⟩ := hx; go_simp; try (exact ⟨rfl, rfl⟩)
    · intro wx hx; refine (twin_any _ _ _).mono ?_; rintro e u ⟨rfl, hu⟩; exact ⟨rfl, hx.call hu⟩
    try simp only [Act.put, List.setIfInBounds_toArray, List.set_cons_zero, List.set_cons_succ]
    with_reducible refine quiet_value (.agg #[.int .i64 (Sp.ofLo k n m), .int .i64 (Sp.ofHi k n m)]) ?_ ?_ ?_
    · go_simp
    · intro wx hx; obtain ⟨_, _, g0, g1, g2, g3, g4, g5, g6, g7, g8, g9, g10, g11, _⟩ := hx; go_simp
    try simp only [Act.put, List.setIfInBounds_toArray, List.set_cons_zero, List.set_cons_succ]
    with_reducible refine quiet_value (.bool true) ?_ ?_ ?_
    · go_simp
    · intro wx hx; obtain ⟨_, _, g0, g1, g2, g3, g4, g5, g6, g7, g8, g9, g10, g11, _⟩ := hx; go_simp
    try simp only [Act.put, List.setIfInBounds_toArray, List.set_cons_zero, List.set_cons_succ]
    with_reducible refine quiet_value_plain (.bool true) rfl ?_ ?_
    · intro wx hx; obtain ⟨_, _, g0, g1, g2, g3, g4, g5, g6, g7, g8, g9, g10, g11, _⟩ := hx; go_simp
    try simp only [Act.put, List.setIfInBounds_toArray, List.set_cons_zero, List.set_cons_succ]
    with_reducible refine quiet_value_plain (.bool true) rfl ?_ ?_
    · intro wx hx; obtain ⟨_, _, g0, g1, g2, g3, g4, g5, g6, g7, g8, g9, g10, g11, _⟩ := hx; go_simp
    try simp only [Act.put, List.setIfInBounds_toArray, List.set_cons_zero, List.set_cons_succ]
    with_reducible refine quiet_value (.bool (Sp.ofOk k n m)) ?_ ?_ ?_
    · go_simp
    · intro wx hx; obtain ⟨_, _, g0, g1, g2, g3, g4, g5, g6, g7, g8, g9, g10, g11, _⟩ := hx; go_simp
    try simp only [Act.put, List.setIfInBounds_toArray, List.set_cons_zero, List.set_cons_succ]
    with_reducible refine quiet_value (.bool (Sp.ofOk k n m)) ?_ ?_ ?_
    · go_simp
    · intro wx hx; obtain ⟨_, _, g0, g1, g2, g3, g4, g5, g6, g7, g8, g9, g10, g11, _⟩ := hx; go_simp
    try simp only [Act.put, List.setIfInBounds_toArray, List.set_cons_zero, List.set_cons_succ]
    with_reducible refine quiet_value (.bool true) ?_ ?_ ?_
    · go_simp
    · intro wx hx; obtain ⟨_, _, g0, g1, g2, g3, g4, g5, g6, g7, g8, g9, g10, g11, _⟩ := hx; go_simp
    try simp only [Act.put, List.setIfInBounds_toArray, List.set_cons_zero, List.set_cons_succ]
    with_reducible refine quiet_value_plain (.bool true) rfl ?_ ?_
    · intro wx hx; obtain ⟨_, _, g0, g1, g2, g3, g4, g5, g6, g7, g8, g9, g10, g11, _⟩ := hx; go_simp
    try simp only [Act.put, List.setIfInBounds_toArray, List.set_cons_zero, List.set_cons_succ]
    with_reducible refine quiet_value_plain (.bool true) rfl ?_ ?_
    · intro wx hx; obtain ⟨_, _, g0, g1, g2, g3, g4, g5, g6, g7, g8, g9, g10, g11, _⟩ := hx; go_simp
    try simp only [Act.put, List.setIfInBounds_toArray, List.set_cons_zero, List.set_cons_succ]
    with_reducible refine quiet_value (.agg #[.int .i64 al, .int .i64 ah]) ?_ ?_ ?_
    · go_simp
    · intro wx hx; obtain ⟨_, _, g0, g1, g2, g3, g4, g5, g6, g7, g8, g9, g10, g11, _⟩ := hx; go_simp
    try simp only [Act.put, List.setIfInBounds_toArray, List.set_cons_zero, List.set_cons_succ]
    with_reducible refine quiet_call (.bool (Sp.right al ah)) 9 #[.agg #[.int .i64 al, .int .i64 ah]] ?_ ?_ ?_ ?_
    · go_simp
    · intro wx hx; obtain ⟨_, _, g0, g1, g2, g3, g4, g5, g6, g7, g8, g9, g10, g11, _⟩ := hx; go_simp; try (exact ⟨rfl, rfl⟩)
    · intro wx hx; refine (right_any _ _ _).mono ?_; rintro e u ⟨rfl, hu⟩; exact ⟨rfl, hx.call hu⟩
    try simp only [Act.put, List.setIfInBounds_toArray, List.set_cons_zero, List.set_cons_succ]
    with_reducible refine quiet_value (.agg #[.int .i64 al, .int .i64 ah]) ?_ ?_ ?_
    · go_simp
    · intro wx hx; obtain ⟨_, _, g0, g1, g2, g3, g4, g5, g6, g7, g8, g9, g10, g11, _⟩ := hx; go_simp
    try simp only [Act.put, List.setIfInBounds_toArray, List.set_cons_zero, List.set_cons_succ]
    with_reducible refine quiet_call (.bool (Sp.right al ah)) 34 #[.agg #[.int .i64 al, .int .i64 ah]] ?_ ?_ ?_ ?_
    · go_simp
    · intro wx hx; obtain ⟨_, _, g0, g1, g2, g3, g4, g5, g6, g7, g8, g9, g10, g11, _⟩ := hx; go_simp; try (exact ⟨rfl, rfl⟩)
    · intro wx hx; refine (rright_any _ _ _).mono ?_; rintro e u ⟨rfl, hu⟩; exact ⟨rfl, hx.call hu⟩
    try simp only [Act.put, List.setIfInBounds_toArray, List.set_cons_zero, List.set_cons_succ]
    with_reducible refine quiet_value (.bool true) ?_ ?_ ?_
    · go_simp
    · intro wx hx; obtain ⟨_, _, g0, g1, g2, g3, g4, g5, g6, g7, g8, g9, g10, g11, _⟩ := hx; go_simp
    try simp only [Act.put, List.setIfInBounds_toArray, List.set_cons_zero, List.set_cons_succ]
    with_reducible refine quiet_value_plain (.bool true) rfl ?_ ?_
    · intro wx hx; obtain ⟨_, _, g0, g1, g2, g3, g4, g5, g6, g7, g8, g9, g10, g11, _⟩ := hx; go_simp
    try simp only [Act.put, List.setIfInBounds_toArray, List.set_cons_zero, List.set_cons_succ]
    with_reducible refine quiet_value_plain (.bool true) rfl ?_ ?_
    · intro wx hx; obtain ⟨_, _, g0, g1, g2, g3, g4, g5, g6, g7, g8, g9, g10, g11, _⟩ := hx; go_simp
    try simp only [Act.put, List.setIfInBounds_toArray, List.set_cons_zero, List.set_cons_succ]
    with_reducible refine quiet_value (.agg #[.int .i64 al, .int .i64 ah]) ?_ ?_ ?_
    · go_simp
    · intro wx hx; obtain ⟨_, _, g0, g1, g2, g3, g4, g5, g6, g7, g8, g9, g10, g11, _⟩ := hx; go_simp
    try simp only [Act.put, List.setIfInBounds_toArray, List.set_cons_zero, List.set_cons_succ]
    with_reducible refine quiet_call (av (Sp.valK al ah) ⟨#[]⟩ (Sp.valN al ah) (Sp.valM al ah) ⟨#[]⟩ none 0 0) 36 #[.agg #[.int .i64 al, .int .i64 ah]] ?_ ?_ ?_ ?_
    · go_simp
    · intro wx hx; obtain ⟨_, _, g0, g1, g2, g3, g4, g5, g6, g7, g8, g9, g10, g11, _⟩ := hx; go_simp; try (exact ⟨rfl, rfl⟩)
    · intro wx hx; refine (value_any _ _ _).mono ?_; rintro e u ⟨rfl, hu⟩; exact ⟨rfl, hx.call hu⟩
    try simp only [Act.put, List.setIfInBounds_toArray, List.set_cons_zero, List.set_cons_succ]
    with_reducible refine quiet_value (.agg #[.int .i64 al, .int .i64 ah]) ?_ ?_ ?_
    · go_simp
    · intro wx hx; obtain ⟨_, _, g0, g1, g2, g3, g4, g5, g6, g7, g8, g9, g10, g11, _⟩ := hx; go_simp
    try simp only [Act.put, List.setIfInBounds_toArray, List.set_cons_zero, List.set_cons_succ]
    with_reducible refine quiet_call (av (Sp.valK al ah) ⟨#[]⟩ (Sp.valN al ah) (Sp.valM al ah) ⟨#[]⟩ none 0 0) 37 #[.agg #[.int .i64 al, .int .i64 ah]] ?_ ?_ ?_ ?_
    · go_simp
    · intro wx hx; obtain ⟨_, _, g0, g1, g2, g3, g4, g5, g6, g7, g8, g9, g10, g11, _⟩ := hx; go_simp; try (exact ⟨rfl, rfl⟩)
    · intro wx hx; refine (rvalue_any _ _ _).mono ?_; rintro e u ⟨rfl, hu⟩; exact ⟨rfl, hx.call hu⟩
    try simp only [Act.put, List.setIfInBounds_toArray, List.set_cons_zero, List.set_cons_succ]
    with_reducible refine quiet_call (.bool true) 35 #[av (Sp.valK al ah) ⟨#[]⟩ (Sp.valN al ah) (Sp.valM al ah) ⟨#[]⟩ none 0 0, av (Sp.valK al ah) ⟨#[]⟩ (Sp.valN al ah) (Sp.valM al ah) ⟨#[]⟩ none 0 0] ?_ ?_ ?_ ?_
    · go_simp
    · intro wx hx; obtain ⟨_, _, g0, g1, g2, g3, g4, g5, g6, g7, g8, g9, g10, g11, _⟩ := hx; go_simp; try (exact ⟨rfl, rfl⟩)
    · intro wx hx; refine (vequal_nil _ _ _ _ _ _).mono ?_; rintro e u ⟨rfl, hu⟩; exact ⟨rfl, hx.call hu⟩
    try simp only [Act.put, List.setIfInBounds_toArray, List.set_cons_zero, List.set_cons_succ]
    with_reducible refine quiet_value_plain (.bool true) rfl ?_ ?_
    · intro wx hx; obtain ⟨_, _, g0, g1, g2, g3, g4, g5, g6, g7, g8, g9, g10, g11, _⟩ := hx; go_simp
    try simp only [Act.put, List.setIfInBounds_toArray, List.set_cons_zero, List.set_cons_succ]
    with_reducible refine quiet_value_plain (.bool true) rfl ?_ ?_
    · intro wx hx; obtain ⟨_, _, g0, g1, g2, g3, g4, g5, g6, g7, g8, g9, g10, g11, _⟩ := hx; go_simp
    try simp only [Act.put, List.setIfInBounds_toArray, List.set_cons_zero, List.set_cons_succ]
    with_reducible refine wpQuiet_nil ?_
    intro wq hq
    go_wp2_with fail
    go_ret
    exact ⟨rfl, hq.1⟩
end Go.Proofs.Ytjdppnkmhgihnaa
