/- The contract of span.Mod. -/
import Derived.Test.YtjdppnkmhgihnaaWd
namespace Go.Proofs.Ytjdppnkmhgihnaa
open Go.RowKit

set_option maxHeartbeats 1600000 in
theorem mod_zero (al ah bl bh : Int) (w : World) (ha : Sp.right al ah = true) (hb : Sp.right bl bh = true) (hd : (Sp.divisor bl bh != 0) = true) :
    Calls Try.prog 16 #[.agg #[.int .i64 al, .int .i64 ah], .agg #[.int .i64 bl, .int .i64 bh]] w fun e w' => e = .returned (rv (Sp.mod al ah bl bh)) ∧ Below w.heap.size w w' := by
  have hfin : Sp.mod al ah bl bh = ⟨0, 0, Sp.divisor bl bh⟩ := by
    simp at hd; simp [Sp.mod, ha, hb, hd]
  rw [hfin]
  clear hfin
  have ne1 : ¬ (w.heap.size + 1 + 1 = w.heap.size) := by omega
  go_enter Try.func16, Try.ntmps16
  go_wp2_with (first
    | (go_at_call 9; refine (right_any _ _ _).mono ?_; rintro e w1 ⟨rfl, hw1⟩; have hz := hw1.size; (try simp at hz); have hB : Below w.heap.size w w1 := Below.call (w := w) (by repeat (first | exact Below.refl _ _ | (with_reducible assumption) | refine Below.setCell ?_ (by first | omega | (simp; omega) | (simp; done)) _ | refine Below.alloc ?_ (by first | omega | (simp; omega) | (simp; done)) _ | refine Below.drew ?_)) hw1; (try obtain ⟨k1, k2, k3⟩ := keepB hw1 (w.heap.size) (by first | omega | (simp; omega) | (simp; done))); (try obtain ⟨k1, k2, k3⟩ := keepB hw1 (w.heap.size + 1) (by first | omega | (simp; omega) | (simp; done))); (try obtain ⟨k1, k2, k3⟩ := keepB hw1 (w.heap.size + 1 + 1) (by first | omega | (simp; omega) | (simp; done))))
    | (go_at_call 51; refine (divisor_any _ _ _).mono ?_; rintro e w1 ⟨rfl, hw1⟩; have hz := hw1.size; (try simp at hz); have hB : Below w.heap.size w w1 := Below.call (w := w) (by repeat (first | exact Below.refl _ _ | (with_reducible assumption) | refine Below.setCell ?_ (by first | omega | (simp; omega) | (simp; done)) _ | refine Below.alloc ?_ (by first | omega | (simp; omega) | (simp; done)) _ | refine Below.drew ?_)) hw1; (try obtain ⟨k1, k2, k3⟩ := keepB hw1 (w.heap.size) (by first | omega | (simp; omega) | (simp; done))); (try obtain ⟨k1, k2, k3⟩ := keepB hw1 (w.heap.size + 1) (by first | omega | (simp; omega) | (simp; done))); (try obtain ⟨k1, k2, k3⟩ := keepB hw1 (w.heap.size + 1 + 1) (by first | omega | (simp; omega) | (simp; done)))))
  refine bodyPost_ret (v := rv (⟨0, 0, Sp.divisor bl bh⟩)) (by simp [results, Try.results16, go_sem, *]) rfl ⟨rfl, ?_⟩
  exact (by repeat (first | exact Below.refl _ _ | (with_reducible assumption) | refine Below.setCell ?_ (by first | omega | (simp; omega) | (simp; done)) _ | refine Below.alloc ?_ (by first | omega | (simp; omega) | (simp; done)) _ | refine Below.drew ?_))

set_option maxHeartbeats 1600000 in
theorem mod_point (al ah bl bh : Int) (w : World) (ha : Sp.right al ah = true) (hb : Sp.right bl bh = true) (hd : (Sp.divisor bl bh != 0) = false) (h1 : (bl == bh) = true) (h2 : (al == ah) = true) :
    Calls Try.prog 16 #[.agg #[.int .i64 al, .int .i64 ah], .agg #[.int .i64 bl, .int .i64 bh]] w fun e w' => e = .returned (rv (Sp.mod al ah bl bh)) ∧ Below w.heap.size w w' := by
  have hfin : Sp.mod al ah bl bh = Sp.fit (Sp.rem al bl) (Sp.rem al bl) := by
    simp at hd h1 h2; subst h1 h2; simp [Sp.mod, ha, hb, hd]
  rw [hfin]
  clear hfin
  have ne1 : ¬ (w.heap.size + 1 + 1 = w.heap.size) := by omega
  go_enter Try.func16, Try.ntmps16
  go_wp2_with (first
    | (go_at_call 9; refine (right_any _ _ _).mono ?_; rintro e w1 ⟨rfl, hw1⟩; have hz := hw1.size; (try simp at hz); have hB : Below w.heap.size w w1 := Below.call (w := w) (by repeat (first | exact Below.refl _ _ | (with_reducible assumption) | refine Below.setCell ?_ (by first | omega | (simp; omega) | (simp; done)) _ | refine Below.alloc ?_ (by first | omega | (simp; omega) | (simp; done)) _ | refine Below.drew ?_)) hw1; (try obtain ⟨k1, k2, k3⟩ := keepB hw1 (w.heap.size) (by first | omega | (simp; omega) | (simp; done))); (try obtain ⟨k1, k2, k3⟩ := keepB hw1 (w.heap.size + 1) (by first | omega | (simp; omega) | (simp; done))); (try obtain ⟨k1, k2, k3⟩ := keepB hw1 (w.heap.size + 1 + 1) (by first | omega | (simp; omega) | (simp; done))))
    | (go_at_call 51; refine (divisor_any _ _ _).mono ?_; rintro e w1 ⟨rfl, hw1⟩; have hz := hw1.size; (try simp at hz); have hB : Below w.heap.size w w1 := Below.call (w := w) (by repeat (first | exact Below.refl _ _ | (with_reducible assumption) | refine Below.setCell ?_ (by first | omega | (simp; omega) | (simp; done)) _ | refine Below.alloc ?_ (by first | omega | (simp; omega) | (simp; done)) _ | refine Below.drew ?_)) hw1; (try obtain ⟨k1, k2, k3⟩ := keepB hw1 (w.heap.size) (by first | omega | (simp; omega) | (simp; done))); (try obtain ⟨k1, k2, k3⟩ := keepB hw1 (w.heap.size + 1) (by first | omega | (simp; omega) | (simp; done))); (try obtain ⟨k1, k2, k3⟩ := keepB hw1 (w.heap.size + 1 + 1) (by first | omega | (simp; omega) | (simp; done))))
    | (go_at_call 53; refine (remainder_any _ _ _).mono ?_; rintro e w1 ⟨rfl, rfl⟩)
    | (go_at_call 49; refine (hull_nil _ _).mono ?_; rintro e w1 ⟨rfl, hw1⟩; have hz := hw1.size; (try simp at hz); have hB : Below w.heap.size w w1 := Below.call (w := w) (by repeat (first | exact Below.refl _ _ | (with_reducible assumption) | refine Below.setCell ?_ (by first | omega | (simp; omega) | (simp; done)) _ | refine Below.alloc ?_ (by first | omega | (simp; omega) | (simp; done)) _ | refine Below.drew ?_)) hw1; (try obtain ⟨k1, k2, k3⟩ := keepB hw1 (w.heap.size) (by first | omega | (simp; omega) | (simp; done))); (try obtain ⟨k1, k2, k3⟩ := keepB hw1 (w.heap.size + 1) (by first | omega | (simp; omega) | (simp; done))); (try obtain ⟨k1, k2, k3⟩ := keepB hw1 (w.heap.size + 1 + 1) (by first | omega | (simp; omega) | (simp; done))))
    | (go_at_call 48; refine (fit_any _ _ _).mono ?_; rintro e w1 ⟨rfl, hw1⟩; have hz := hw1.size; (try simp at hz); have hB : Below w.heap.size w w1 := Below.call (w := w) (by repeat (first | exact Below.refl _ _ | (with_reducible assumption) | refine Below.setCell ?_ (by first | omega | (simp; omega) | (simp; done)) _ | refine Below.alloc ?_ (by first | omega | (simp; omega) | (simp; done)) _ | refine Below.drew ?_)) hw1; (try obtain ⟨k1, k2, k3⟩ := keepB hw1 (w.heap.size) (by first | omega | (simp; omega) | (simp; done))); (try obtain ⟨k1, k2, k3⟩ := keepB hw1 (w.heap.size + 1) (by first | omega | (simp; omega) | (simp; done))); (try obtain ⟨k1, k2, k3⟩ := keepB hw1 (w.heap.size + 1 + 1) (by first | omega | (simp; omega) | (simp; done)))))
  refine bodyPost_ret (v := rv (Sp.fit (Sp.rem al bl) (Sp.rem al bl))) (by simp [results, Try.results16, go_sem, *]) rfl ⟨rfl, ?_⟩
  exact (by repeat (first | exact Below.refl _ _ | (with_reducible assumption) | refine Below.setCell ?_ (by first | omega | (simp; omega) | (simp; done)) _ | refine Below.alloc ?_ (by first | omega | (simp; omega) | (simp; done)) _ | refine Below.drew ?_))

set_option maxHeartbeats 1600000 in
theorem mod_samea (al ah bl bh : Int) (w : World) (ha : Sp.right al ah = true) (hb : Sp.right bl bh = true) (hd : (Sp.divisor bl bh != 0) = false) (h1 : (bl == bh) = true) (h2 : (al == ah) = false) (h3 : decide (0 ≤ al) = true) (hq : (Sp.quo al bl == Sp.quo ah bl) = true) :
    Calls Try.prog 16 #[.agg #[.int .i64 al, .int .i64 ah], .agg #[.int .i64 bl, .int .i64 bh]] w fun e w' => e = .returned (rv (Sp.mod al ah bl bh)) ∧ Below w.heap.size w w' := by
  have hfin : Sp.mod al ah bl bh = Sp.fit (Sp.hullLo (Sp.rem al bl) [Sp.rem ah bl]) (Sp.hullHi (Sp.rem al bl) [Sp.rem ah bl]) := by
    simp at hd h1 h2 h3  hq; subst h1; simp [Sp.mod, ha, hb, hd, h2, h3, hq]
  rw [hfin]
  clear hfin
  have ne1 : ¬ (w.heap.size + 1 + 1 = w.heap.size) := by omega
  go_enter Try.func16, Try.ntmps16
  go_wp2_with (first
    | (go_at_call 9; refine (right_any _ _ _).mono ?_; rintro e w1 ⟨rfl, hw1⟩; have hz := hw1.size; (try simp at hz); have hB : Below w.heap.size w w1 := Below.call (w := w) (by repeat (first | exact Below.refl _ _ | (with_reducible assumption) | refine Below.setCell ?_ (by first | omega | (simp; omega) | (simp; done)) _ | refine Below.alloc ?_ (by first | omega | (simp; omega) | (simp; done)) _ | refine Below.drew ?_)) hw1; (try obtain ⟨k1, k2, k3⟩ := keepB hw1 (w.heap.size) (by first | omega | (simp; omega) | (simp; done))); (try obtain ⟨k1, k2, k3⟩ := keepB hw1 (w.heap.size + 1) (by first | omega | (simp; omega) | (simp; done))); (try obtain ⟨k1, k2, k3⟩ := keepB hw1 (w.heap.size + 1 + 1) (by first | omega | (simp; omega) | (simp; done))))
    | (go_at_call 51; refine (divisor_any _ _ _).mono ?_; rintro e w1 ⟨rfl, hw1⟩; have hz := hw1.size; (try simp at hz); have hB : Below w.heap.size w w1 := Below.call (w := w) (by repeat (first | exact Below.refl _ _ | (with_reducible assumption) | refine Below.setCell ?_ (by first | omega | (simp; omega) | (simp; done)) _ | refine Below.alloc ?_ (by first | omega | (simp; omega) | (simp; done)) _ | refine Below.drew ?_)) hw1; (try obtain ⟨k1, k2, k3⟩ := keepB hw1 (w.heap.size) (by first | omega | (simp; omega) | (simp; done))); (try obtain ⟨k1, k2, k3⟩ := keepB hw1 (w.heap.size + 1) (by first | omega | (simp; omega) | (simp; done))); (try obtain ⟨k1, k2, k3⟩ := keepB hw1 (w.heap.size + 1 + 1) (by first | omega | (simp; omega) | (simp; done)))))
  go_region_held3 (fun w' => w'.cell? ⟨w.heap.size, 0, none⟩ = some (.int .i64 al) ∧ w'.cell? ⟨w.heap.size, 1, none⟩ = some (.int .i64 ah) ∧ w'.cell? ⟨w.heap.size + 1, 0, none⟩ = some (.int .i64 bl) ∧ w'.cell? ⟨w.heap.size + 1, 1, none⟩ = some (.int .i64 bh)) (go_keep)
    (first
    | (go_at_call 52; refine (quotient_any _ _ _).mono ?_; rintro e w1 ⟨rfl, rfl⟩))
  go_wp2_with fail
  go_region_held3 (fun w' => w'.cell? ⟨w.heap.size, 0, none⟩ = some (.int .i64 al) ∧ w'.cell? ⟨w.heap.size, 1, none⟩ = some (.int .i64 ah) ∧ w'.cell? ⟨w.heap.size + 1, 0, none⟩ = some (.int .i64 bl) ∧ w'.cell? ⟨w.heap.size + 1, 1, none⟩ = some (.int .i64 bh)) (go_keep)
    (first
    | (go_at_call 53; refine (remainder_any _ _ _).mono ?_; rintro e w1 ⟨rfl, rfl⟩)
    | (go_at_call 49; refine (hull_any _ [Sp.rem ah bl] _ _ ?_ ?_ ?_).mono ?_; (simp); (simp); (intro k hk; (obtain rfl : k = 0 := by simp at hk; omega); simp); rintro e w1 ⟨rfl, hw1⟩; have hz := hw1.size; (try simp at hz); have hB : Below w.heap.size w w1 := Below.call (w := w) (by repeat (first | exact Below.refl _ _ | (with_reducible assumption) | refine Below.setCell ?_ (by first | omega | (simp; omega) | (simp; done)) _ | refine Below.alloc ?_ (by first | omega | (simp; omega) | (simp; done)) _ | refine Below.drew ?_)) hw1; (try obtain ⟨k1, k2, k3⟩ := keepB hw1 (w.heap.size) (by first | omega | (simp; omega) | (simp; done))); (try obtain ⟨k1, k2, k3⟩ := keepB hw1 (w.heap.size + 1) (by first | omega | (simp; omega) | (simp; done))); (try obtain ⟨k1, k2, k3⟩ := keepB hw1 (w.heap.size + 1 + 1) (by first | omega | (simp; omega) | (simp; done))))
    | (go_at_call 48; refine (fit_any _ _ _).mono ?_; rintro e w1 ⟨rfl, hw1⟩; have hz := hw1.size; (try simp at hz); have hB : Below w.heap.size w w1 := Below.call (w := w) (by repeat (first | exact Below.refl _ _ | (with_reducible assumption) | refine Below.setCell ?_ (by first | omega | (simp; omega) | (simp; done)) _ | refine Below.alloc ?_ (by first | omega | (simp; omega) | (simp; done)) _ | refine Below.drew ?_)) hw1; (try obtain ⟨k1, k2, k3⟩ := keepB hw1 (w.heap.size) (by first | omega | (simp; omega) | (simp; done))); (try obtain ⟨k1, k2, k3⟩ := keepB hw1 (w.heap.size + 1) (by first | omega | (simp; omega) | (simp; done))); (try obtain ⟨k1, k2, k3⟩ := keepB hw1 (w.heap.size + 1 + 1) (by first | omega | (simp; omega) | (simp; done)))))
  go_wp2
  refine bodyPost_ret (v := rv (Sp.fit (Sp.hullLo (Sp.rem al bl) [Sp.rem ah bl]) (Sp.hullHi (Sp.rem al bl) [Sp.rem ah bl]))) (by simp [results, Try.results16, go_sem, *]) rfl ⟨rfl, ?_⟩
  exact (by repeat (first | exact Below.refl _ _ | (with_reducible assumption) | refine Below.setCell ?_ (by first | omega | (simp; omega) | (simp; done)) _ | refine Below.alloc ?_ (by first | omega | (simp; omega) | (simp; done)) _ | refine Below.drew ?_))

set_option maxHeartbeats 1600000 in
theorem mod_sameb (al ah bl bh : Int) (w : World) (ha : Sp.right al ah = true) (hb : Sp.right bl bh = true) (hd : (Sp.divisor bl bh != 0) = false) (h1 : (bl == bh) = true) (h2 : (al == ah) = false) (h3 : decide (0 ≤ al) = false) (h4 : decide (ah ≤ 0) = true) (hq : (Sp.quo al bl == Sp.quo ah bl) = true) :
    Calls Try.prog 16 #[.agg #[.int .i64 al, .int .i64 ah], .agg #[.int .i64 bl, .int .i64 bh]] w fun e w' => e = .returned (rv (Sp.mod al ah bl bh)) ∧ Below w.heap.size w w' := by
  have hfin : Sp.mod al ah bl bh = Sp.fit (Sp.hullLo (Sp.rem al bl) [Sp.rem ah bl]) (Sp.hullHi (Sp.rem al bl) [Sp.rem ah bl]) := by
    simp at hd h1 h2 h3 h4 hq; subst h1; simp [Sp.mod, ha, hb, hd, h2, h4, hq]
  rw [hfin]
  clear hfin
  have ne1 : ¬ (w.heap.size + 1 + 1 = w.heap.size) := by omega
  go_enter Try.func16, Try.ntmps16
  go_wp2_with (first
    | (go_at_call 9; refine (right_any _ _ _).mono ?_; rintro e w1 ⟨rfl, hw1⟩; have hz := hw1.size; (try simp at hz); have hB : Below w.heap.size w w1 := Below.call (w := w) (by repeat (first | exact Below.refl _ _ | (with_reducible assumption) | refine Below.setCell ?_ (by first | omega | (simp; omega) | (simp; done)) _ | refine Below.alloc ?_ (by first | omega | (simp; omega) | (simp; done)) _ | refine Below.drew ?_)) hw1; (try obtain ⟨k1, k2, k3⟩ := keepB hw1 (w.heap.size) (by first | omega | (simp; omega) | (simp; done))); (try obtain ⟨k1, k2, k3⟩ := keepB hw1 (w.heap.size + 1) (by first | omega | (simp; omega) | (simp; done))); (try obtain ⟨k1, k2, k3⟩ := keepB hw1 (w.heap.size + 1 + 1) (by first | omega | (simp; omega) | (simp; done))))
    | (go_at_call 51; refine (divisor_any _ _ _).mono ?_; rintro e w1 ⟨rfl, hw1⟩; have hz := hw1.size; (try simp at hz); have hB : Below w.heap.size w w1 := Below.call (w := w) (by repeat (first | exact Below.refl _ _ | (with_reducible assumption) | refine Below.setCell ?_ (by first | omega | (simp; omega) | (simp; done)) _ | refine Below.alloc ?_ (by first | omega | (simp; omega) | (simp; done)) _ | refine Below.drew ?_)) hw1; (try obtain ⟨k1, k2, k3⟩ := keepB hw1 (w.heap.size) (by first | omega | (simp; omega) | (simp; done))); (try obtain ⟨k1, k2, k3⟩ := keepB hw1 (w.heap.size + 1) (by first | omega | (simp; omega) | (simp; done))); (try obtain ⟨k1, k2, k3⟩ := keepB hw1 (w.heap.size + 1 + 1) (by first | omega | (simp; omega) | (simp; done)))))
  go_region_held3 (fun w' => w'.cell? ⟨w.heap.size, 0, none⟩ = some (.int .i64 al) ∧ w'.cell? ⟨w.heap.size, 1, none⟩ = some (.int .i64 ah) ∧ w'.cell? ⟨w.heap.size + 1, 0, none⟩ = some (.int .i64 bl) ∧ w'.cell? ⟨w.heap.size + 1, 1, none⟩ = some (.int .i64 bh)) (go_keep)
    (first
    | (go_at_call 52; refine (quotient_any _ _ _).mono ?_; rintro e w1 ⟨rfl, rfl⟩))
  go_wp2_with fail
  go_region_held3 (fun w' => w'.cell? ⟨w.heap.size, 0, none⟩ = some (.int .i64 al) ∧ w'.cell? ⟨w.heap.size, 1, none⟩ = some (.int .i64 ah) ∧ w'.cell? ⟨w.heap.size + 1, 0, none⟩ = some (.int .i64 bl) ∧ w'.cell? ⟨w.heap.size + 1, 1, none⟩ = some (.int .i64 bh)) (go_keep)
    (first
    | (go_at_call 53; refine (remainder_any _ _ _).mono ?_; rintro e w1 ⟨rfl, rfl⟩)
    | (go_at_call 49; refine (hull_any _ [Sp.rem ah bl] _ _ ?_ ?_ ?_).mono ?_; (simp); (simp); (intro k hk; (obtain rfl : k = 0 := by simp at hk; omega); simp); rintro e w1 ⟨rfl, hw1⟩; have hz := hw1.size; (try simp at hz); have hB : Below w.heap.size w w1 := Below.call (w := w) (by repeat (first | exact Below.refl _ _ | (with_reducible assumption) | refine Below.setCell ?_ (by first | omega | (simp; omega) | (simp; done)) _ | refine Below.alloc ?_ (by first | omega | (simp; omega) | (simp; done)) _ | refine Below.drew ?_)) hw1; (try obtain ⟨k1, k2, k3⟩ := keepB hw1 (w.heap.size) (by first | omega | (simp; omega) | (simp; done))); (try obtain ⟨k1, k2, k3⟩ := keepB hw1 (w.heap.size + 1) (by first | omega | (simp; omega) | (simp; done))); (try obtain ⟨k1, k2, k3⟩ := keepB hw1 (w.heap.size + 1 + 1) (by first | omega | (simp; omega) | (simp; done))))
    | (go_at_call 48; refine (fit_any _ _ _).mono ?_; rintro e w1 ⟨rfl, hw1⟩; have hz := hw1.size; (try simp at hz); have hB : Below w.heap.size w w1 := Below.call (w := w) (by repeat (first | exact Below.refl _ _ | (with_reducible assumption) | refine Below.setCell ?_ (by first | omega | (simp; omega) | (simp; done)) _ | refine Below.alloc ?_ (by first | omega | (simp; omega) | (simp; done)) _ | refine Below.drew ?_)) hw1; (try obtain ⟨k1, k2, k3⟩ := keepB hw1 (w.heap.size) (by first | omega | (simp; omega) | (simp; done))); (try obtain ⟨k1, k2, k3⟩ := keepB hw1 (w.heap.size + 1) (by first | omega | (simp; omega) | (simp; done))); (try obtain ⟨k1, k2, k3⟩ := keepB hw1 (w.heap.size + 1 + 1) (by first | omega | (simp; omega) | (simp; done)))))
  go_wp2
  refine bodyPost_ret (v := rv (Sp.fit (Sp.hullLo (Sp.rem al bl) [Sp.rem ah bl]) (Sp.hullHi (Sp.rem al bl) [Sp.rem ah bl]))) (by simp [results, Try.results16, go_sem, *]) rfl ⟨rfl, ?_⟩
  exact (by repeat (first | exact Below.refl _ _ | (with_reducible assumption) | refine Below.setCell ?_ (by first | omega | (simp; omega) | (simp; done)) _ | refine Below.alloc ?_ (by first | omega | (simp; omega) | (simp; done)) _ | refine Below.drew ?_))
end Go.Proofs.Ytjdppnkmhgihnaa
