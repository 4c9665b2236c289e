/- The contract of span.Mod, the remaining ways. -/
import Derived.Test.YtjdppnkmhgihnaaWe
namespace Go.Proofs.Ytjdppnkmhgihnaa
open Go.RowKit

theorem mx_cases (a x : Int) : (a < x ∧ Sp.mx a x = x) ∨ (x ≤ a ∧ Sp.mx a x = a) := by
  unfold Sp.mx; split
  · exact Or.inl ⟨by assumption, rfl⟩
  · exact Or.inr ⟨by omega, rfl⟩
theorem mn_cases (a x : Int) : (x < a ∧ Sp.mn a x = x) ∨ (a ≤ x ∧ Sp.mn a x = a) := by
  unfold Sp.mn; split
  · exact Or.inl ⟨by assumption, rfl⟩
  · exact Or.inr ⟨by omega, rfl⟩

set_option maxHeartbeats 1600000 in
theorem mod_wide_pp (al ah bl bh : Int) (w : World) (ha : Sp.right al ah = true) (hb : Sp.right bl bh = true) (hd : (Sp.divisor bl bh != 0) = false) (sa : 0 ≤ al) (sh : 0 < ah) (h1 : (bl == bh) = false) :
    Calls Try.prog 16 #[.agg #[.int .i64 al, .int .i64 ah], .agg #[.int .i64 bl, .int .i64 bh]] w fun e w' => e = .returned (rv (Sp.mod al ah bl bh)) ∧ Below w.heap.size w w' := by
  have hfin : Sp.mod al ah bl bh = ⟨0, (Sp.mn ah (Sp.modM bl bh)), 0⟩ := by
    simp at hd h1; simp [Sp.mod, ha, hb, hd, h1, sh, show ¬ al < 0 by omega]
  rw [hfin]
  clear hfin
  have ne1 : ¬ (w.heap.size + 1 + 1 = w.heap.size) := by omega
  obtain ⟨a1, a2, a3⟩ := right_bd ha
  obtain ⟨b1, b2, b3⟩ := right_bd hb
  have h3 : decide (0 ≤ al) = true := by simp; omega
  have h4 : decide (ah ≤ 0) = false := by simp; omega
  obtain ⟨X, hX⟩ : ∃ X, X = Sp.mx (Sp.mx (Sp.mx bl (-bl)) bh) (-bh) := ⟨_, rfl⟩
  have x1 : 0 ≤ X := by rw [hX]; unfold Sp.mx; repeat' split; all_goals omega
  have x2 : X ≤ 9007199254740992 := by rw [hX]; unfold Sp.mx; repeat' split; all_goals omega
  have hmx4 : ∀ (ts : Array TypeId) (t : TypeId) (wx : World), (Builtin.max_ ts t #[.int .i64 bl, .int .i64 (-bl), .int .i64 bh, .int .i64 (-bh)]).run Try.prog wx = .ok (.int .i64 X) wx := fun ts t wx => by rw [hX]; simp [Builtin.max_, Builtin.max2, Sp.mx]; try rfl
  have eM : Sp.modM bl bh = X - 1 := by rw [hX]; rfl
  rw [eM]
  clear eM hX
  obtain ⟨g2, e2⟩ | ⟨g2, e2⟩ := mn_cases ah (X - 1)
  · rw [e2]
    clear e2
    go_enter Try.func16, Try.ntmps16
    go_wp2_with (first
      | (go_at_call 9; refine (right_any _ _ _).mono ?_; rintro e w1 ⟨rfl, hw1⟩; have hz := hw1.size; (try simp at hz); have hB : Below w.heap.size w w1 := Below.call (w := w) (by repeat (first | exact Below.refl _ _ | (with_reducible assumption) | refine Below.setCell ?_ (by first | omega | (simp; omega) | (simp; done)) _ | refine Below.alloc ?_ (by first | omega | (simp; omega) | (simp; done)) _ | refine Below.drew ?_)) hw1; (try obtain ⟨k1, k2, k3⟩ := keepB hw1 (w.heap.size) (by first | omega | (simp; omega) | (simp; done))); (try obtain ⟨k1, k2, k3⟩ := keepB hw1 (w.heap.size + 1) (by first | omega | (simp; omega) | (simp; done))); (try obtain ⟨k1, k2, k3⟩ := keepB hw1 (w.heap.size + 1 + 1) (by first | omega | (simp; omega) | (simp; done))))
      | (go_at_call 51; refine (divisor_any _ _ _).mono ?_; rintro e w1 ⟨rfl, hw1⟩; have hz := hw1.size; (try simp at hz); have hB : Below w.heap.size w w1 := Below.call (w := w) (by repeat (first | exact Below.refl _ _ | (with_reducible assumption) | refine Below.setCell ?_ (by first | omega | (simp; omega) | (simp; done)) _ | refine Below.alloc ?_ (by first | omega | (simp; omega) | (simp; done)) _ | refine Below.drew ?_)) hw1; (try obtain ⟨k1, k2, k3⟩ := keepB hw1 (w.heap.size) (by first | omega | (simp; omega) | (simp; done))); (try obtain ⟨k1, k2, k3⟩ := keepB hw1 (w.heap.size + 1) (by first | omega | (simp; omega) | (simp; done))); (try obtain ⟨k1, k2, k3⟩ := keepB hw1 (w.heap.size + 1 + 1) (by first | omega | (simp; omega) | (simp; done)))))
    go_quiet (fail)
    have hD : Below w1.heap.size w1 (w1.drewN nq) := below_drewN (Below.refl _ _) _
    generalize w1.drewN nq = wq at *
    have hB2 : Below w.heap.size w wq := Below.call (w := w) hB hD
    have hz2 := hD.size
    obtain ⟨k1, k2, k3⟩ := keepB hD (w.heap.size) (by omega)
    obtain ⟨k1, k2, k3⟩ := keepB hD (w.heap.size + 1) (by omega)
    obtain ⟨k1, k2, k3⟩ := keepB hD (w.heap.size + 1 + 1) (by omega)
    go_wp2_with fail
    refine bodyPost_ret (v := rv (⟨0, X - 1, 0⟩)) (by simp [results, Try.results16, go_sem, *]) rfl ⟨rfl, ?_⟩
    exact (by repeat (first | exact Below.refl _ _ | (with_reducible assumption) | refine Below.setCell ?_ (by first | omega | (simp; omega) | (simp; done)) _ | refine Below.alloc ?_ (by first | omega | (simp; omega) | (simp; done)) _ | refine Below.drew ?_))
  · rw [e2]
    clear e2
    go_enter Try.func16, Try.ntmps16
    go_wp2_with (first
      | (go_at_call 9; refine (right_any _ _ _).mono ?_; rintro e w1 ⟨rfl, hw1⟩; have hz := hw1.size; (try simp at hz); have hB : Below w.heap.size w w1 := Below.call (w := w) (by repeat (first | exact Below.refl _ _ | (with_reducible assumption) | refine Below.setCell ?_ (by first | omega | (simp; omega) | (simp; done)) _ | refine Below.alloc ?_ (by first | omega | (simp; omega) | (simp; done)) _ | refine Below.drew ?_)) hw1; (try obtain ⟨k1, k2, k3⟩ := keepB hw1 (w.heap.size) (by first | omega | (simp; omega) | (simp; done))); (try obtain ⟨k1, k2, k3⟩ := keepB hw1 (w.heap.size + 1) (by first | omega | (simp; omega) | (simp; done))); (try obtain ⟨k1, k2, k3⟩ := keepB hw1 (w.heap.size + 1 + 1) (by first | omega | (simp; omega) | (simp; done))))
      | (go_at_call 51; refine (divisor_any _ _ _).mono ?_; rintro e w1 ⟨rfl, hw1⟩; have hz := hw1.size; (try simp at hz); have hB : Below w.heap.size w w1 := Below.call (w := w) (by repeat (first | exact Below.refl _ _ | (with_reducible assumption) | refine Below.setCell ?_ (by first | omega | (simp; omega) | (simp; done)) _ | refine Below.alloc ?_ (by first | omega | (simp; omega) | (simp; done)) _ | refine Below.drew ?_)) hw1; (try obtain ⟨k1, k2, k3⟩ := keepB hw1 (w.heap.size) (by first | omega | (simp; omega) | (simp; done))); (try obtain ⟨k1, k2, k3⟩ := keepB hw1 (w.heap.size + 1) (by first | omega | (simp; omega) | (simp; done))); (try obtain ⟨k1, k2, k3⟩ := keepB hw1 (w.heap.size + 1 + 1) (by first | omega | (simp; omega) | (simp; done)))))
    go_quiet (fail)
    have hD : Below w1.heap.size w1 (w1.drewN nq) := below_drewN (Below.refl _ _) _
    generalize w1.drewN nq = wq at *
    have hB2 : Below w.heap.size w wq := Below.call (w := w) hB hD
    have hz2 := hD.size
    obtain ⟨k1, k2, k3⟩ := keepB hD (w.heap.size) (by omega)
    obtain ⟨k1, k2, k3⟩ := keepB hD (w.heap.size + 1) (by omega)
    obtain ⟨k1, k2, k3⟩ := keepB hD (w.heap.size + 1 + 1) (by omega)
    go_wp2_with fail
    refine bodyPost_ret (v := rv (⟨0, ah, 0⟩)) (by simp [results, Try.results16, go_sem, *]) rfl ⟨rfl, ?_⟩
    exact (by repeat (first | exact Below.refl _ _ | (with_reducible assumption) | refine Below.setCell ?_ (by first | omega | (simp; omega) | (simp; done)) _ | refine Below.alloc ?_ (by first | omega | (simp; omega) | (simp; done)) _ | refine Below.drew ?_))

set_option maxHeartbeats 1600000 in
theorem mod_quo_pp (al ah bl bh : Int) (w : World) (ha : Sp.right al ah = true) (hb : Sp.right bl bh = true) (hd : (Sp.divisor bl bh != 0) = false) (sa : 0 ≤ al) (sh : 0 < ah) (h1 : (bl == bh) = true) (h2 : (al == ah) = false) (hq : (Sp.quo al bl == Sp.quo ah bl) = false) :
    Calls Try.prog 16 #[.agg #[.int .i64 al, .int .i64 ah], .agg #[.int .i64 bl, .int .i64 bh]] w fun e w' => e = .returned (rv (Sp.mod al ah bl bh)) ∧ Below w.heap.size w w' := by
  have hfin : Sp.mod al ah bl bh = ⟨0, (Sp.mn ah (Sp.modM bl bh)), 0⟩ := by
    simp at hd h1 h2 hq; subst h1; simp [Sp.mod, ha, hb, hd, h2, hq, sh, show ¬ al < 0 by omega]
  rw [hfin]
  clear hfin
  have ne1 : ¬ (w.heap.size + 1 + 1 = w.heap.size) := by omega
  obtain ⟨a1, a2, a3⟩ := right_bd ha
  obtain ⟨b1, b2, b3⟩ := right_bd hb
  have h3 : decide (0 ≤ al) = true := by simp; omega
  have h4 : decide (ah ≤ 0) = false := by simp; omega
  obtain ⟨X, hX⟩ : ∃ X, X = Sp.mx (Sp.mx (Sp.mx bl (-bl)) bh) (-bh) := ⟨_, rfl⟩
  have x1 : 0 ≤ X := by rw [hX]; unfold Sp.mx; repeat' split; all_goals omega
  have x2 : X ≤ 9007199254740992 := by rw [hX]; unfold Sp.mx; repeat' split; all_goals omega
  have hmx4 : ∀ (ts : Array TypeId) (t : TypeId) (wx : World), (Builtin.max_ ts t #[.int .i64 bl, .int .i64 (-bl), .int .i64 bh, .int .i64 (-bh)]).run Try.prog wx = .ok (.int .i64 X) wx := fun ts t wx => by rw [hX]; simp [Builtin.max_, Builtin.max2, Sp.mx]; try rfl
  have eM : Sp.modM bl bh = X - 1 := by rw [hX]; rfl
  rw [eM]
  clear eM hX
  obtain ⟨g2, e2⟩ | ⟨g2, e2⟩ := mn_cases ah (X - 1)
  · rw [e2]
    clear e2
    go_enter Try.func16, Try.ntmps16
    go_wp2_with (first
      | (go_at_call 9; refine (right_any _ _ _).mono ?_; rintro e w1 ⟨rfl, hw1⟩; have hz := hw1.size; (try simp at hz); have hB : Below w.heap.size w w1 := Below.call (w := w) (by repeat (first | exact Below.refl _ _ | (with_reducible assumption) | refine Below.setCell ?_ (by first | omega | (simp; omega) | (simp; done)) _ | refine Below.alloc ?_ (by first | omega | (simp; omega) | (simp; done)) _ | refine Below.drew ?_)) hw1; (try obtain ⟨k1, k2, k3⟩ := keepB hw1 (w.heap.size) (by first | omega | (simp; omega) | (simp; done))); (try obtain ⟨k1, k2, k3⟩ := keepB hw1 (w.heap.size + 1) (by first | omega | (simp; omega) | (simp; done))); (try obtain ⟨k1, k2, k3⟩ := keepB hw1 (w.heap.size + 1 + 1) (by first | omega | (simp; omega) | (simp; done))))
      | (go_at_call 51; refine (divisor_any _ _ _).mono ?_; rintro e w1 ⟨rfl, hw1⟩; have hz := hw1.size; (try simp at hz); have hB : Below w.heap.size w w1 := Below.call (w := w) (by repeat (first | exact Below.refl _ _ | (with_reducible assumption) | refine Below.setCell ?_ (by first | omega | (simp; omega) | (simp; done)) _ | refine Below.alloc ?_ (by first | omega | (simp; omega) | (simp; done)) _ | refine Below.drew ?_)) hw1; (try obtain ⟨k1, k2, k3⟩ := keepB hw1 (w.heap.size) (by first | omega | (simp; omega) | (simp; done))); (try obtain ⟨k1, k2, k3⟩ := keepB hw1 (w.heap.size + 1) (by first | omega | (simp; omega) | (simp; done))); (try obtain ⟨k1, k2, k3⟩ := keepB hw1 (w.heap.size + 1 + 1) (by first | omega | (simp; omega) | (simp; done)))))
    go_region_held3 (fun w' => w'.cell? ⟨w.heap.size, 0, none⟩ = some (.int .i64 al) ∧ w'.cell? ⟨w.heap.size, 1, none⟩ = some (.int .i64 ah) ∧ w'.cell? ⟨w.heap.size + 1, 0, none⟩ = some (.int .i64 bl) ∧ w'.cell? ⟨w.heap.size + 1, 1, none⟩ = some (.int .i64 bh)) (go_keep)
      (first
      | (go_at_call 52; refine (quotient_any _ _ _).mono ?_; rintro e w1 ⟨rfl, rfl⟩))
    go_wp2_with fail
    refine bodyPost_ret (v := rv (⟨0, X - 1, 0⟩)) (by simp [results, Try.results16, go_sem, *]) rfl ⟨rfl, ?_⟩
    exact (by repeat (first | exact Below.refl _ _ | (with_reducible assumption) | refine Below.setCell ?_ (by first | omega | (simp; omega) | (simp; done)) _ | refine Below.alloc ?_ (by first | omega | (simp; omega) | (simp; done)) _ | refine Below.drew ?_))
  · rw [e2]
    clear e2
    go_enter Try.func16, Try.ntmps16
    go_wp2_with (first
      | (go_at_call 9; refine (right_any _ _ _).mono ?_; rintro e w1 ⟨rfl, hw1⟩; have hz := hw1.size; (try simp at hz); have hB : Below w.heap.size w w1 := Below.call (w := w) (by repeat (first | exact Below.refl _ _ | (with_reducible assumption) | refine Below.setCell ?_ (by first | omega | (simp; omega) | (simp; done)) _ | refine Below.alloc ?_ (by first | omega | (simp; omega) | (simp; done)) _ | refine Below.drew ?_)) hw1; (try obtain ⟨k1, k2, k3⟩ := keepB hw1 (w.heap.size) (by first | omega | (simp; omega) | (simp; done))); (try obtain ⟨k1, k2, k3⟩ := keepB hw1 (w.heap.size + 1) (by first | omega | (simp; omega) | (simp; done))); (try obtain ⟨k1, k2, k3⟩ := keepB hw1 (w.heap.size + 1 + 1) (by first | omega | (simp; omega) | (simp; done))))
      | (go_at_call 51; refine (divisor_any _ _ _).mono ?_; rintro e w1 ⟨rfl, hw1⟩; have hz := hw1.size; (try simp at hz); have hB : Below w.heap.size w w1 := Below.call (w := w) (by repeat (first | exact Below.refl _ _ | (with_reducible assumption) | refine Below.setCell ?_ (by first | omega | (simp; omega) | (simp; done)) _ | refine Below.alloc ?_ (by first | omega | (simp; omega) | (simp; done)) _ | refine Below.drew ?_)) hw1; (try obtain ⟨k1, k2, k3⟩ := keepB hw1 (w.heap.size) (by first | omega | (simp; omega) | (simp; done))); (try obtain ⟨k1, k2, k3⟩ := keepB hw1 (w.heap.size + 1) (by first | omega | (simp; omega) | (simp; done))); (try obtain ⟨k1, k2, k3⟩ := keepB hw1 (w.heap.size + 1 + 1) (by first | omega | (simp; omega) | (simp; done)))))
    go_region_held3 (fun w' => w'.cell? ⟨w.heap.size, 0, none⟩ = some (.int .i64 al) ∧ w'.cell? ⟨w.heap.size, 1, none⟩ = some (.int .i64 ah) ∧ w'.cell? ⟨w.heap.size + 1, 0, none⟩ = some (.int .i64 bl) ∧ w'.cell? ⟨w.heap.size + 1, 1, none⟩ = some (.int .i64 bh)) (go_keep)
      (first
      | (go_at_call 52; refine (quotient_any _ _ _).mono ?_; rintro e w1 ⟨rfl, rfl⟩))
    go_wp2_with fail
    refine bodyPost_ret (v := rv (⟨0, ah, 0⟩)) (by simp [results, Try.results16, go_sem, *]) rfl ⟨rfl, ?_⟩
    exact (by repeat (first | exact Below.refl _ _ | (with_reducible assumption) | refine Below.setCell ?_ (by first | omega | (simp; omega) | (simp; done)) _ | refine Below.alloc ?_ (by first | omega | (simp; omega) | (simp; done)) _ | refine Below.drew ?_))

set_option maxHeartbeats 1600000 in
theorem mod_wide_pn (al ah bl bh : Int) (w : World) (ha : Sp.right al ah = true) (hb : Sp.right bl bh = true) (hd : (Sp.divisor bl bh != 0) = false) (sa : 0 ≤ al) (sh : ah ≤ 0) (h1 : (bl == bh) = false) :
    Calls Try.prog 16 #[.agg #[.int .i64 al, .int .i64 ah], .agg #[.int .i64 bl, .int .i64 bh]] w fun e w' => e = .returned (rv (Sp.mod al ah bl bh)) ∧ Below w.heap.size w w' := by
  have hfin : Sp.mod al ah bl bh = ⟨0, 0, 0⟩ := by
    simp at hd h1; simp [Sp.mod, ha, hb, hd, h1, show ¬ al < 0 by omega, show ¬ 0 < ah by omega]
  rw [hfin]
  clear hfin
  have ne1 : ¬ (w.heap.size + 1 + 1 = w.heap.size) := by omega
  obtain ⟨a1, a2, a3⟩ := right_bd ha
  obtain ⟨b1, b2, b3⟩ := right_bd hb
  have h3 : decide (0 ≤ al) = true := by simp; omega
  have h4 : decide (ah ≤ 0) = true := by simp; omega
  obtain ⟨X, hX⟩ : ∃ X, X = Sp.mx (Sp.mx (Sp.mx bl (-bl)) bh) (-bh) := ⟨_, rfl⟩
  have x1 : 0 ≤ X := by rw [hX]; unfold Sp.mx; repeat' split; all_goals omega
  have x2 : X ≤ 9007199254740992 := by rw [hX]; unfold Sp.mx; repeat' split; all_goals omega
  have hmx4 : ∀ (ts : Array TypeId) (t : TypeId) (wx : World), (Builtin.max_ ts t #[.int .i64 bl, .int .i64 (-bl), .int .i64 bh, .int .i64 (-bh)]).run Try.prog wx = .ok (.int .i64 X) wx := fun ts t wx => by rw [hX]; simp [Builtin.max_, Builtin.max2, Sp.mx]; try rfl
  have eM : Sp.modM bl bh = X - 1 := by rw [hX]; rfl
  clear eM hX
  go_enter Try.func16, Try.ntmps16
  go_wp2_with (first
    | (go_at_call 9; refine (right_any _ _ _).mono ?_; rintro e w1 ⟨rfl, hw1⟩; have hz := hw1.size; (try simp at hz); have hB : Below w.heap.size w w1 := Below.call (w := w) (by repeat (first | exact Below.refl _ _ | (with_reducible assumption) | refine Below.setCell ?_ (by first | omega | (simp; omega) | (simp; done)) _ | refine Below.alloc ?_ (by first | omega | (simp; omega) | (simp; done)) _ | refine Below.drew ?_)) hw1; (try obtain ⟨k1, k2, k3⟩ := keepB hw1 (w.heap.size) (by first | omega | (simp; omega) | (simp; done))); (try obtain ⟨k1, k2, k3⟩ := keepB hw1 (w.heap.size + 1) (by first | omega | (simp; omega) | (simp; done))); (try obtain ⟨k1, k2, k3⟩ := keepB hw1 (w.heap.size + 1 + 1) (by first | omega | (simp; omega) | (simp; done))))
    | (go_at_call 51; refine (divisor_any _ _ _).mono ?_; rintro e w1 ⟨rfl, hw1⟩; have hz := hw1.size; (try simp at hz); have hB : Below w.heap.size w w1 := Below.call (w := w) (by repeat (first | exact Below.refl _ _ | (with_reducible assumption) | refine Below.setCell ?_ (by first | omega | (simp; omega) | (simp; done)) _ | refine Below.alloc ?_ (by first | omega | (simp; omega) | (simp; done)) _ | refine Below.drew ?_)) hw1; (try obtain ⟨k1, k2, k3⟩ := keepB hw1 (w.heap.size) (by first | omega | (simp; omega) | (simp; done))); (try obtain ⟨k1, k2, k3⟩ := keepB hw1 (w.heap.size + 1) (by first | omega | (simp; omega) | (simp; done))); (try obtain ⟨k1, k2, k3⟩ := keepB hw1 (w.heap.size + 1 + 1) (by first | omega | (simp; omega) | (simp; done)))))
  go_quiet (fail)
  have hD : Below w1.heap.size w1 (w1.drewN nq) := below_drewN (Below.refl _ _) _
  generalize w1.drewN nq = wq at *
  have hB2 : Below w.heap.size w wq := Below.call (w := w) hB hD
  have hz2 := hD.size
  obtain ⟨k1, k2, k3⟩ := keepB hD (w.heap.size) (by omega)
  obtain ⟨k1, k2, k3⟩ := keepB hD (w.heap.size + 1) (by omega)
  obtain ⟨k1, k2, k3⟩ := keepB hD (w.heap.size + 1 + 1) (by omega)
  go_wp2_with fail
  refine bodyPost_ret (v := rv (⟨0, 0, 0⟩)) (by simp [results, Try.results16, go_sem, *]) rfl ⟨rfl, ?_⟩
  exact (by repeat (first | exact Below.refl _ _ | (with_reducible assumption) | refine Below.setCell ?_ (by first | omega | (simp; omega) | (simp; done)) _ | refine Below.alloc ?_ (by first | omega | (simp; omega) | (simp; done)) _ | refine Below.drew ?_))

set_option maxHeartbeats 1600000 in
theorem mod_quo_pn (al ah bl bh : Int) (w : World) (ha : Sp.right al ah = true) (hb : Sp.right bl bh = true) (hd : (Sp.divisor bl bh != 0) = false) (sa : 0 ≤ al) (sh : ah ≤ 0) (h1 : (bl == bh) = true) (h2 : (al == ah) = false) (hq : (Sp.quo al bl == Sp.quo ah bl) = false) :
    Calls Try.prog 16 #[.agg #[.int .i64 al, .int .i64 ah], .agg #[.int .i64 bl, .int .i64 bh]] w fun e w' => e = .returned (rv (Sp.mod al ah bl bh)) ∧ Below w.heap.size w w' := by
  have hfin : Sp.mod al ah bl bh = ⟨0, 0, 0⟩ := by
    simp at hd h1 h2 hq; subst h1; simp [Sp.mod, ha, hb, hd, h2, hq, show ¬ al < 0 by omega, show ¬ 0 < ah by omega]
  rw [hfin]
  clear hfin
  have ne1 : ¬ (w.heap.size + 1 + 1 = w.heap.size) := by omega
  obtain ⟨a1, a2, a3⟩ := right_bd ha
  obtain ⟨b1, b2, b3⟩ := right_bd hb
  have h3 : decide (0 ≤ al) = true := by simp; omega
  have h4 : decide (ah ≤ 0) = true := by simp; omega
  obtain ⟨X, hX⟩ : ∃ X, X = Sp.mx (Sp.mx (Sp.mx bl (-bl)) bh) (-bh) := ⟨_, rfl⟩
  have x1 : 0 ≤ X := by rw [hX]; unfold Sp.mx; repeat' split; all_goals omega
  have x2 : X ≤ 9007199254740992 := by rw [hX]; unfold Sp.mx; repeat' split; all_goals omega
  have hmx4 : ∀ (ts : Array TypeId) (t : TypeId) (wx : World), (Builtin.max_ ts t #[.int .i64 bl, .int .i64 (-bl), .int .i64 bh, .int .i64 (-bh)]).run Try.prog wx = .ok (.int .i64 X) wx := fun ts t wx => by rw [hX]; simp [Builtin.max_, Builtin.max2, Sp.mx]; try rfl
  have eM : Sp.modM bl bh = X - 1 := by rw [hX]; rfl
  clear eM hX
  go_enter Try.func16, Try.ntmps16
  go_wp2_with (first
    | (go_at_call 9; refine (right_any _ _ _).mono ?_; rintro e w1 ⟨rfl, hw1⟩; have hz := hw1.size; (try simp at hz); have hB : Below w.heap.size w w1 := Below.call (w := w) (by repeat (first | exact Below.refl _ _ | (with_reducible assumption) | refine Below.setCell ?_ (by first | omega | (simp; omega) | (simp; done)) _ | refine Below.alloc ?_ (by first | omega | (simp; omega) | (simp; done)) _ | refine Below.drew ?_)) hw1; (try obtain ⟨k1, k2, k3⟩ := keepB hw1 (w.heap.size) (by first | omega | (simp; omega) | (simp; done))); (try obtain ⟨k1, k2, k3⟩ := keepB hw1 (w.heap.size + 1) (by first | omega | (simp; omega) | (simp; done))); (try obtain ⟨k1, k2, k3⟩ := keepB hw1 (w.heap.size + 1 + 1) (by first | omega | (simp; omega) | (simp; done))))
    | (go_at_call 51; refine (divisor_any _ _ _).mono ?_; rintro e w1 ⟨rfl, hw1⟩; have hz := hw1.size; (try simp at hz); have hB : Below w.heap.size w w1 := Below.call (w := w) (by repeat (first | exact Below.refl _ _ | (with_reducible assumption) | refine Below.setCell ?_ (by first | omega | (simp; omega) | (simp; done)) _ | refine Below.alloc ?_ (by first | omega | (simp; omega) | (simp; done)) _ | refine Below.drew ?_)) hw1; (try obtain ⟨k1, k2, k3⟩ := keepB hw1 (w.heap.size) (by first | omega | (simp; omega) | (simp; done))); (try obtain ⟨k1, k2, k3⟩ := keepB hw1 (w.heap.size + 1) (by first | omega | (simp; omega) | (simp; done))); (try obtain ⟨k1, k2, k3⟩ := keepB hw1 (w.heap.size + 1 + 1) (by first | omega | (simp; omega) | (simp; done)))))
  go_region_held3 (fun w' => w'.cell? ⟨w.heap.size, 0, none⟩ = some (.int .i64 al) ∧ w'.cell? ⟨w.heap.size, 1, none⟩ = some (.int .i64 ah) ∧ w'.cell? ⟨w.heap.size + 1, 0, none⟩ = some (.int .i64 bl) ∧ w'.cell? ⟨w.heap.size + 1, 1, none⟩ = some (.int .i64 bh)) (go_keep)
    (first
    | (go_at_call 52; refine (quotient_any _ _ _).mono ?_; rintro e w1 ⟨rfl, rfl⟩))
  go_wp2_with fail
  refine bodyPost_ret (v := rv (⟨0, 0, 0⟩)) (by simp [results, Try.results16, go_sem, *]) rfl ⟨rfl, ?_⟩
  exact (by repeat (first | exact Below.refl _ _ | (with_reducible assumption) | refine Below.setCell ?_ (by first | omega | (simp; omega) | (simp; done)) _ | refine Below.alloc ?_ (by first | omega | (simp; omega) | (simp; done)) _ | refine Below.drew ?_))

set_option maxHeartbeats 1600000 in
theorem mod_wide_np (al ah bl bh : Int) (w : World) (ha : Sp.right al ah = true) (hb : Sp.right bl bh = true) (hd : (Sp.divisor bl bh != 0) = false) (sa : al < 0) (sh : 0 < ah) (h1 : (bl == bh) = false) :
    Calls Try.prog 16 #[.agg #[.int .i64 al, .int .i64 ah], .agg #[.int .i64 bl, .int .i64 bh]] w fun e w' => e = .returned (rv (Sp.mod al ah bl bh)) ∧ Below w.heap.size w w' := by
  have hfin : Sp.mod al ah bl bh = ⟨(Sp.mx al (-(Sp.modM bl bh))), (Sp.mn ah (Sp.modM bl bh)), 0⟩ := by
    simp at hd h1; simp [Sp.mod, ha, hb, hd, h1, sa, sh]
  rw [hfin]
  clear hfin
  have ne1 : ¬ (w.heap.size + 1 + 1 = w.heap.size) := by omega
  obtain ⟨a1, a2, a3⟩ := right_bd ha
  obtain ⟨b1, b2, b3⟩ := right_bd hb
  have h3 : decide (0 ≤ al) = false := by simp; omega
  have h4 : decide (ah ≤ 0) = false := by simp; omega
  obtain ⟨X, hX⟩ : ∃ X, X = Sp.mx (Sp.mx (Sp.mx bl (-bl)) bh) (-bh) := ⟨_, rfl⟩
  have x1 : 0 ≤ X := by rw [hX]; unfold Sp.mx; repeat' split; all_goals omega
  have x2 : X ≤ 9007199254740992 := by rw [hX]; unfold Sp.mx; repeat' split; all_goals omega
  have hmx4 : ∀ (ts : Array TypeId) (t : TypeId) (wx : World), (Builtin.max_ ts t #[.int .i64 bl, .int .i64 (-bl), .int .i64 bh, .int .i64 (-bh)]).run Try.prog wx = .ok (.int .i64 X) wx := fun ts t wx => by rw [hX]; simp [Builtin.max_, Builtin.max2, Sp.mx]; try rfl
  have eM : Sp.modM bl bh = X - 1 := by rw [hX]; rfl
  rw [eM]
  clear eM hX
  obtain ⟨g1, e1⟩ | ⟨g1, e1⟩ := mx_cases al (-(X - 1))
  all_goals obtain ⟨g2, e2⟩ | ⟨g2, e2⟩ := mn_cases ah (X - 1)
  · rw [e1]
    clear e1
    rw [e2]
    clear e2
    go_enter Try.func16, Try.ntmps16
    go_wp2_with (first
      | (go_at_call 9; refine (right_any _ _ _).mono ?_; rintro e w1 ⟨rfl, hw1⟩; have hz := hw1.size; (try simp at hz); have hB : Below w.heap.size w w1 := Below.call (w := w) (by repeat (first | exact Below.refl _ _ | (with_reducible assumption) | refine Below.setCell ?_ (by first | omega | (simp; omega) | (simp; done)) _ | refine Below.alloc ?_ (by first | omega | (simp; omega) | (simp; done)) _ | refine Below.drew ?_)) hw1; (try obtain ⟨k1, k2, k3⟩ := keepB hw1 (w.heap.size) (by first | omega | (simp; omega) | (simp; done))); (try obtain ⟨k1, k2, k3⟩ := keepB hw1 (w.heap.size + 1) (by first | omega | (simp; omega) | (simp; done))); (try obtain ⟨k1, k2, k3⟩ := keepB hw1 (w.heap.size + 1 + 1) (by first | omega | (simp; omega) | (simp; done))))
      | (go_at_call 51; refine (divisor_any _ _ _).mono ?_; rintro e w1 ⟨rfl, hw1⟩; have hz := hw1.size; (try simp at hz); have hB : Below w.heap.size w w1 := Below.call (w := w) (by repeat (first | exact Below.refl _ _ | (with_reducible assumption) | refine Below.setCell ?_ (by first | omega | (simp; omega) | (simp; done)) _ | refine Below.alloc ?_ (by first | omega | (simp; omega) | (simp; done)) _ | refine Below.drew ?_)) hw1; (try obtain ⟨k1, k2, k3⟩ := keepB hw1 (w.heap.size) (by first | omega | (simp; omega) | (simp; done))); (try obtain ⟨k1, k2, k3⟩ := keepB hw1 (w.heap.size + 1) (by first | omega | (simp; omega) | (simp; done))); (try obtain ⟨k1, k2, k3⟩ := keepB hw1 (w.heap.size + 1 + 1) (by first | omega | (simp; omega) | (simp; done)))))
    go_quiet (fail)
    have hD : Below w1.heap.size w1 (w1.drewN nq) := below_drewN (Below.refl _ _) _
    generalize w1.drewN nq = wq at *
    have hB2 : Below w.heap.size w wq := Below.call (w := w) hB hD
    have hz2 := hD.size
    obtain ⟨k1, k2, k3⟩ := keepB hD (w.heap.size) (by omega)
    obtain ⟨k1, k2, k3⟩ := keepB hD (w.heap.size + 1) (by omega)
    obtain ⟨k1, k2, k3⟩ := keepB hD (w.heap.size + 1 + 1) (by omega)
    go_wp2_with fail
    refine bodyPost_ret (v := rv (⟨-(X - 1), X - 1, 0⟩)) (by simp [results, Try.results16, go_sem, *]) rfl ⟨rfl, ?_⟩
    exact (by repeat (first | exact Below.refl _ _ | (with_reducible assumption) | refine Below.setCell ?_ (by first | omega | (simp; omega) | (simp; done)) _ | refine Below.alloc ?_ (by first | omega | (simp; omega) | (simp; done)) _ | refine Below.drew ?_))
  · rw [e1]
    clear e1
    rw [e2]
    clear e2
    go_enter Try.func16, Try.ntmps16
    go_wp2_with (first
      | (go_at_call 9; refine (right_any _ _ _).mono ?_; rintro e w1 ⟨rfl, hw1⟩; have hz := hw1.size; (try simp at hz); have hB : Below w.heap.size w w1 := Below.call (w := w) (by repeat (first | exact Below.refl _ _ | (with_reducible assumption) | refine Below.setCell ?_ (by first | omega | (simp; omega) | (simp; done)) _ | refine Below.alloc ?_ (by first | omega | (simp; omega) | (simp; done)) _ | refine Below.drew ?_)) hw1; (try obtain ⟨k1, k2, k3⟩ := keepB hw1 (w.heap.size) (by first | omega | (simp; omega) | (simp; done))); (try obtain ⟨k1, k2, k3⟩ := keepB hw1 (w.heap.size + 1) (by first | omega | (simp; omega) | (simp; done))); (try obtain ⟨k1, k2, k3⟩ := keepB hw1 (w.heap.size + 1 + 1) (by first | omega | (simp; omega) | (simp; done))))
      | (go_at_call 51; refine (divisor_any _ _ _).mono ?_; rintro e w1 ⟨rfl, hw1⟩; have hz := hw1.size; (try simp at hz); have hB : Below w.heap.size w w1 := Below.call (w := w) (by repeat (first | exact Below.refl _ _ | (with_reducible assumption) | refine Below.setCell ?_ (by first | omega | (simp; omega) | (simp; done)) _ | refine Below.alloc ?_ (by first | omega | (simp; omega) | (simp; done)) _ | refine Below.drew ?_)) hw1; (try obtain ⟨k1, k2, k3⟩ := keepB hw1 (w.heap.size) (by first | omega | (simp; omega) | (simp; done))); (try obtain ⟨k1, k2, k3⟩ := keepB hw1 (w.heap.size + 1) (by first | omega | (simp; omega) | (simp; done))); (try obtain ⟨k1, k2, k3⟩ := keepB hw1 (w.heap.size + 1 + 1) (by first | omega | (simp; omega) | (simp; done)))))
    go_quiet (fail)
    have hD : Below w1.heap.size w1 (w1.drewN nq) := below_drewN (Below.refl _ _) _
    generalize w1.drewN nq = wq at *
    have hB2 : Below w.heap.size w wq := Below.call (w := w) hB hD
    have hz2 := hD.size
    obtain ⟨k1, k2, k3⟩ := keepB hD (w.heap.size) (by omega)
    obtain ⟨k1, k2, k3⟩ := keepB hD (w.heap.size + 1) (by omega)
    obtain ⟨k1, k2, k3⟩ := keepB hD (w.heap.size + 1 + 1) (by omega)
    go_wp2_with fail
    refine bodyPost_ret (v := rv (⟨-(X - 1), ah, 0⟩)) (by simp [results, Try.results16, go_sem, *]) rfl ⟨rfl, ?_⟩
    exact (by repeat (first | exact Below.refl _ _ | (with_reducible assumption) | refine Below.setCell ?_ (by first | omega | (simp; omega) | (simp; done)) _ | refine Below.alloc ?_ (by first | omega | (simp; omega) | (simp; done)) _ | refine Below.drew ?_))
  · rw [e1]
    clear e1
    rw [e2]
    clear e2
    go_enter Try.func16, Try.ntmps16
    go_wp2_with (first
      | (go_at_call 9; refine (right_any _ _ _).mono ?_; rintro e w1 ⟨rfl, hw1⟩; have hz := hw1.size; (try simp at hz); have hB : Below w.heap.size w w1 := Below.call (w := w) (by repeat (first | exact Below.refl _ _ | (with_reducible assumption) | refine Below.setCell ?_ (by first | omega | (simp; omega) | (simp; done)) _ | refine Below.alloc ?_ (by first | omega | (simp; omega) | (simp; done)) _ | refine Below.drew ?_)) hw1; (try obtain ⟨k1, k2, k3⟩ := keepB hw1 (w.heap.size) (by first | omega | (simp; omega) | (simp; done))); (try obtain ⟨k1, k2, k3⟩ := keepB hw1 (w.heap.size + 1) (by first | omega | (simp; omega) | (simp; done))); (try obtain ⟨k1, k2, k3⟩ := keepB hw1 (w.heap.size + 1 + 1) (by first | omega | (simp; omega) | (simp; done))))
      | (go_at_call 51; refine (divisor_any _ _ _).mono ?_; rintro e w1 ⟨rfl, hw1⟩; have hz := hw1.size; (try simp at hz); have hB : Below w.heap.size w w1 := Below.call (w := w) (by repeat (first | exact Below.refl _ _ | (with_reducible assumption) | refine Below.setCell ?_ (by first | omega | (simp; omega) | (simp; done)) _ | refine Below.alloc ?_ (by first | omega | (simp; omega) | (simp; done)) _ | refine Below.drew ?_)) hw1; (try obtain ⟨k1, k2, k3⟩ := keepB hw1 (w.heap.size) (by first | omega | (simp; omega) | (simp; done))); (try obtain ⟨k1, k2, k3⟩ := keepB hw1 (w.heap.size + 1) (by first | omega | (simp; omega) | (simp; done))); (try obtain ⟨k1, k2, k3⟩ := keepB hw1 (w.heap.size + 1 + 1) (by first | omega | (simp; omega) | (simp; done)))))
    go_quiet (fail)
    have hD : Below w1.heap.size w1 (w1.drewN nq) := below_drewN (Below.refl _ _) _
    generalize w1.drewN nq = wq at *
    have hB2 : Below w.heap.size w wq := Below.call (w := w) hB hD
    have hz2 := hD.size
    obtain ⟨k1, k2, k3⟩ := keepB hD (w.heap.size) (by omega)
    obtain ⟨k1, k2, k3⟩ := keepB hD (w.heap.size + 1) (by omega)
    obtain ⟨k1, k2, k3⟩ := keepB hD (w.heap.size + 1 + 1) (by omega)
    go_wp2_with fail
    refine bodyPost_ret (v := rv (⟨al, X - 1, 0⟩)) (by simp [results, Try.results16, go_sem, *]) rfl ⟨rfl, ?_⟩
    exact (by repeat (first | exact Below.refl _ _ | (with_reducible assumption) | refine Below.setCell ?_ (by first | omega | (simp; omega) | (simp; done)) _ | refine Below.alloc ?_ (by first | omega | (simp; omega) | (simp; done)) _ | refine Below.drew ?_))
  · rw [e1]
    clear e1
    rw [e2]
    clear e2
    go_enter Try.func16, Try.ntmps16
    go_wp2_with (first
      | (go_at_call 9; refine (right_any _ _ _).mono ?_; rintro e w1 ⟨rfl, hw1⟩; have hz := hw1.size; (try simp at hz); have hB : Below w.heap.size w w1 := Below.call (w := w) (by repeat (first | exact Below.refl _ _ | (with_reducible assumption) | refine Below.setCell ?_ (by first | omega | (simp; omega) | (simp; done)) _ | refine Below.alloc ?_ (by first | omega | (simp; omega) | (simp; done)) _ | refine Below.drew ?_)) hw1; (try obtain ⟨k1, k2, k3⟩ := keepB hw1 (w.heap.size) (by first | omega | (simp; omega) | (simp; done))); (try obtain ⟨k1, k2, k3⟩ := keepB hw1 (w.heap.size + 1) (by first | omega | (simp; omega) | (simp; done))); (try obtain ⟨k1, k2, k3⟩ := keepB hw1 (w.heap.size + 1 + 1) (by first | omega | (simp; omega) | (simp; done))))
      | (go_at_call 51; refine (divisor_any _ _ _).mono ?_; rintro e w1 ⟨rfl, hw1⟩; have hz := hw1.size; (try simp at hz); have hB : Below w.heap.size w w1 := Below.call (w := w) (by repeat (first | exact Below.refl _ _ | (with_reducible assumption) | refine Below.setCell ?_ (by first | omega | (simp; omega) | (simp; done)) _ | refine Below.alloc ?_ (by first | omega | (simp; omega) | (simp; done)) _ | refine Below.drew ?_)) hw1; (try obtain ⟨k1, k2, k3⟩ := keepB hw1 (w.heap.size) (by first | omega | (simp; omega) | (simp; done))); (try obtain ⟨k1, k2, k3⟩ := keepB hw1 (w.heap.size + 1) (by first | omega | (simp; omega) | (simp; done))); (try obtain ⟨k1, k2, k3⟩ := keepB hw1 (w.heap.size + 1 + 1) (by first | omega | (simp; omega) | (simp; done)))))
    go_quiet (fail)
    have hD : Below w1.heap.size w1 (w1.drewN nq) := below_drewN (Below.refl _ _) _
    generalize w1.drewN nq = wq at *
    have hB2 : Below w.heap.size w wq := Below.call (w := w) hB hD
    have hz2 := hD.size
    obtain ⟨k1, k2, k3⟩ := keepB hD (w.heap.size) (by omega)
    obtain ⟨k1, k2, k3⟩ := keepB hD (w.heap.size + 1) (by omega)
    obtain ⟨k1, k2, k3⟩ := keepB hD (w.heap.size + 1 + 1) (by omega)
    go_wp2_with fail
    refine bodyPost_ret (v := rv (⟨al, ah, 0⟩)) (by simp [results, Try.results16, go_sem, *]) rfl ⟨rfl, ?_⟩
    exact (by repeat (first | exact Below.refl _ _ | (with_reducible assumption) | refine Below.setCell ?_ (by first | omega | (simp; omega) | (simp; done)) _ | refine Below.alloc ?_ (by first | omega | (simp; omega) | (simp; done)) _ | refine Below.drew ?_))

set_option maxHeartbeats 1600000 in
theorem mod_both_np (al ah bl bh : Int) (w : World) (ha : Sp.right al ah = true) (hb : Sp.right bl bh = true) (hd : (Sp.divisor bl bh != 0) = false) (sa : al < 0) (sh : 0 < ah) (h1 : (bl == bh) = true) (h2 : (al == ah) = false) :
    Calls Try.prog 16 #[.agg #[.int .i64 al, .int .i64 ah], .agg #[.int .i64 bl, .int .i64 bh]] w fun e w' => e = .returned (rv (Sp.mod al ah bl bh)) ∧ Below w.heap.size w w' := by
  have hfin : Sp.mod al ah bl bh = ⟨(Sp.mx al (-(Sp.modM bl bh))), (Sp.mn ah (Sp.modM bl bh)), 0⟩ := by
    simp at hd h1 h2; subst h1; simp [Sp.mod, ha, hb, hd, h2, sa, sh, show ¬ 0 ≤ al by omega, show ¬ ah ≤ 0 by omega]
  rw [hfin]
  clear hfin
  have ne1 : ¬ (w.heap.size + 1 + 1 = w.heap.size) := by omega
  obtain ⟨a1, a2, a3⟩ := right_bd ha
  obtain ⟨b1, b2, b3⟩ := right_bd hb
  have h3 : decide (0 ≤ al) = false := by simp; omega
  have h4 : decide (ah ≤ 0) = false := by simp; omega
  obtain ⟨X, hX⟩ : ∃ X, X = Sp.mx (Sp.mx (Sp.mx bl (-bl)) bh) (-bh) := ⟨_, rfl⟩
  have x1 : 0 ≤ X := by rw [hX]; unfold Sp.mx; repeat' split; all_goals omega
  have x2 : X ≤ 9007199254740992 := by rw [hX]; unfold Sp.mx; repeat' split; all_goals omega
  have hmx4 : ∀ (ts : Array TypeId) (t : TypeId) (wx : World), (Builtin.max_ ts t #[.int .i64 bl, .int .i64 (-bl), .int .i64 bh, .int .i64 (-bh)]).run Try.prog wx = .ok (.int .i64 X) wx := fun ts t wx => by rw [hX]; simp [Builtin.max_, Builtin.max2, Sp.mx]; try rfl
  have eM : Sp.modM bl bh = X - 1 := by rw [hX]; rfl
  rw [eM]
  clear eM hX
  obtain ⟨g1, e1⟩ | ⟨g1, e1⟩ := mx_cases al (-(X - 1))
  all_goals obtain ⟨g2, e2⟩ | ⟨g2, e2⟩ := mn_cases ah (X - 1)
  · rw [e1]
    clear e1
    rw [e2]
    clear e2
    go_enter Try.func16, Try.ntmps16
    go_wp2_with (first
      | (go_at_call 9; refine (right_any _ _ _).mono ?_; rintro e w1 ⟨rfl, hw1⟩; have hz := hw1.size; (try simp at hz); have hB : Below w.heap.size w w1 := Below.call (w := w) (by repeat (first | exact Below.refl _ _ | (with_reducible assumption) | refine Below.setCell ?_ (by first | omega | (simp; omega) | (simp; done)) _ | refine Below.alloc ?_ (by first | omega | (simp; omega) | (simp; done)) _ | refine Below.drew ?_)) hw1; (try obtain ⟨k1, k2, k3⟩ := keepB hw1 (w.heap.size) (by first | omega | (simp; omega) | (simp; done))); (try obtain ⟨k1, k2, k3⟩ := keepB hw1 (w.heap.size + 1) (by first | omega | (simp; omega) | (simp; done))); (try obtain ⟨k1, k2, k3⟩ := keepB hw1 (w.heap.size + 1 + 1) (by first | omega | (simp; omega) | (simp; done))))
      | (go_at_call 51; refine (divisor_any _ _ _).mono ?_; rintro e w1 ⟨rfl, hw1⟩; have hz := hw1.size; (try simp at hz); have hB : Below w.heap.size w w1 := Below.call (w := w) (by repeat (first | exact Below.refl _ _ | (with_reducible assumption) | refine Below.setCell ?_ (by first | omega | (simp; omega) | (simp; done)) _ | refine Below.alloc ?_ (by first | omega | (simp; omega) | (simp; done)) _ | refine Below.drew ?_)) hw1; (try obtain ⟨k1, k2, k3⟩ := keepB hw1 (w.heap.size) (by first | omega | (simp; omega) | (simp; done))); (try obtain ⟨k1, k2, k3⟩ := keepB hw1 (w.heap.size + 1) (by first | omega | (simp; omega) | (simp; done))); (try obtain ⟨k1, k2, k3⟩ := keepB hw1 (w.heap.size + 1 + 1) (by first | omega | (simp; omega) | (simp; done)))))
    go_quiet (fail)
    have hD : Below w1.heap.size w1 (w1.drewN nq) := below_drewN (Below.refl _ _) _
    generalize w1.drewN nq = wq at *
    have hB2 : Below w.heap.size w wq := Below.call (w := w) hB hD
    have hz2 := hD.size
    obtain ⟨k1, k2, k3⟩ := keepB hD (w.heap.size) (by omega)
    obtain ⟨k1, k2, k3⟩ := keepB hD (w.heap.size + 1) (by omega)
    obtain ⟨k1, k2, k3⟩ := keepB hD (w.heap.size + 1 + 1) (by omega)
    go_wp2_with fail
    refine bodyPost_ret (v := rv (⟨-(X - 1), X - 1, 0⟩)) (by simp [results, Try.results16, go_sem, *]) rfl ⟨rfl, ?_⟩
    exact (by repeat (first | exact Below.refl _ _ | (with_reducible assumption) | refine Below.setCell ?_ (by first | omega | (simp; omega) | (simp; done)) _ | refine Below.alloc ?_ (by first | omega | (simp; omega) | (simp; done)) _ | refine Below.drew ?_))
  · rw [e1]
    clear e1
    rw [e2]
    clear e2
    go_enter Try.func16, Try.ntmps16
    go_wp2_with (first
      | (go_at_call 9; refine (right_any _ _ _).mono ?_; rintro e w1 ⟨rfl, hw1⟩; have hz := hw1.size; (try simp at hz); have hB : Below w.heap.size w w1 := Below.call (w := w) (by repeat (first | exact Below.refl _ _ | (with_reducible assumption) | refine Below.setCell ?_ (by first | omega | (simp; omega) | (simp; done)) _ | refine Below.alloc ?_ (by first | omega | (simp; omega) | (simp; done)) _ | refine Below.drew ?_)) hw1; (try obtain ⟨k1, k2, k3⟩ := keepB hw1 (w.heap.size) (by first | omega | (simp; omega) | (simp; done))); (try obtain ⟨k1, k2, k3⟩ := keepB hw1 (w.heap.size + 1) (by first | omega | (simp; omega) | (simp; done))); (try obtain ⟨k1, k2, k3⟩ := keepB hw1 (w.heap.size + 1 + 1) (by first | omega | (simp; omega) | (simp; done))))
      | (go_at_call 51; refine (divisor_any _ _ _).mono ?_; rintro e w1 ⟨rfl, hw1⟩; have hz := hw1.size; (try simp at hz); have hB : Below w.heap.size w w1 := Below.call (w := w) (by repeat (first | exact Below.refl _ _ | (with_reducible assumption) | refine Below.setCell ?_ (by first | omega | (simp; omega) | (simp; done)) _ | refine Below.alloc ?_ (by first | omega | (simp; omega) | (simp; done)) _ | refine Below.drew ?_)) hw1; (try obtain ⟨k1, k2, k3⟩ := keepB hw1 (w.heap.size) (by first | omega | (simp; omega) | (simp; done))); (try obtain ⟨k1, k2, k3⟩ := keepB hw1 (w.heap.size + 1) (by first | omega | (simp; omega) | (simp; done))); (try obtain ⟨k1, k2, k3⟩ := keepB hw1 (w.heap.size + 1 + 1) (by first | omega | (simp; omega) | (simp; done)))))
    go_quiet (fail)
    have hD : Below w1.heap.size w1 (w1.drewN nq) := below_drewN (Below.refl _ _) _
    generalize w1.drewN nq = wq at *
    have hB2 : Below w.heap.size w wq := Below.call (w := w) hB hD
    have hz2 := hD.size
    obtain ⟨k1, k2, k3⟩ := keepB hD (w.heap.size) (by omega)
    obtain ⟨k1, k2, k3⟩ := keepB hD (w.heap.size + 1) (by omega)
    obtain ⟨k1, k2, k3⟩ := keepB hD (w.heap.size + 1 + 1) (by omega)
    go_wp2_with fail
    refine bodyPost_ret (v := rv (⟨-(X - 1), ah, 0⟩)) (by simp [results, Try.results16, go_sem, *]) rfl ⟨rfl, ?_⟩
    exact (by repeat (first | exact Below.refl _ _ | (with_reducible assumption) | refine Below.setCell ?_ (by first | omega | (simp; omega) | (simp; done)) _ | refine Below.alloc ?_ (by first | omega | (simp; omega) | (simp; done)) _ | refine Below.drew ?_))
  · rw [e1]
    clear e1
    rw [e2]
    clear e2
    go_enter Try.func16, Try.ntmps16
    go_wp2_with (first
      | (go_at_call 9; refine (right_any _ _ _).mono ?_; rintro e w1 ⟨rfl, hw1⟩; have hz := hw1.size; (try simp at hz); have hB : Below w.heap.size w w1 := Below.call (w := w) (by repeat (first | exact Below.refl _ _ | (with_reducible assumption) | refine Below.setCell ?_ (by first | omega | (simp; omega) | (simp; done)) _ | refine Below.alloc ?_ (by first | omega | (simp; omega) | (simp; done)) _ | refine Below.drew ?_)) hw1; (try obtain ⟨k1, k2, k3⟩ := keepB hw1 (w.heap.size) (by first | omega | (simp; omega) | (simp; done))); (try obtain ⟨k1, k2, k3⟩ := keepB hw1 (w.heap.size + 1) (by first | omega | (simp; omega) | (simp; done))); (try obtain ⟨k1, k2, k3⟩ := keepB hw1 (w.heap.size + 1 + 1) (by first | omega | (simp; omega) | (simp; done))))
      | (go_at_call 51; refine (divisor_any _ _ _).mono ?_; rintro e w1 ⟨rfl, hw1⟩; have hz := hw1.size; (try simp at hz); have hB : Below w.heap.size w w1 := Below.call (w := w) (by repeat (first | exact Below.refl _ _ | (with_reducible assumption) | refine Below.setCell ?_ (by first | omega | (simp; omega) | (simp; done)) _ | refine Below.alloc ?_ (by first | omega | (simp; omega) | (simp; done)) _ | refine Below.drew ?_)) hw1; (try obtain ⟨k1, k2, k3⟩ := keepB hw1 (w.heap.size) (by first | omega | (simp; omega) | (simp; done))); (try obtain ⟨k1, k2, k3⟩ := keepB hw1 (w.heap.size + 1) (by first | omega | (simp; omega) | (simp; done))); (try obtain ⟨k1, k2, k3⟩ := keepB hw1 (w.heap.size + 1 + 1) (by first | omega | (simp; omega) | (simp; done)))))
    go_quiet (fail)
    have hD : Below w1.heap.size w1 (w1.drewN nq) := below_drewN (Below.refl _ _) _
    generalize w1.drewN nq = wq at *
    have hB2 : Below w.heap.size w wq := Below.call (w := w) hB hD
    have hz2 := hD.size
    obtain ⟨k1, k2, k3⟩ := keepB hD (w.heap.size) (by omega)
    obtain ⟨k1, k2, k3⟩ := keepB hD (w.heap.size + 1) (by omega)
    obtain ⟨k1, k2, k3⟩ := keepB hD (w.heap.size + 1 + 1) (by omega)
    go_wp2_with fail
    refine bodyPost_ret (v := rv (⟨al, X - 1, 0⟩)) (by simp [results, Try.results16, go_sem, *]) rfl ⟨rfl, ?_⟩
    exact (by repeat (first | exact Below.refl _ _ | (with_reducible assumption) | refine Below.setCell ?_ (by first | omega | (simp; omega) | (simp; done)) _ | refine Below.alloc ?_ (by first | omega | (simp; omega) | (simp; done)) _ | refine Below.drew ?_))
  · rw [e1]
    clear e1
    rw [e2]
    clear e2
    go_enter Try.func16, Try.ntmps16
    go_wp2_with (first
      | (go_at_call 9; refine (right_any _ _ _).mono ?_; rintro e w1 ⟨rfl, hw1⟩; have hz := hw1.size; (try simp at hz); have hB : Below w.heap.size w w1 := Below.call (w := w) (by repeat (first | exact Below.refl _ _ | (with_reducible assumption) | refine Below.setCell ?_ (by first | omega | (simp; omega) | (simp; done)) _ | refine Below.alloc ?_ (by first | omega | (simp; omega) | (simp; done)) _ | refine Below.drew ?_)) hw1; (try obtain ⟨k1, k2, k3⟩ := keepB hw1 (w.heap.size) (by first | omega | (simp; omega) | (simp; done))); (try obtain ⟨k1, k2, k3⟩ := keepB hw1 (w.heap.size + 1) (by first | omega | (simp; omega) | (simp; done))); (try obtain ⟨k1, k2, k3⟩ := keepB hw1 (w.heap.size + 1 + 1) (by first | omega | (simp; omega) | (simp; done))))
      | (go_at_call 51; refine (divisor_any _ _ _).mono ?_; rintro e w1 ⟨rfl, hw1⟩; have hz := hw1.size; (try simp at hz); have hB : Below w.heap.size w w1 := Below.call (w := w) (by repeat (first | exact Below.refl _ _ | (with_reducible assumption) | refine Below.setCell ?_ (by first | omega | (simp; omega) | (simp; done)) _ | refine Below.alloc ?_ (by first | omega | (simp; omega) | (simp; done)) _ | refine Below.drew ?_)) hw1; (try obtain ⟨k1, k2, k3⟩ := keepB hw1 (w.heap.size) (by first | omega | (simp; omega) | (simp; done))); (try obtain ⟨k1, k2, k3⟩ := keepB hw1 (w.heap.size + 1) (by first | omega | (simp; omega) | (simp; done))); (try obtain ⟨k1, k2, k3⟩ := keepB hw1 (w.heap.size + 1 + 1) (by first | omega | (simp; omega) | (simp; done)))))
    go_quiet (fail)
    have hD : Below w1.heap.size w1 (w1.drewN nq) := below_drewN (Below.refl _ _) _
    generalize w1.drewN nq = wq at *
    have hB2 : Below w.heap.size w wq := Below.call (w := w) hB hD
    have hz2 := hD.size
    obtain ⟨k1, k2, k3⟩ := keepB hD (w.heap.size) (by omega)
    obtain ⟨k1, k2, k3⟩ := keepB hD (w.heap.size + 1) (by omega)
    obtain ⟨k1, k2, k3⟩ := keepB hD (w.heap.size + 1 + 1) (by omega)
    go_wp2_with fail
    refine bodyPost_ret (v := rv (⟨al, ah, 0⟩)) (by simp [results, Try.results16, go_sem, *]) rfl ⟨rfl, ?_⟩
    exact (by repeat (first | exact Below.refl _ _ | (with_reducible assumption) | refine Below.setCell ?_ (by first | omega | (simp; omega) | (simp; done)) _ | refine Below.alloc ?_ (by first | omega | (simp; omega) | (simp; done)) _ | refine Below.drew ?_))

set_option maxHeartbeats 1600000 in
theorem mod_wide_nn (al ah bl bh : Int) (w : World) (ha : Sp.right al ah = true) (hb : Sp.right bl bh = true) (hd : (Sp.divisor bl bh != 0) = false) (sa : al < 0) (sh : ah ≤ 0) (h1 : (bl == bh) = false) :
    Calls Try.prog 16 #[.agg #[.int .i64 al, .int .i64 ah], .agg #[.int .i64 bl, .int .i64 bh]] w fun e w' => e = .returned (rv (Sp.mod al ah bl bh)) ∧ Below w.heap.size w w' := by
  have hfin : Sp.mod al ah bl bh = ⟨(Sp.mx al (-(Sp.modM bl bh))), 0, 0⟩ := by
    simp at hd h1; simp [Sp.mod, ha, hb, hd, h1, sa, show ¬ 0 < ah by omega]
  rw [hfin]
  clear hfin
  have ne1 : ¬ (w.heap.size + 1 + 1 = w.heap.size) := by omega
  obtain ⟨a1, a2, a3⟩ := right_bd ha
  obtain ⟨b1, b2, b3⟩ := right_bd hb
  have h3 : decide (0 ≤ al) = false := by simp; omega
  have h4 : decide (ah ≤ 0) = true := by simp; omega
  obtain ⟨X, hX⟩ : ∃ X, X = Sp.mx (Sp.mx (Sp.mx bl (-bl)) bh) (-bh) := ⟨_, rfl⟩
  have x1 : 0 ≤ X := by rw [hX]; unfold Sp.mx; repeat' split; all_goals omega
  have x2 : X ≤ 9007199254740992 := by rw [hX]; unfold Sp.mx; repeat' split; all_goals omega
  have hmx4 : ∀ (ts : Array TypeId) (t : TypeId) (wx : World), (Builtin.max_ ts t #[.int .i64 bl, .int .i64 (-bl), .int .i64 bh, .int .i64 (-bh)]).run Try.prog wx = .ok (.int .i64 X) wx := fun ts t wx => by rw [hX]; simp [Builtin.max_, Builtin.max2, Sp.mx]; try rfl
  have eM : Sp.modM bl bh = X - 1 := by rw [hX]; rfl
  rw [eM]
  clear eM hX
  obtain ⟨g1, e1⟩ | ⟨g1, e1⟩ := mx_cases al (-(X - 1))
  · rw [e1]
    clear e1
    go_enter Try.func16, Try.ntmps16
    go_wp2_with (first
      | (go_at_call 9; refine (right_any _ _ _).mono ?_; rintro e w1 ⟨rfl, hw1⟩; have hz := hw1.size; (try simp at hz); have hB : Below w.heap.size w w1 := Below.call (w := w) (by repeat (first | exact Below.refl _ _ | (with_reducible assumption) | refine Below.setCell ?_ (by first | omega | (simp; omega) | (simp; done)) _ | refine Below.alloc ?_ (by first | omega | (simp; omega) | (simp; done)) _ | refine Below.drew ?_)) hw1; (try obtain ⟨k1, k2, k3⟩ := keepB hw1 (w.heap.size) (by first | omega | (simp; omega) | (simp; done))); (try obtain ⟨k1, k2, k3⟩ := keepB hw1 (w.heap.size + 1) (by first | omega | (simp; omega) | (simp; done))); (try obtain ⟨k1, k2, k3⟩ := keepB hw1 (w.heap.size + 1 + 1) (by first | omega | (simp; omega) | (simp; done))))
      | (go_at_call 51; refine (divisor_any _ _ _).mono ?_; rintro e w1 ⟨rfl, hw1⟩; have hz := hw1.size; (try simp at hz); have hB : Below w.heap.size w w1 := Below.call (w := w) (by repeat (first | exact Below.refl _ _ | (with_reducible assumption) | refine Below.setCell ?_ (by first | omega | (simp; omega) | (simp; done)) _ | refine Below.alloc ?_ (by first | omega | (simp; omega) | (simp; done)) _ | refine Below.drew ?_)) hw1; (try obtain ⟨k1, k2, k3⟩ := keepB hw1 (w.heap.size) (by first | omega | (simp; omega) | (simp; done))); (try obtain ⟨k1, k2, k3⟩ := keepB hw1 (w.heap.size + 1) (by first | omega | (simp; omega) | (simp; done))); (try obtain ⟨k1, k2, k3⟩ := keepB hw1 (w.heap.size + 1 + 1) (by first | omega | (simp; omega) | (simp; done)))))
    go_quiet (fail)
    have hD : Below w1.heap.size w1 (w1.drewN nq) := below_drewN (Below.refl _ _) _
    generalize w1.drewN nq = wq at *
    have hB2 : Below w.heap.size w wq := Below.call (w := w) hB hD
    have hz2 := hD.size
    obtain ⟨k1, k2, k3⟩ := keepB hD (w.heap.size) (by omega)
    obtain ⟨k1, k2, k3⟩ := keepB hD (w.heap.size + 1) (by omega)
    obtain ⟨k1, k2, k3⟩ := keepB hD (w.heap.size + 1 + 1) (by omega)
    go_wp2_with fail
    refine bodyPost_ret (v := rv (⟨-(X - 1), 0, 0⟩)) (by simp [results, Try.results16, go_sem, *]) rfl ⟨rfl, ?_⟩
    exact (by repeat (first | exact Below.refl _ _ | (with_reducible assumption) | refine Below.setCell ?_ (by first | omega | (simp; omega) | (simp; done)) _ | refine Below.alloc ?_ (by first | omega | (simp; omega) | (simp; done)) _ | refine Below.drew ?_))
  · rw [e1]
    clear e1
    go_enter Try.func16, Try.ntmps16
    go_wp2_with (first
      | (go_at_call 9; refine (right_any _ _ _).mono ?_; rintro e w1 ⟨rfl, hw1⟩; have hz := hw1.size; (try simp at hz); have hB : Below w.heap.size w w1 := Below.call (w := w) (by repeat (first | exact Below.refl _ _ | (with_reducible assumption) | refine Below.setCell ?_ (by first | omega | (simp; omega) | (simp; done)) _ | refine Below.alloc ?_ (by first | omega | (simp; omega) | (simp; done)) _ | refine Below.drew ?_)) hw1; (try obtain ⟨k1, k2, k3⟩ := keepB hw1 (w.heap.size) (by first | omega | (simp; omega) | (simp; done))); (try obtain ⟨k1, k2, k3⟩ := keepB hw1 (w.heap.size + 1) (by first | omega | (simp; omega) | (simp; done))); (try obtain ⟨k1, k2, k3⟩ := keepB hw1 (w.heap.size + 1 + 1) (by first | omega | (simp; omega) | (simp; done))))
      | (go_at_call 51; refine (divisor_any _ _ _).mono ?_; rintro e w1 ⟨rfl, hw1⟩; have hz := hw1.size; (try simp at hz); have hB : Below w.heap.size w w1 := Below.call (w := w) (by repeat (first | exact Below.refl _ _ | (with_reducible assumption) | refine Below.setCell ?_ (by first | omega | (simp; omega) | (simp; done)) _ | refine Below.alloc ?_ (by first | omega | (simp; omega) | (simp; done)) _ | refine Below.drew ?_)) hw1; (try obtain ⟨k1, k2, k3⟩ := keepB hw1 (w.heap.size) (by first | omega | (simp; omega) | (simp; done))); (try obtain ⟨k1, k2, k3⟩ := keepB hw1 (w.heap.size + 1) (by first | omega | (simp; omega) | (simp; done))); (try obtain ⟨k1, k2, k3⟩ := keepB hw1 (w.heap.size + 1 + 1) (by first | omega | (simp; omega) | (simp; done)))))
    go_quiet (fail)
    have hD : Below w1.heap.size w1 (w1.drewN nq) := below_drewN (Below.refl _ _) _
    generalize w1.drewN nq = wq at *
    have hB2 : Below w.heap.size w wq := Below.call (w := w) hB hD
    have hz2 := hD.size
    obtain ⟨k1, k2, k3⟩ := keepB hD (w.heap.size) (by omega)
    obtain ⟨k1, k2, k3⟩ := keepB hD (w.heap.size + 1) (by omega)
    obtain ⟨k1, k2, k3⟩ := keepB hD (w.heap.size + 1 + 1) (by omega)
    go_wp2_with fail
    refine bodyPost_ret (v := rv (⟨al, 0, 0⟩)) (by simp [results, Try.results16, go_sem, *]) rfl ⟨rfl, ?_⟩
    exact (by repeat (first | exact Below.refl _ _ | (with_reducible assumption) | refine Below.setCell ?_ (by first | omega | (simp; omega) | (simp; done)) _ | refine Below.alloc ?_ (by first | omega | (simp; omega) | (simp; done)) _ | refine Below.drew ?_))

set_option maxHeartbeats 1600000 in
theorem mod_quo_nn (al ah bl bh : Int) (w : World) (ha : Sp.right al ah = true) (hb : Sp.right bl bh = true) (hd : (Sp.divisor bl bh != 0) = false) (sa : al < 0) (sh : ah ≤ 0) (h1 : (bl == bh) = true) (h2 : (al == ah) = false) (hq : (Sp.quo al bl == Sp.quo ah bl) = false) :
    Calls Try.prog 16 #[.agg #[.int .i64 al, .int .i64 ah], .agg #[.int .i64 bl, .int .i64 bh]] w fun e w' => e = .returned (rv (Sp.mod al ah bl bh)) ∧ Below w.heap.size w w' := by
  have hfin : Sp.mod al ah bl bh = ⟨(Sp.mx al (-(Sp.modM bl bh))), 0, 0⟩ := by
    simp at hd h1 h2 hq; subst h1; simp [Sp.mod, ha, hb, hd, h2, hq, sa, show ¬ 0 < ah by omega]
  rw [hfin]
  clear hfin
  have ne1 : ¬ (w.heap.size + 1 + 1 = w.heap.size) := by omega
  obtain ⟨a1, a2, a3⟩ := right_bd ha
  obtain ⟨b1, b2, b3⟩ := right_bd hb
  have h3 : decide (0 ≤ al) = false := by simp; omega
  have h4 : decide (ah ≤ 0) = true := by simp; omega
  obtain ⟨X, hX⟩ : ∃ X, X = Sp.mx (Sp.mx (Sp.mx bl (-bl)) bh) (-bh) := ⟨_, rfl⟩
  have x1 : 0 ≤ X := by rw [hX]; unfold Sp.mx; repeat' split; all_goals omega
  have x2 : X ≤ 9007199254740992 := by rw [hX]; unfold Sp.mx; repeat' split; all_goals omega
  have hmx4 : ∀ (ts : Array TypeId) (t : TypeId) (wx : World), (Builtin.max_ ts t #[.int .i64 bl, .int .i64 (-bl), .int .i64 bh, .int .i64 (-bh)]).run Try.prog wx = .ok (.int .i64 X) wx := fun ts t wx => by rw [hX]; simp [Builtin.max_, Builtin.max2, Sp.mx]; try rfl
  have eM : Sp.modM bl bh = X - 1 := by rw [hX]; rfl
  rw [eM]
  clear eM hX
  obtain ⟨g1, e1⟩ | ⟨g1, e1⟩ := mx_cases al (-(X - 1))
  · rw [e1]
    clear e1
    go_enter Try.func16, Try.ntmps16
    go_wp2_with (first
      | (go_at_call 9; refine (right_any _ _ _).mono ?_; rintro e w1 ⟨rfl, hw1⟩; have hz := hw1.size; (try simp at hz); have hB : Below w.heap.size w w1 := Below.call (w := w) (by repeat (first | exact Below.refl _ _ | (with_reducible assumption) | refine Below.setCell ?_ (by first | omega | (simp; omega) | (simp; done)) _ | refine Below.alloc ?_ (by first | omega | (simp; omega) | (simp; done)) _ | refine Below.drew ?_)) hw1; (try obtain ⟨k1, k2, k3⟩ := keepB hw1 (w.heap.size) (by first | omega | (simp; omega) | (simp; done))); (try obtain ⟨k1, k2, k3⟩ := keepB hw1 (w.heap.size + 1) (by first | omega | (simp; omega) | (simp; done))); (try obtain ⟨k1, k2, k3⟩ := keepB hw1 (w.heap.size + 1 + 1) (by first | omega | (simp; omega) | (simp; done))))
      | (go_at_call 51; refine (divisor_any _ _ _).mono ?_; rintro e w1 ⟨rfl, hw1⟩; have hz := hw1.size; (try simp at hz); have hB : Below w.heap.size w w1 := Below.call (w := w) (by repeat (first | exact Below.refl _ _ | (with_reducible assumption) | refine Below.setCell ?_ (by first | omega | (simp; omega) | (simp; done)) _ | refine Below.alloc ?_ (by first | omega | (simp; omega) | (simp; done)) _ | refine Below.drew ?_)) hw1; (try obtain ⟨k1, k2, k3⟩ := keepB hw1 (w.heap.size) (by first | omega | (simp; omega) | (simp; done))); (try obtain ⟨k1, k2, k3⟩ := keepB hw1 (w.heap.size + 1) (by first | omega | (simp; omega) | (simp; done))); (try obtain ⟨k1, k2, k3⟩ := keepB hw1 (w.heap.size + 1 + 1) (by first | omega | (simp; omega) | (simp; done)))))
    go_region_held3 (fun w' => w'.cell? ⟨w.heap.size, 0, none⟩ = some (.int .i64 al) ∧ w'.cell? ⟨w.heap.size, 1, none⟩ = some (.int .i64 ah) ∧ w'.cell? ⟨w.heap.size + 1, 0, none⟩ = some (.int .i64 bl) ∧ w'.cell? ⟨w.heap.size + 1, 1, none⟩ = some (.int .i64 bh)) (go_keep)
      (first
      | (go_at_call 52; refine (quotient_any _ _ _).mono ?_; rintro e w1 ⟨rfl, rfl⟩))
    go_wp2_with fail
    refine bodyPost_ret (v := rv (⟨-(X - 1), 0, 0⟩)) (by simp [results, Try.results16, go_sem, *]) rfl ⟨rfl, ?_⟩
    exact (by repeat (first | exact Below.refl _ _ | (with_reducible assumption) | refine Below.setCell ?_ (by first | omega | (simp; omega) | (simp; done)) _ | refine Below.alloc ?_ (by first | omega | (simp; omega) | (simp; done)) _ | refine Below.drew ?_))
  · rw [e1]
    clear e1
    go_enter Try.func16, Try.ntmps16
    go_wp2_with (first
      | (go_at_call 9; refine (right_any _ _ _).mono ?_; rintro e w1 ⟨rfl, hw1⟩; have hz := hw1.size; (try simp at hz); have hB : Below w.heap.size w w1 := Below.call (w := w) (by repeat (first | exact Below.refl _ _ | (with_reducible assumption) | refine Below.setCell ?_ (by first | omega | (simp; omega) | (simp; done)) _ | refine Below.alloc ?_ (by first | omega | (simp; omega) | (simp; done)) _ | refine Below.drew ?_)) hw1; (try obtain ⟨k1, k2, k3⟩ := keepB hw1 (w.heap.size) (by first | omega | (simp; omega) | (simp; done))); (try obtain ⟨k1, k2, k3⟩ := keepB hw1 (w.heap.size + 1) (by first | omega | (simp; omega) | (simp; done))); (try obtain ⟨k1, k2, k3⟩ := keepB hw1 (w.heap.size + 1 + 1) (by first | omega | (simp; omega) | (simp; done))))
      | (go_at_call 51; refine (divisor_any _ _ _).mono ?_; rintro e w1 ⟨rfl, hw1⟩; have hz := hw1.size; (try simp at hz); have hB : Below w.heap.size w w1 := Below.call (w := w) (by repeat (first | exact Below.refl _ _ | (with_reducible assumption) | refine Below.setCell ?_ (by first | omega | (simp; omega) | (simp; done)) _ | refine Below.alloc ?_ (by first | omega | (simp; omega) | (simp; done)) _ | refine Below.drew ?_)) hw1; (try obtain ⟨k1, k2, k3⟩ := keepB hw1 (w.heap.size) (by first | omega | (simp; omega) | (simp; done))); (try obtain ⟨k1, k2, k3⟩ := keepB hw1 (w.heap.size + 1) (by first | omega | (simp; omega) | (simp; done))); (try obtain ⟨k1, k2, k3⟩ := keepB hw1 (w.heap.size + 1 + 1) (by first | omega | (simp; omega) | (simp; done)))))
    go_region_held3 (fun w' => w'.cell? ⟨w.heap.size, 0, none⟩ = some (.int .i64 al) ∧ w'.cell? ⟨w.heap.size, 1, none⟩ = some (.int .i64 ah) ∧ w'.cell? ⟨w.heap.size + 1, 0, none⟩ = some (.int .i64 bl) ∧ w'.cell? ⟨w.heap.size + 1, 1, none⟩ = some (.int .i64 bh)) (go_keep)
      (first
      | (go_at_call 52; refine (quotient_any _ _ _).mono ?_; rintro e w1 ⟨rfl, rfl⟩))
    go_wp2_with fail
    refine bodyPost_ret (v := rv (⟨al, 0, 0⟩)) (by simp [results, Try.results16, go_sem, *]) rfl ⟨rfl, ?_⟩
    exact (by repeat (first | exact Below.refl _ _ | (with_reducible assumption) | refine Below.setCell ?_ (by first | omega | (simp; omega) | (simp; done)) _ | refine Below.alloc ?_ (by first | omega | (simp; omega) | (simp; done)) _ | refine Below.drew ?_))

theorem mod_ok (al ah bl bh : Int) (w : World) (ha : Sp.right al ah = true) (hb : Sp.right bl bh = true) :
    Calls Try.prog 16 #[.agg #[.int .i64 al, .int .i64 ah], .agg #[.int .i64 bl, .int .i64 bh]] w fun e w' => e = .returned (rv (Sp.mod al ah bl bh)) ∧ Below w.heap.size w w' := by
  cases hd : (Sp.divisor bl bh != 0) with
  | true => exact mod_zero al ah bl bh w ha hb hd
  | false =>
    cases h1 : (bl == bh) with
    | false =>
      by_cases sa : al < 0 <;> by_cases sh : 0 < ah
      · exact mod_wide_np al ah bl bh w ha hb hd sa sh h1
      · exact mod_wide_nn al ah bl bh w ha hb hd sa (by omega) h1
      · exact mod_wide_pp al ah bl bh w ha hb hd (by omega) sh h1
      · exact mod_wide_pn al ah bl bh w ha hb hd (by omega) (by omega) h1
    | true =>
      cases h2 : (al == ah) with
      | true => exact mod_point al ah bl bh w ha hb hd h1 h2
      | false =>
        cases hq : (Sp.quo al bl == Sp.quo ah bl) with
        | true =>
          by_cases sa : al < 0
          · by_cases sh : 0 < ah
            · exact mod_both_np al ah bl bh w ha hb hd sa sh h1 h2
            · exact mod_sameb al ah bl bh w ha hb hd h1 h2 (by simp; omega) (by simp; omega) hq
          · exact mod_samea al ah bl bh w ha hb hd h1 h2 (by simp; omega) hq
        | false =>
          by_cases sa : al < 0 <;> by_cases sh : 0 < ah
          · exact mod_both_np al ah bl bh w ha hb hd sa sh h1 h2
          · exact mod_quo_nn al ah bl bh w ha hb hd sa (by omega) h1 h2 hq
          · exact mod_quo_pp al ah bl bh w ha hb hd (by omega) sh h1 h2 hq
          · exact mod_quo_pn al ah bl bh w ha hb hd (by omega) (by omega) h1 h2 hq
end Go.Proofs.Ytjdppnkmhgihnaa
