/- The contract of the reference's Mod. -/
import Derived.Test.YtjdppnkmhgihnaaRc
namespace Go.Proofs.Ytjdppnkmhgihnaa
open Go.RowKit

set_option maxHeartbeats 1600000 in
theorem rmod_bad1 (al ah bl bh : Int) (w : World) (ha : Sp.right al ah = false) :
    Calls Try.prog 27 #[.agg #[.int .i64 al, .int .i64 ah], .agg #[.int .i64 bl, .int .i64 bh]] w fun e w' => e = .returned (rv (Sp.mod al ah bl bh)) ∧ Below w.heap.size w w' := by
  have hfin : Sp.mod al ah bl bh = ⟨0, 0, 1⟩ := by simp [Sp.mod, ha]
  rw [hfin]
  clear hfin
  go_enter Try.func27, Try.ntmps27
  go_wp2_with (first
    | (go_at_call 57; refine (rdivisor_bad1 _ _ _ _ _ ha).mono ?_; rintro e w1 ⟨rfl, hw1⟩; have hz := hw1.size; (try simp at hz); have hB : Below w.heap.size w w1 := Below.call (w := w) (by repeat (first | (with_reducible exact Below.refl _ _) | (with_reducible assumption) | refine Below.setCell ?_ (by first | omega | (simp; omega) | (simp; done)) _ | refine Below.alloc ?_ (by first | omega | (simp; omega) | (simp; done)) _ | refine Below.drew ?_)) hw1; (try obtain ⟨k1, k2, k3⟩ := keepB hw1 (w.heap.size) (by first | omega | (simp; omega) | (simp; done))); (try obtain ⟨k1, k2, k3⟩ := keepB hw1 (w.heap.size + 1) (by first | omega | (simp; omega) | (simp; done))); (try obtain ⟨k1, k2, k3⟩ := keepB hw1 (w.heap.size + 1 + 1) (by first | omega | (simp; omega) | (simp; done)))))
  refine bodyPost_ret (v := rv (⟨0, 0, 1⟩)) (by simp [results, Try.results27, go_sem, *]) rfl ⟨rfl, ?_⟩
  exact (by repeat (first | (with_reducible exact Below.refl _ _) | (with_reducible assumption) | refine Below.setCell ?_ (by first | omega | (simp; omega) | (simp; done)) _ | refine Below.alloc ?_ (by first | omega | (simp; omega) | (simp; done)) _ | refine Below.drew ?_))

set_option maxHeartbeats 1600000 in
theorem rmod_bad2 (al ah bl bh : Int) (w : World) (ha : Sp.right al ah = true) (hb : Sp.right bl bh = false) :
    Calls Try.prog 27 #[.agg #[.int .i64 al, .int .i64 ah], .agg #[.int .i64 bl, .int .i64 bh]] w fun e w' => e = .returned (rv (Sp.mod al ah bl bh)) ∧ Below w.heap.size w w' := by
  have hfin : Sp.mod al ah bl bh = ⟨0, 0, 1⟩ := by simp [Sp.mod, ha, hb]
  rw [hfin]
  clear hfin
  go_enter Try.func27, Try.ntmps27
  go_wp2_with (first
    | (go_at_call 57; refine (rdivisor_bad2 _ _ _ _ _ ha hb).mono ?_; rintro e w1 ⟨rfl, hw1⟩; have hz := hw1.size; (try simp at hz); have hB : Below w.heap.size w w1 := Below.call (w := w) (by repeat (first | (with_reducible exact Below.refl _ _) | (with_reducible assumption) | refine Below.setCell ?_ (by first | omega | (simp; omega) | (simp; done)) _ | refine Below.alloc ?_ (by first | omega | (simp; omega) | (simp; done)) _ | refine Below.drew ?_)) hw1; (try obtain ⟨k1, k2, k3⟩ := keepB hw1 (w.heap.size) (by first | omega | (simp; omega) | (simp; done))); (try obtain ⟨k1, k2, k3⟩ := keepB hw1 (w.heap.size + 1) (by first | omega | (simp; omega) | (simp; done))); (try obtain ⟨k1, k2, k3⟩ := keepB hw1 (w.heap.size + 1 + 1) (by first | omega | (simp; omega) | (simp; done)))))
  refine bodyPost_ret (v := rv (⟨0, 0, 1⟩)) (by simp [results, Try.results27, go_sem, *]) rfl ⟨rfl, ?_⟩
  exact (by repeat (first | (with_reducible exact Below.refl _ _) | (with_reducible assumption) | refine Below.setCell ?_ (by first | omega | (simp; omega) | (simp; done)) _ | refine Below.alloc ?_ (by first | omega | (simp; omega) | (simp; done)) _ | refine Below.drew ?_))

set_option maxHeartbeats 1600000 in
theorem rmod_zero (al ah bl bh : Int) (w : World) (ha : Sp.right al ah = true) (hb : Sp.right bl bh = true) (hd : (Sp.divisor bl bh != 0) = true) :
    Calls Try.prog 27 #[.agg #[.int .i64 al, .int .i64 ah], .agg #[.int .i64 bl, .int .i64 bh]] w fun e w' => e = .returned (rv (Sp.mod al ah bl bh)) ∧ Below w.heap.size w w' := by
  have hfin : Sp.mod al ah bl bh = ⟨0, 0, Sp.divisor bl bh⟩ := by simp [Sp.mod, ha, hb, show Sp.divisor bl bh ≠ 0 by simpa using hd]
  rw [hfin]
  clear hfin
  go_enter Try.func27, Try.ntmps27
  go_wp2_with (first
    | (go_at_call 57; refine (rdivisor_ok _ _ _ _ _ ha hb).mono ?_; rintro e w1 ⟨rfl, hw1⟩; have hz := hw1.size; (try simp at hz); have hB : Below w.heap.size w w1 := Below.call (w := w) (by repeat (first | (with_reducible exact Below.refl _ _) | (with_reducible assumption) | refine Below.setCell ?_ (by first | omega | (simp; omega) | (simp; done)) _ | refine Below.alloc ?_ (by first | omega | (simp; omega) | (simp; done)) _ | refine Below.drew ?_)) hw1; (try obtain ⟨k1, k2, k3⟩ := keepB hw1 (w.heap.size) (by first | omega | (simp; omega) | (simp; done))); (try obtain ⟨k1, k2, k3⟩ := keepB hw1 (w.heap.size + 1) (by first | omega | (simp; omega) | (simp; done))); (try obtain ⟨k1, k2, k3⟩ := keepB hw1 (w.heap.size + 1 + 1) (by first | omega | (simp; omega) | (simp; done)))))
  refine bodyPost_ret (v := rv (⟨0, 0, Sp.divisor bl bh⟩)) (by simp [results, Try.results27, go_sem, *]) rfl ⟨rfl, ?_⟩
  exact (by repeat (first | (with_reducible exact Below.refl _ _) | (with_reducible assumption) | refine Below.setCell ?_ (by first | omega | (simp; omega) | (simp; done)) _ | refine Below.alloc ?_ (by first | omega | (simp; omega) | (simp; done)) _ | refine Below.drew ?_))

theorem mod_same {al ah bl bh : Int} (ha : Sp.right al ah = true) (hb : Sp.right bl bh = true) (hd : Sp.divisor bl bh = 0) (h1 : bl = bh) (h : al = ah ∨ ((0 ≤ al ∨ ah ≤ 0) ∧ al.tdiv bl = ah.tdiv bl)) :
    Sp.mod al ah bl bh = ⟨Sp.hullLo (al.tmod bl) [ah.tmod bl, al.tmod bl, ah.tmod bl], Sp.hullHi (al.tmod bl) [ah.tmod bl, al.tmod bl, ah.tmod bl], 0⟩ := by
  obtain ⟨a1, a2, a3⟩ := right_bd ha
  obtain ⟨b1, b2, b3⟩ := right_bd hb
  obtain ⟨i1, i2⟩ := right_inR ha
  obtain ⟨j1, j2⟩ := right_inR hb
  obtain ⟨n1, n2⟩ := divisor_ne hd b2
  have t1 := tmod_bd (y := bl) a1 (show al ≤ _ by omega)
  have t2 := tmod_bd (y := bl) (show _ ≤ ah by omega) a3
  by_cases h2 : al = ah
  · have e : Sp.mod al ah bl bh = Sp.fit (Sp.rem al bl) (Sp.rem al bl) := by
      simp only [Sp.mod, ha, hb, hd, Bool.and_self, if_true]
      rw [if_pos ⟨h1, h2⟩]
    rw [e, rem_val i1 j1 n1, fit_in t1.1 (Int.le_refl _) t1.2]
    subst h2
    simp [Sp.hullLo, Sp.hullHi, Sp.mn, Sp.mx]
  · obtain ⟨h3, h4⟩ := h.resolve_left h2
    have e : Sp.mod al ah bl bh = Sp.fit (Sp.hullLo (Sp.rem al bl) [Sp.rem ah bl]) (Sp.hullHi (Sp.rem al bl) [Sp.rem ah bl]) := by
      simp only [Sp.mod, ha, hb, hd, Bool.and_self, if_true]
      rw [if_neg (fun h => h2 h.2), if_pos ⟨h1, h3, by rw [quo_val i1 j1 n1, quo_val i2 j1 n1]; exact h4⟩]
    rw [e, rem_val i1 j1 n1, rem_val i2 j1 n1]
    have k1 : Sp.hullLo (al.tmod bl) [ah.tmod bl, al.tmod bl, ah.tmod bl] = Sp.hullLo (al.tmod bl) [ah.tmod bl] := by
      simp only [Sp.hullLo]; unfold Sp.mn; repeat' split
      all_goals omega
    have k2 : Sp.hullHi (al.tmod bl) [ah.tmod bl, al.tmod bl, ah.tmod bl] = Sp.hullHi (al.tmod bl) [ah.tmod bl] := by
      simp only [Sp.hullHi]; unfold Sp.mx; repeat' split
      all_goals omega
    rw [k1, k2]
    apply fit_in
    · simp only [Sp.hullLo]; unfold Sp.mn; split <;> omega
    · simp only [Sp.hullLo, Sp.hullHi]; unfold Sp.mn Sp.mx; repeat' split
      all_goals omega
    · simp only [Sp.hullHi]; unfold Sp.mx; split <;> omega

theorem mod_wide {al ah bl bh : Int} (ha : Sp.right al ah = true) (hb : Sp.right bl bh = true) (hd : Sp.divisor bl bh = 0) (h : ¬ (bl = bh ∧ (al = ah ∨ ((0 ≤ al ∨ ah ≤ 0) ∧ al.tdiv bl = ah.tdiv bl)))) (M : Int) (hM : Sp.modM bl bh = M) :
    Sp.mod al ah bl bh = ⟨if al < 0 then Sp.mx al (-M) else 0, if 0 < ah then Sp.mn ah M else 0, 0⟩ := by
  obtain ⟨a1, a2, a3⟩ := right_bd ha
  obtain ⟨b1, b2, b3⟩ := right_bd hb
  obtain ⟨i1, i2⟩ := right_inR ha
  obtain ⟨j1, j2⟩ := right_inR hb
  obtain ⟨n1, n2⟩ := divisor_ne hd b2
  simp only [Sp.mod, ha, hb, hd, Bool.and_self, if_true]
  rw [if_neg (fun h' => h ⟨h'.1, .inl h'.2⟩), if_neg (fun h' => h ⟨h'.1, .inr ⟨h'.2.1, by have := h'.2.2; rwa [quo_val i1 j1 n1, quo_val i2 j1 n1] at this⟩⟩), hM]

set_option maxHeartbeats 3200000 in
theorem rmod_same (al ah bl bh : Int) (w : World) (ha : Sp.right al ah = true) (hb : Sp.right bl bh = true) (hd : (Sp.divisor bl bh != 0) = false) (h1 : (bl == bh) = true) (h : (al == ah) = true ∨ ((al == ah) = false ∧ (decide (0 ≤ al) || decide (ah ≤ 0)) = true ∧ (al.tdiv bl == ah.tdiv bl) = true)) :
    Calls Try.prog 27 #[.agg #[.int .i64 al, .int .i64 ah], .agg #[.int .i64 bl, .int .i64 bh]] w fun e w' => e = .returned (rv (Sp.mod al ah bl bh)) ∧ Below w.heap.size w w' := by
  have hd0 : Sp.divisor bl bh = 0 := by simpa using hd
  obtain ⟨a1, a2, a3⟩ := right_bd ha
  obtain ⟨b1, b2, b3⟩ := right_bd hb
  obtain ⟨n1, n2⟩ := divisor_ne hd0 b2
  have ne1 : ¬ (w.heap.size + 1 + 1 = w.heap.size) := by omega
  rw [mod_same ha hb hd0 (by simpa using h1) (by rcases h with h | ⟨_, h3, h4⟩; exact .inl (by simpa using h); exact .inr ⟨by simpa using h3, by simpa using h4⟩)]
  have HH := Lib.hid (fun wz => rhull_any (al.tmod bl) (ah.tmod bl) (al.tmod bl) (ah.tmod bl) wz)
  have m1 : IntKind.i64.wrap (al.tdiv bl) = al.tdiv bl := (by have := tdiv_bd (y := bl) (show -9007199254740992 ≤ al by omega) (show al ≤ 9007199254740992 by omega); rw [IntKind.wrap_i64]; omega)
  have m2 : IntKind.i64.wrap (ah.tdiv bl) = ah.tdiv bl := (by have := tdiv_bd (y := bl) (show -9007199254740992 ≤ ah by omega) (show ah ≤ 9007199254740992 by omega); rw [IntKind.wrap_i64]; omega)
  have m3 : IntKind.i64.wrap (al.tmod bl) = al.tmod bl := (by have := tmod_bd (y := bl) (show -9007199254740992 ≤ al by omega) (show al ≤ 9007199254740992 by omega); rw [IntKind.wrap_i64]; omega)
  have m4 : IntKind.i64.wrap (ah.tmod bl) = ah.tmod bl := (by have := tmod_bd (y := bl) (show -9007199254740992 ≤ ah by omega) (show ah ≤ 9007199254740992 by omega); rw [IntKind.wrap_i64]; omega)
  have z1 : (bl == 0) = false := by simp [n1]
  clear hd0
  rcases h with h | ⟨h2, h3, h4⟩
  · cases s1 : decide (0 ≤ al) <;> cases s2 : decide (ah ≤ 0)
    all_goals
      go_enter Try.func27, Try.ntmps27
      go_wp2_with (first
        | (go_at_call 57; refine (rdivisor_ok _ _ _ _ _ ha hb).mono ?_; rintro e w1 ⟨rfl, hw1⟩; have hz := hw1.size; (try simp at hz); have hB : Below w.heap.size w w1 := Below.call (w := w) (by repeat (first | (with_reducible exact Below.refl _ _) | (with_reducible assumption) | refine Below.setCell ?_ (by first | omega | (simp; omega) | (simp; done)) _ | refine Below.alloc ?_ (by first | omega | (simp; omega) | (simp; done)) _ | refine Below.drew ?_)) hw1; (try obtain ⟨k1, k2, k3⟩ := keepB hw1 (w.heap.size) (by first | omega | (simp; omega) | (simp; done))); (try obtain ⟨k1, k2, k3⟩ := keepB hw1 (w.heap.size + 1) (by first | omega | (simp; omega) | (simp; done))); (try obtain ⟨k1, k2, k3⟩ := keepB hw1 (w.heap.size + 1 + 1) (by first | omega | (simp; omega) | (simp; done)))))
      go_quiet (fail)
      have hD : Below w1.heap.size w1 (w1.drewN nq) := below_drewN (Below.refl _ _) _
      generalize w1.drewN nq = wq at *
      have hB2 : Below w.heap.size w wq := Below.call (w := w) hB hD
      have hz2 := hD.size
      obtain ⟨k1, k2, k3⟩ := keepB hD (w.heap.size) (by omega)
      obtain ⟨k1, k2, k3⟩ := keepB hD (w.heap.size + 1) (by omega)
      obtain ⟨k1, k2, k3⟩ := keepB hD (w.heap.size + 1 + 1) (by omega)
      go_wp2_with (first
        | (go_at_call 55; refine (HH.out _).mono ?_; rintro e w2 ⟨rfl, hw2⟩; have hz3 := hw2.size; (try simp at hz3); have hB3 : Below w.heap.size w w2 := Below.call (w := w) (by repeat (first | (with_reducible exact Below.refl _ _) | (with_reducible assumption) | refine Below.setCell ?_ (by first | omega | (simp; omega) | (simp; done)) _ | refine Below.alloc ?_ (by first | omega | (simp; omega) | (simp; done)) _ | refine Below.drew ?_)) hw2; (try obtain ⟨k1, k2, k3⟩ := keepB hw2 (w.heap.size) (by first | omega | (simp; omega) | (simp; done))); (try obtain ⟨k1, k2, k3⟩ := keepB hw2 (w.heap.size + 1) (by first | omega | (simp; omega) | (simp; done))); (try obtain ⟨k1, k2, k3⟩ := keepB hw2 (w.heap.size + 1 + 1) (by first | omega | (simp; omega) | (simp; done)))))
      refine bodyPost_ret (v := rv (⟨Sp.hullLo (al.tmod bl) [ah.tmod bl, al.tmod bl, ah.tmod bl], Sp.hullHi (al.tmod bl) [ah.tmod bl, al.tmod bl, ah.tmod bl], 0⟩)) (by simp [results, Try.results27, go_sem, *]) rfl ⟨rfl, ?_⟩
      exact (by repeat (first | (with_reducible exact Below.refl _ _) | (with_reducible assumption) | refine Below.setCell ?_ (by first | omega | (simp; omega) | (simp; done)) _ | refine Below.alloc ?_ (by first | omega | (simp; omega) | (simp; done)) _ | refine Below.drew ?_))
  · cases s1 : decide (0 ≤ al) <;> cases s2 : decide (ah ≤ 0)
    all_goals (try (rw [s1, s2] at h3; simp at h3; done))
    all_goals
      clear h3
      go_enter Try.func27, Try.ntmps27
      go_wp2_with (first
        | (go_at_call 57; refine (rdivisor_ok _ _ _ _ _ ha hb).mono ?_; rintro e w1 ⟨rfl, hw1⟩; have hz := hw1.size; (try simp at hz); have hB : Below w.heap.size w w1 := Below.call (w := w) (by repeat (first | (with_reducible exact Below.refl _ _) | (with_reducible assumption) | refine Below.setCell ?_ (by first | omega | (simp; omega) | (simp; done)) _ | refine Below.alloc ?_ (by first | omega | (simp; omega) | (simp; done)) _ | refine Below.drew ?_)) hw1; (try obtain ⟨k1, k2, k3⟩ := keepB hw1 (w.heap.size) (by first | omega | (simp; omega) | (simp; done))); (try obtain ⟨k1, k2, k3⟩ := keepB hw1 (w.heap.size + 1) (by first | omega | (simp; omega) | (simp; done))); (try obtain ⟨k1, k2, k3⟩ := keepB hw1 (w.heap.size + 1 + 1) (by first | omega | (simp; omega) | (simp; done)))))
      go_quiet (fail)
      have hD : Below w1.heap.size w1 (w1.drewN nq) := below_drewN (Below.refl _ _) _
      generalize w1.drewN nq = wq at *
      have hB2 : Below w.heap.size w wq := Below.call (w := w) hB hD
      have hz2 := hD.size
      obtain ⟨k1, k2, k3⟩ := keepB hD (w.heap.size) (by omega)
      obtain ⟨k1, k2, k3⟩ := keepB hD (w.heap.size + 1) (by omega)
      obtain ⟨k1, k2, k3⟩ := keepB hD (w.heap.size + 1 + 1) (by omega)
      go_wp2_with (first
        | (go_at_call 55; refine (HH.out _).mono ?_; rintro e w2 ⟨rfl, hw2⟩; have hz3 := hw2.size; (try simp at hz3); have hB3 : Below w.heap.size w w2 := Below.call (w := w) (by repeat (first | (with_reducible exact Below.refl _ _) | (with_reducible assumption) | refine Below.setCell ?_ (by first | omega | (simp; omega) | (simp; done)) _ | refine Below.alloc ?_ (by first | omega | (simp; omega) | (simp; done)) _ | refine Below.drew ?_)) hw2; (try obtain ⟨k1, k2, k3⟩ := keepB hw2 (w.heap.size) (by first | omega | (simp; omega) | (simp; done))); (try obtain ⟨k1, k2, k3⟩ := keepB hw2 (w.heap.size + 1) (by first | omega | (simp; omega) | (simp; done))); (try obtain ⟨k1, k2, k3⟩ := keepB hw2 (w.heap.size + 1 + 1) (by first | omega | (simp; omega) | (simp; done)))))
      refine bodyPost_ret (v := rv (⟨Sp.hullLo (al.tmod bl) [ah.tmod bl, al.tmod bl, ah.tmod bl], Sp.hullHi (al.tmod bl) [ah.tmod bl, al.tmod bl, ah.tmod bl], 0⟩)) (by simp [results, Try.results27, go_sem, *]) rfl ⟨rfl, ?_⟩
      exact (by repeat (first | (with_reducible exact Below.refl _ _) | (with_reducible assumption) | refine Below.setCell ?_ (by first | omega | (simp; omega) | (simp; done)) _ | refine Below.alloc ?_ (by first | omega | (simp; omega) | (simp; done)) _ | refine Below.drew ?_))

set_option maxHeartbeats 3200000 in
theorem rmod_wide00 (al ah bl bh : Int) (w : World) (ha : Sp.right al ah = true) (hb : Sp.right bl bh = true) (hd : (Sp.divisor bl bh != 0) = false) (h1 : (bl == bh) = false) (s1 : decide (0 ≤ al) = false) (s2 : decide (ah ≤ 0) = false) :
    Calls Try.prog 27 #[.agg #[.int .i64 al, .int .i64 ah], .agg #[.int .i64 bl, .int .i64 bh]] w fun e w' => e = .returned (rv (Sp.mod al ah bl bh)) ∧ Below w.heap.size w w' := by
  have hd0 : Sp.divisor bl bh = 0 := by simpa using hd
  obtain ⟨a1, a2, a3⟩ := right_bd ha
  obtain ⟨b1, b2, b3⟩ := right_bd hb
  obtain ⟨n1, n2⟩ := divisor_ne hd0 b2
  have ne1 : ¬ (w.heap.size + 1 + 1 = w.heap.size) := by omega
  obtain ⟨X, hX⟩ : ∃ X, X = Sp.mx (Sp.mx bl (-bl)) (Sp.mx bh (-bh)) := ⟨_, rfl⟩
  have hM : Sp.modM bl bh = X - 1 := by
    rw [hX]; unfold Sp.modM Sp.mx; repeat' split
    all_goals omega
  have x1 : 0 ≤ X := by rw [hX]; unfold Sp.mx; repeat' split; all_goals omega
  have x2 : X ≤ 9007199254740992 := by rw [hX]; unfold Sp.mx; repeat' split; all_goals omega
  have hr := mod_wide ha hb hd0 (fun h => by simp [h.1] at h1) (X - 1) hM
  have t1 : decide (al < 0) = true := by simp at s1 ⊢; omega
  have t2 : decide (0 < ah) = true := by simp at s2 ⊢; omega
  simp only [decide_eq_true_eq] at t1 t2
  rw [if_pos t1, if_pos t2] at hr
  rw [hr]
  have u1 : decide (al < 0) = true := by simp [t1]
  have u2 : decide (0 < ah) = true := by simp [t2]
  clear t1 t2 hr hM hd0
  have hm3 : ∀ (ts : Array TypeId) (t : TypeId) (wx : World), (Builtin.max_ ts t #[.int .i64 (Sp.mx bl (-bl)), .int .i64 (Sp.mx bh (-bh))]).run Try.prog wx = .ok (.int .i64 X) wx := fun ts t wx => by rw [hX]; exact run_mx2 ts t wx _ _
  have hm1 := fun (ts : Array TypeId) (t : TypeId) (wx : World) => run_mx2 ts t wx bl (-bl)
  have hm2 := fun (ts : Array TypeId) (t : TypeId) (wx : World) => run_mx2 ts t wx bh (-bh)
  have hm4 := fun (ts : Array TypeId) (t : TypeId) (wx : World) => run_mx2 ts t wx al (-(X - 1))
  have hm5 := fun (ts : Array TypeId) (t : TypeId) (wx : World) => run_mn2 ts t wx ah (X - 1)
  clear hX
  have m1 : IntKind.i64.wrap (al.tdiv bl) = al.tdiv bl := (by have := tdiv_bd (y := bl) (show -9007199254740992 ≤ al by omega) (show al ≤ 9007199254740992 by omega); rw [IntKind.wrap_i64]; omega)
  have m2 : IntKind.i64.wrap (ah.tdiv bl) = ah.tdiv bl := (by have := tdiv_bd (y := bl) (show -9007199254740992 ≤ ah by omega) (show ah ≤ 9007199254740992 by omega); rw [IntKind.wrap_i64]; omega)
  have m3 : IntKind.i64.wrap (al.tmod bl) = al.tmod bl := (by have := tmod_bd (y := bl) (show -9007199254740992 ≤ al by omega) (show al ≤ 9007199254740992 by omega); rw [IntKind.wrap_i64]; omega)
  have m4 : IntKind.i64.wrap (ah.tmod bl) = ah.tmod bl := (by have := tmod_bd (y := bl) (show -9007199254740992 ≤ ah by omega) (show ah ≤ 9007199254740992 by omega); rw [IntKind.wrap_i64]; omega)
  have z1 : (bl == 0) = false := by simp [n1]
  go_enter Try.func27, Try.ntmps27
  go_wp2_with (first
    | (go_at_call 57; refine (rdivisor_ok _ _ _ _ _ ha hb).mono ?_; rintro e w1 ⟨rfl, hw1⟩; have hz := hw1.size; (try simp at hz); have hB : Below w.heap.size w w1 := Below.call (w := w) (by repeat (first | (with_reducible exact Below.refl _ _) | (with_reducible assumption) | refine Below.setCell ?_ (by first | omega | (simp; omega) | (simp; done)) _ | refine Below.alloc ?_ (by first | omega | (simp; omega) | (simp; done)) _ | refine Below.drew ?_)) hw1; (try obtain ⟨k1, k2, k3⟩ := keepB hw1 (w.heap.size) (by first | omega | (simp; omega) | (simp; done))); (try obtain ⟨k1, k2, k3⟩ := keepB hw1 (w.heap.size + 1) (by first | omega | (simp; omega) | (simp; done))); (try obtain ⟨k1, k2, k3⟩ := keepB hw1 (w.heap.size + 1 + 1) (by first | omega | (simp; omega) | (simp; done)))))
  go_quiet (fail)
  have hD : Below w1.heap.size w1 (w1.drewN nq) := below_drewN (Below.refl _ _) _
  generalize w1.drewN nq = wq at *
  have hB2 : Below w.heap.size w wq := Below.call (w := w) hB hD
  have hz2 := hD.size
  obtain ⟨k1, k2, k3⟩ := keepB hD (w.heap.size) (by omega)
  obtain ⟨k1, k2, k3⟩ := keepB hD (w.heap.size + 1) (by omega)
  obtain ⟨k1, k2, k3⟩ := keepB hD (w.heap.size + 1 + 1) (by omega)
  go_wp2_with fail
  refine bodyPost_ret (v := rv (⟨Sp.mx al (-(X - 1)), Sp.mn ah (X - 1), 0⟩)) (by simp [results, Try.results27, go_sem, *]) rfl ⟨rfl, ?_⟩
  exact (by repeat (first | (with_reducible exact Below.refl _ _) | (with_reducible assumption) | refine Below.setCell ?_ (by first | omega | (simp; omega) | (simp; done)) _ | refine Below.alloc ?_ (by first | omega | (simp; omega) | (simp; done)) _ | refine Below.drew ?_))

set_option maxHeartbeats 3200000 in
theorem rmod_wide01 (al ah bl bh : Int) (w : World) (ha : Sp.right al ah = true) (hb : Sp.right bl bh = true) (hd : (Sp.divisor bl bh != 0) = false) (h1 : (bl == bh) = false) (s1 : decide (0 ≤ al) = false) (s2 : decide (ah ≤ 0) = true) :
    Calls Try.prog 27 #[.agg #[.int .i64 al, .int .i64 ah], .agg #[.int .i64 bl, .int .i64 bh]] w fun e w' => e = .returned (rv (Sp.mod al ah bl bh)) ∧ Below w.heap.size w w' := by
  have hd0 : Sp.divisor bl bh = 0 := by simpa using hd
  obtain ⟨a1, a2, a3⟩ := right_bd ha
  obtain ⟨b1, b2, b3⟩ := right_bd hb
  obtain ⟨n1, n2⟩ := divisor_ne hd0 b2
  have ne1 : ¬ (w.heap.size + 1 + 1 = w.heap.size) := by omega
  obtain ⟨X, hX⟩ : ∃ X, X = Sp.mx (Sp.mx bl (-bl)) (Sp.mx bh (-bh)) := ⟨_, rfl⟩
  have hM : Sp.modM bl bh = X - 1 := by
    rw [hX]; unfold Sp.modM Sp.mx; repeat' split
    all_goals omega
  have x1 : 0 ≤ X := by rw [hX]; unfold Sp.mx; repeat' split; all_goals omega
  have x2 : X ≤ 9007199254740992 := by rw [hX]; unfold Sp.mx; repeat' split; all_goals omega
  have hr := mod_wide ha hb hd0 (fun h => by simp [h.1] at h1) (X - 1) hM
  have t1 : decide (al < 0) = true := by simp at s1 ⊢; omega
  have t2 : decide (0 < ah) = false := by simp at s2 ⊢; omega
  simp only [decide_eq_true_eq, decide_eq_false_iff_not] at t1 t2
  rw [if_pos t1, if_neg t2] at hr
  rw [hr]
  have u1 : decide (al < 0) = true := by simp [t1]
  have u2 : decide (0 < ah) = false := by simp [t2]
  clear t1 t2 hr hM hd0
  have hm3 : ∀ (ts : Array TypeId) (t : TypeId) (wx : World), (Builtin.max_ ts t #[.int .i64 (Sp.mx bl (-bl)), .int .i64 (Sp.mx bh (-bh))]).run Try.prog wx = .ok (.int .i64 X) wx := fun ts t wx => by rw [hX]; exact run_mx2 ts t wx _ _
  have hm1 := fun (ts : Array TypeId) (t : TypeId) (wx : World) => run_mx2 ts t wx bl (-bl)
  have hm2 := fun (ts : Array TypeId) (t : TypeId) (wx : World) => run_mx2 ts t wx bh (-bh)
  have hm4 := fun (ts : Array TypeId) (t : TypeId) (wx : World) => run_mx2 ts t wx al (-(X - 1))
  have hm5 := fun (ts : Array TypeId) (t : TypeId) (wx : World) => run_mn2 ts t wx ah (X - 1)
  clear hX
  have m1 : IntKind.i64.wrap (al.tdiv bl) = al.tdiv bl := (by have := tdiv_bd (y := bl) (show -9007199254740992 ≤ al by omega) (show al ≤ 9007199254740992 by omega); rw [IntKind.wrap_i64]; omega)
  have m2 : IntKind.i64.wrap (ah.tdiv bl) = ah.tdiv bl := (by have := tdiv_bd (y := bl) (show -9007199254740992 ≤ ah by omega) (show ah ≤ 9007199254740992 by omega); rw [IntKind.wrap_i64]; omega)
  have m3 : IntKind.i64.wrap (al.tmod bl) = al.tmod bl := (by have := tmod_bd (y := bl) (show -9007199254740992 ≤ al by omega) (show al ≤ 9007199254740992 by omega); rw [IntKind.wrap_i64]; omega)
  have m4 : IntKind.i64.wrap (ah.tmod bl) = ah.tmod bl := (by have := tmod_bd (y := bl) (show -9007199254740992 ≤ ah by omega) (show ah ≤ 9007199254740992 by omega); rw [IntKind.wrap_i64]; omega)
  have z1 : (bl == 0) = false := by simp [n1]
  go_enter Try.func27, Try.ntmps27
  go_wp2_with (first
    | (go_at_call 57; refine (rdivisor_ok _ _ _ _ _ ha hb).mono ?_; rintro e w1 ⟨rfl, hw1⟩; have hz := hw1.size; (try simp at hz); have hB : Below w.heap.size w w1 := Below.call (w := w) (by repeat (first | (with_reducible exact Below.refl _ _) | (with_reducible assumption) | refine Below.setCell ?_ (by first | omega | (simp; omega) | (simp; done)) _ | refine Below.alloc ?_ (by first | omega | (simp; omega) | (simp; done)) _ | refine Below.drew ?_)) hw1; (try obtain ⟨k1, k2, k3⟩ := keepB hw1 (w.heap.size) (by first | omega | (simp; omega) | (simp; done))); (try obtain ⟨k1, k2, k3⟩ := keepB hw1 (w.heap.size + 1) (by first | omega | (simp; omega) | (simp; done))); (try obtain ⟨k1, k2, k3⟩ := keepB hw1 (w.heap.size + 1 + 1) (by first | omega | (simp; omega) | (simp; done)))))
  go_quiet (fail)
  have hD : Below w1.heap.size w1 (w1.drewN nq) := below_drewN (Below.refl _ _) _
  generalize w1.drewN nq = wq at *
  have hB2 : Below w.heap.size w wq := Below.call (w := w) hB hD
  have hz2 := hD.size
  obtain ⟨k1, k2, k3⟩ := keepB hD (w.heap.size) (by omega)
  obtain ⟨k1, k2, k3⟩ := keepB hD (w.heap.size + 1) (by omega)
  obtain ⟨k1, k2, k3⟩ := keepB hD (w.heap.size + 1 + 1) (by omega)
  go_wp2_with fail
  refine bodyPost_ret (v := rv (⟨Sp.mx al (-(X - 1)), 0, 0⟩)) (by simp [results, Try.results27, go_sem, *]) rfl ⟨rfl, ?_⟩
  exact (by repeat (first | (with_reducible exact Below.refl _ _) | (with_reducible assumption) | refine Below.setCell ?_ (by first | omega | (simp; omega) | (simp; done)) _ | refine Below.alloc ?_ (by first | omega | (simp; omega) | (simp; done)) _ | refine Below.drew ?_))

set_option maxHeartbeats 3200000 in
theorem rmod_wide10 (al ah bl bh : Int) (w : World) (ha : Sp.right al ah = true) (hb : Sp.right bl bh = true) (hd : (Sp.divisor bl bh != 0) = false) (h1 : (bl == bh) = false) (s1 : decide (0 ≤ al) = true) (s2 : decide (ah ≤ 0) = false) :
    Calls Try.prog 27 #[.agg #[.int .i64 al, .int .i64 ah], .agg #[.int .i64 bl, .int .i64 bh]] w fun e w' => e = .returned (rv (Sp.mod al ah bl bh)) ∧ Below w.heap.size w w' := by
  have hd0 : Sp.divisor bl bh = 0 := by simpa using hd
  obtain ⟨a1, a2, a3⟩ := right_bd ha
  obtain ⟨b1, b2, b3⟩ := right_bd hb
  obtain ⟨n1, n2⟩ := divisor_ne hd0 b2
  have ne1 : ¬ (w.heap.size + 1 + 1 = w.heap.size) := by omega
  obtain ⟨X, hX⟩ : ∃ X, X = Sp.mx (Sp.mx bl (-bl)) (Sp.mx bh (-bh)) := ⟨_, rfl⟩
  have hM : Sp.modM bl bh = X - 1 := by
    rw [hX]; unfold Sp.modM Sp.mx; repeat' split
    all_goals omega
  have x1 : 0 ≤ X := by rw [hX]; unfold Sp.mx; repeat' split; all_goals omega
  have x2 : X ≤ 9007199254740992 := by rw [hX]; unfold Sp.mx; repeat' split; all_goals omega
  have hr := mod_wide ha hb hd0 (fun h => by simp [h.1] at h1) (X - 1) hM
  have t1 : decide (al < 0) = false := by simp at s1 ⊢; omega
  have t2 : decide (0 < ah) = true := by simp at s2 ⊢; omega
  simp only [decide_eq_true_eq, decide_eq_false_iff_not] at t1 t2
  rw [if_neg t1, if_pos t2] at hr
  rw [hr]
  have u1 : decide (al < 0) = false := by simp [t1]
  have u2 : decide (0 < ah) = true := by simp [t2]
  clear t1 t2 hr hM hd0
  have hm3 : ∀ (ts : Array TypeId) (t : TypeId) (wx : World), (Builtin.max_ ts t #[.int .i64 (Sp.mx bl (-bl)), .int .i64 (Sp.mx bh (-bh))]).run Try.prog wx = .ok (.int .i64 X) wx := fun ts t wx => by rw [hX]; exact run_mx2 ts t wx _ _
  have hm1 := fun (ts : Array TypeId) (t : TypeId) (wx : World) => run_mx2 ts t wx bl (-bl)
  have hm2 := fun (ts : Array TypeId) (t : TypeId) (wx : World) => run_mx2 ts t wx bh (-bh)
  have hm4 := fun (ts : Array TypeId) (t : TypeId) (wx : World) => run_mx2 ts t wx al (-(X - 1))
  have hm5 := fun (ts : Array TypeId) (t : TypeId) (wx : World) => run_mn2 ts t wx ah (X - 1)
  clear hX
  have m1 : IntKind.i64.wrap (al.tdiv bl) = al.tdiv bl := (by have := tdiv_bd (y := bl) (show -9007199254740992 ≤ al by omega) (show al ≤ 9007199254740992 by omega); rw [IntKind.wrap_i64]; omega)
  have m2 : IntKind.i64.wrap (ah.tdiv bl) = ah.tdiv bl := (by have := tdiv_bd (y := bl) (show -9007199254740992 ≤ ah by omega) (show ah ≤ 9007199254740992 by omega); rw [IntKind.wrap_i64]; omega)
  have m3 : IntKind.i64.wrap (al.tmod bl) = al.tmod bl := (by have := tmod_bd (y := bl) (show -9007199254740992 ≤ al by omega) (show al ≤ 9007199254740992 by omega); rw [IntKind.wrap_i64]; omega)
  have m4 : IntKind.i64.wrap (ah.tmod bl) = ah.tmod bl := (by have := tmod_bd (y := bl) (show -9007199254740992 ≤ ah by omega) (show ah ≤ 9007199254740992 by omega); rw [IntKind.wrap_i64]; omega)
  have z1 : (bl == 0) = false := by simp [n1]
  go_enter Try.func27, Try.ntmps27
  go_wp2_with (first
    | (go_at_call 57; refine (rdivisor_ok _ _ _ _ _ ha hb).mono ?_; rintro e w1 ⟨rfl, hw1⟩; have hz := hw1.size; (try simp at hz); have hB : Below w.heap.size w w1 := Below.call (w := w) (by repeat (first | (with_reducible exact Below.refl _ _) | (with_reducible assumption) | refine Below.setCell ?_ (by first | omega | (simp; omega) | (simp; done)) _ | refine Below.alloc ?_ (by first | omega | (simp; omega) | (simp; done)) _ | refine Below.drew ?_)) hw1; (try obtain ⟨k1, k2, k3⟩ := keepB hw1 (w.heap.size) (by first | omega | (simp; omega) | (simp; done))); (try obtain ⟨k1, k2, k3⟩ := keepB hw1 (w.heap.size + 1) (by first | omega | (simp; omega) | (simp; done))); (try obtain ⟨k1, k2, k3⟩ := keepB hw1 (w.heap.size + 1 + 1) (by first | omega | (simp; omega) | (simp; done)))))
  go_quiet (fail)
  have hD : Below w1.heap.size w1 (w1.drewN nq) := below_drewN (Below.refl _ _) _
  generalize w1.drewN nq = wq at *
  have hB2 : Below w.heap.size w wq := Below.call (w := w) hB hD
  have hz2 := hD.size
  obtain ⟨k1, k2, k3⟩ := keepB hD (w.heap.size) (by omega)
  obtain ⟨k1, k2, k3⟩ := keepB hD (w.heap.size + 1) (by omega)
  obtain ⟨k1, k2, k3⟩ := keepB hD (w.heap.size + 1 + 1) (by omega)
  go_wp2_with fail
  refine bodyPost_ret (v := rv (⟨0, Sp.mn ah (X - 1), 0⟩)) (by simp [results, Try.results27, go_sem, *]) rfl ⟨rfl, ?_⟩
  exact (by repeat (first | (with_reducible exact Below.refl _ _) | (with_reducible assumption) | refine Below.setCell ?_ (by first | omega | (simp; omega) | (simp; done)) _ | refine Below.alloc ?_ (by first | omega | (simp; omega) | (simp; done)) _ | refine Below.drew ?_))

set_option maxHeartbeats 3200000 in
theorem rmod_wide11 (al ah bl bh : Int) (w : World) (ha : Sp.right al ah = true) (hb : Sp.right bl bh = true) (hd : (Sp.divisor bl bh != 0) = false) (h1 : (bl == bh) = false) (s1 : decide (0 ≤ al) = true) (s2 : decide (ah ≤ 0) = true) :
    Calls Try.prog 27 #[.agg #[.int .i64 al, .int .i64 ah], .agg #[.int .i64 bl, .int .i64 bh]] w fun e w' => e = .returned (rv (Sp.mod al ah bl bh)) ∧ Below w.heap.size w w' := by
  have hd0 : Sp.divisor bl bh = 0 := by simpa using hd
  obtain ⟨a1, a2, a3⟩ := right_bd ha
  obtain ⟨b1, b2, b3⟩ := right_bd hb
  obtain ⟨n1, n2⟩ := divisor_ne hd0 b2
  have ne1 : ¬ (w.heap.size + 1 + 1 = w.heap.size) := by omega
  obtain ⟨X, hX⟩ : ∃ X, X = Sp.mx (Sp.mx bl (-bl)) (Sp.mx bh (-bh)) := ⟨_, rfl⟩
  have hM : Sp.modM bl bh = X - 1 := by
    rw [hX]; unfold Sp.modM Sp.mx; repeat' split
    all_goals omega
  have x1 : 0 ≤ X := by rw [hX]; unfold Sp.mx; repeat' split; all_goals omega
  have x2 : X ≤ 9007199254740992 := by rw [hX]; unfold Sp.mx; repeat' split; all_goals omega
  have hr := mod_wide ha hb hd0 (fun h => by simp [h.1] at h1) (X - 1) hM
  have t1 : decide (al < 0) = false := by simp at s1 ⊢; omega
  have t2 : decide (0 < ah) = false := by simp at s2 ⊢; omega
  simp only [decide_eq_false_iff_not] at t1 t2
  rw [if_neg t1, if_neg t2] at hr
  rw [hr]
  have u1 : decide (al < 0) = false := by simp [t1]
  have u2 : decide (0 < ah) = false := by simp [t2]
  clear t1 t2 hr hM hd0
  have hm3 : ∀ (ts : Array TypeId) (t : TypeId) (wx : World), (Builtin.max_ ts t #[.int .i64 (Sp.mx bl (-bl)), .int .i64 (Sp.mx bh (-bh))]).run Try.prog wx = .ok (.int .i64 X) wx := fun ts t wx => by rw [hX]; exact run_mx2 ts t wx _ _
  have hm1 := fun (ts : Array TypeId) (t : TypeId) (wx : World) => run_mx2 ts t wx bl (-bl)
  have hm2 := fun (ts : Array TypeId) (t : TypeId) (wx : World) => run_mx2 ts t wx bh (-bh)
  have hm4 := fun (ts : Array TypeId) (t : TypeId) (wx : World) => run_mx2 ts t wx al (-(X - 1))
  have hm5 := fun (ts : Array TypeId) (t : TypeId) (wx : World) => run_mn2 ts t wx ah (X - 1)
  clear hX
  have m1 : IntKind.i64.wrap (al.tdiv bl) = al.tdiv bl := (by have := tdiv_bd (y := bl) (show -9007199254740992 ≤ al by omega) (show al ≤ 9007199254740992 by omega); rw [IntKind.wrap_i64]; omega)
  have m2 : IntKind.i64.wrap (ah.tdiv bl) = ah.tdiv bl := (by have := tdiv_bd (y := bl) (show -9007199254740992 ≤ ah by omega) (show ah ≤ 9007199254740992 by omega); rw [IntKind.wrap_i64]; omega)
  have m3 : IntKind.i64.wrap (al.tmod bl) = al.tmod bl := (by have := tmod_bd (y := bl) (show -9007199254740992 ≤ al by omega) (show al ≤ 9007199254740992 by omega); rw [IntKind.wrap_i64]; omega)
  have m4 : IntKind.i64.wrap (ah.tmod bl) = ah.tmod bl := (by have := tmod_bd (y := bl) (show -9007199254740992 ≤ ah by omega) (show ah ≤ 9007199254740992 by omega); rw [IntKind.wrap_i64]; omega)
  have z1 : (bl == 0) = false := by simp [n1]
  go_enter Try.func27, Try.ntmps27
  go_wp2_with (first
    | (go_at_call 57; refine (rdivisor_ok _ _ _ _ _ ha hb).mono ?_; rintro e w1 ⟨rfl, hw1⟩; have hz := hw1.size; (try simp at hz); have hB : Below w.heap.size w w1 := Below.call (w := w) (by repeat (first | (with_reducible exact Below.refl _ _) | (with_reducible assumption) | refine Below.setCell ?_ (by first | omega | (simp; omega) | (simp; done)) _ | refine Below.alloc ?_ (by first | omega | (simp; omega) | (simp; done)) _ | refine Below.drew ?_)) hw1; (try obtain ⟨k1, k2, k3⟩ := keepB hw1 (w.heap.size) (by first | omega | (simp; omega) | (simp; done))); (try obtain ⟨k1, k2, k3⟩ := keepB hw1 (w.heap.size + 1) (by first | omega | (simp; omega) | (simp; done))); (try obtain ⟨k1, k2, k3⟩ := keepB hw1 (w.heap.size + 1 + 1) (by first | omega | (simp; omega) | (simp; done)))))
  go_quiet (fail)
  have hD : Below w1.heap.size w1 (w1.drewN nq) := below_drewN (Below.refl _ _) _
  generalize w1.drewN nq = wq at *
  have hB2 : Below w.heap.size w wq := Below.call (w := w) hB hD
  have hz2 := hD.size
  obtain ⟨k1, k2, k3⟩ := keepB hD (w.heap.size) (by omega)
  obtain ⟨k1, k2, k3⟩ := keepB hD (w.heap.size + 1) (by omega)
  obtain ⟨k1, k2, k3⟩ := keepB hD (w.heap.size + 1 + 1) (by omega)
  go_wp2_with fail
  refine bodyPost_ret (v := rv (⟨0, 0, 0⟩)) (by simp [results, Try.results27, go_sem, *]) rfl ⟨rfl, ?_⟩
  exact (by repeat (first | (with_reducible exact Below.refl _ _) | (with_reducible assumption) | refine Below.setCell ?_ (by first | omega | (simp; omega) | (simp; done)) _ | refine Below.alloc ?_ (by first | omega | (simp; omega) | (simp; done)) _ | refine Below.drew ?_))

set_option maxHeartbeats 3200000 in
theorem rmod_both (al ah bl bh : Int) (w : World) (ha : Sp.right al ah = true) (hb : Sp.right bl bh = true) (hd : (Sp.divisor bl bh != 0) = false) (h1 : (bl == bh) = true) (h2 : (al == ah) = false) (s1 : decide (0 ≤ al) = false) (s2 : decide (ah ≤ 0) = false) :
    Calls Try.prog 27 #[.agg #[.int .i64 al, .int .i64 ah], .agg #[.int .i64 bl, .int .i64 bh]] w fun e w' => e = .returned (rv (Sp.mod al ah bl bh)) ∧ Below w.heap.size w w' := by
  have hd0 : Sp.divisor bl bh = 0 := by simpa using hd
  obtain ⟨a1, a2, a3⟩ := right_bd ha
  obtain ⟨b1, b2, b3⟩ := right_bd hb
  obtain ⟨n1, n2⟩ := divisor_ne hd0 b2
  have ne1 : ¬ (w.heap.size + 1 + 1 = w.heap.size) := by omega
  obtain ⟨X, hX⟩ : ∃ X, X = Sp.mx (Sp.mx bl (-bl)) (Sp.mx bh (-bh)) := ⟨_, rfl⟩
  have hM : Sp.modM bl bh = X - 1 := by
    rw [hX]; unfold Sp.modM Sp.mx; repeat' split
    all_goals omega
  have x1 : 0 ≤ X := by rw [hX]; unfold Sp.mx; repeat' split; all_goals omega
  have x2 : X ≤ 9007199254740992 := by rw [hX]; unfold Sp.mx; repeat' split; all_goals omega
  have hr := mod_wide ha hb hd0 (fun h => by simp at h2 s1 s2; omega) (X - 1) hM
  have t1 : decide (al < 0) = true := by simp at s1 ⊢; omega
  have t2 : decide (0 < ah) = true := by simp at s2 ⊢; omega
  simp only [decide_eq_true_eq] at t1 t2
  rw [if_pos t1, if_pos t2] at hr
  rw [hr]
  have u1 : decide (al < 0) = true := by simp [t1]
  have u2 : decide (0 < ah) = true := by simp [t2]
  clear t1 t2 hr hM hd0
  have hm3 : ∀ (ts : Array TypeId) (t : TypeId) (wx : World), (Builtin.max_ ts t #[.int .i64 (Sp.mx bl (-bl)), .int .i64 (Sp.mx bh (-bh))]).run Try.prog wx = .ok (.int .i64 X) wx := fun ts t wx => by rw [hX]; exact run_mx2 ts t wx _ _
  have hm1 := fun (ts : Array TypeId) (t : TypeId) (wx : World) => run_mx2 ts t wx bl (-bl)
  have hm2 := fun (ts : Array TypeId) (t : TypeId) (wx : World) => run_mx2 ts t wx bh (-bh)
  have hm4 := fun (ts : Array TypeId) (t : TypeId) (wx : World) => run_mx2 ts t wx al (-(X - 1))
  have hm5 := fun (ts : Array TypeId) (t : TypeId) (wx : World) => run_mn2 ts t wx ah (X - 1)
  clear hX
  have m1 : IntKind.i64.wrap (al.tdiv bl) = al.tdiv bl := (by have := tdiv_bd (y := bl) (show -9007199254740992 ≤ al by omega) (show al ≤ 9007199254740992 by omega); rw [IntKind.wrap_i64]; omega)
  have m2 : IntKind.i64.wrap (ah.tdiv bl) = ah.tdiv bl := (by have := tdiv_bd (y := bl) (show -9007199254740992 ≤ ah by omega) (show ah ≤ 9007199254740992 by omega); rw [IntKind.wrap_i64]; omega)
  have m3 : IntKind.i64.wrap (al.tmod bl) = al.tmod bl := (by have := tmod_bd (y := bl) (show -9007199254740992 ≤ al by omega) (show al ≤ 9007199254740992 by omega); rw [IntKind.wrap_i64]; omega)
  have m4 : IntKind.i64.wrap (ah.tmod bl) = ah.tmod bl := (by have := tmod_bd (y := bl) (show -9007199254740992 ≤ ah by omega) (show ah ≤ 9007199254740992 by omega); rw [IntKind.wrap_i64]; omega)
  have z1 : (bl == 0) = false := by simp [n1]
  go_enter Try.func27, Try.ntmps27
  go_wp2_with (first
    | (go_at_call 57; refine (rdivisor_ok _ _ _ _ _ ha hb).mono ?_; rintro e w1 ⟨rfl, hw1⟩; have hz := hw1.size; (try simp at hz); have hB : Below w.heap.size w w1 := Below.call (w := w) (by repeat (first | (with_reducible exact Below.refl _ _) | (with_reducible assumption) | refine Below.setCell ?_ (by first | omega | (simp; omega) | (simp; done)) _ | refine Below.alloc ?_ (by first | omega | (simp; omega) | (simp; done)) _ | refine Below.drew ?_)) hw1; (try obtain ⟨k1, k2, k3⟩ := keepB hw1 (w.heap.size) (by first | omega | (simp; omega) | (simp; done))); (try obtain ⟨k1, k2, k3⟩ := keepB hw1 (w.heap.size + 1) (by first | omega | (simp; omega) | (simp; done))); (try obtain ⟨k1, k2, k3⟩ := keepB hw1 (w.heap.size + 1 + 1) (by first | omega | (simp; omega) | (simp; done)))))
  go_quiet (fail)
  have hD : Below w1.heap.size w1 (w1.drewN nq) := below_drewN (Below.refl _ _) _
  generalize w1.drewN nq = wq at *
  have hB2 : Below w.heap.size w wq := Below.call (w := w) hB hD
  have hz2 := hD.size
  obtain ⟨k1, k2, k3⟩ := keepB hD (w.heap.size) (by omega)
  obtain ⟨k1, k2, k3⟩ := keepB hD (w.heap.size + 1) (by omega)
  obtain ⟨k1, k2, k3⟩ := keepB hD (w.heap.size + 1 + 1) (by omega)
  go_wp2_with fail
  refine bodyPost_ret (v := rv (⟨Sp.mx al (-(X - 1)), Sp.mn ah (X - 1), 0⟩)) (by simp [results, Try.results27, go_sem, *]) rfl ⟨rfl, ?_⟩
  exact (by repeat (first | (with_reducible exact Below.refl _ _) | (with_reducible assumption) | refine Below.setCell ?_ (by first | omega | (simp; omega) | (simp; done)) _ | refine Below.alloc ?_ (by first | omega | (simp; omega) | (simp; done)) _ | refine Below.drew ?_))

set_option maxHeartbeats 3200000 in
theorem rmod_quo01 (al ah bl bh : Int) (w : World) (ha : Sp.right al ah = true) (hb : Sp.right bl bh = true) (hd : (Sp.divisor bl bh != 0) = false) (h1 : (bl == bh) = true) (h2 : (al == ah) = false) (h5 : (al.tdiv bl == ah.tdiv bl) = false) (s1 : decide (0 ≤ al) = false) (s2 : decide (ah ≤ 0) = true) :
    Calls Try.prog 27 #[.agg #[.int .i64 al, .int .i64 ah], .agg #[.int .i64 bl, .int .i64 bh]] w fun e w' => e = .returned (rv (Sp.mod al ah bl bh)) ∧ Below w.heap.size w w' := by
  have hd0 : Sp.divisor bl bh = 0 := by simpa using hd
  obtain ⟨a1, a2, a3⟩ := right_bd ha
  obtain ⟨b1, b2, b3⟩ := right_bd hb
  obtain ⟨n1, n2⟩ := divisor_ne hd0 b2
  have ne1 : ¬ (w.heap.size + 1 + 1 = w.heap.size) := by omega
  obtain ⟨X, hX⟩ : ∃ X, X = Sp.mx (Sp.mx bl (-bl)) (Sp.mx bh (-bh)) := ⟨_, rfl⟩
  have hM : Sp.modM bl bh = X - 1 := by
    rw [hX]; unfold Sp.modM Sp.mx; repeat' split
    all_goals omega
  have x1 : 0 ≤ X := by rw [hX]; unfold Sp.mx; repeat' split; all_goals omega
  have x2 : X ≤ 9007199254740992 := by rw [hX]; unfold Sp.mx; repeat' split; all_goals omega
  have hr := mod_wide ha hb hd0 (fun h => by simp at h2 h5; rcases h.2 with h | h; exact h2 h; exact h5 h.2) (X - 1) hM
  have t1 : decide (al < 0) = true := by simp at s1 ⊢; omega
  have t2 : decide (0 < ah) = false := by simp at s2 ⊢; omega
  simp only [decide_eq_true_eq, decide_eq_false_iff_not] at t1 t2
  rw [if_pos t1, if_neg t2] at hr
  rw [hr]
  have u1 : decide (al < 0) = true := by simp [t1]
  have u2 : decide (0 < ah) = false := by simp [t2]
  clear t1 t2 hr hM hd0
  have hm3 : ∀ (ts : Array TypeId) (t : TypeId) (wx : World), (Builtin.max_ ts t #[.int .i64 (Sp.mx bl (-bl)), .int .i64 (Sp.mx bh (-bh))]).run Try.prog wx = .ok (.int .i64 X) wx := fun ts t wx => by rw [hX]; exact run_mx2 ts t wx _ _
  have hm1 := fun (ts : Array TypeId) (t : TypeId) (wx : World) => run_mx2 ts t wx bl (-bl)
  have hm2 := fun (ts : Array TypeId) (t : TypeId) (wx : World) => run_mx2 ts t wx bh (-bh)
  have hm4 := fun (ts : Array TypeId) (t : TypeId) (wx : World) => run_mx2 ts t wx al (-(X - 1))
  have hm5 := fun (ts : Array TypeId) (t : TypeId) (wx : World) => run_mn2 ts t wx ah (X - 1)
  clear hX
  have m1 : IntKind.i64.wrap (al.tdiv bl) = al.tdiv bl := (by have := tdiv_bd (y := bl) (show -9007199254740992 ≤ al by omega) (show al ≤ 9007199254740992 by omega); rw [IntKind.wrap_i64]; omega)
  have m2 : IntKind.i64.wrap (ah.tdiv bl) = ah.tdiv bl := (by have := tdiv_bd (y := bl) (show -9007199254740992 ≤ ah by omega) (show ah ≤ 9007199254740992 by omega); rw [IntKind.wrap_i64]; omega)
  have m3 : IntKind.i64.wrap (al.tmod bl) = al.tmod bl := (by have := tmod_bd (y := bl) (show -9007199254740992 ≤ al by omega) (show al ≤ 9007199254740992 by omega); rw [IntKind.wrap_i64]; omega)
  have m4 : IntKind.i64.wrap (ah.tmod bl) = ah.tmod bl := (by have := tmod_bd (y := bl) (show -9007199254740992 ≤ ah by omega) (show ah ≤ 9007199254740992 by omega); rw [IntKind.wrap_i64]; omega)
  have z1 : (bl == 0) = false := by simp [n1]
  go_enter Try.func27, Try.ntmps27
  go_wp2_with (first
    | (go_at_call 57; refine (rdivisor_ok _ _ _ _ _ ha hb).mono ?_; rintro e w1 ⟨rfl, hw1⟩; have hz := hw1.size; (try simp at hz); have hB : Below w.heap.size w w1 := Below.call (w := w) (by repeat (first | (with_reducible exact Below.refl _ _) | (with_reducible assumption) | refine Below.setCell ?_ (by first | omega | (simp; omega) | (simp; done)) _ | refine Below.alloc ?_ (by first | omega | (simp; omega) | (simp; done)) _ | refine Below.drew ?_)) hw1; (try obtain ⟨k1, k2, k3⟩ := keepB hw1 (w.heap.size) (by first | omega | (simp; omega) | (simp; done))); (try obtain ⟨k1, k2, k3⟩ := keepB hw1 (w.heap.size + 1) (by first | omega | (simp; omega) | (simp; done))); (try obtain ⟨k1, k2, k3⟩ := keepB hw1 (w.heap.size + 1 + 1) (by first | omega | (simp; omega) | (simp; done)))))
  go_quiet (fail)
  have hD : Below w1.heap.size w1 (w1.drewN nq) := below_drewN (Below.refl _ _) _
  generalize w1.drewN nq = wq at *
  have hB2 : Below w.heap.size w wq := Below.call (w := w) hB hD
  have hz2 := hD.size
  obtain ⟨k1, k2, k3⟩ := keepB hD (w.heap.size) (by omega)
  obtain ⟨k1, k2, k3⟩ := keepB hD (w.heap.size + 1) (by omega)
  obtain ⟨k1, k2, k3⟩ := keepB hD (w.heap.size + 1 + 1) (by omega)
  go_wp2_with fail
  refine bodyPost_ret (v := rv (⟨Sp.mx al (-(X - 1)), 0, 0⟩)) (by simp [results, Try.results27, go_sem, *]) rfl ⟨rfl, ?_⟩
  exact (by repeat (first | (with_reducible exact Below.refl _ _) | (with_reducible assumption) | refine Below.setCell ?_ (by first | omega | (simp; omega) | (simp; done)) _ | refine Below.alloc ?_ (by first | omega | (simp; omega) | (simp; done)) _ | refine Below.drew ?_))

set_option maxHeartbeats 3200000 in
theorem rmod_quo10 (al ah bl bh : Int) (w : World) (ha : Sp.right al ah = true) (hb : Sp.right bl bh = true) (hd : (Sp.divisor bl bh != 0) = false) (h1 : (bl == bh) = true) (h2 : (al == ah) = false) (h5 : (al.tdiv bl == ah.tdiv bl) = false) (s1 : decide (0 ≤ al) = true) (s2 : decide (ah ≤ 0) = false) :
    Calls Try.prog 27 #[.agg #[.int .i64 al, .int .i64 ah], .agg #[.int .i64 bl, .int .i64 bh]] w fun e w' => e = .returned (rv (Sp.mod al ah bl bh)) ∧ Below w.heap.size w w' := by
  have hd0 : Sp.divisor bl bh = 0 := by simpa using hd
  obtain ⟨a1, a2, a3⟩ := right_bd ha
  obtain ⟨b1, b2, b3⟩ := right_bd hb
  obtain ⟨n1, n2⟩ := divisor_ne hd0 b2
  have ne1 : ¬ (w.heap.size + 1 + 1 = w.heap.size) := by omega
  obtain ⟨X, hX⟩ : ∃ X, X = Sp.mx (Sp.mx bl (-bl)) (Sp.mx bh (-bh)) := ⟨_, rfl⟩
  have hM : Sp.modM bl bh = X - 1 := by
    rw [hX]; unfold Sp.modM Sp.mx; repeat' split
    all_goals omega
  have x1 : 0 ≤ X := by rw [hX]; unfold Sp.mx; repeat' split; all_goals omega
  have x2 : X ≤ 9007199254740992 := by rw [hX]; unfold Sp.mx; repeat' split; all_goals omega
  have hr := mod_wide ha hb hd0 (fun h => by simp at h2 h5; rcases h.2 with h | h; exact h2 h; exact h5 h.2) (X - 1) hM
  have t1 : decide (al < 0) = false := by simp at s1 ⊢; omega
  have t2 : decide (0 < ah) = true := by simp at s2 ⊢; omega
  simp only [decide_eq_true_eq, decide_eq_false_iff_not] at t1 t2
  rw [if_neg t1, if_pos t2] at hr
  rw [hr]
  have u1 : decide (al < 0) = false := by simp [t1]
  have u2 : decide (0 < ah) = true := by simp [t2]
  clear t1 t2 hr hM hd0
  have hm3 : ∀ (ts : Array TypeId) (t : TypeId) (wx : World), (Builtin.max_ ts t #[.int .i64 (Sp.mx bl (-bl)), .int .i64 (Sp.mx bh (-bh))]).run Try.prog wx = .ok (.int .i64 X) wx := fun ts t wx => by rw [hX]; exact run_mx2 ts t wx _ _
  have hm1 := fun (ts : Array TypeId) (t : TypeId) (wx : World) => run_mx2 ts t wx bl (-bl)
  have hm2 := fun (ts : Array TypeId) (t : TypeId) (wx : World) => run_mx2 ts t wx bh (-bh)
  have hm4 := fun (ts : Array TypeId) (t : TypeId) (wx : World) => run_mx2 ts t wx al (-(X - 1))
  have hm5 := fun (ts : Array TypeId) (t : TypeId) (wx : World) => run_mn2 ts t wx ah (X - 1)
  clear hX
  have m1 : IntKind.i64.wrap (al.tdiv bl) = al.tdiv bl := (by have := tdiv_bd (y := bl) (show -9007199254740992 ≤ al by omega) (show al ≤ 9007199254740992 by omega); rw [IntKind.wrap_i64]; omega)
  have m2 : IntKind.i64.wrap (ah.tdiv bl) = ah.tdiv bl := (by have := tdiv_bd (y := bl) (show -9007199254740992 ≤ ah by omega) (show ah ≤ 9007199254740992 by omega); rw [IntKind.wrap_i64]; omega)
  have m3 : IntKind.i64.wrap (al.tmod bl) = al.tmod bl := (by have := tmod_bd (y := bl) (show -9007199254740992 ≤ al by omega) (show al ≤ 9007199254740992 by omega); rw [IntKind.wrap_i64]; omega)
  have m4 : IntKind.i64.wrap (ah.tmod bl) = ah.tmod bl := (by have := tmod_bd (y := bl) (show -9007199254740992 ≤ ah by omega) (show ah ≤ 9007199254740992 by omega); rw [IntKind.wrap_i64]; omega)
  have z1 : (bl == 0) = false := by simp [n1]
  go_enter Try.func27, Try.ntmps27
  go_wp2_with (first
    | (go_at_call 57; refine (rdivisor_ok _ _ _ _ _ ha hb).mono ?_; rintro e w1 ⟨rfl, hw1⟩; have hz := hw1.size; (try simp at hz); have hB : Below w.heap.size w w1 := Below.call (w := w) (by repeat (first | (with_reducible exact Below.refl _ _) | (with_reducible assumption) | refine Below.setCell ?_ (by first | omega | (simp; omega) | (simp; done)) _ | refine Below.alloc ?_ (by first | omega | (simp; omega) | (simp; done)) _ | refine Below.drew ?_)) hw1; (try obtain ⟨k1, k2, k3⟩ := keepB hw1 (w.heap.size) (by first | omega | (simp; omega) | (simp; done))); (try obtain ⟨k1, k2, k3⟩ := keepB hw1 (w.heap.size + 1) (by first | omega | (simp; omega) | (simp; done))); (try obtain ⟨k1, k2, k3⟩ := keepB hw1 (w.heap.size + 1 + 1) (by first | omega | (simp; omega) | (simp; done)))))
  go_quiet (fail)
  have hD : Below w1.heap.size w1 (w1.drewN nq) := below_drewN (Below.refl _ _) _
  generalize w1.drewN nq = wq at *
  have hB2 : Below w.heap.size w wq := Below.call (w := w) hB hD
  have hz2 := hD.size
  obtain ⟨k1, k2, k3⟩ := keepB hD (w.heap.size) (by omega)
  obtain ⟨k1, k2, k3⟩ := keepB hD (w.heap.size + 1) (by omega)
  obtain ⟨k1, k2, k3⟩ := keepB hD (w.heap.size + 1 + 1) (by omega)
  go_wp2_with fail
  refine bodyPost_ret (v := rv (⟨0, Sp.mn ah (X - 1), 0⟩)) (by simp [results, Try.results27, go_sem, *]) rfl ⟨rfl, ?_⟩
  exact (by repeat (first | (with_reducible exact Below.refl _ _) | (with_reducible assumption) | refine Below.setCell ?_ (by first | omega | (simp; omega) | (simp; done)) _ | refine Below.alloc ?_ (by first | omega | (simp; omega) | (simp; done)) _ | refine Below.drew ?_))

set_option maxHeartbeats 3200000 in
theorem rmod_quo11 (al ah bl bh : Int) (w : World) (ha : Sp.right al ah = true) (hb : Sp.right bl bh = true) (hd : (Sp.divisor bl bh != 0) = false) (h1 : (bl == bh) = true) (h2 : (al == ah) = false) (h5 : (al.tdiv bl == ah.tdiv bl) = false) (s1 : decide (0 ≤ al) = true) (s2 : decide (ah ≤ 0) = true) :
    Calls Try.prog 27 #[.agg #[.int .i64 al, .int .i64 ah], .agg #[.int .i64 bl, .int .i64 bh]] w fun e w' => e = .returned (rv (Sp.mod al ah bl bh)) ∧ Below w.heap.size w w' := by
  have hd0 : Sp.divisor bl bh = 0 := by simpa using hd
  obtain ⟨a1, a2, a3⟩ := right_bd ha
  obtain ⟨b1, b2, b3⟩ := right_bd hb
  obtain ⟨n1, n2⟩ := divisor_ne hd0 b2
  have ne1 : ¬ (w.heap.size + 1 + 1 = w.heap.size) := by omega
  obtain ⟨X, hX⟩ : ∃ X, X = Sp.mx (Sp.mx bl (-bl)) (Sp.mx bh (-bh)) := ⟨_, rfl⟩
  have hM : Sp.modM bl bh = X - 1 := by
    rw [hX]; unfold Sp.modM Sp.mx; repeat' split
    all_goals omega
  have x1 : 0 ≤ X := by rw [hX]; unfold Sp.mx; repeat' split; all_goals omega
  have x2 : X ≤ 9007199254740992 := by rw [hX]; unfold Sp.mx; repeat' split; all_goals omega
  have hr := mod_wide ha hb hd0 (fun h => by simp at h2 h5; rcases h.2 with h | h; exact h2 h; exact h5 h.2) (X - 1) hM
  have t1 : decide (al < 0) = false := by simp at s1 ⊢; omega
  have t2 : decide (0 < ah) = false := by simp at s2 ⊢; omega
  simp only [decide_eq_false_iff_not] at t1 t2
  rw [if_neg t1, if_neg t2] at hr
  rw [hr]
  have u1 : decide (al < 0) = false := by simp [t1]
  have u2 : decide (0 < ah) = false := by simp [t2]
  clear t1 t2 hr hM hd0
  have hm3 : ∀ (ts : Array TypeId) (t : TypeId) (wx : World), (Builtin.max_ ts t #[.int .i64 (Sp.mx bl (-bl)), .int .i64 (Sp.mx bh (-bh))]).run Try.prog wx = .ok (.int .i64 X) wx := fun ts t wx => by rw [hX]; exact run_mx2 ts t wx _ _
  have hm1 := fun (ts : Array TypeId) (t : TypeId) (wx : World) => run_mx2 ts t wx bl (-bl)
  have hm2 := fun (ts : Array TypeId) (t : TypeId) (wx : World) => run_mx2 ts t wx bh (-bh)
  have hm4 := fun (ts : Array TypeId) (t : TypeId) (wx : World) => run_mx2 ts t wx al (-(X - 1))
  have hm5 := fun (ts : Array TypeId) (t : TypeId) (wx : World) => run_mn2 ts t wx ah (X - 1)
  clear hX
  have m1 : IntKind.i64.wrap (al.tdiv bl) = al.tdiv bl := (by have := tdiv_bd (y := bl) (show -9007199254740992 ≤ al by omega) (show al ≤ 9007199254740992 by omega); rw [IntKind.wrap_i64]; omega)
  have m2 : IntKind.i64.wrap (ah.tdiv bl) = ah.tdiv bl := (by have := tdiv_bd (y := bl) (show -9007199254740992 ≤ ah by omega) (show ah ≤ 9007199254740992 by omega); rw [IntKind.wrap_i64]; omega)
  have m3 : IntKind.i64.wrap (al.tmod bl) = al.tmod bl := (by have := tmod_bd (y := bl) (show -9007199254740992 ≤ al by omega) (show al ≤ 9007199254740992 by omega); rw [IntKind.wrap_i64]; omega)
  have m4 : IntKind.i64.wrap (ah.tmod bl) = ah.tmod bl := (by have := tmod_bd (y := bl) (show -9007199254740992 ≤ ah by omega) (show ah ≤ 9007199254740992 by omega); rw [IntKind.wrap_i64]; omega)
  have z1 : (bl == 0) = false := by simp [n1]
  go_enter Try.func27, Try.ntmps27
  go_wp2_with (first
    | (go_at_call 57; refine (rdivisor_ok _ _ _ _ _ ha hb).mono ?_; rintro e w1 ⟨rfl, hw1⟩; have hz := hw1.size; (try simp at hz); have hB : Below w.heap.size w w1 := Below.call (w := w) (by repeat (first | (with_reducible exact Below.refl _ _) | (with_reducible assumption) | refine Below.setCell ?_ (by first | omega | (simp; omega) | (simp; done)) _ | refine Below.alloc ?_ (by first | omega | (simp; omega) | (simp; done)) _ | refine Below.drew ?_)) hw1; (try obtain ⟨k1, k2, k3⟩ := keepB hw1 (w.heap.size) (by first | omega | (simp; omega) | (simp; done))); (try obtain ⟨k1, k2, k3⟩ := keepB hw1 (w.heap.size + 1) (by first | omega | (simp; omega) | (simp; done))); (try obtain ⟨k1, k2, k3⟩ := keepB hw1 (w.heap.size + 1 + 1) (by first | omega | (simp; omega) | (simp; done)))))
  go_quiet (fail)
  have hD : Below w1.heap.size w1 (w1.drewN nq) := below_drewN (Below.refl _ _) _
  generalize w1.drewN nq = wq at *
  have hB2 : Below w.heap.size w wq := Below.call (w := w) hB hD
  have hz2 := hD.size
  obtain ⟨k1, k2, k3⟩ := keepB hD (w.heap.size) (by omega)
  obtain ⟨k1, k2, k3⟩ := keepB hD (w.heap.size + 1) (by omega)
  obtain ⟨k1, k2, k3⟩ := keepB hD (w.heap.size + 1 + 1) (by omega)
  go_wp2_with fail
  refine bodyPost_ret (v := rv (⟨0, 0, 0⟩)) (by simp [results, Try.results27, go_sem, *]) rfl ⟨rfl, ?_⟩
  exact (by repeat (first | (with_reducible exact Below.refl _ _) | (with_reducible assumption) | refine Below.setCell ?_ (by first | omega | (simp; omega) | (simp; done)) _ | refine Below.alloc ?_ (by first | omega | (simp; omega) | (simp; done)) _ | refine Below.drew ?_))

theorem rmod_ok (al ah bl bh : Int) (w : World) (ha : Sp.right al ah = true) (hb : Sp.right bl bh = true) :
    Calls Try.prog 27 #[.agg #[.int .i64 al, .int .i64 ah], .agg #[.int .i64 bl, .int .i64 bh]] w fun e w' => e = .returned (rv (Sp.mod al ah bl bh)) ∧ Below w.heap.size w w' := by
  cases hd : (Sp.divisor bl bh != 0) with
  | true => exact rmod_zero al ah bl bh w ha hb hd
  | false =>
    cases h1 : (bl == bh) with
    | false => cases s1 : decide (0 ≤ al) <;> cases s2 : decide (ah ≤ 0) <;> first | exact rmod_wide00 al ah bl bh w ha hb hd h1 s1 s2 | exact rmod_wide01 al ah bl bh w ha hb hd h1 s1 s2 | exact rmod_wide10 al ah bl bh w ha hb hd h1 s1 s2 | exact rmod_wide11 al ah bl bh w ha hb hd h1 s1 s2
    | true =>
      cases h2 : (al == ah) with
      | true => exact rmod_same al ah bl bh w ha hb hd h1 (.inl h2)
      | false =>
        cases h5 : (al.tdiv bl == ah.tdiv bl) <;> cases s1 : decide (0 ≤ al) <;> cases s2 : decide (ah ≤ 0) <;> first | exact rmod_both al ah bl bh w ha hb hd h1 h2 s1 s2 | exact rmod_same al ah bl bh w ha hb hd h1 (.inr ⟨h2, by simp [s1, s2], h5⟩) | exact rmod_quo01 al ah bl bh w ha hb hd h1 h2 h5 s1 s2 | exact rmod_quo10 al ah bl bh w ha hb hd h1 h2 h5 s1 s2 | exact rmod_quo11 al ah bl bh w ha hb hd h1 h2 h5 s1 s2

theorem rmod_any (al ah bl bh : Int) (w : World) :
    Calls Try.prog 27 #[.agg #[.int .i64 al, .int .i64 ah], .agg #[.int .i64 bl, .int .i64 bh]] w fun e w' => e = .returned (rv (Sp.mod al ah bl bh)) ∧ Below w.heap.size w w' := by
  cases ha : Sp.right al ah with
  | false => exact rmod_bad1 al ah bl bh w ha
  | true =>
    cases hb : Sp.right bl bh with
    | false => exact rmod_bad2 al ah bl bh w ha hb
    | true => exact rmod_ok al ah bl bh w ha hb
end Go.Proofs.Ytjdppnkmhgihnaa
