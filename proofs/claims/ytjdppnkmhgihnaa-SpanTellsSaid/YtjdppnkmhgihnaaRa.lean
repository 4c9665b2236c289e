/- The contracts of the reference's functions (packages retroactref33 and retroactref01): the small ones. -/
import Derived.Test.YtjdppnkmhgihnaaWi
namespace Go.Proofs.Ytjdppnkmhgihnaa
open Go.RowKit

set_option maxHeartbeats 400000 in
theorem rright_any (l h : Int) (w : World) :
    Calls Try.prog 34 #[.agg #[.int .i64 l, .int .i64 h]] w fun e w' => e = .returned (.bool (Sp.right l h)) ∧ Below w.heap.size w w' := by
  go_enter Try.func34, Try.ntmps34
  go_wp2
  all_goals
    go_ret
    refine ⟨?_, (Below.refl _ _).alloc (Nat.le_refl _) _⟩
    simp [Sp.right, *]
    try omega

set_option maxHeartbeats 400000 in
theorem rin_any (n : Int) (w : World) :
    Calls Try.prog 63 #[.int .i64 n] w fun e w' => e = .returned (.bool (Sp.inR n)) ∧ w = w' := by
  go_enter Try.func63, Try.ntmps63
  go_wp2
  all_goals
    go_ret
    refine ⟨?_, rfl⟩
    simp [Sp.inR, *]
    try omega

set_option maxHeartbeats 400000 in
theorem rchecked_any (lo hi : Int) (w : World) :
    Calls Try.prog 54 #[.agg #[.int .i64 lo, .int .i64 hi]] w fun e w' => e = .returned (rv (Sp.fit lo hi)) ∧ Below w.heap.size w w' := by
  go_enter Try.func54, Try.ntmps54
  go_wp2
  all_goals
    refine bodyPost_ret (v := rv (Sp.fit lo hi)) (by unfold Sp.fit; repeat' split; all_goals first | (exfalso; omega) | simp [results, Try.results54, go_sem]) rfl ⟨rfl, ?_⟩
    exact ((Below.refl _ _).alloc (Nat.le_refl _) _).alloc (by simp) _

set_option maxHeartbeats 1600000 in
theorem requal_any (al ah bl bh : Int) (w : World) :
    Calls Try.prog 33 #[.agg #[.int .i64 al, .int .i64 ah], .agg #[.int .i64 bl, .int .i64 bh]] w fun e w' => e = .returned (.int .i64 (Sp.equal al ah bl bh)) ∧ Below w.heap.size w w' := by
  cases h1 : (al == ah) <;> cases h2 : (bl == bh) <;> cases h3 : (al == bl)
  all_goals
    go_enter Try.func33, Try.ntmps33
    go_wp2
    all_goals
      go_ret
      refine ⟨ret_int ?_, ((Below.refl _ _).alloc (Nat.le_refl _) _).alloc (by simp) _⟩
      simp only [beq_iff_eq, beq_eq_false_iff_ne, ne_eq] at h1 h2 h3
      unfold Sp.equal
      repeat' split
      all_goals first | rfl | (exfalso; omega)

set_option maxHeartbeats 800000 in
theorem rless_any (al ah bl bh : Int) (w : World) :
    Calls Try.prog 31 #[.agg #[.int .i64 al, .int .i64 ah], .agg #[.int .i64 bl, .int .i64 bh]] w fun e w' => e = .returned (.int .i64 (Sp.less al ah bl bh)) ∧ Below w.heap.size w w' := by
  go_enter Try.func31, Try.ntmps31
  go_wp2
  all_goals
    go_ret
    refine ⟨ret_int ?_, ((Below.refl _ _).alloc (Nat.le_refl _) _).alloc (by simp) _⟩
    unfold Sp.less
    repeat' split
    all_goals first | rfl | (exfalso; omega)

set_option maxHeartbeats 800000 in
theorem rlessEq_any (al ah bl bh : Int) (w : World) :
    Calls Try.prog 32 #[.agg #[.int .i64 al, .int .i64 ah], .agg #[.int .i64 bl, .int .i64 bh]] w fun e w' => e = .returned (.int .i64 (Sp.lessEq al ah bl bh)) ∧ Below w.heap.size w w' := by
  go_enter Try.func32, Try.ntmps32
  go_wp2
  all_goals
    go_ret
    refine ⟨ret_int ?_, ((Below.refl _ _).alloc (Nat.le_refl _) _).alloc (by simp) _⟩
    unfold Sp.lessEq
    repeat' split
    all_goals first | rfl | (exfalso; omega)

set_option maxHeartbeats 800000 in
theorem rneg_true (al ah : Int) (w : World) (ha : Sp.right al ah = true) :
    Calls Try.prog 28 #[.agg #[.int .i64 al, .int .i64 ah]] w fun e w' => e = .returned (rv (Sp.neg al ah)) ∧ Below w.heap.size w w' := by
  have hfin : Sp.neg al ah = ⟨-ah, -al, 0⟩ := by simp [Sp.neg, ha]
  rw [hfin]
  clear hfin
  obtain ⟨a1, a2, a3⟩ := right_bd ha
  go_enter Try.func28, Try.ntmps28
  go_wp2_with (first
    | (go_at_call 34; refine (rright_any _ _ _).mono ?_; rintro e w1 ⟨rfl, hw1⟩; have hz := hw1.size; (try simp at hz); have hB : Below w.heap.size w w1 := Below.call (w := w) (by repeat (first | (with_reducible exact Below.refl _ _) | (with_reducible assumption) | refine Below.setCell ?_ (by first | omega | (simp; omega) | (simp; done)) _ | refine Below.alloc ?_ (by first | omega | (simp; omega) | (simp; done)) _ | refine Below.drew ?_)) hw1; (try obtain ⟨k1, k2, k3⟩ := keepB hw1 (w.heap.size) (by first | omega | (simp; omega) | (simp; done))); (try obtain ⟨k1, k2, k3⟩ := keepB hw1 (w.heap.size + 1) (by first | omega | (simp; omega) | (simp; done)))))
  refine bodyPost_ret (v := rv (⟨-ah, -al, 0⟩)) (by simp [results, Try.results28, go_sem, *]) rfl ⟨rfl, ?_⟩
  exact (by repeat (first | (with_reducible exact Below.refl _ _) | (with_reducible assumption) | refine Below.setCell ?_ (by first | omega | (simp; omega) | (simp; done)) _ | refine Below.alloc ?_ (by first | omega | (simp; omega) | (simp; done)) _ | refine Below.drew ?_))

set_option maxHeartbeats 800000 in
theorem rneg_false (al ah : Int) (w : World) (ha : Sp.right al ah = false) :
    Calls Try.prog 28 #[.agg #[.int .i64 al, .int .i64 ah]] w fun e w' => e = .returned (rv (Sp.neg al ah)) ∧ Below w.heap.size w w' := by
  have hfin : Sp.neg al ah = ⟨0, 0, 1⟩ := by simp [Sp.neg, ha]
  rw [hfin]
  clear hfin
  go_enter Try.func28, Try.ntmps28
  go_wp2_with (first
    | (go_at_call 34; refine (rright_any _ _ _).mono ?_; rintro e w1 ⟨rfl, hw1⟩; have hz := hw1.size; (try simp at hz); have hB : Below w.heap.size w w1 := Below.call (w := w) (by repeat (first | (with_reducible exact Below.refl _ _) | (with_reducible assumption) | refine Below.setCell ?_ (by first | omega | (simp; omega) | (simp; done)) _ | refine Below.alloc ?_ (by first | omega | (simp; omega) | (simp; done)) _ | refine Below.drew ?_)) hw1; (try obtain ⟨k1, k2, k3⟩ := keepB hw1 (w.heap.size) (by first | omega | (simp; omega) | (simp; done))); (try obtain ⟨k1, k2, k3⟩ := keepB hw1 (w.heap.size + 1) (by first | omega | (simp; omega) | (simp; done)))))
  refine bodyPost_ret (v := rv (⟨0, 0, 1⟩)) (by simp [results, Try.results28, go_sem, *]) rfl ⟨rfl, ?_⟩
  exact (by repeat (first | (with_reducible exact Below.refl _ _) | (with_reducible assumption) | refine Below.setCell ?_ (by first | omega | (simp; omega) | (simp; done)) _ | refine Below.alloc ?_ (by first | omega | (simp; omega) | (simp; done)) _ | refine Below.drew ?_))

theorem rneg_any (al ah : Int) (w : World) :
    Calls Try.prog 28 #[.agg #[.int .i64 al, .int .i64 ah]] w fun e w' => e = .returned (rv (Sp.neg al ah)) ∧ Below w.heap.size w w' := by
  cases h : Sp.right al ah with
  | true => exact rneg_true al ah w h
  | false => exact rneg_false al ah w h

set_option maxHeartbeats 1600000 in
theorem radd_bad1 (al ah bl bh : Int) (w : World) (ha : Sp.right al ah = false) :
    Calls Try.prog 22 #[.agg #[.int .i64 al, .int .i64 ah], .agg #[.int .i64 bl, .int .i64 bh]] w fun e w' => e = .returned (rv (Sp.add al ah bl bh)) ∧ Below w.heap.size w w' := by
  have hfin : Sp.add al ah bl bh = ⟨0, 0, 1⟩ := by simp [Sp.add, ha]
  rw [hfin]
  clear hfin
  go_enter Try.func22, Try.ntmps22
  go_wp2_with (first
    | (go_at_call 34; refine (rright_any _ _ _).mono ?_; rintro e w1 ⟨rfl, hw1⟩; have hz := hw1.size; (try simp at hz); have hB : Below w.heap.size w w1 := Below.call (w := w) (by repeat (first | (with_reducible exact Below.refl _ _) | (with_reducible assumption) | refine Below.setCell ?_ (by first | omega | (simp; omega) | (simp; done)) _ | refine Below.alloc ?_ (by first | omega | (simp; omega) | (simp; done)) _ | refine Below.drew ?_)) hw1; (try obtain ⟨k1, k2, k3⟩ := keepB hw1 (w.heap.size) (by first | omega | (simp; omega) | (simp; done))); (try obtain ⟨k1, k2, k3⟩ := keepB hw1 (w.heap.size + 1) (by first | omega | (simp; omega) | (simp; done))); (try obtain ⟨k1, k2, k3⟩ := keepB hw1 (w.heap.size + 1 + 1) (by first | omega | (simp; omega) | (simp; done)))))
  refine bodyPost_ret (v := rv (⟨0, 0, 1⟩)) (by simp [results, Try.results22, go_sem, *]) rfl ⟨rfl, ?_⟩
  exact (by repeat (first | (with_reducible exact Below.refl _ _) | (with_reducible assumption) | refine Below.setCell ?_ (by first | omega | (simp; omega) | (simp; done)) _ | refine Below.alloc ?_ (by first | omega | (simp; omega) | (simp; done)) _ | refine Below.drew ?_))

set_option maxHeartbeats 1600000 in
theorem radd_bad2 (al ah bl bh : Int) (w : World) (ha : Sp.right al ah = true) (hb : Sp.right bl bh = false) :
    Calls Try.prog 22 #[.agg #[.int .i64 al, .int .i64 ah], .agg #[.int .i64 bl, .int .i64 bh]] w fun e w' => e = .returned (rv (Sp.add al ah bl bh)) ∧ Below w.heap.size w w' := by
  have hfin : Sp.add al ah bl bh = ⟨0, 0, 1⟩ := by simp [Sp.add, ha, hb]
  rw [hfin]
  clear hfin
  go_enter Try.func22, Try.ntmps22
  go_wp2_with (first
    | (go_at_call 34; refine (rright_any _ _ _).mono ?_; rintro e w1 ⟨rfl, hw1⟩; have hz := hw1.size; (try simp at hz); have hB : Below w.heap.size w w1 := Below.call (w := w) (by repeat (first | (with_reducible exact Below.refl _ _) | (with_reducible assumption) | refine Below.setCell ?_ (by first | omega | (simp; omega) | (simp; done)) _ | refine Below.alloc ?_ (by first | omega | (simp; omega) | (simp; done)) _ | refine Below.drew ?_)) hw1; (try obtain ⟨k1, k2, k3⟩ := keepB hw1 (w.heap.size) (by first | omega | (simp; omega) | (simp; done))); (try obtain ⟨k1, k2, k3⟩ := keepB hw1 (w.heap.size + 1) (by first | omega | (simp; omega) | (simp; done))); (try obtain ⟨k1, k2, k3⟩ := keepB hw1 (w.heap.size + 1 + 1) (by first | omega | (simp; omega) | (simp; done)))))
  refine bodyPost_ret (v := rv (⟨0, 0, 1⟩)) (by simp [results, Try.results22, go_sem, *]) rfl ⟨rfl, ?_⟩
  exact (by repeat (first | (with_reducible exact Below.refl _ _) | (with_reducible assumption) | refine Below.setCell ?_ (by first | omega | (simp; omega) | (simp; done)) _ | refine Below.alloc ?_ (by first | omega | (simp; omega) | (simp; done)) _ | refine Below.drew ?_))

set_option maxHeartbeats 1600000 in
theorem radd_ok (al ah bl bh : Int) (w : World) (ha : Sp.right al ah = true) (hb : Sp.right bl bh = true) :
    Calls Try.prog 22 #[.agg #[.int .i64 al, .int .i64 ah], .agg #[.int .i64 bl, .int .i64 bh]] w fun e w' => e = .returned (rv (Sp.add al ah bl bh)) ∧ Below w.heap.size w w' := by
  obtain ⟨a1, a2, a3⟩ := right_bd ha
  obtain ⟨b1, b2, b3⟩ := right_bd hb
  have hfin : Sp.add al ah bl bh = Sp.fit (al + bl) (ah + bh) := by
    have h1 : Sp.hullLo (al + bl) [ah + bh] = al + bl := by simp [Sp.hullLo, Sp.mn]; omega
    have h2 : Sp.hullHi (al + bl) [ah + bh] = ah + bh := by simp [Sp.hullHi, Sp.mx]; omega
    simp only [Sp.add, ha, hb, Bool.and_self, if_true, h1, h2]
  rw [hfin]
  clear hfin
  generalize hr : Sp.fit (al + bl) (ah + bh) = r
  have HC := Lib.hid (fun wz => rchecked_any (al + bl) (ah + bh) wz)
  rw [hr] at HC
  clear hr
  go_enter Try.func22, Try.ntmps22
  go_wp2_with (first
    | (go_at_call 34; refine (rright_any _ _ _).mono ?_; rintro e w1 ⟨rfl, hw1⟩; have hz := hw1.size; (try simp at hz); have hB : Below w.heap.size w w1 := Below.call (w := w) (by repeat (first | (with_reducible exact Below.refl _ _) | (with_reducible assumption) | refine Below.setCell ?_ (by first | omega | (simp; omega) | (simp; done)) _ | refine Below.alloc ?_ (by first | omega | (simp; omega) | (simp; done)) _ | refine Below.drew ?_)) hw1; (try obtain ⟨k1, k2, k3⟩ := keepB hw1 (w.heap.size) (by first | omega | (simp; omega) | (simp; done))); (try obtain ⟨k1, k2, k3⟩ := keepB hw1 (w.heap.size + 1) (by first | omega | (simp; omega) | (simp; done))); (try obtain ⟨k1, k2, k3⟩ := keepB hw1 (w.heap.size + 1 + 1) (by first | omega | (simp; omega) | (simp; done))))
    | (go_at_call 54; refine (HC.out _).mono ?_; rintro e w1 ⟨rfl, hw1⟩; have hz := hw1.size; (try simp at hz); have hB : Below w.heap.size w w1 := Below.call (w := w) (by repeat (first | (with_reducible exact Below.refl _ _) | (with_reducible assumption) | refine Below.setCell ?_ (by first | omega | (simp; omega) | (simp; done)) _ | refine Below.alloc ?_ (by first | omega | (simp; omega) | (simp; done)) _ | refine Below.drew ?_)) hw1; (try obtain ⟨k1, k2, k3⟩ := keepB hw1 (w.heap.size) (by first | omega | (simp; omega) | (simp; done))); (try obtain ⟨k1, k2, k3⟩ := keepB hw1 (w.heap.size + 1) (by first | omega | (simp; omega) | (simp; done))); (try obtain ⟨k1, k2, k3⟩ := keepB hw1 (w.heap.size + 1 + 1) (by first | omega | (simp; omega) | (simp; done)))))
  refine bodyPost_ret (v := rv (r)) (by simp [results, Try.results22, go_sem, *]) rfl ⟨rfl, ?_⟩
  exact (by repeat (first | (with_reducible exact Below.refl _ _) | (with_reducible assumption) | refine Below.setCell ?_ (by first | omega | (simp; omega) | (simp; done)) _ | refine Below.alloc ?_ (by first | omega | (simp; omega) | (simp; done)) _ | refine Below.drew ?_))

theorem radd_any (al ah bl bh : Int) (w : World) :
    Calls Try.prog 22 #[.agg #[.int .i64 al, .int .i64 ah], .agg #[.int .i64 bl, .int .i64 bh]] w fun e w' => e = .returned (rv (Sp.add al ah bl bh)) ∧ Below w.heap.size w w' := by
  cases ha : Sp.right al ah with
  | false => exact radd_bad1 al ah bl bh w ha
  | true =>
    cases hb : Sp.right bl bh with
    | false => exact radd_bad2 al ah bl bh w ha hb
    | true => exact radd_ok al ah bl bh w ha hb

set_option maxHeartbeats 1600000 in
theorem rsub_bad1 (al ah bl bh : Int) (w : World) (ha : Sp.right al ah = false) :
    Calls Try.prog 24 #[.agg #[.int .i64 al, .int .i64 ah], .agg #[.int .i64 bl, .int .i64 bh]] w fun e w' => e = .returned (rv (Sp.sub al ah bl bh)) ∧ Below w.heap.size w w' := by
  have hfin : Sp.sub al ah bl bh = ⟨0, 0, 1⟩ := by simp [Sp.sub, ha]
  rw [hfin]
  clear hfin
  go_enter Try.func24, Try.ntmps24
  go_wp2_with (first
    | (go_at_call 34; refine (rright_any _ _ _).mono ?_; rintro e w1 ⟨rfl, hw1⟩; have hz := hw1.size; (try simp at hz); have hB : Below w.heap.size w w1 := Below.call (w := w) (by repeat (first | (with_reducible exact Below.refl _ _) | (with_reducible assumption) | refine Below.setCell ?_ (by first | omega | (simp; omega) | (simp; done)) _ | refine Below.alloc ?_ (by first | omega | (simp; omega) | (simp; done)) _ | refine Below.drew ?_)) hw1; (try obtain ⟨k1, k2, k3⟩ := keepB hw1 (w.heap.size) (by first | omega | (simp; omega) | (simp; done))); (try obtain ⟨k1, k2, k3⟩ := keepB hw1 (w.heap.size + 1) (by first | omega | (simp; omega) | (simp; done))); (try obtain ⟨k1, k2, k3⟩ := keepB hw1 (w.heap.size + 1 + 1) (by first | omega | (simp; omega) | (simp; done)))))
  refine bodyPost_ret (v := rv (⟨0, 0, 1⟩)) (by simp [results, Try.results24, go_sem, *]) rfl ⟨rfl, ?_⟩
  exact (by repeat (first | (with_reducible exact Below.refl _ _) | (with_reducible assumption) | refine Below.setCell ?_ (by first | omega | (simp; omega) | (simp; done)) _ | refine Below.alloc ?_ (by first | omega | (simp; omega) | (simp; done)) _ | refine Below.drew ?_))

set_option maxHeartbeats 1600000 in
theorem rsub_bad2 (al ah bl bh : Int) (w : World) (ha : Sp.right al ah = true) (hb : Sp.right bl bh = false) :
    Calls Try.prog 24 #[.agg #[.int .i64 al, .int .i64 ah], .agg #[.int .i64 bl, .int .i64 bh]] w fun e w' => e = .returned (rv (Sp.sub al ah bl bh)) ∧ Below w.heap.size w w' := by
  have hfin : Sp.sub al ah bl bh = ⟨0, 0, 1⟩ := by simp [Sp.sub, ha, hb]
  rw [hfin]
  clear hfin
  go_enter Try.func24, Try.ntmps24
  go_wp2_with (first
    | (go_at_call 34; refine (rright_any _ _ _).mono ?_; rintro e w1 ⟨rfl, hw1⟩; have hz := hw1.size; (try simp at hz); have hB : Below w.heap.size w w1 := Below.call (w := w) (by repeat (first | (with_reducible exact Below.refl _ _) | (with_reducible assumption) | refine Below.setCell ?_ (by first | omega | (simp; omega) | (simp; done)) _ | refine Below.alloc ?_ (by first | omega | (simp; omega) | (simp; done)) _ | refine Below.drew ?_)) hw1; (try obtain ⟨k1, k2, k3⟩ := keepB hw1 (w.heap.size) (by first | omega | (simp; omega) | (simp; done))); (try obtain ⟨k1, k2, k3⟩ := keepB hw1 (w.heap.size + 1) (by first | omega | (simp; omega) | (simp; done))); (try obtain ⟨k1, k2, k3⟩ := keepB hw1 (w.heap.size + 1 + 1) (by first | omega | (simp; omega) | (simp; done)))))
  refine bodyPost_ret (v := rv (⟨0, 0, 1⟩)) (by simp [results, Try.results24, go_sem, *]) rfl ⟨rfl, ?_⟩
  exact (by repeat (first | (with_reducible exact Below.refl _ _) | (with_reducible assumption) | refine Below.setCell ?_ (by first | omega | (simp; omega) | (simp; done)) _ | refine Below.alloc ?_ (by first | omega | (simp; omega) | (simp; done)) _ | refine Below.drew ?_))

set_option maxHeartbeats 1600000 in
theorem rsub_ok (al ah bl bh : Int) (w : World) (ha : Sp.right al ah = true) (hb : Sp.right bl bh = true) :
    Calls Try.prog 24 #[.agg #[.int .i64 al, .int .i64 ah], .agg #[.int .i64 bl, .int .i64 bh]] w fun e w' => e = .returned (rv (Sp.sub al ah bl bh)) ∧ Below w.heap.size w w' := by
  obtain ⟨a1, a2, a3⟩ := right_bd ha
  obtain ⟨b1, b2, b3⟩ := right_bd hb
  have hfin : Sp.sub al ah bl bh = Sp.fit (al - bh) (ah - bl) := by
    have h1 : Sp.hullLo (al - bh) [ah - bl] = al - bh := by simp [Sp.hullLo, Sp.mn]; omega
    have h2 : Sp.hullHi (al - bh) [ah - bl] = ah - bl := by simp [Sp.hullHi, Sp.mx]; omega
    simp only [Sp.sub, ha, hb, Bool.and_self, if_true, h1, h2]
  rw [hfin]
  clear hfin
  generalize hr : Sp.fit (al - bh) (ah - bl) = r
  have HC := Lib.hid (fun wz => rchecked_any (al - bh) (ah - bl) wz)
  rw [hr] at HC
  clear hr
  go_enter Try.func24, Try.ntmps24
  go_wp2_with (first
    | (go_at_call 34; refine (rright_any _ _ _).mono ?_; rintro e w1 ⟨rfl, hw1⟩; have hz := hw1.size; (try simp at hz); have hB : Below w.heap.size w w1 := Below.call (w := w) (by repeat (first | (with_reducible exact Below.refl _ _) | (with_reducible assumption) | refine Below.setCell ?_ (by first | omega | (simp; omega) | (simp; done)) _ | refine Below.alloc ?_ (by first | omega | (simp; omega) | (simp; done)) _ | refine Below.drew ?_)) hw1; (try obtain ⟨k1, k2, k3⟩ := keepB hw1 (w.heap.size) (by first | omega | (simp; omega) | (simp; done))); (try obtain ⟨k1, k2, k3⟩ := keepB hw1 (w.heap.size + 1) (by first | omega | (simp; omega) | (simp; done))); (try obtain ⟨k1, k2, k3⟩ := keepB hw1 (w.heap.size + 1 + 1) (by first | omega | (simp; omega) | (simp; done))))
    | (go_at_call 54; refine (HC.out _).mono ?_; rintro e w1 ⟨rfl, hw1⟩; have hz := hw1.size; (try simp at hz); have hB : Below w.heap.size w w1 := Below.call (w := w) (by repeat (first | (with_reducible exact Below.refl _ _) | (with_reducible assumption) | refine Below.setCell ?_ (by first | omega | (simp; omega) | (simp; done)) _ | refine Below.alloc ?_ (by first | omega | (simp; omega) | (simp; done)) _ | refine Below.drew ?_)) hw1; (try obtain ⟨k1, k2, k3⟩ := keepB hw1 (w.heap.size) (by first | omega | (simp; omega) | (simp; done))); (try obtain ⟨k1, k2, k3⟩ := keepB hw1 (w.heap.size + 1) (by first | omega | (simp; omega) | (simp; done))); (try obtain ⟨k1, k2, k3⟩ := keepB hw1 (w.heap.size + 1 + 1) (by first | omega | (simp; omega) | (simp; done)))))
  refine bodyPost_ret (v := rv (r)) (by simp [results, Try.results24, go_sem, *]) rfl ⟨rfl, ?_⟩
  exact (by repeat (first | (with_reducible exact Below.refl _ _) | (with_reducible assumption) | refine Below.setCell ?_ (by first | omega | (simp; omega) | (simp; done)) _ | refine Below.alloc ?_ (by first | omega | (simp; omega) | (simp; done)) _ | refine Below.drew ?_))

theorem rsub_any (al ah bl bh : Int) (w : World) :
    Calls Try.prog 24 #[.agg #[.int .i64 al, .int .i64 ah], .agg #[.int .i64 bl, .int .i64 bh]] w fun e w' => e = .returned (rv (Sp.sub al ah bl bh)) ∧ Below w.heap.size w w' := by
  cases ha : Sp.right al ah with
  | false => exact rsub_bad1 al ah bl bh w ha
  | true =>
    cases hb : Sp.right bl bh with
    | false => exact rsub_bad2 al ah bl bh w ha hb
    | true => exact rsub_ok al ah bl bh w ha hb

set_option maxHeartbeats 800000 in
theorem twin_any (l h : Int) (w : World) :
    Calls Try.prog 21 #[.agg #[.int .i64 l, .int .i64 h]] w fun e w' => e = .returned (.agg #[.int .i64 l, .int .i64 h]) ∧ Below w.heap.size w w' := by
  go_enter Try.func21, Try.ntmps21
  go_wp2
  refine bodyPost_ret (v := .agg #[.int .i64 l, .int .i64 h]) (by simp [results, Try.results21, go_sem, *]) rfl ⟨rfl, ?_⟩
  exact (by repeat (first | (with_reducible exact Below.refl _ _) | (with_reducible assumption) | refine Below.setCell ?_ (by first | omega | (simp; omega) | (simp; done)) _ | refine Below.alloc ?_ (by first | omega | (simp; omega) | (simp; done)) _ | refine Below.drew ?_))

set_option maxHeartbeats 800000 in
theorem rvalue_bad (l h : Int) (w : World) (hr : Sp.right l h = false) :
    Calls Try.prog 37 #[.agg #[.int .i64 l, .int .i64 h]] w fun e w' => e = .returned (av 0 ⟨#[]⟩ 0 0 ⟨#[]⟩ none 0 0) ∧ Below w.heap.size w w' := by
  go_enter Try.func37, Try.ntmps37
  go_wp2_with (first
    | (go_at_call 34; refine (rright_any _ _ _).mono ?_; rintro e w1 ⟨rfl, hw1⟩; have hz := hw1.size; (try simp at hz); have hB : Below w.heap.size w w1 := Below.call (w := w) (by repeat (first | (with_reducible exact Below.refl _ _) | (with_reducible assumption) | refine Below.setCell ?_ (by first | omega | (simp; omega) | (simp; done)) _ | refine Below.alloc ?_ (by first | omega | (simp; omega) | (simp; done)) _ | refine Below.drew ?_)) hw1; (try obtain ⟨k1, k2, k3⟩ := keepB hw1 (w.heap.size) (by first | omega | (simp; omega) | (simp; done))); (try obtain ⟨k1, k2, k3⟩ := keepB hw1 (w.heap.size + 1) (by first | omega | (simp; omega) | (simp; done)))))
  refine bodyPost_ret (v := av 0 ⟨#[]⟩ 0 0 ⟨#[]⟩ none 0 0) (by simp [results, Try.results37, go_sem, *]) rfl ⟨rfl, ?_⟩
  exact (by repeat (first | (with_reducible exact Below.refl _ _) | (with_reducible assumption) | refine Below.setCell ?_ (by first | omega | (simp; omega) | (simp; done)) _ | refine Below.alloc ?_ (by first | omega | (simp; omega) | (simp; done)) _ | refine Below.drew ?_))

set_option maxHeartbeats 800000 in
theorem rvalue_point (l h : Int) (w : World) (hr : Sp.right l h = true) (he : (l == h) = true) :
    Calls Try.prog 37 #[.agg #[.int .i64 l, .int .i64 h]] w fun e w' => e = .returned (av 3 ⟨#[]⟩ l 0 ⟨#[]⟩ none 0 0) ∧ Below w.heap.size w w' := by
  go_enter Try.func37, Try.ntmps37
  go_wp2_with (first
    | (go_at_call 34; refine (rright_any _ _ _).mono ?_; rintro e w1 ⟨rfl, hw1⟩; have hz := hw1.size; (try simp at hz); have hB : Below w.heap.size w w1 := Below.call (w := w) (by repeat (first | (with_reducible exact Below.refl _ _) | (with_reducible assumption) | refine Below.setCell ?_ (by first | omega | (simp; omega) | (simp; done)) _ | refine Below.alloc ?_ (by first | omega | (simp; omega) | (simp; done)) _ | refine Below.drew ?_)) hw1; (try obtain ⟨k1, k2, k3⟩ := keepB hw1 (w.heap.size) (by first | omega | (simp; omega) | (simp; done))); (try obtain ⟨k1, k2, k3⟩ := keepB hw1 (w.heap.size + 1) (by first | omega | (simp; omega) | (simp; done)))))
  refine bodyPost_ret (v := av 3 ⟨#[]⟩ l 0 ⟨#[]⟩ none 0 0) (by simp [results, Try.results37, go_sem, *]) rfl ⟨rfl, ?_⟩
  exact (by repeat (first | (with_reducible exact Below.refl _ _) | (with_reducible assumption) | refine Below.setCell ?_ (by first | omega | (simp; omega) | (simp; done)) _ | refine Below.alloc ?_ (by first | omega | (simp; omega) | (simp; done)) _ | refine Below.drew ?_))

set_option maxHeartbeats 800000 in
theorem rvalue_wide (l h : Int) (w : World) (hr : Sp.right l h = true) (he : (l == h) = false) :
    Calls Try.prog 37 #[.agg #[.int .i64 l, .int .i64 h]] w fun e w' => e = .returned (av 10 ⟨#[]⟩ l h ⟨#[]⟩ none 0 0) ∧ Below w.heap.size w w' := by
  go_enter Try.func37, Try.ntmps37
  go_wp2_with (first
    | (go_at_call 34; refine (rright_any _ _ _).mono ?_; rintro e w1 ⟨rfl, hw1⟩; have hz := hw1.size; (try simp at hz); have hB : Below w.heap.size w w1 := Below.call (w := w) (by repeat (first | (with_reducible exact Below.refl _ _) | (with_reducible assumption) | refine Below.setCell ?_ (by first | omega | (simp; omega) | (simp; done)) _ | refine Below.alloc ?_ (by first | omega | (simp; omega) | (simp; done)) _ | refine Below.drew ?_)) hw1; (try obtain ⟨k1, k2, k3⟩ := keepB hw1 (w.heap.size) (by first | omega | (simp; omega) | (simp; done))); (try obtain ⟨k1, k2, k3⟩ := keepB hw1 (w.heap.size + 1) (by first | omega | (simp; omega) | (simp; done)))))
  refine bodyPost_ret (v := av 10 ⟨#[]⟩ l h ⟨#[]⟩ none 0 0) (by simp [results, Try.results37, go_sem, *]) rfl ⟨rfl, ?_⟩
  exact (by repeat (first | (with_reducible exact Below.refl _ _) | (with_reducible assumption) | refine Below.setCell ?_ (by first | omega | (simp; omega) | (simp; done)) _ | refine Below.alloc ?_ (by first | omega | (simp; omega) | (simp; done)) _ | refine Below.drew ?_))
end Go.Proofs.Ytjdppnkmhgihnaa
