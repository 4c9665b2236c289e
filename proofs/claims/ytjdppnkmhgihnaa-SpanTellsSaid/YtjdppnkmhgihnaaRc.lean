/- The contracts of the reference's Mul and Div. -/
import Derived.Test.YtjdppnkmhgihnaaRb
import Derived.Deep.RegionHeld3
import Derived.Deep.QuietTactic
import Derived.BigQuiet
namespace Go.Proofs.Ytjdppnkmhgihnaa
open Go.RowKit

theorem quo_val {x y : Int} (hx : Sp.inR x = true) (hy : Sp.inR y = true) (h : y ≠ 0) : Sp.quo x y = x.tdiv y := by simp [Sp.quo, hx, hy, h]
theorem rem_val {x y : Int} (hx : Sp.inR x = true) (hy : Sp.inR y = true) (h : y ≠ 0) : Sp.rem x y = x.tmod y := by simp [Sp.rem, hx, hy, h]
theorem right_inR {l h : Int} (H : Sp.right l h = true) : Sp.inR l = true ∧ Sp.inR h = true := by
  obtain ⟨a, b, c⟩ := right_bd H
  exact ⟨inR_mk (by omega) (by omega), inR_mk (by omega) (by omega)⟩
theorem divisor_ne {bl bh : Int} (h : Sp.divisor bl bh = 0) (hh : bl ≤ bh) : bl ≠ 0 ∧ bh ≠ 0 := by
  unfold Sp.divisor at h
  split at h
  · simp at h
  · split at h
    · simp at h
    · omega
theorem fit_in {lo hi : Int} (h1 : -9007199254740992 ≤ lo) (h2 : lo ≤ hi) (h3 : hi ≤ 9007199254740992) : Sp.fit lo hi = ⟨lo, hi, 0⟩ := by
  unfold Sp.fit
  rw [if_neg (by omega), if_neg (by omega)]
theorem hullLo_bd {a b c d L H : Int} (ha : L ≤ a ∧ a ≤ H) (hb : L ≤ b ∧ b ≤ H) (hc : L ≤ c ∧ c ≤ H) (hd : L ≤ d ∧ d ≤ H) : L ≤ Sp.hullLo a [b, c, d] ∧ Sp.hullLo a [b, c, d] ≤ Sp.hullHi a [b, c, d] ∧ Sp.hullHi a [b, c, d] ≤ H := by
  simp only [Sp.hullLo, Sp.hullHi]
  unfold Sp.mn Sp.mx
  repeat' split
  all_goals omega
theorem div_val {al ah bl bh : Int} (ha : Sp.right al ah = true) (hb : Sp.right bl bh = true) (hd : Sp.divisor bl bh = 0) :
    Sp.div al ah bl bh = ⟨Sp.hullLo (al.tdiv bl) [al.tdiv bh, ah.tdiv bl, ah.tdiv bh], Sp.hullHi (al.tdiv bl) [al.tdiv bh, ah.tdiv bl, ah.tdiv bh], 0⟩ := by
  obtain ⟨a1, a2, a3⟩ := right_bd ha
  obtain ⟨b1, b2, b3⟩ := right_bd hb
  obtain ⟨i1, i2⟩ := right_inR ha
  obtain ⟨j1, j2⟩ := right_inR hb
  obtain ⟨n1, n2⟩ := divisor_ne hd b2
  have h := hullLo_bd (tdiv_bd (y := bl) a1 (show al ≤ _ by omega)) (tdiv_bd (y := bh) a1 (show al ≤ _ by omega)) (tdiv_bd (y := bl) (show _ ≤ ah by omega) a3) (tdiv_bd (y := bh) (show _ ≤ ah by omega) a3)
  simp only [Sp.div, ha, hb, hd, Bool.and_self, if_true, quo_val i1 j1 n1, quo_val i1 j2 n2, quo_val i2 j1 n1, quo_val i2 j2 n2]
  exact fit_in h.1 h.2.1 h.2.2

set_option maxHeartbeats 1600000 in
theorem rmul_bad1 (al ah bl bh : Int) (w : World) (ha : Sp.right al ah = false) :
    Calls Try.prog 25 #[.agg #[.int .i64 al, .int .i64 ah], .agg #[.int .i64 bl, .int .i64 bh]] w fun e w' => e = .returned (rv (Sp.mul al ah bl bh)) ∧ Below w.heap.size w w' := by
  have hfin : Sp.mul al ah bl bh = ⟨0, 0, 1⟩ := by simp [Sp.mul, ha]
  rw [hfin]
  clear hfin
  go_enter Try.func25, Try.ntmps25
  go_wp2_with (first
    | (go_at_call 34; refine (rright_any _ _ _).mono ?_; rintro e w1 ⟨rfl, hw1⟩; have hz := hw1.size; (try simp at hz); have hB : Below w.heap.size w w1 := Below.call (w := w) (by repeat (first | (with_reducible exact Below.refl _ _) | (with_reducible assumption) | refine Below.setCell ?_ (by first | omega | (simp; omega) | (simp; done)) _ | refine Below.alloc ?_ (by first | omega | (simp; omega) | (simp; done)) _ | refine Below.drew ?_)) hw1; (try obtain ⟨k1, k2, k3⟩ := keepB hw1 (w.heap.size) (by first | omega | (simp; omega) | (simp; done))); (try obtain ⟨k1, k2, k3⟩ := keepB hw1 (w.heap.size + 1) (by first | omega | (simp; omega) | (simp; done))); (try obtain ⟨k1, k2, k3⟩ := keepB hw1 (w.heap.size + 1 + 1) (by first | omega | (simp; omega) | (simp; done)))))
  refine bodyPost_ret (v := rv (⟨0, 0, 1⟩)) (by simp [results, Try.results25, go_sem, *]) rfl ⟨rfl, ?_⟩
  exact (by repeat (first | (with_reducible exact Below.refl _ _) | (with_reducible assumption) | refine Below.setCell ?_ (by first | omega | (simp; omega) | (simp; done)) _ | refine Below.alloc ?_ (by first | omega | (simp; omega) | (simp; done)) _ | refine Below.drew ?_))

set_option maxHeartbeats 1600000 in
theorem rmul_bad2 (al ah bl bh : Int) (w : World) (ha : Sp.right al ah = true) (hb : Sp.right bl bh = false) :
    Calls Try.prog 25 #[.agg #[.int .i64 al, .int .i64 ah], .agg #[.int .i64 bl, .int .i64 bh]] w fun e w' => e = .returned (rv (Sp.mul al ah bl bh)) ∧ Below w.heap.size w w' := by
  have hfin : Sp.mul al ah bl bh = ⟨0, 0, 1⟩ := by simp [Sp.mul, ha, hb]
  rw [hfin]
  clear hfin
  go_enter Try.func25, Try.ntmps25
  go_wp2_with (first
    | (go_at_call 34; refine (rright_any _ _ _).mono ?_; rintro e w1 ⟨rfl, hw1⟩; have hz := hw1.size; (try simp at hz); have hB : Below w.heap.size w w1 := Below.call (w := w) (by repeat (first | (with_reducible exact Below.refl _ _) | (with_reducible assumption) | refine Below.setCell ?_ (by first | omega | (simp; omega) | (simp; done)) _ | refine Below.alloc ?_ (by first | omega | (simp; omega) | (simp; done)) _ | refine Below.drew ?_)) hw1; (try obtain ⟨k1, k2, k3⟩ := keepB hw1 (w.heap.size) (by first | omega | (simp; omega) | (simp; done))); (try obtain ⟨k1, k2, k3⟩ := keepB hw1 (w.heap.size + 1) (by first | omega | (simp; omega) | (simp; done))); (try obtain ⟨k1, k2, k3⟩ := keepB hw1 (w.heap.size + 1 + 1) (by first | omega | (simp; omega) | (simp; done)))))
  refine bodyPost_ret (v := rv (⟨0, 0, 1⟩)) (by simp [results, Try.results25, go_sem, *]) rfl ⟨rfl, ?_⟩
  exact (by repeat (first | (with_reducible exact Below.refl _ _) | (with_reducible assumption) | refine Below.setCell ?_ (by first | omega | (simp; omega) | (simp; done)) _ | refine Below.alloc ?_ (by first | omega | (simp; omega) | (simp; done)) _ | refine Below.drew ?_))

set_option maxHeartbeats 1600000 in
theorem rmul_ok (al ah bl bh : Int) (w : World) (ha : Sp.right al ah = true) (hb : Sp.right bl bh = true) :
    Calls Try.prog 25 #[.agg #[.int .i64 al, .int .i64 ah], .agg #[.int .i64 bl, .int .i64 bh]] w fun e w' => e = .returned (rv (Sp.mul al ah bl bh)) ∧ Below w.heap.size w w' := by
  have hfin : Sp.mul al ah bl bh = Sp.fit (Sp.hullLo (Sp.product al bl) [Sp.product al bh, Sp.product ah bl, Sp.product ah bh]) (Sp.hullHi (Sp.product al bl) [Sp.product al bh, Sp.product ah bl, Sp.product ah bh]) := by simp [Sp.mul, ha, hb]
  rw [hfin]
  clear hfin
  have ne1 : ¬ (w.heap.size + 1 + 1 = w.heap.size) := by omega
  go_enter Try.func25, Try.ntmps25
  go_wp2_with (first
    | (go_at_call 34; refine (rright_any _ _ _).mono ?_; rintro e w1 ⟨rfl, hw1⟩; have hz := hw1.size; (try simp at hz); have hB : Below w.heap.size w w1 := Below.call (w := w) (by repeat (first | (with_reducible exact Below.refl _ _) | (with_reducible assumption) | refine Below.setCell ?_ (by first | omega | (simp; omega) | (simp; done)) _ | refine Below.alloc ?_ (by first | omega | (simp; omega) | (simp; done)) _ | refine Below.drew ?_)) hw1; (try obtain ⟨k1, k2, k3⟩ := keepB hw1 (w.heap.size) (by first | omega | (simp; omega) | (simp; done))); (try obtain ⟨k1, k2, k3⟩ := keepB hw1 (w.heap.size + 1) (by first | omega | (simp; omega) | (simp; done))); (try obtain ⟨k1, k2, k3⟩ := keepB hw1 (w.heap.size + 1 + 1) (by first | omega | (simp; omega) | (simp; done)))))
  go_region_held3 (fun w' => w'.cell? ⟨w.heap.size, 0, none⟩ = some (.int .i64 al) ∧ w'.cell? ⟨w.heap.size, 1, none⟩ = some (.int .i64 ah) ∧ w'.cell? ⟨w.heap.size + 1, 0, none⟩ = some (.int .i64 bl) ∧ w'.cell? ⟨w.heap.size + 1, 1, none⟩ = some (.int .i64 bh)) (go_keep)
    (first
    | (go_at_call 56; refine (times_any _ _ _).mono ?_; rintro e w1 ⟨rfl, rfl⟩)
    | (go_at_call 55; refine (rhull_any _ _ _ _ _).mono ?_; rintro e w1 ⟨rfl, hw1⟩; have hz := hw1.size; (try simp at hz); have hB : Below w.heap.size w w1 := Below.call (w := w) (by repeat (first | (with_reducible exact Below.refl _ _) | (with_reducible assumption) | refine Below.setCell ?_ (by first | omega | (simp; omega) | (simp; done)) _ | refine Below.alloc ?_ (by first | omega | (simp; omega) | (simp; done)) _ | refine Below.drew ?_)) hw1; (try obtain ⟨k1, k2, k3⟩ := keepB hw1 (w.heap.size) (by first | omega | (simp; omega) | (simp; done))); (try obtain ⟨k1, k2, k3⟩ := keepB hw1 (w.heap.size + 1) (by first | omega | (simp; omega) | (simp; done))); (try obtain ⟨k1, k2, k3⟩ := keepB hw1 (w.heap.size + 1 + 1) (by first | omega | (simp; omega) | (simp; done))))
    | (go_at_call 54; refine (rchecked_any _ _ _).mono ?_; rintro e w1 ⟨rfl, hw1⟩; have hz := hw1.size; (try simp at hz); have hB : Below w.heap.size w w1 := Below.call (w := w) (by repeat (first | (with_reducible exact Below.refl _ _) | (with_reducible assumption) | refine Below.setCell ?_ (by first | omega | (simp; omega) | (simp; done)) _ | refine Below.alloc ?_ (by first | omega | (simp; omega) | (simp; done)) _ | refine Below.drew ?_)) hw1; (try obtain ⟨k1, k2, k3⟩ := keepB hw1 (w.heap.size) (by first | omega | (simp; omega) | (simp; done))); (try obtain ⟨k1, k2, k3⟩ := keepB hw1 (w.heap.size + 1) (by first | omega | (simp; omega) | (simp; done))); (try obtain ⟨k1, k2, k3⟩ := keepB hw1 (w.heap.size + 1 + 1) (by first | omega | (simp; omega) | (simp; done)))))
  go_wp2
  refine bodyPost_ret (v := rv (Sp.fit (Sp.hullLo (Sp.product al bl) [Sp.product al bh, Sp.product ah bl, Sp.product ah bh]) (Sp.hullHi (Sp.product al bl) [Sp.product al bh, Sp.product ah bl, Sp.product ah bh]))) (by simp [results, Try.results25, go_sem, *]) rfl ⟨rfl, ?_⟩
  exact (by repeat (first | (with_reducible exact Below.refl _ _) | (with_reducible assumption) | refine Below.setCell ?_ (by first | omega | (simp; omega) | (simp; done)) _ | refine Below.alloc ?_ (by first | omega | (simp; omega) | (simp; done)) _ | refine Below.drew ?_))

theorem rmul_any (al ah bl bh : Int) (w : World) :
    Calls Try.prog 25 #[.agg #[.int .i64 al, .int .i64 ah], .agg #[.int .i64 bl, .int .i64 bh]] w fun e w' => e = .returned (rv (Sp.mul al ah bl bh)) ∧ Below w.heap.size w w' := by
  cases ha : Sp.right al ah with
  | false => exact rmul_bad1 al ah bl bh w ha
  | true =>
    cases hb : Sp.right bl bh with
    | false => exact rmul_bad2 al ah bl bh w ha hb
    | true => exact rmul_ok al ah bl bh w ha hb

set_option maxHeartbeats 1600000 in
theorem rdiv_bad1 (al ah bl bh : Int) (w : World) (ha : Sp.right al ah = false) :
    Calls Try.prog 26 #[.agg #[.int .i64 al, .int .i64 ah], .agg #[.int .i64 bl, .int .i64 bh]] w fun e w' => e = .returned (rv (Sp.div al ah bl bh)) ∧ Below w.heap.size w w' := by
  have hfin : Sp.div al ah bl bh = ⟨0, 0, 1⟩ := by simp [Sp.div, ha]
  rw [hfin]
  clear hfin
  go_enter Try.func26, Try.ntmps26
  go_wp2_with (first
    | (go_at_call 57; refine (rdivisor_bad1 _ _ _ _ _ ha).mono ?_; rintro e w1 ⟨rfl, hw1⟩; have hz := hw1.size; (try simp at hz); have hB : Below w.heap.size w w1 := Below.call (w := w) (by repeat (first | (with_reducible exact Below.refl _ _) | (with_reducible assumption) | refine Below.setCell ?_ (by first | omega | (simp; omega) | (simp; done)) _ | refine Below.alloc ?_ (by first | omega | (simp; omega) | (simp; done)) _ | refine Below.drew ?_)) hw1; (try obtain ⟨k1, k2, k3⟩ := keepB hw1 (w.heap.size) (by first | omega | (simp; omega) | (simp; done))); (try obtain ⟨k1, k2, k3⟩ := keepB hw1 (w.heap.size + 1) (by first | omega | (simp; omega) | (simp; done))); (try obtain ⟨k1, k2, k3⟩ := keepB hw1 (w.heap.size + 1 + 1) (by first | omega | (simp; omega) | (simp; done)))))
  refine bodyPost_ret (v := rv (⟨0, 0, 1⟩)) (by simp [results, Try.results26, go_sem, *]) rfl ⟨rfl, ?_⟩
  exact (by repeat (first | (with_reducible exact Below.refl _ _) | (with_reducible assumption) | refine Below.setCell ?_ (by first | omega | (simp; omega) | (simp; done)) _ | refine Below.alloc ?_ (by first | omega | (simp; omega) | (simp; done)) _ | refine Below.drew ?_))

set_option maxHeartbeats 1600000 in
theorem rdiv_bad2 (al ah bl bh : Int) (w : World) (ha : Sp.right al ah = true) (hb : Sp.right bl bh = false) :
    Calls Try.prog 26 #[.agg #[.int .i64 al, .int .i64 ah], .agg #[.int .i64 bl, .int .i64 bh]] w fun e w' => e = .returned (rv (Sp.div al ah bl bh)) ∧ Below w.heap.size w w' := by
  have hfin : Sp.div al ah bl bh = ⟨0, 0, 1⟩ := by simp [Sp.div, ha, hb]
  rw [hfin]
  clear hfin
  go_enter Try.func26, Try.ntmps26
  go_wp2_with (first
    | (go_at_call 57; refine (rdivisor_bad2 _ _ _ _ _ ha hb).mono ?_; rintro e w1 ⟨rfl, hw1⟩; have hz := hw1.size; (try simp at hz); have hB : Below w.heap.size w w1 := Below.call (w := w) (by repeat (first | (with_reducible exact Below.refl _ _) | (with_reducible assumption) | refine Below.setCell ?_ (by first | omega | (simp; omega) | (simp; done)) _ | refine Below.alloc ?_ (by first | omega | (simp; omega) | (simp; done)) _ | refine Below.drew ?_)) hw1; (try obtain ⟨k1, k2, k3⟩ := keepB hw1 (w.heap.size) (by first | omega | (simp; omega) | (simp; done))); (try obtain ⟨k1, k2, k3⟩ := keepB hw1 (w.heap.size + 1) (by first | omega | (simp; omega) | (simp; done))); (try obtain ⟨k1, k2, k3⟩ := keepB hw1 (w.heap.size + 1 + 1) (by first | omega | (simp; omega) | (simp; done)))))
  refine bodyPost_ret (v := rv (⟨0, 0, 1⟩)) (by simp [results, Try.results26, go_sem, *]) rfl ⟨rfl, ?_⟩
  exact (by repeat (first | (with_reducible exact Below.refl _ _) | (with_reducible assumption) | refine Below.setCell ?_ (by first | omega | (simp; omega) | (simp; done)) _ | refine Below.alloc ?_ (by first | omega | (simp; omega) | (simp; done)) _ | refine Below.drew ?_))

set_option maxHeartbeats 1600000 in
theorem rdiv_zero (al ah bl bh : Int) (w : World) (ha : Sp.right al ah = true) (hb : Sp.right bl bh = true) (hd : (Sp.divisor bl bh != 0) = true) :
    Calls Try.prog 26 #[.agg #[.int .i64 al, .int .i64 ah], .agg #[.int .i64 bl, .int .i64 bh]] w fun e w' => e = .returned (rv (Sp.div al ah bl bh)) ∧ Below w.heap.size w w' := by
  have hfin : Sp.div al ah bl bh = ⟨0, 0, Sp.divisor bl bh⟩ := by simp [Sp.div, ha, hb, show Sp.divisor bl bh ≠ 0 by simpa using hd]
  rw [hfin]
  clear hfin
  go_enter Try.func26, Try.ntmps26
  go_wp2_with (first
    | (go_at_call 57; refine (rdivisor_ok _ _ _ _ _ ha hb).mono ?_; rintro e w1 ⟨rfl, hw1⟩; have hz := hw1.size; (try simp at hz); have hB : Below w.heap.size w w1 := Below.call (w := w) (by repeat (first | (with_reducible exact Below.refl _ _) | (with_reducible assumption) | refine Below.setCell ?_ (by first | omega | (simp; omega) | (simp; done)) _ | refine Below.alloc ?_ (by first | omega | (simp; omega) | (simp; done)) _ | refine Below.drew ?_)) hw1; (try obtain ⟨k1, k2, k3⟩ := keepB hw1 (w.heap.size) (by first | omega | (simp; omega) | (simp; done))); (try obtain ⟨k1, k2, k3⟩ := keepB hw1 (w.heap.size + 1) (by first | omega | (simp; omega) | (simp; done))); (try obtain ⟨k1, k2, k3⟩ := keepB hw1 (w.heap.size + 1 + 1) (by first | omega | (simp; omega) | (simp; done)))))
  refine bodyPost_ret (v := rv (⟨0, 0, Sp.divisor bl bh⟩)) (by simp [results, Try.results26, go_sem, *]) rfl ⟨rfl, ?_⟩
  exact (by repeat (first | (with_reducible exact Below.refl _ _) | (with_reducible assumption) | refine Below.setCell ?_ (by first | omega | (simp; omega) | (simp; done)) _ | refine Below.alloc ?_ (by first | omega | (simp; omega) | (simp; done)) _ | refine Below.drew ?_))

set_option maxHeartbeats 1600000 in
theorem rdiv_some (al ah bl bh : Int) (w : World) (ha : Sp.right al ah = true) (hb : Sp.right bl bh = true) (hd : (Sp.divisor bl bh != 0) = false) :
    Calls Try.prog 26 #[.agg #[.int .i64 al, .int .i64 ah], .agg #[.int .i64 bl, .int .i64 bh]] w fun e w' => e = .returned (rv (Sp.div al ah bl bh)) ∧ Below w.heap.size w w' := by
  have hd0 : Sp.divisor bl bh = 0 := by simpa using hd
  obtain ⟨a1, a2, a3⟩ := right_bd ha
  obtain ⟨b1, b2, b3⟩ := right_bd hb
  obtain ⟨n1, n2⟩ := divisor_ne hd0 b2
  rw [div_val ha hb hd0]
  have HH := Lib.hid (fun wz => rhull_any (al.tdiv bl) (al.tdiv bh) (ah.tdiv bl) (ah.tdiv bh) wz)
  clear hd0
  have ne1 : ¬ (w.heap.size + 1 + 1 = w.heap.size) := by omega
  have m1 : IntKind.i64.wrap (al.tdiv bl) = al.tdiv bl := (by have := tdiv_bd (y := bl) (show -9007199254740992 ≤ al by omega) (show al ≤ 9007199254740992 by omega); rw [IntKind.wrap_i64]; omega)
  have m2 : IntKind.i64.wrap (al.tdiv bh) = al.tdiv bh := (by have := tdiv_bd (y := bh) (show -9007199254740992 ≤ al by omega) (show al ≤ 9007199254740992 by omega); rw [IntKind.wrap_i64]; omega)
  have m3 : IntKind.i64.wrap (ah.tdiv bl) = ah.tdiv bl := (by have := tdiv_bd (y := bl) (show -9007199254740992 ≤ ah by omega) (show ah ≤ 9007199254740992 by omega); rw [IntKind.wrap_i64]; omega)
  have m4 : IntKind.i64.wrap (ah.tdiv bh) = ah.tdiv bh := (by have := tdiv_bd (y := bh) (show -9007199254740992 ≤ ah by omega) (show ah ≤ 9007199254740992 by omega); rw [IntKind.wrap_i64]; omega)
  have z1 : (bl == 0) = false := by simp [n1]
  have z2 : (bh == 0) = false := by simp [n2]
  go_enter Try.func26, Try.ntmps26
  go_wp2_with (first
    | (go_at_call 57; refine (rdivisor_ok _ _ _ _ _ ha hb).mono ?_; rintro e w1 ⟨rfl, hw1⟩; have hz := hw1.size; (try simp at hz); have hB : Below w.heap.size w w1 := Below.call (w := w) (by repeat (first | (with_reducible exact Below.refl _ _) | (with_reducible assumption) | refine Below.setCell ?_ (by first | omega | (simp; omega) | (simp; done)) _ | refine Below.alloc ?_ (by first | omega | (simp; omega) | (simp; done)) _ | refine Below.drew ?_)) hw1; (try obtain ⟨k1, k2, k3⟩ := keepB hw1 (w.heap.size) (by first | omega | (simp; omega) | (simp; done))); (try obtain ⟨k1, k2, k3⟩ := keepB hw1 (w.heap.size + 1) (by first | omega | (simp; omega) | (simp; done))); (try obtain ⟨k1, k2, k3⟩ := keepB hw1 (w.heap.size + 1 + 1) (by first | omega | (simp; omega) | (simp; done)))))
  go_region_held3 (fun w' => w'.cell? ⟨w.heap.size, 0, none⟩ = some (.int .i64 al) ∧ w'.cell? ⟨w.heap.size, 1, none⟩ = some (.int .i64 ah) ∧ w'.cell? ⟨w.heap.size + 1, 0, none⟩ = some (.int .i64 bl) ∧ w'.cell? ⟨w.heap.size + 1, 1, none⟩ = some (.int .i64 bh)) (go_keep)
    (first
    | (go_at_call 55; refine (HH.out _).mono ?_; rintro e w1 ⟨rfl, hw1⟩; have hz := hw1.size; (try simp at hz); have hB : Below w.heap.size w w1 := Below.call (w := w) (by repeat (first | (with_reducible exact Below.refl _ _) | (with_reducible assumption) | refine Below.setCell ?_ (by first | omega | (simp; omega) | (simp; done)) _ | refine Below.alloc ?_ (by first | omega | (simp; omega) | (simp; done)) _ | refine Below.drew ?_)) hw1; (try obtain ⟨k1, k2, k3⟩ := keepB hw1 (w.heap.size) (by first | omega | (simp; omega) | (simp; done))); (try obtain ⟨k1, k2, k3⟩ := keepB hw1 (w.heap.size + 1) (by first | omega | (simp; omega) | (simp; done))); (try obtain ⟨k1, k2, k3⟩ := keepB hw1 (w.heap.size + 1 + 1) (by first | omega | (simp; omega) | (simp; done)))))
  go_wp2
  refine bodyPost_ret (v := rv (⟨Sp.hullLo (al.tdiv bl) [al.tdiv bh, ah.tdiv bl, ah.tdiv bh], Sp.hullHi (al.tdiv bl) [al.tdiv bh, ah.tdiv bl, ah.tdiv bh], 0⟩)) (by simp [results, Try.results26, go_sem, *]) rfl ⟨rfl, ?_⟩
  exact (by repeat (first | (with_reducible exact Below.refl _ _) | (with_reducible assumption) | refine Below.setCell ?_ (by first | omega | (simp; omega) | (simp; done)) _ | refine Below.alloc ?_ (by first | omega | (simp; omega) | (simp; done)) _ | refine Below.drew ?_))

theorem rdiv_ok (al ah bl bh : Int) (w : World) (ha : Sp.right al ah = true) (hb : Sp.right bl bh = true) :
    Calls Try.prog 26 #[.agg #[.int .i64 al, .int .i64 ah], .agg #[.int .i64 bl, .int .i64 bh]] w fun e w' => e = .returned (rv (Sp.div al ah bl bh)) ∧ Below w.heap.size w w' := by
  cases hd : (Sp.divisor bl bh != 0) with
  | true => exact rdiv_zero al ah bl bh w ha hb hd
  | false => exact rdiv_some al ah bl bh w ha hb hd

theorem rdiv_any (al ah bl bh : Int) (w : World) :
    Calls Try.prog 26 #[.agg #[.int .i64 al, .int .i64 ah], .agg #[.int .i64 bl, .int .i64 bh]] w fun e w' => e = .returned (rv (Sp.div al ah bl bh)) ∧ Below w.heap.size w w' := by
  cases ha : Sp.right al ah with
  | false => exact rdiv_bad1 al ah bl bh w ha
  | true =>
    cases hb : Sp.right bl bh with
    | false => exact rdiv_bad2 al ah bl bh w ha hb
    | true => exact rdiv_ok al ah bl bh w ha hb
end Go.Proofs.Ytjdppnkmhgihnaa
