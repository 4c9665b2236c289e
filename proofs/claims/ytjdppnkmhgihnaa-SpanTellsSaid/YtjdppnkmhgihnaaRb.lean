/- The contracts of the reference's functions: products, quotients. -/
import Derived.Test.YtjdppnkmhgihnaaRa
import Derived.Test.YtjdppnkmhgihnaaLaw
namespace Go.Proofs.Ytjdppnkmhgihnaa
open Go.RowKit

theorem run_mx2 (ts : Array TypeId) (t : TypeId) (wx : World) (a b : Int) : (Builtin.max_ ts t #[.int .i64 a, .int .i64 b]).run Try.prog wx = .ok (.int .i64 (Sp.mx a b)) wx := by simp [Builtin.max_, Builtin.max2, Sp.mx]; try rfl
theorem run_mn2 (ts : Array TypeId) (t : TypeId) (wx : World) (a b : Int) : (Builtin.min_ ts t #[.int .i64 a, .int .i64 b]).run Try.prog wx = .ok (.int .i64 (Sp.mn a b)) wx := by simp [Builtin.min_, Builtin.min2, Sp.mn]; try rfl

theorem mx_ab (a : Int) : Sp.mx a (-a) = Sp.ab a := by unfold Sp.mx Sp.ab; split <;> split <;> omega

def min4 (a b c d : Int) : Int := Sp.mn (Sp.mn a b) (Sp.mn c d)
def max4 (a b c d : Int) : Int := Sp.mx (Sp.mx a b) (Sp.mx c d)
theorem min4_eq (a b c d : Int) : min4 a b c d = Sp.hullLo a [b, c, d] := by
  simp only [min4, Sp.hullLo]
  unfold Sp.mn; repeat' split
  all_goals omega
theorem max4_eq (a b c d : Int) : max4 a b c d = Sp.hullHi a [b, c, d] := by
  simp only [max4, Sp.hullHi]
  unfold Sp.mx; repeat' split
  all_goals omega

set_option maxHeartbeats 800000 in
theorem rhull_any (a b c d : Int) (w : World) :
    Calls Try.prog 55 #[.int .i64 a, .int .i64 b, .int .i64 c, .int .i64 d] w fun e w' => e = .returned (.agg #[.int .i64 (Sp.hullLo a [b, c, d]), .int .i64 (Sp.hullHi a [b, c, d])]) ∧ Below w.heap.size w w' := by
  rw [← min4_eq, ← max4_eq]
  have hmx := run_mx2
  have hmn := run_mn2
  go_enter Try.func55, Try.ntmps55
  go_wp2
  refine bodyPost_ret (v := .agg #[.int .i64 (min4 a b c d), .int .i64 (max4 a b c d)]) (by simp [results, Try.results55, go_sem, min4, max4]) rfl ⟨rfl, ?_⟩
  exact (by repeat (first | (with_reducible exact Below.refl _ _) | (with_reducible assumption) | refine Below.setCell ?_ (by first | omega | (simp; omega) | (simp; done)) _ | refine Below.alloc ?_ (by first | omega | (simp; omega) | (simp; done)) _ | refine Below.drew ?_))

set_option maxHeartbeats 800000 in
theorem rnmul_any (a b : Int) (w : World) :
    Calls Try.prog 62 #[.int .i64 a, .int .i64 b] w fun e w' => e = .returned (.tuple #[.int .i64 (mulV a b), .bool (Sp.mulOk a b)]) ∧ w = w' := by
  have hmx := run_mx2
  cases ha : Sp.inR a with
  | false =>
    have e1 : Sp.mulOk a b = false := by simp [Sp.mulOk, ha]
    have e2 : mulV a b = 0 := by simp [mulV, e1]
    rw [e1, e2]
    clear e1 e2
    go_enter Try.func62, Try.ntmps62
    go_wp2_with (go_at_call 63; refine (rin_any _ _).mono ?_; rintro e w1 ⟨rfl, rfl⟩)
    go_ret2
    exact ⟨rfl, rfl⟩
  | true =>
  obtain ⟨a1, a2⟩ := inR_bd ha
  cases hb : Sp.inR b with
  | false =>
    have e1 : Sp.mulOk a b = false := by simp [Sp.mulOk, hb]
    have e2 : mulV a b = 0 := by simp [mulV, e1]
    rw [e1, e2]
    clear e1 e2
    go_enter Try.func62, Try.ntmps62
    go_wp2_with (go_at_call 63; refine (rin_any _ _).mono ?_; rintro e w1 ⟨rfl, rfl⟩)
    go_ret2
    exact ⟨rfl, rfl⟩
  | true =>
  obtain ⟨b1, b2⟩ := inR_bd hb
  obtain ⟨A, hA⟩ : ∃ A, A = Sp.ab a := ⟨_, rfl⟩
  obtain ⟨B, hB⟩ : ∃ B, B = Sp.ab b := ⟨_, rfl⟩
  have hm1 : ∀ (ts : Array TypeId) (t : TypeId) (wx : World), (Builtin.max_ ts t #[.int .i64 a, .int .i64 (-a)]).run Try.prog wx = .ok (.int .i64 A) wx := fun ts t wx => by rw [hA, ← mx_ab]; exact run_mx2 ts t wx _ _
  have hm2 : ∀ (ts : Array TypeId) (t : TypeId) (wx : World), (Builtin.max_ ts t #[.int .i64 b, .int .i64 (-b)]).run Try.prog wx = .ok (.int .i64 B) wx := fun ts t wx => by rw [hB, ← mx_ab]; exact run_mx2 ts t wx _ _
  clear hmx
  have hA' : A = if a < 0 then -a else a := hA
  have hB' : B = if b < 0 then -b else b := hB
  have A1 : A ≤ 9007199254740992 := by rw [hA']; split <;> omega
  have A0 : 0 ≤ A := by rw [hA']; split <;> omega
  have B1 : B ≤ 9007199254740992 := by rw [hB']; split <;> omega
  have B0 : 0 ≤ B := by rw [hB']; split <;> omega
  by_cases h0 : a = 0
  · subst h0
    have e1 : Sp.mulOk 0 b = true := by simp [Sp.mulOk, hb, ha]
    have e2 : mulV 0 b = 0 := by simp [mulV]
    rw [e1, e2]
    have hA0 : A = 0 := by rw [hA']; simp
    subst hA0
    clear e1 e2 hA hB hA' hB'
    go_enter Try.func62, Try.ntmps62
    go_wp2_with (go_at_call 63; refine (rin_any _ _).mono ?_; rintro e w1 ⟨rfl, rfl⟩)
    go_ret2
    exact ⟨rfl, rfl⟩
  · have p1 : 1 ≤ A := by rw [hA]; exact ab_pos h0
    have hd := div_lt_iff (b := B) p1
    rw [hA, hB, ← ab_mul, ← hA, ← hB] at hd
    by_cases hlt : 9007199254740992 / A < B
    · have h2 := hd.1 hlt
      have e1 : Sp.mulOk a b = false := by
        have : Sp.ab (a * b) = if a * b < 0 then -(a * b) else a * b := rfl
        simp [Sp.mulOk, ha, hb]
        intro; split at this <;> omega
      have e2 : mulV a b = 0 := by simp [mulV, e1]
      rw [e1, e2]
      clear e1 e2 h2 hd hA hB hA' hB'
      go_enter Try.func62, Try.ntmps62
      go_wp2_with (go_at_call 63; refine (rin_any _ _).mono ?_; rintro e w1 ⟨rfl, rfl⟩)
      go_ret2
      exact ⟨rfl, rfl⟩
    · have h2 : ¬ 9007199254740992 < Sp.ab (a * b) := fun h => hlt (hd.2 h)
      have hab : Sp.ab (a * b) = if a * b < 0 then -(a * b) else a * b := rfl
      have m1 : -9007199254740992 ≤ a * b := by split at hab <;> omega
      have m2 : a * b ≤ 9007199254740992 := by split at hab <;> omega
      have e1 : Sp.mulOk a b = true := by simp [Sp.mulOk, ha, hb, m1, m2]
      have e2 : mulV a b = a * b := by simp [mulV, e1]
      rw [e1, e2]
      have hle : B ≤ 9007199254740992 / A := by omega
      clear e1 e2 h2 hd hab hlt hA hB hA' hB'
      go_enter Try.func62, Try.ntmps62
      go_wp2_with (go_at_call 63; refine (rin_any _ _).mono ?_; rintro e w1 ⟨rfl, rfl⟩)
      go_ret2
      exact ⟨rfl, rfl⟩

set_option maxHeartbeats 800000 in
theorem times_any (x y : Int) (w : World) :
    Calls Try.prog 56 #[.int .i64 x, .int .i64 y] w fun e w' => e = .returned (.int .i64 (Sp.product x y)) ∧ w = w' := by
  cases hm : Sp.mulOk x y with
  | true =>
    have e1 : Sp.product x y = mulV x y := by simp [Sp.product, mulV, hm]
    rw [e1]
    clear e1
    go_enter Try.func56, Try.ntmps56
    go_wp2_with (go_at_call 62; refine (rnmul_any _ _ _).mono ?_; rintro e w1 ⟨rfl, rfl⟩)
    go_ret
    exact ⟨rfl, rfl⟩
  | false =>
    cases hx : decide (x < 0) <;> cases hy : decide (y < 0)
    all_goals
      have hp : Sp.product x y = if (decide (x < 0)) != (decide (y < 0)) then -9007199254740993 else 9007199254740993 := by simp [Sp.product, hm]
      rw [hx, hy] at hp
      rw [hp]
      clear hp
      go_enter Try.func56, Try.ntmps56
      go_wp2_with (go_at_call 62; refine (rnmul_any _ _ _).mono ?_; rintro e w1 ⟨rfl, rfl⟩)
      go_ret
      exact ⟨rfl, rfl⟩

set_option maxHeartbeats 800000 in
theorem rdivisor_bad1 (al ah bl bh : Int) (w : World) (ha : Sp.right al ah = false) :
    Calls Try.prog 57 #[.agg #[.int .i64 al, .int .i64 ah], .agg #[.int .i64 bl, .int .i64 bh]] w fun e w' => e = .returned (.int .i64 (1)) ∧ Below w.heap.size w w' := by
  go_enter Try.func57, Try.ntmps57
  go_wp2_with (first
    | (go_at_call 34; refine (rright_any _ _ _).mono ?_; rintro e w1 ⟨rfl, hw1⟩; have hz := hw1.size; (try simp at hz); have hB : Below w.heap.size w w1 := Below.call (w := w) (by repeat (first | (with_reducible exact Below.refl _ _) | (with_reducible assumption) | refine Below.setCell ?_ (by first | omega | (simp; omega) | (simp; done)) _ | refine Below.alloc ?_ (by first | omega | (simp; omega) | (simp; done)) _ | refine Below.drew ?_)) hw1; (try obtain ⟨k1, k2, k3⟩ := keepB hw1 (w.heap.size) (by first | omega | (simp; omega) | (simp; done))); (try obtain ⟨k1, k2, k3⟩ := keepB hw1 (w.heap.size + 1) (by first | omega | (simp; omega) | (simp; done)))))
  go_ret
  exact ⟨rfl, hB⟩

set_option maxHeartbeats 800000 in
theorem rdivisor_bad2 (al ah bl bh : Int) (w : World) (ha : Sp.right al ah = true) (hb : Sp.right bl bh = false) :
    Calls Try.prog 57 #[.agg #[.int .i64 al, .int .i64 ah], .agg #[.int .i64 bl, .int .i64 bh]] w fun e w' => e = .returned (.int .i64 (1)) ∧ Below w.heap.size w w' := by
  go_enter Try.func57, Try.ntmps57
  go_wp2_with (first
    | (go_at_call 34; refine (rright_any _ _ _).mono ?_; rintro e w1 ⟨rfl, hw1⟩; have hz := hw1.size; (try simp at hz); have hB : Below w.heap.size w w1 := Below.call (w := w) (by repeat (first | (with_reducible exact Below.refl _ _) | (with_reducible assumption) | refine Below.setCell ?_ (by first | omega | (simp; omega) | (simp; done)) _ | refine Below.alloc ?_ (by first | omega | (simp; omega) | (simp; done)) _ | refine Below.drew ?_)) hw1; (try obtain ⟨k1, k2, k3⟩ := keepB hw1 (w.heap.size) (by first | omega | (simp; omega) | (simp; done))); (try obtain ⟨k1, k2, k3⟩ := keepB hw1 (w.heap.size + 1) (by first | omega | (simp; omega) | (simp; done)))))
  go_ret
  exact ⟨rfl, hB⟩

set_option maxHeartbeats 800000 in
theorem rdivisor_ok (al ah bl bh : Int) (w : World) (ha : Sp.right al ah = true) (hb : Sp.right bl bh = true) :
    Calls Try.prog 57 #[.agg #[.int .i64 al, .int .i64 ah], .agg #[.int .i64 bl, .int .i64 bh]] w fun e w' => e = .returned (.int .i64 (Sp.divisor bl bh)) ∧ Below w.heap.size w w' := by
  cases h1 : (bl == 0) <;> cases h2 : (bh == 0) <;> cases h3 : decide (bl ≤ 0) <;> cases h4 : decide (0 ≤ bh)
  all_goals
    go_enter Try.func57, Try.ntmps57
    go_wp2_with (first
      | (go_at_call 34; refine (rright_any _ _ _).mono ?_; rintro e w1 ⟨rfl, hw1⟩; have hz := hw1.size; (try simp at hz); have hB : Below w.heap.size w w1 := Below.call (w := w) (by repeat (first | (with_reducible exact Below.refl _ _) | (with_reducible assumption) | refine Below.setCell ?_ (by first | omega | (simp; omega) | (simp; done)) _ | refine Below.alloc ?_ (by first | omega | (simp; omega) | (simp; done)) _ | refine Below.drew ?_)) hw1; (try obtain ⟨k1, k2, k3⟩ := keepB hw1 (w.heap.size) (by first | omega | (simp; omega) | (simp; done))); (try obtain ⟨k1, k2, k3⟩ := keepB hw1 (w.heap.size + 1) (by first | omega | (simp; omega) | (simp; done)))))
    go_ret
    refine ⟨ret_int ?_, hB⟩
    simp only [beq_iff_eq, beq_eq_false_iff_ne, ne_eq, decide_eq_true_eq, decide_eq_false_iff_not] at h1 h2 h3 h4
    unfold Sp.divisor
    repeat' split
    all_goals first | rfl | (exfalso; omega)
end Go.Proofs.Ytjdppnkmhgihnaa
