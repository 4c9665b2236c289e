/- The contracts of num.Add, Sub, Neg and of the statements' own helpers. -/
import Derived.Test.YtjdppnkmhgihnaaWg
namespace Go.Proofs.Ytjdppnkmhgihnaa
open Go.RowKit

namespace Sp
def addOk (a b : Int) : Bool := inR a && (inR b && inR (a + b))
def addV (a b : Int) : Int := if addOk a b then a + b else 0
def subOk (a b : Int) : Bool := inR a && (inR b && inR (a - b))
def subV (a b : Int) : Int := if subOk a b then a - b else 0
def negV (a : Int) : Int := if inR a then -a else 0
def inB (n l h : Int) : Bool := decide (l ≤ n) && decide (n ≤ h)
def withinB (al ah bl bh : Int) : Bool := decide (bl ≤ al) && decide (ah ≤ bh)
def nilB (l h : Int) : Bool := (l == 0) && (h == 0)
def soundB (l h f n : Int) (ok : Bool) (fault : Int) : Bool :=
  if f == 8 then nilB l h else if f == 0 then ok && (right l h && inB n l h) else !ok && ((f == fault) && nilB l h)
def exactB (l h f n : Int) (ok : Bool) (fault : Int) : Bool :=
  if ok then (f == 0) && ((l == n) && (h == n)) else (f == fault) && nilB l h
def narrowB (sl sh f tl th g : Int) : Bool := if g == 8 then true else (f == g) && withinB sl sh tl th
def zeroV (b : Int) : Int := if b == 0 then 2 else 1
end Sp

set_option maxHeartbeats 400000 in
theorem checked_any (n : Int) (w : World) :
    Calls Try.prog 60 #[.int .i64 n] w fun e w' => e = .returned (.tuple #[.int .i64 (if Sp.inR n then n else 0), .bool (Sp.inR n)]) ∧ w = w' := by
  cases hr : Sp.inR n with
  | true =>
    go_enter Try.func60, Try.ntmps60
    go_wp2_with (go_at_call 59; refine (inRange_any _ _).mono ?_; rintro e w1 ⟨rfl, rfl⟩)
    go_ret2
    exact ⟨rfl, rfl⟩
  | false =>
    go_enter Try.func60, Try.ntmps60
    go_wp2_with (go_at_call 59; refine (inRange_any _ _).mono ?_; rintro e w1 ⟨rfl, rfl⟩)
    go_ret2
    exact ⟨rfl, rfl⟩

set_option maxHeartbeats 400000 in
theorem nadd_any (a b : Int) (w : World) :
    Calls Try.prog 39 #[.int .i64 a, .int .i64 b] w fun e w' => e = .returned (.tuple #[.int .i64 (Sp.addV a b), .bool (Sp.addOk a b)]) ∧ w = w' := by
  cases ha : Sp.inR a with
  | false =>
    have e1 : Sp.addOk a b = false := by simp [Sp.addOk, ha]
    have e2 : Sp.addV a b = 0 := by simp [Sp.addV, e1]
    rw [e1, e2]
    clear e1 e2
    go_enter Try.func39, Try.ntmps39
    go_wp2_with (go_at_call 59; refine (inRange_any _ _).mono ?_; rintro e w1 ⟨rfl, rfl⟩)
    go_ret2
    exact ⟨rfl, rfl⟩
  | true =>
  obtain ⟨a1, a2⟩ := inR_bd ha
  cases hb : Sp.inR b with
  | false =>
    have e1 : Sp.addOk a b = false := by simp [Sp.addOk, hb]
    have e2 : Sp.addV a b = 0 := by simp [Sp.addV, e1]
    rw [e1, e2]
    clear e1 e2
    go_enter Try.func39, Try.ntmps39
    go_wp2_with (go_at_call 59; refine (inRange_any _ _).mono ?_; rintro e w1 ⟨rfl, rfl⟩)
    go_ret2
    exact ⟨rfl, rfl⟩
  | true =>
  obtain ⟨b1, b2⟩ := inR_bd hb
  have e1 : Sp.addOk a b = Sp.inR (a + b) := by simp [Sp.addOk, ha, hb]
  have e2 : Sp.addV a b = if Sp.inR (a + b) then a + b else 0 := by simp [Sp.addV, e1]
  rw [e1, e2]
  clear e1 e2
  generalize hc : (if Sp.inR (a + b) then a + b else 0) = C
  have HC := Lib.hid hc
  clear hc
  go_enter Try.func39, Try.ntmps39
  go_wp2_with (first | (go_at_call 59; refine (inRange_any _ _).mono ?_; rintro e w1 ⟨rfl, rfl⟩) | (go_at_call 60; refine (checked_any _ _).mono ?_; rw [HC.out]; rintro e w1 ⟨rfl, rfl⟩))
  go_ret2
  exact ⟨rfl, rfl⟩

set_option maxHeartbeats 400000 in
theorem nsub_any (a b : Int) (w : World) :
    Calls Try.prog 41 #[.int .i64 a, .int .i64 b] w fun e w' => e = .returned (.tuple #[.int .i64 (Sp.subV a b), .bool (Sp.subOk a b)]) ∧ w = w' := by
  cases ha : Sp.inR a with
  | false =>
    have e1 : Sp.subOk a b = false := by simp [Sp.subOk, ha]
    have e2 : Sp.subV a b = 0 := by simp [Sp.subV, e1]
    rw [e1, e2]
    clear e1 e2
    go_enter Try.func41, Try.ntmps41
    go_wp2_with (go_at_call 59; refine (inRange_any _ _).mono ?_; rintro e w1 ⟨rfl, rfl⟩)
    go_ret2
    exact ⟨rfl, rfl⟩
  | true =>
  obtain ⟨a1, a2⟩ := inR_bd ha
  cases hb : Sp.inR b with
  | false =>
    have e1 : Sp.subOk a b = false := by simp [Sp.subOk, hb]
    have e2 : Sp.subV a b = 0 := by simp [Sp.subV, e1]
    rw [e1, e2]
    clear e1 e2
    go_enter Try.func41, Try.ntmps41
    go_wp2_with (go_at_call 59; refine (inRange_any _ _).mono ?_; rintro e w1 ⟨rfl, rfl⟩)
    go_ret2
    exact ⟨rfl, rfl⟩
  | true =>
  obtain ⟨b1, b2⟩ := inR_bd hb
  have e1 : Sp.subOk a b = Sp.inR (a - b) := by simp [Sp.subOk, ha, hb]
  have e2 : Sp.subV a b = if Sp.inR (a - b) then a - b else 0 := by simp [Sp.subV, e1]
  rw [e1, e2]
  clear e1 e2
  generalize hc : (if Sp.inR (a - b) then a - b else 0) = C
  have HC := Lib.hid hc
  clear hc
  go_enter Try.func41, Try.ntmps41
  go_wp2_with (first | (go_at_call 59; refine (inRange_any _ _).mono ?_; rintro e w1 ⟨rfl, rfl⟩) | (go_at_call 60; refine (checked_any _ _).mono ?_; rw [HC.out]; rintro e w1 ⟨rfl, rfl⟩))
  go_ret2
  exact ⟨rfl, rfl⟩

set_option maxHeartbeats 400000 in
theorem nneg_any (a : Int) (w : World) :
    Calls Try.prog 46 #[.int .i64 a] w fun e w' => e = .returned (.tuple #[.int .i64 (Sp.negV a), .bool (Sp.inR a)]) ∧ w = w' := by
  cases ha : Sp.inR a with
  | false =>
    have e2 : Sp.negV a = 0 := by simp [Sp.negV, ha]
    rw [e2]
    clear e2
    go_enter Try.func46, Try.ntmps46
    go_wp2_with (go_at_call 59; refine (inRange_any _ _).mono ?_; rintro e w1 ⟨rfl, rfl⟩)
    go_ret2
    exact ⟨rfl, rfl⟩
  | true =>
    obtain ⟨a1, a2⟩ := inR_bd ha
    have e2 : Sp.negV a = -a := by simp [Sp.negV, ha]
    rw [e2]
    clear e2
    go_enter Try.func46, Try.ntmps46
    go_wp2_with (go_at_call 59; refine (inRange_any _ _).mono ?_; rintro e w1 ⟨rfl, rfl⟩)
    go_ret2
    exact ⟨rfl, rfl⟩

set_option maxHeartbeats 400000 in
theorem in_any (n l h : Int) (w : World) :
    Calls Try.prog 38 #[.int .i64 n, .agg #[.int .i64 l, .int .i64 h]] w fun e w' => e = .returned (.bool (Sp.inB n l h)) ∧ Below w.heap.size w w' := by
  go_enter Try.func38, Try.ntmps38
  go_wp2
  all_goals
    go_ret
    refine ⟨?_, (Below.refl _ _).alloc (Nat.le_refl _) _⟩
    simp [Sp.inB, *]
    try omega

set_option maxHeartbeats 400000 in
theorem within_any (al ah bl bh : Int) (w : World) :
    Calls Try.prog 10 #[.agg #[.int .i64 al, .int .i64 ah], .agg #[.int .i64 bl, .int .i64 bh]] w fun e w' => e = .returned (.bool (Sp.withinB al ah bl bh)) ∧ Below w.heap.size w w' := by
  go_enter Try.func10, Try.ntmps10
  go_wp2
  all_goals
    go_ret
    refine ⟨?_, ((Below.refl _ _).alloc (Nat.le_refl _) _).alloc (by simp) _⟩
    simp [Sp.withinB, *]
    try omega

set_option maxHeartbeats 400000 in
theorem zero_any (b : Int) (w : World) :
    Calls Try.prog 44 #[.int .i64 b] w fun e w' => e = .returned (.int .i64 (Sp.zeroV b)) ∧ w = w' := by
  cases hb : (b == 0) with
  | true =>
    have e1 : Sp.zeroV b = 2 := by simp [Sp.zeroV, hb]
    rw [e1]
    clear e1
    go_enter Try.func44, Try.ntmps44
    go_wp2
    go_ret
    exact ⟨rfl, rfl⟩
  | false =>
    have e1 : Sp.zeroV b = 1 := by simp [Sp.zeroV, hb]
    rw [e1]
    clear e1
    go_enter Try.func44, Try.ntmps44
    go_wp2
    go_ret
    exact ⟨rfl, rfl⟩

set_option maxHeartbeats 800000 in
theorem narrow_any (sl sh f tl th g : Int) (w : World) :
    Calls Try.prog 12 #[.agg #[.int .i64 sl, .int .i64 sh], .int .i64 f, .agg #[.int .i64 tl, .int .i64 th], .int .i64 g] w fun e w' => e = .returned (.bool (Sp.narrowB sl sh f tl th g)) ∧ Below w.heap.size w w' := by
  cases hg : (g == 8) with
  | true =>
    have e1 : Sp.narrowB sl sh f tl th g = true := by simp [Sp.narrowB, hg]
    rw [e1]
    clear e1
    go_enter Try.func12, Try.ntmps12
    go_wp2
    go_ret
    exact ⟨rfl, (by repeat (first | (with_reducible exact Below.refl _ _) | (with_reducible assumption) | refine Below.setCell ?_ (by first | omega | (simp; omega) | (simp; done)) _ | refine Below.alloc ?_ (by first | omega | (simp; omega) | (simp; done)) _ | refine Below.drew ?_))⟩
  | false =>
  cases hf : (f == g) with
  | false =>
    have e1 : Sp.narrowB sl sh f tl th g = false := by simp only [Sp.narrowB, hg, hf]; rfl
    rw [e1]
    clear e1
    go_enter Try.func12, Try.ntmps12
    go_wp2
    go_ret
    exact ⟨rfl, (by repeat (first | (with_reducible exact Below.refl _ _) | (with_reducible assumption) | refine Below.setCell ?_ (by first | omega | (simp; omega) | (simp; done)) _ | refine Below.alloc ?_ (by first | omega | (simp; omega) | (simp; done)) _ | refine Below.drew ?_))⟩
  | true =>
    have e1 : Sp.narrowB sl sh f tl th g = Sp.withinB sl sh tl th := by simp only [Sp.narrowB, hg, hf]; rfl
    rw [e1]
    clear e1
    go_enter Try.func12, Try.ntmps12
    go_wp2_with (first
      | (go_at_call 10; refine (within_any _ _ _ _ _).mono ?_; rintro e w1 ⟨rfl, hw1⟩; have hz := hw1.size; (try simp at hz); have hB : Below w.heap.size w w1 := Below.call (w := w) (by repeat (first | (with_reducible exact Below.refl _ _) | (with_reducible assumption) | refine Below.setCell ?_ (by first | omega | (simp; omega) | (simp; done)) _ | refine Below.alloc ?_ (by first | omega | (simp; omega) | (simp; done)) _ | refine Below.drew ?_)) hw1; (try obtain ⟨k1, k2, k3⟩ := keepB hw1 (w.heap.size) (by first | omega | (simp; omega) | (simp; done))); (try obtain ⟨k1, k2, k3⟩ := keepB hw1 (w.heap.size + 1) (by first | omega | (simp; omega) | (simp; done)))))
    go_ret
    exact ⟨rfl, (by repeat (first | (with_reducible exact Below.refl _ _) | (with_reducible assumption) | refine Below.setCell ?_ (by first | omega | (simp; omega) | (simp; done)) _ | refine Below.alloc ?_ (by first | omega | (simp; omega) | (simp; done)) _ | refine Below.drew ?_))⟩

set_option maxHeartbeats 1600000 in
theorem sound_any (l h f n : Int) (ok : Bool) (fault : Int) (w : World) :
    Calls Try.prog 40 #[.agg #[.int .i64 l, .int .i64 h], .int .i64 f, .int .i64 n, .bool ok, .int .i64 fault] w fun e w' => e = .returned (.bool (Sp.soundB l h f n ok fault)) ∧ Below w.heap.size w w' := by
  cases h8 : (f == 8) with
  | true =>
    cases hl : (l == 0) <;> cases hh : (h == 0)
    all_goals
      have e1 : Sp.soundB l h f n ok fault = ((l == 0) && (h == 0)) := by simp only [Sp.soundB, h8, Sp.nilB]; rfl
      rw [hl, hh] at e1
      rw [e1]
      clear e1
      go_enter Try.func40, Try.ntmps40
      go_wp2
      go_ret
      exact ⟨rfl, (by repeat (first | (with_reducible exact Below.refl _ _) | (with_reducible assumption) | refine Below.setCell ?_ (by first | omega | (simp; omega) | (simp; done)) _ | refine Below.alloc ?_ (by first | omega | (simp; omega) | (simp; done)) _ | refine Below.drew ?_))⟩
  | false =>
  cases h0 : (f == 0) with
  | true =>
    cases ok with
    | false =>
      have e1 : Sp.soundB l h f n false fault = false := by simp only [Sp.soundB, h8, h0]; rfl
      rw [e1]
      clear e1
      go_enter Try.func40, Try.ntmps40
      go_wp2
      go_ret
      exact ⟨rfl, (by repeat (first | (with_reducible exact Below.refl _ _) | (with_reducible assumption) | refine Below.setCell ?_ (by first | omega | (simp; omega) | (simp; done)) _ | refine Below.alloc ?_ (by first | omega | (simp; omega) | (simp; done)) _ | refine Below.drew ?_))⟩
    | true =>
      cases hr : Sp.right l h with
      | false =>
        have e1 : Sp.soundB l h f n true fault = false := by simp only [Sp.soundB, h8, h0, hr]; rfl
        rw [e1]
        clear e1
        go_enter Try.func40, Try.ntmps40
        go_wp2_with (first
          | (go_at_call 9; refine (right_any _ _ _).mono ?_; rintro e w1 ⟨rfl, hw1⟩; have hz := hw1.size; (try simp at hz); have hB : Below w.heap.size w w1 := Below.call (w := w) (by repeat (first | (with_reducible exact Below.refl _ _) | (with_reducible assumption) | refine Below.setCell ?_ (by first | omega | (simp; omega) | (simp; done)) _ | refine Below.alloc ?_ (by first | omega | (simp; omega) | (simp; done)) _ | refine Below.drew ?_)) hw1; (try obtain ⟨k1, k2, k3⟩ := keepB hw1 (w.heap.size) (by first | omega | (simp; omega) | (simp; done))))
          | (go_at_call 38; refine (in_any _ _ _ _).mono ?_; rintro e w1 ⟨rfl, hw1⟩; have hz := hw1.size; (try simp at hz); have hB : Below w.heap.size w w1 := Below.call (w := w) (by repeat (first | (with_reducible exact Below.refl _ _) | (with_reducible assumption) | refine Below.setCell ?_ (by first | omega | (simp; omega) | (simp; done)) _ | refine Below.alloc ?_ (by first | omega | (simp; omega) | (simp; done)) _ | refine Below.drew ?_)) hw1; (try obtain ⟨k1, k2, k3⟩ := keepB hw1 (w.heap.size) (by first | omega | (simp; omega) | (simp; done)))))
        go_ret
        exact ⟨rfl, (by repeat (first | (with_reducible exact Below.refl _ _) | (with_reducible assumption) | refine Below.setCell ?_ (by first | omega | (simp; omega) | (simp; done)) _ | refine Below.alloc ?_ (by first | omega | (simp; omega) | (simp; done)) _ | refine Below.drew ?_))⟩
      | true =>
        have e1 : Sp.soundB l h f n true fault = Sp.inB n l h := by simp only [Sp.soundB, h8, h0, hr]; rfl
        rw [e1]
        clear e1
        go_enter Try.func40, Try.ntmps40
        go_wp2_with (first
          | (go_at_call 9; refine (right_any _ _ _).mono ?_; rintro e w1 ⟨rfl, hw1⟩; have hz := hw1.size; (try simp at hz); have hB : Below w.heap.size w w1 := Below.call (w := w) (by repeat (first | (with_reducible exact Below.refl _ _) | (with_reducible assumption) | refine Below.setCell ?_ (by first | omega | (simp; omega) | (simp; done)) _ | refine Below.alloc ?_ (by first | omega | (simp; omega) | (simp; done)) _ | refine Below.drew ?_)) hw1; (try obtain ⟨k1, k2, k3⟩ := keepB hw1 (w.heap.size) (by first | omega | (simp; omega) | (simp; done))))
          | (go_at_call 38; refine (in_any _ _ _ _).mono ?_; rintro e w1 ⟨rfl, hw1⟩; have hz := hw1.size; (try simp at hz); have hB : Below w.heap.size w w1 := Below.call (w := w) (by repeat (first | (with_reducible exact Below.refl _ _) | (with_reducible assumption) | refine Below.setCell ?_ (by first | omega | (simp; omega) | (simp; done)) _ | refine Below.alloc ?_ (by first | omega | (simp; omega) | (simp; done)) _ | refine Below.drew ?_)) hw1; (try obtain ⟨k1, k2, k3⟩ := keepB hw1 (w.heap.size) (by first | omega | (simp; omega) | (simp; done)))))
        go_ret
        exact ⟨rfl, (by repeat (first | (with_reducible exact Below.refl _ _) | (with_reducible assumption) | refine Below.setCell ?_ (by first | omega | (simp; omega) | (simp; done)) _ | refine Below.alloc ?_ (by first | omega | (simp; omega) | (simp; done)) _ | refine Below.drew ?_))⟩
  | false =>
    cases ok with
    | true =>
      have e1 : Sp.soundB l h f n true fault = false := by simp only [Sp.soundB, h8, h0]; rfl
      rw [e1]
      clear e1
      go_enter Try.func40, Try.ntmps40
      go_wp2
      go_ret
      exact ⟨rfl, (by repeat (first | (with_reducible exact Below.refl _ _) | (with_reducible assumption) | refine Below.setCell ?_ (by first | omega | (simp; omega) | (simp; done)) _ | refine Below.alloc ?_ (by first | omega | (simp; omega) | (simp; done)) _ | refine Below.drew ?_))⟩
    | false =>
      cases hf : (f == fault) <;> cases hl : (l == 0) <;> cases hh : (h == 0)
      all_goals
        have e1 : Sp.soundB l h f n false fault = ((f == fault) && ((l == 0) && (h == 0))) := by simp only [Sp.soundB, h8, h0, Sp.nilB]; rfl
        rw [hf, hl, hh] at e1
        rw [e1]
        clear e1
        go_enter Try.func40, Try.ntmps40
        go_wp2
        go_ret
        exact ⟨rfl, (by repeat (first | (with_reducible exact Below.refl _ _) | (with_reducible assumption) | refine Below.setCell ?_ (by first | omega | (simp; omega) | (simp; done)) _ | refine Below.alloc ?_ (by first | omega | (simp; omega) | (simp; done)) _ | refine Below.drew ?_))⟩

set_option maxHeartbeats 1600000 in
theorem exact_any (l h f n : Int) (ok : Bool) (fault : Int) (w : World) :
    Calls Try.prog 47 #[.agg #[.int .i64 l, .int .i64 h], .int .i64 f, .int .i64 n, .bool ok, .int .i64 fault] w fun e w' => e = .returned (.bool (Sp.exactB l h f n ok fault)) ∧ Below w.heap.size w w' := by
  cases ok with
  | false =>
    cases hf : (f == fault) <;> cases hl : (l == 0) <;> cases hh : (h == 0)
    all_goals
      have e1 : Sp.exactB l h f n false fault = ((f == fault) && ((l == 0) && (h == 0))) := by simp only [Sp.exactB, Sp.nilB]; rfl
      rw [hf, hl, hh] at e1
      rw [e1]
      clear e1
      go_enter Try.func47, Try.ntmps47
      go_wp2
      go_ret
      exact ⟨rfl, (by repeat (first | (with_reducible exact Below.refl _ _) | (with_reducible assumption) | refine Below.setCell ?_ (by first | omega | (simp; omega) | (simp; done)) _ | refine Below.alloc ?_ (by first | omega | (simp; omega) | (simp; done)) _ | refine Below.drew ?_))⟩
  | true =>
    cases hf : (f == 0) <;> cases hl : (l == n) <;> cases hh : (h == n)
    all_goals
      have e1 : Sp.exactB l h f n true fault = ((f == 0) && ((l == n) && (h == n))) := by simp only [Sp.exactB]; rfl
      rw [hf, hl, hh] at e1
      rw [e1]
      clear e1
      go_enter Try.func47, Try.ntmps47
      go_wp2
      go_ret
      exact ⟨rfl, (by repeat (first | (with_reducible exact Below.refl _ _) | (with_reducible assumption) | refine Below.setCell ?_ (by first | omega | (simp; omega) | (simp; done)) _ | refine Below.alloc ?_ (by first | omega | (simp; omega) | (simp; done)) _ | refine Below.drew ?_))⟩
end Go.Proofs.Ytjdppnkmhgihnaa
