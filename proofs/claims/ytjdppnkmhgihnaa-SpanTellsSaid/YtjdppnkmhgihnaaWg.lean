/- The contracts of span.Mod (all inputs), Neg, Less, LessEq, Equal, Of, Value. -/
import Derived.Test.YtjdppnkmhgihnaaWf
namespace Go.Proofs.Ytjdppnkmhgihnaa
open Go.RowKit

namespace Sp
def ofOk (k n m : Int) : Bool := if k = 3 then right n n else if k = 10 then right n m else false
def ofLo (k n m : Int) : Int := if ofOk k n m then n else 0
def ofHi (k n m : Int) : Int := if ofOk k n m then (if k = 3 then n else m) else 0
def valK (l h : Int) : Int := if right l h then (if l = h then 3 else 10) else 0
def valN (l h : Int) : Int := if right l h then l else 0
def valM (l h : Int) : Int := if right l h then (if l = h then 0 else h) else 0
end Sp

set_option maxHeartbeats 1600000 in
theorem mod_bad1 (al ah bl bh : Int) (w : World) (ha : Sp.right al ah = false) :
    Calls Try.prog 16 #[.agg #[.int .i64 al, .int .i64 ah], .agg #[.int .i64 bl, .int .i64 bh]] w fun e w' => e = .returned (rv (Sp.mod al ah bl bh)) ∧ Below w.heap.size w w' := by
  have hfin : Sp.mod al ah bl bh = ⟨0, 0, 1⟩ := by simp [Sp.mod, ha]
  rw [hfin]
  clear hfin
  go_enter Try.func16, Try.ntmps16
  go_wp2_with (first
    | (go_at_call 9; refine (right_any _ _ _).mono ?_; rintro e w1 ⟨rfl, hw1⟩; have hz := hw1.size; (try simp at hz); have hB : Below w.heap.size w w1 := Below.call (w := w) (by repeat (first | (with_reducible exact Below.refl _ _) | (with_reducible assumption) | refine Below.setCell ?_ (by first | omega | (simp; omega) | (simp; done)) _ | refine Below.alloc ?_ (by first | omega | (simp; omega) | (simp; done)) _ | refine Below.drew ?_)) hw1; (try obtain ⟨k1, k2, k3⟩ := keepB hw1 (w.heap.size) (by first | omega | (simp; omega) | (simp; done))); (try obtain ⟨k1, k2, k3⟩ := keepB hw1 (w.heap.size + 1) (by first | omega | (simp; omega) | (simp; done))); (try obtain ⟨k1, k2, k3⟩ := keepB hw1 (w.heap.size + 1 + 1) (by first | omega | (simp; omega) | (simp; done)))))
  refine bodyPost_ret (v := rv (⟨0, 0, 1⟩)) (by simp [results, Try.results16, go_sem, *]) rfl ⟨rfl, ?_⟩
  exact (by repeat (first | (with_reducible exact Below.refl _ _) | (with_reducible assumption) | refine Below.setCell ?_ (by first | omega | (simp; omega) | (simp; done)) _ | refine Below.alloc ?_ (by first | omega | (simp; omega) | (simp; done)) _ | refine Below.drew ?_))

set_option maxHeartbeats 1600000 in
theorem mod_bad2 (al ah bl bh : Int) (w : World) (ha : Sp.right al ah = true) (hb : Sp.right bl bh = false) :
    Calls Try.prog 16 #[.agg #[.int .i64 al, .int .i64 ah], .agg #[.int .i64 bl, .int .i64 bh]] w fun e w' => e = .returned (rv (Sp.mod al ah bl bh)) ∧ Below w.heap.size w w' := by
  have hfin : Sp.mod al ah bl bh = ⟨0, 0, 1⟩ := by simp [Sp.mod, ha, hb]
  rw [hfin]
  clear hfin
  go_enter Try.func16, Try.ntmps16
  go_wp2_with (first
    | (go_at_call 9; refine (right_any _ _ _).mono ?_; rintro e w1 ⟨rfl, hw1⟩; have hz := hw1.size; (try simp at hz); have hB : Below w.heap.size w w1 := Below.call (w := w) (by repeat (first | (with_reducible exact Below.refl _ _) | (with_reducible assumption) | refine Below.setCell ?_ (by first | omega | (simp; omega) | (simp; done)) _ | refine Below.alloc ?_ (by first | omega | (simp; omega) | (simp; done)) _ | refine Below.drew ?_)) hw1; (try obtain ⟨k1, k2, k3⟩ := keepB hw1 (w.heap.size) (by first | omega | (simp; omega) | (simp; done))); (try obtain ⟨k1, k2, k3⟩ := keepB hw1 (w.heap.size + 1) (by first | omega | (simp; omega) | (simp; done))); (try obtain ⟨k1, k2, k3⟩ := keepB hw1 (w.heap.size + 1 + 1) (by first | omega | (simp; omega) | (simp; done)))))
  refine bodyPost_ret (v := rv (⟨0, 0, 1⟩)) (by simp [results, Try.results16, go_sem, *]) rfl ⟨rfl, ?_⟩
  exact (by repeat (first | (with_reducible exact Below.refl _ _) | (with_reducible assumption) | refine Below.setCell ?_ (by first | omega | (simp; omega) | (simp; done)) _ | refine Below.alloc ?_ (by first | omega | (simp; omega) | (simp; done)) _ | refine Below.drew ?_))

theorem mod_any (al ah bl bh : Int) (w : World) :
    Calls Try.prog 16 #[.agg #[.int .i64 al, .int .i64 ah], .agg #[.int .i64 bl, .int .i64 bh]] w fun e w' => e = .returned (rv (Sp.mod al ah bl bh)) ∧ Below w.heap.size w w' := by
  cases ha : Sp.right al ah with
  | false => exact mod_bad1 al ah bl bh w ha
  | true =>
    cases hb : Sp.right bl bh with
    | false => exact mod_bad2 al ah bl bh w ha hb
    | true => exact mod_ok al ah bl bh w ha hb

set_option maxHeartbeats 800000 in
theorem neg_true (al ah : Int) (w : World) (ha : Sp.right al ah = true) :
    Calls Try.prog 20 #[.agg #[.int .i64 al, .int .i64 ah]] w fun e w' => e = .returned (rv (Sp.neg al ah)) ∧ Below w.heap.size w w' := by
  have hfin : Sp.neg al ah = ⟨-ah, -al, 0⟩ := by simp [Sp.neg, ha]
  rw [hfin]
  clear hfin
  obtain ⟨a1, a2, a3⟩ := right_bd ha
  go_enter Try.func20, Try.ntmps20
  go_wp2_with (first
    | (go_at_call 9; refine (right_any _ _ _).mono ?_; rintro e w1 ⟨rfl, hw1⟩; have hz := hw1.size; (try simp at hz); have hB : Below w.heap.size w w1 := Below.call (w := w) (by repeat (first | (with_reducible exact Below.refl _ _) | (with_reducible assumption) | refine Below.setCell ?_ (by first | omega | (simp; omega) | (simp; done)) _ | refine Below.alloc ?_ (by first | omega | (simp; omega) | (simp; done)) _ | refine Below.drew ?_)) hw1; (try obtain ⟨k1, k2, k3⟩ := keepB hw1 (w.heap.size) (by first | omega | (simp; omega) | (simp; done))); (try obtain ⟨k1, k2, k3⟩ := keepB hw1 (w.heap.size + 1) (by first | omega | (simp; omega) | (simp; done)))))
  refine bodyPost_ret (v := rv (⟨-ah, -al, 0⟩)) (by simp [results, Try.results20, go_sem, *]) rfl ⟨rfl, ?_⟩
  exact (by repeat (first | (with_reducible exact Below.refl _ _) | (with_reducible assumption) | refine Below.setCell ?_ (by first | omega | (simp; omega) | (simp; done)) _ | refine Below.alloc ?_ (by first | omega | (simp; omega) | (simp; done)) _ | refine Below.drew ?_))

set_option maxHeartbeats 800000 in
theorem neg_false (al ah : Int) (w : World) (ha : Sp.right al ah = false) :
    Calls Try.prog 20 #[.agg #[.int .i64 al, .int .i64 ah]] w fun e w' => e = .returned (rv (Sp.neg al ah)) ∧ Below w.heap.size w w' := by
  have hfin : Sp.neg al ah = ⟨0, 0, 1⟩ := by simp [Sp.neg, ha]
  rw [hfin]
  clear hfin
  go_enter Try.func20, Try.ntmps20
  go_wp2_with (first
    | (go_at_call 9; refine (right_any _ _ _).mono ?_; rintro e w1 ⟨rfl, hw1⟩; have hz := hw1.size; (try simp at hz); have hB : Below w.heap.size w w1 := Below.call (w := w) (by repeat (first | (with_reducible exact Below.refl _ _) | (with_reducible assumption) | refine Below.setCell ?_ (by first | omega | (simp; omega) | (simp; done)) _ | refine Below.alloc ?_ (by first | omega | (simp; omega) | (simp; done)) _ | refine Below.drew ?_)) hw1; (try obtain ⟨k1, k2, k3⟩ := keepB hw1 (w.heap.size) (by first | omega | (simp; omega) | (simp; done))); (try obtain ⟨k1, k2, k3⟩ := keepB hw1 (w.heap.size + 1) (by first | omega | (simp; omega) | (simp; done)))))
  refine bodyPost_ret (v := rv (⟨0, 0, 1⟩)) (by simp [results, Try.results20, go_sem, *]) rfl ⟨rfl, ?_⟩
  exact (by repeat (first | (with_reducible exact Below.refl _ _) | (with_reducible assumption) | refine Below.setCell ?_ (by first | omega | (simp; omega) | (simp; done)) _ | refine Below.alloc ?_ (by first | omega | (simp; omega) | (simp; done)) _ | refine Below.drew ?_))

theorem neg_any (al ah : Int) (w : World) :
    Calls Try.prog 20 #[.agg #[.int .i64 al, .int .i64 ah]] w fun e w' => e = .returned (rv (Sp.neg al ah)) ∧ Below w.heap.size w w' := by
  cases ha : Sp.right al ah with
  | false => exact neg_false al ah w ha
  | true => exact neg_true al ah w ha

set_option maxHeartbeats 800000 in
theorem less_any (al ah bl bh : Int) (w : World) :
    Calls Try.prog 17 #[.agg #[.int .i64 al, .int .i64 ah], .agg #[.int .i64 bl, .int .i64 bh]] w fun e w' => e = .returned (.int .i64 (Sp.less al ah bl bh)) ∧ Below w.heap.size w w' := by
  go_enter Try.func17, Try.ntmps17
  go_wp2
  all_goals
    go_ret
    refine ⟨ret_int ?_, ((Below.refl _ _).alloc (Nat.le_refl _) _).alloc (by simp) _⟩
    unfold Sp.less
    repeat' split
    all_goals first | rfl | (exfalso; omega)

set_option maxHeartbeats 800000 in
theorem lessEq_any (al ah bl bh : Int) (w : World) :
    Calls Try.prog 18 #[.agg #[.int .i64 al, .int .i64 ah], .agg #[.int .i64 bl, .int .i64 bh]] w fun e w' => e = .returned (.int .i64 (Sp.lessEq al ah bl bh)) ∧ Below w.heap.size w w' := by
  go_enter Try.func18, Try.ntmps18
  go_wp2
  all_goals
    go_ret
    refine ⟨ret_int ?_, ((Below.refl _ _).alloc (Nat.le_refl _) _).alloc (by simp) _⟩
    unfold Sp.lessEq
    repeat' split
    all_goals first | rfl | (exfalso; omega)

set_option maxHeartbeats 800000 in
theorem equal_any (al ah bl bh : Int) (w : World) :
    Calls Try.prog 19 #[.agg #[.int .i64 al, .int .i64 ah], .agg #[.int .i64 bl, .int .i64 bh]] w fun e w' => e = .returned (.int .i64 (Sp.equal al ah bl bh)) ∧ Below w.heap.size w w' := by
  go_enter Try.func19, Try.ntmps19
  go_wp2
  all_goals
    go_ret
    refine ⟨ret_int ?_, ((Below.refl _ _).alloc (Nat.le_refl _) _).alloc (by simp) _⟩
    unfold Sp.equal
    repeat' split
    all_goals first | rfl | (exfalso; omega)

/-- api.Value as a value -/
abbrev av (k : Int) (t : ByteArray) (n m : Int) (s : ByteArray) (a : Option Addr) (l c : Nat) : Value := .agg #[.int .i64 k, .string t, .int .i64 n, .int .i64 m, .string s, .slice a l c]

set_option maxHeartbeats 800000 in
theorem of_int (k : Int) (t : ByteArray) (n m : Int) (s : ByteArray) (a : Option Addr) (l c : Nat) (w : World) (hk : (k == 3) = true) (hr : Sp.right n n = true) :
    Calls Try.prog 29 #[av k t n m s a l c] w fun e w' => e = .returned (.tuple #[.agg #[.int .i64 (n), .int .i64 (n)], .bool true]) ∧ Below w.heap.size w w' := by
  go_enter Try.func29, Try.ntmps29
  go_wp2_with (first
    | (go_at_call 9; refine (right_any _ _ _).mono ?_; rintro e w1 ⟨rfl, hw1⟩; have hz := hw1.size; (try simp at hz); have hB : Below w.heap.size w w1 := Below.call (w := w) (by repeat (first | (with_reducible exact Below.refl _ _) | (with_reducible assumption) | refine Below.setCell ?_ (by first | omega | (simp; omega) | (simp; done)) _ | refine Below.alloc ?_ (by first | omega | (simp; omega) | (simp; done)) _ | refine Below.drew ?_)) hw1; (try obtain ⟨k1, k2, k3⟩ := keepB hw1 (w.heap.size) (by first | omega | (simp; omega) | (simp; done))); (try obtain ⟨k1, k2, k3⟩ := keepB hw1 (w.heap.size + 1) (by first | omega | (simp; omega) | (simp; done))); (try obtain ⟨k1, k2, k3⟩ := keepB hw1 (w.heap.size + 1 + 1) (by first | omega | (simp; omega) | (simp; done)))))
  refine bodyPost_ret (v := .tuple #[.agg #[.int .i64 (n), .int .i64 (n)], .bool true]) (by simp [results, Try.results29, go_sem, *]) rfl ⟨rfl, ?_⟩
  exact (by repeat (first | (with_reducible exact Below.refl _ _) | (with_reducible assumption) | refine Below.setCell ?_ (by first | omega | (simp; omega) | (simp; done)) _ | refine Below.alloc ?_ (by first | omega | (simp; omega) | (simp; done)) _ | refine Below.drew ?_))

set_option maxHeartbeats 800000 in
theorem of_intbad (k : Int) (t : ByteArray) (n m : Int) (s : ByteArray) (a : Option Addr) (l c : Nat) (w : World) (hk : (k == 3) = true) (hr : Sp.right n n = false) :
    Calls Try.prog 29 #[av k t n m s a l c] w fun e w' => e = .returned (.tuple #[.agg #[.int .i64 (0), .int .i64 (0)], .bool false]) ∧ Below w.heap.size w w' := by
  go_enter Try.func29, Try.ntmps29
  go_wp2_with (first
    | (go_at_call 9; refine (right_any _ _ _).mono ?_; rintro e w1 ⟨rfl, hw1⟩; have hz := hw1.size; (try simp at hz); have hB : Below w.heap.size w w1 := Below.call (w := w) (by repeat (first | (with_reducible exact Below.refl _ _) | (with_reducible assumption) | refine Below.setCell ?_ (by first | omega | (simp; omega) | (simp; done)) _ | refine Below.alloc ?_ (by first | omega | (simp; omega) | (simp; done)) _ | refine Below.drew ?_)) hw1; (try obtain ⟨k1, k2, k3⟩ := keepB hw1 (w.heap.size) (by first | omega | (simp; omega) | (simp; done))); (try obtain ⟨k1, k2, k3⟩ := keepB hw1 (w.heap.size + 1) (by first | omega | (simp; omega) | (simp; done))); (try obtain ⟨k1, k2, k3⟩ := keepB hw1 (w.heap.size + 1 + 1) (by first | omega | (simp; omega) | (simp; done)))))
  refine bodyPost_ret (v := .tuple #[.agg #[.int .i64 (0), .int .i64 (0)], .bool false]) (by simp [results, Try.results29, go_sem, *]) rfl ⟨rfl, ?_⟩
  exact (by repeat (first | (with_reducible exact Below.refl _ _) | (with_reducible assumption) | refine Below.setCell ?_ (by first | omega | (simp; omega) | (simp; done)) _ | refine Below.alloc ?_ (by first | omega | (simp; omega) | (simp; done)) _ | refine Below.drew ?_))

set_option maxHeartbeats 800000 in
theorem of_span (k : Int) (t : ByteArray) (n m : Int) (s : ByteArray) (a : Option Addr) (l c : Nat) (w : World) (hk0 : (k == 3) = false) (hk : (k == 10) = true) (hr : Sp.right n m = true) :
    Calls Try.prog 29 #[av k t n m s a l c] w fun e w' => e = .returned (.tuple #[.agg #[.int .i64 (n), .int .i64 (m)], .bool true]) ∧ Below w.heap.size w w' := by
  go_enter Try.func29, Try.ntmps29
  go_wp2_with (first
    | (go_at_call 9; refine (right_any _ _ _).mono ?_; rintro e w1 ⟨rfl, hw1⟩; have hz := hw1.size; (try simp at hz); have hB : Below w.heap.size w w1 := Below.call (w := w) (by repeat (first | (with_reducible exact Below.refl _ _) | (with_reducible assumption) | refine Below.setCell ?_ (by first | omega | (simp; omega) | (simp; done)) _ | refine Below.alloc ?_ (by first | omega | (simp; omega) | (simp; done)) _ | refine Below.drew ?_)) hw1; (try obtain ⟨k1, k2, k3⟩ := keepB hw1 (w.heap.size) (by first | omega | (simp; omega) | (simp; done))); (try obtain ⟨k1, k2, k3⟩ := keepB hw1 (w.heap.size + 1) (by first | omega | (simp; omega) | (simp; done))); (try obtain ⟨k1, k2, k3⟩ := keepB hw1 (w.heap.size + 1 + 1) (by first | omega | (simp; omega) | (simp; done)))))
  refine bodyPost_ret (v := .tuple #[.agg #[.int .i64 (n), .int .i64 (m)], .bool true]) (by simp [results, Try.results29, go_sem, *]) rfl ⟨rfl, ?_⟩
  exact (by repeat (first | (with_reducible exact Below.refl _ _) | (with_reducible assumption) | refine Below.setCell ?_ (by first | omega | (simp; omega) | (simp; done)) _ | refine Below.alloc ?_ (by first | omega | (simp; omega) | (simp; done)) _ | refine Below.drew ?_))

set_option maxHeartbeats 800000 in
theorem of_spanbad (k : Int) (t : ByteArray) (n m : Int) (s : ByteArray) (a : Option Addr) (l c : Nat) (w : World) (hk0 : (k == 3) = false) (hk : (k == 10) = true) (hr : Sp.right n m = false) :
    Calls Try.prog 29 #[av k t n m s a l c] w fun e w' => e = .returned (.tuple #[.agg #[.int .i64 (0), .int .i64 (0)], .bool false]) ∧ Below w.heap.size w w' := by
  go_enter Try.func29, Try.ntmps29
  go_wp2_with (first
    | (go_at_call 9; refine (right_any _ _ _).mono ?_; rintro e w1 ⟨rfl, hw1⟩; have hz := hw1.size; (try simp at hz); have hB : Below w.heap.size w w1 := Below.call (w := w) (by repeat (first | (with_reducible exact Below.refl _ _) | (with_reducible assumption) | refine Below.setCell ?_ (by first | omega | (simp; omega) | (simp; done)) _ | refine Below.alloc ?_ (by first | omega | (simp; omega) | (simp; done)) _ | refine Below.drew ?_)) hw1; (try obtain ⟨k1, k2, k3⟩ := keepB hw1 (w.heap.size) (by first | omega | (simp; omega) | (simp; done))); (try obtain ⟨k1, k2, k3⟩ := keepB hw1 (w.heap.size + 1) (by first | omega | (simp; omega) | (simp; done))); (try obtain ⟨k1, k2, k3⟩ := keepB hw1 (w.heap.size + 1 + 1) (by first | omega | (simp; omega) | (simp; done)))))
  refine bodyPost_ret (v := .tuple #[.agg #[.int .i64 (0), .int .i64 (0)], .bool false]) (by simp [results, Try.results29, go_sem, *]) rfl ⟨rfl, ?_⟩
  exact (by repeat (first | (with_reducible exact Below.refl _ _) | (with_reducible assumption) | refine Below.setCell ?_ (by first | omega | (simp; omega) | (simp; done)) _ | refine Below.alloc ?_ (by first | omega | (simp; omega) | (simp; done)) _ | refine Below.drew ?_))

set_option maxHeartbeats 800000 in
theorem of_no (k : Int) (t : ByteArray) (n m : Int) (s : ByteArray) (a : Option Addr) (l c : Nat) (w : World) (hk0 : (k == 3) = false) (hk : (k == 10) = false) :
    Calls Try.prog 29 #[av k t n m s a l c] w fun e w' => e = .returned (.tuple #[.agg #[.int .i64 (0), .int .i64 (0)], .bool false]) ∧ Below w.heap.size w w' := by
  go_enter Try.func29, Try.ntmps29
  go_wp2_with (first
    | (go_at_call 9; refine (right_any _ _ _).mono ?_; rintro e w1 ⟨rfl, hw1⟩; have hz := hw1.size; (try simp at hz); have hB : Below w.heap.size w w1 := Below.call (w := w) (by repeat (first | (with_reducible exact Below.refl _ _) | (with_reducible assumption) | refine Below.setCell ?_ (by first | omega | (simp; omega) | (simp; done)) _ | refine Below.alloc ?_ (by first | omega | (simp; omega) | (simp; done)) _ | refine Below.drew ?_)) hw1; (try obtain ⟨k1, k2, k3⟩ := keepB hw1 (w.heap.size) (by first | omega | (simp; omega) | (simp; done))); (try obtain ⟨k1, k2, k3⟩ := keepB hw1 (w.heap.size + 1) (by first | omega | (simp; omega) | (simp; done))); (try obtain ⟨k1, k2, k3⟩ := keepB hw1 (w.heap.size + 1 + 1) (by first | omega | (simp; omega) | (simp; done)))))
  refine bodyPost_ret (v := .tuple #[.agg #[.int .i64 (0), .int .i64 (0)], .bool false]) (by simp [results, Try.results29, go_sem, *]) rfl ⟨rfl, ?_⟩
  exact (by repeat (first | (with_reducible exact Below.refl _ _) | (with_reducible assumption) | refine Below.setCell ?_ (by first | omega | (simp; omega) | (simp; done)) _ | refine Below.alloc ?_ (by first | omega | (simp; omega) | (simp; done)) _ | refine Below.drew ?_))

theorem of_any (k : Int) (t : ByteArray) (n m : Int) (s : ByteArray) (a : Option Addr) (l c : Nat) (w : World) :
    Calls Try.prog 29 #[av k t n m s a l c] w fun e w' => e = .returned (.tuple #[.agg #[.int .i64 (Sp.ofLo k n m), .int .i64 (Sp.ofHi k n m)], .bool (Sp.ofOk k n m)]) ∧ Below w.heap.size w w' := by
  cases h3 : (k == 3) with
  | true =>
    have h3' : k = 3 := by simpa using h3
    cases hr : Sp.right n n with
    | true =>
      have e1 : Sp.ofOk k n m = true := by simp [Sp.ofOk, h3', hr]
      have e2 : Sp.ofLo k n m = n := by simp [Sp.ofLo, e1]
      have e3 : Sp.ofHi k n m = n := by rw [Sp.ofHi, e1]; simp [h3']
      rw [e1, e2, e3]; exact of_int k t n m s a l c w h3 hr
    | false =>
      have e1 : Sp.ofOk k n m = false := by simp [Sp.ofOk, h3', hr]
      have e2 : Sp.ofLo k n m = 0 := by simp [Sp.ofLo, e1]
      have e3 : Sp.ofHi k n m = 0 := by simp [Sp.ofHi, e1]
      rw [e1, e2, e3]; exact of_intbad k t n m s a l c w h3 hr
  | false =>
    have h3' : k ≠ 3 := by simpa using h3
    cases h10 : (k == 10) with
    | true =>
      have h10' : k = 10 := by simpa using h10
      cases hr : Sp.right n m with
      | true =>
        have e1 : Sp.ofOk k n m = true := by simp [Sp.ofOk, h10', hr]
        have e2 : Sp.ofLo k n m = n := by simp [Sp.ofLo, e1]
        have e3 : Sp.ofHi k n m = m := by simp [Sp.ofHi, e1, h3']
        rw [e1, e2, e3]; exact of_span k t n m s a l c w h3 h10 hr
      | false =>
        have e1 : Sp.ofOk k n m = false := by simp [Sp.ofOk, h10', hr]
        have e2 : Sp.ofLo k n m = 0 := by simp [Sp.ofLo, e1]
        have e3 : Sp.ofHi k n m = 0 := by simp [Sp.ofHi, e1]
        rw [e1, e2, e3]; exact of_spanbad k t n m s a l c w h3 h10 hr
    | false =>
      have h10' : k ≠ 10 := by simpa using h10
      have e1 : Sp.ofOk k n m = false := by simp [Sp.ofOk, h3', h10']
      have e2 : Sp.ofLo k n m = 0 := by simp [Sp.ofLo, e1]
      have e3 : Sp.ofHi k n m = 0 := by simp [Sp.ofHi, e1]
      rw [e1, e2, e3]; exact of_no k t n m s a l c w h3 h10

set_option maxHeartbeats 800000 in
theorem value_bad (l h : Int) (w : World) (hr : Sp.right l h = false) :
    Calls Try.prog 36 #[.agg #[.int .i64 l, .int .i64 h]] w fun e w' => e = .returned (av 0 ⟨#[]⟩ 0 0 ⟨#[]⟩ none 0 0) ∧ Below w.heap.size w w' := by
  go_enter Try.func36, Try.ntmps36
  go_wp2_with (first
    | (go_at_call 9; refine (right_any _ _ _).mono ?_; rintro e w1 ⟨rfl, hw1⟩; have hz := hw1.size; (try simp at hz); have hB : Below w.heap.size w w1 := Below.call (w := w) (by repeat (first | (with_reducible exact Below.refl _ _) | (with_reducible assumption) | refine Below.setCell ?_ (by first | omega | (simp; omega) | (simp; done)) _ | refine Below.alloc ?_ (by first | omega | (simp; omega) | (simp; done)) _ | refine Below.drew ?_)) hw1; (try obtain ⟨k1, k2, k3⟩ := keepB hw1 (w.heap.size) (by first | omega | (simp; omega) | (simp; done))); (try obtain ⟨k1, k2, k3⟩ := keepB hw1 (w.heap.size + 1) (by first | omega | (simp; omega) | (simp; done)))))
  refine bodyPost_ret (v := av 0 ⟨#[]⟩ 0 0 ⟨#[]⟩ none 0 0) (by simp [results, Try.results36, go_sem, *]) rfl ⟨rfl, ?_⟩
  exact (by repeat (first | (with_reducible exact Below.refl _ _) | (with_reducible assumption) | refine Below.setCell ?_ (by first | omega | (simp; omega) | (simp; done)) _ | refine Below.alloc ?_ (by first | omega | (simp; omega) | (simp; done)) _ | refine Below.drew ?_))

set_option maxHeartbeats 800000 in
theorem value_point (l h : Int) (w : World) (hr : Sp.right l h = true) (he : (l == h) = true) :
    Calls Try.prog 36 #[.agg #[.int .i64 l, .int .i64 h]] w fun e w' => e = .returned (av 3 ⟨#[]⟩ l 0 ⟨#[]⟩ none 0 0) ∧ Below w.heap.size w w' := by
  go_enter Try.func36, Try.ntmps36
  go_wp2_with (first
    | (go_at_call 9; refine (right_any _ _ _).mono ?_; rintro e w1 ⟨rfl, hw1⟩; have hz := hw1.size; (try simp at hz); have hB : Below w.heap.size w w1 := Below.call (w := w) (by repeat (first | (with_reducible exact Below.refl _ _) | (with_reducible assumption) | refine Below.setCell ?_ (by first | omega | (simp; omega) | (simp; done)) _ | refine Below.alloc ?_ (by first | omega | (simp; omega) | (simp; done)) _ | refine Below.drew ?_)) hw1; (try obtain ⟨k1, k2, k3⟩ := keepB hw1 (w.heap.size) (by first | omega | (simp; omega) | (simp; done))); (try obtain ⟨k1, k2, k3⟩ := keepB hw1 (w.heap.size + 1) (by first | omega | (simp; omega) | (simp; done)))))
  refine bodyPost_ret (v := av 3 ⟨#[]⟩ l 0 ⟨#[]⟩ none 0 0) (by simp [results, Try.results36, go_sem, *]) rfl ⟨rfl, ?_⟩
  exact (by repeat (first | (with_reducible exact Below.refl _ _) | (with_reducible assumption) | refine Below.setCell ?_ (by first | omega | (simp; omega) | (simp; done)) _ | refine Below.alloc ?_ (by first | omega | (simp; omega) | (simp; done)) _ | refine Below.drew ?_))

set_option maxHeartbeats 800000 in
theorem value_wide (l h : Int) (w : World) (hr : Sp.right l h = true) (he : (l == h) = false) :
    Calls Try.prog 36 #[.agg #[.int .i64 l, .int .i64 h]] w fun e w' => e = .returned (av 10 ⟨#[]⟩ l h ⟨#[]⟩ none 0 0) ∧ Below w.heap.size w w' := by
  go_enter Try.func36, Try.ntmps36
  go_wp2_with (first
    | (go_at_call 9; refine (right_any _ _ _).mono ?_; rintro e w1 ⟨rfl, hw1⟩; have hz := hw1.size; (try simp at hz); have hB : Below w.heap.size w w1 := Below.call (w := w) (by repeat (first | (with_reducible exact Below.refl _ _) | (with_reducible assumption) | refine Below.setCell ?_ (by first | omega | (simp; omega) | (simp; done)) _ | refine Below.alloc ?_ (by first | omega | (simp; omega) | (simp; done)) _ | refine Below.drew ?_)) hw1; (try obtain ⟨k1, k2, k3⟩ := keepB hw1 (w.heap.size) (by first | omega | (simp; omega) | (simp; done))); (try obtain ⟨k1, k2, k3⟩ := keepB hw1 (w.heap.size + 1) (by first | omega | (simp; omega) | (simp; done)))))
  refine bodyPost_ret (v := av 10 ⟨#[]⟩ l h ⟨#[]⟩ none 0 0) (by simp [results, Try.results36, go_sem, *]) rfl ⟨rfl, ?_⟩
  exact (by repeat (first | (with_reducible exact Below.refl _ _) | (with_reducible assumption) | refine Below.setCell ?_ (by first | omega | (simp; omega) | (simp; done)) _ | refine Below.alloc ?_ (by first | omega | (simp; omega) | (simp; done)) _ | refine Below.drew ?_))

theorem value_any (l h : Int) (w : World) :
    Calls Try.prog 36 #[.agg #[.int .i64 l, .int .i64 h]] w fun e w' => e = .returned (av (Sp.valK l h) ⟨#[]⟩ (Sp.valN l h) (Sp.valM l h) ⟨#[]⟩ none 0 0) ∧ Below w.heap.size w w' := by
  cases hr : Sp.right l h with
  | false =>
    have e1 : Sp.valK l h = 0 := by simp [Sp.valK, hr]
    have e2 : Sp.valN l h = 0 := by simp [Sp.valN, hr]
    have e3 : Sp.valM l h = 0 := by simp [Sp.valM, hr]
    rw [e1, e2, e3]; exact value_bad l h w hr
  | true =>
    cases he : (l == h) with
    | true =>
      have he' : l = h := by simpa using he
      have e1 : Sp.valK l h = 3 := by rw [Sp.valK, hr]; simp [he']
      have e2 : Sp.valN l h = l := by simp [Sp.valN, hr]
      have e3 : Sp.valM l h = 0 := by simp [Sp.valM, he']
      rw [e1, e2, e3]; exact value_point l h w hr he
    | false =>
      have he' : l ≠ h := by simpa using he
      have e1 : Sp.valK l h = 10 := by simp [Sp.valK, hr, he']
      have e2 : Sp.valN l h = l := by simp [Sp.valN, hr]
      have e3 : Sp.valM l h = h := by simp [Sp.valM, hr, he']
      rw [e1, e2, e3]; exact value_wide l h w hr he
end Go.Proofs.Ytjdppnkmhgihnaa
