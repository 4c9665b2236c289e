/- The contracts of the reference's Of and Value, of value.Equal on values without lists, and of alike. -/
import Derived.Test.YtjdppnkmhgihnaaRd
namespace Go.Proofs.Ytjdppnkmhgihnaa
open Go.RowKit

theorem rvalue_any (l h : Int) (w : World) :
    Calls Try.prog 37 #[.agg #[.int .i64 l, .int .i64 h]] w fun e w' => e = .returned (av (Sp.valK l h) ⟨#[]⟩ (Sp.valN l h) (Sp.valM l h) ⟨#[]⟩ none 0 0) ∧ Below w.heap.size w w' := by
  cases hr : Sp.right l h with
  | false =>
    have e1 : Sp.valK l h = 0 := by simp [Sp.valK, hr]
    have e2 : Sp.valN l h = 0 := by simp [Sp.valN, hr]
    have e3 : Sp.valM l h = 0 := by simp [Sp.valM, hr]
    rw [e1, e2, e3]; exact rvalue_bad l h w hr
  | true =>
    cases he : (l == h) with
    | true =>
      have he' : l = h := by simpa using he
      have e1 : Sp.valK l h = 3 := by rw [Sp.valK, hr]; simp [he']
      have e2 : Sp.valN l h = l := by simp [Sp.valN, hr]
      have e3 : Sp.valM l h = 0 := by simp [Sp.valM, he']
      rw [e1, e2, e3]; exact rvalue_point l h w hr he
    | false =>
      have he' : l ≠ h := by simpa using he
      have e1 : Sp.valK l h = 10 := by simp [Sp.valK, hr, he']
      have e2 : Sp.valN l h = l := by simp [Sp.valN, hr]
      have e3 : Sp.valM l h = h := by simp [Sp.valM, hr, he']
      rw [e1, e2, e3]; exact rvalue_wide l h w hr he

set_option maxHeartbeats 400000 in
theorem same_nil (w : World) :
    Calls Try.prog 58 #[.slice none 0 0, .slice none 0 0] w fun e w' => e = .returned (.bool true) ∧ w = w' := by
  go_enter Try.func58, Try.ntmps58
  go_wp2
  go_loop [13] (fun i => i = .int .i64 0) (fun _ => 0)
  case atStart => rfl
  case round =>
    subst hrel
    go_wp2
    go_ret
    exact ⟨rfl, rfl⟩

set_option maxHeartbeats 1600000 in
theorem vequal_nil (k n m : Int) (t s : ByteArray) (w : World) :
    Calls Try.prog 35 #[av k t n m s none 0 0, av k t n m s none 0 0] w fun e w' => e = .returned (.bool true) ∧ Below w.heap.size w w' := by
  go_enter Try.func35, Try.ntmps35
  go_wp2_with (go_at_call 58; refine (same_nil _).mono ?_; rintro e w1 ⟨rfl, rfl⟩)
  go_ret
  exact ⟨rfl, (by repeat (first | (with_reducible exact Below.refl _ _) | (with_reducible assumption) | refine Below.setCell ?_ (by first | omega | (simp; omega) | (simp; done)) _ | refine Below.alloc ?_ (by first | omega | (simp; omega) | (simp; done)) _ | refine Below.drew ?_))⟩

set_option maxHeartbeats 1600000 in
theorem alike_any (l h f : Int) (w : World) :
    Calls Try.prog 23 #[.agg #[.int .i64 l, .int .i64 h], .int .i64 f, .agg #[.int .i64 l, .int .i64 h], .int .i64 f] w fun e w' => e = .returned (.bool true) ∧ Below w.heap.size w w' := by
  go_enter Try.func23, Try.ntmps23
  go_wp2_with fail
  go_region_held3 (fun w' => w'.cell? ⟨w.heap.size, 0, none⟩ = some (.int .i64 l) ∧ w'.cell? ⟨w.heap.size, 1, none⟩ = some (.int .i64 h) ∧ w'.cell? ⟨w.heap.size + 1, 0, none⟩ = some (.int .i64 l) ∧ w'.cell? ⟨w.heap.size + 1, 1, none⟩ = some (.int .i64 h)) (simp [go_sem, *])
    (first
    | (go_at_call 21; refine (twin_any _ _ _).mono ?_; rintro e w1 ⟨rfl, hw1⟩; have hz := hw1.size; (try simp at hz); have hB : Below w.heap.size w w1 := Below.call (w := w) (by repeat (first | (with_reducible exact Below.refl _ _) | (with_reducible assumption) | refine Below.setCell ?_ (by first | omega | (simp; omega) | (simp; done)) _ | refine Below.alloc ?_ (by first | omega | (simp; omega) | (simp; done)) _ | refine Below.drew ?_)) hw1; (try obtain ⟨k1, k2, k3⟩ := keepB hw1 (w.heap.size) (by first | omega | (simp; omega) | (simp; done))); (try obtain ⟨k1, k2, k3⟩ := keepB hw1 (w.heap.size + 1) (by first | omega | (simp; omega) | (simp; done)))))
  go_wp2
  go_ret
  exact ⟨rfl, hB⟩

set_option maxHeartbeats 1600000 in
theorem rof_int (k : Int) (t : ByteArray) (n m : Int) (s : ByteArray) (a : Option Addr) (l c : Nat) (w : World) (hk : (k == 3) = true) (hr : Sp.right n n = true) :
    Calls Try.prog 30 #[av k t n m s a l c] w fun e w' => e = .returned (.tuple #[.agg #[.int .i64 n, .int .i64 n], .bool true]) ∧ Below w.heap.size w w' := by
  have hn3 : (k != 3) = false := by simp at hk ⊢; simp [hk]
  go_enter Try.func30, Try.ntmps30
  go_wp2_with (first
    | (go_at_call 34; refine (rright_any _ _ _).mono ?_; rintro e w1 ⟨rfl, hw1⟩; have hz := hw1.size; (try simp at hz); have hB : Below w.heap.size w w1 := Below.call (w := w) (by repeat (first | (with_reducible exact Below.refl _ _) | (with_reducible assumption) | refine Below.setCell ?_ (by first | omega | (simp; omega) | (simp; done)) _ | refine Below.alloc ?_ (by first | omega | (simp; omega) | (simp; done)) _ | refine Below.drew ?_)) hw1; (try obtain ⟨k1, k2, k3⟩ := keepB hw1 (w.heap.size) (by first | omega | (simp; omega) | (simp; done))); (try obtain ⟨k1, k2, k3⟩ := keepB hw1 (w.heap.size + 1) (by first | omega | (simp; omega) | (simp; done))); (try obtain ⟨k1, k2, k3⟩ := keepB hw1 (w.heap.size + 1 + 1) (by first | omega | (simp; omega) | (simp; done)))))
  refine bodyPost_ret (v := .tuple #[.agg #[.int .i64 n, .int .i64 n], .bool true]) (by simp [results, Try.results30, go_sem, *]) rfl ⟨rfl, ?_⟩
  exact (by repeat (first | (with_reducible exact Below.refl _ _) | (with_reducible assumption) | refine Below.setCell ?_ (by first | omega | (simp; omega) | (simp; done)) _ | refine Below.alloc ?_ (by first | omega | (simp; omega) | (simp; done)) _ | refine Below.drew ?_))

set_option maxHeartbeats 1600000 in
theorem rof_intbad (k : Int) (t : ByteArray) (n m : Int) (s : ByteArray) (a : Option Addr) (l c : Nat) (w : World) (hk : (k == 3) = true) (hr : Sp.right n n = false) :
    Calls Try.prog 30 #[av k t n m s a l c] w fun e w' => e = .returned (.tuple #[.agg #[.int .i64 0, .int .i64 0], .bool false]) ∧ Below w.heap.size w w' := by
  have hn3 : (k != 3) = false := by simp at hk ⊢; simp [hk]
  go_enter Try.func30, Try.ntmps30
  go_wp2_with (first
    | (go_at_call 34; refine (rright_any _ _ _).mono ?_; rintro e w1 ⟨rfl, hw1⟩; have hz := hw1.size; (try simp at hz); have hB : Below w.heap.size w w1 := Below.call (w := w) (by repeat (first | (with_reducible exact Below.refl _ _) | (with_reducible assumption) | refine Below.setCell ?_ (by first | omega | (simp; omega) | (simp; done)) _ | refine Below.alloc ?_ (by first | omega | (simp; omega) | (simp; done)) _ | refine Below.drew ?_)) hw1; (try obtain ⟨k1, k2, k3⟩ := keepB hw1 (w.heap.size) (by first | omega | (simp; omega) | (simp; done))); (try obtain ⟨k1, k2, k3⟩ := keepB hw1 (w.heap.size + 1) (by first | omega | (simp; omega) | (simp; done))); (try obtain ⟨k1, k2, k3⟩ := keepB hw1 (w.heap.size + 1 + 1) (by first | omega | (simp; omega) | (simp; done)))))
  refine bodyPost_ret (v := .tuple #[.agg #[.int .i64 0, .int .i64 0], .bool false]) (by simp [results, Try.results30, go_sem, *]) rfl ⟨rfl, ?_⟩
  exact (by repeat (first | (with_reducible exact Below.refl _ _) | (with_reducible assumption) | refine Below.setCell ?_ (by first | omega | (simp; omega) | (simp; done)) _ | refine Below.alloc ?_ (by first | omega | (simp; omega) | (simp; done)) _ | refine Below.drew ?_))

set_option maxHeartbeats 1600000 in
theorem rof_span (k : Int) (t : ByteArray) (n m : Int) (s : ByteArray) (a : Option Addr) (l c : Nat) (w : World) (hk0 : (k == 3) = false) (hk : (k == 10) = true) (hr : Sp.right n m = true) :
    Calls Try.prog 30 #[av k t n m s a l c] w fun e w' => e = .returned (.tuple #[.agg #[.int .i64 n, .int .i64 m], .bool true]) ∧ Below w.heap.size w w' := by
  have hn3 : (k != 3) = true := by simp at hk0 ⊢; simp [hk0]
  have hn10 : (k != 10) = false := by simp at hk ⊢; simp [hk]
  go_enter Try.func30, Try.ntmps30
  go_wp2_with (first
    | (go_at_call 34; refine (rright_any _ _ _).mono ?_; rintro e w1 ⟨rfl, hw1⟩; have hz := hw1.size; (try simp at hz); have hB : Below w.heap.size w w1 := Below.call (w := w) (by repeat (first | (with_reducible exact Below.refl _ _) | (with_reducible assumption) | refine Below.setCell ?_ (by first | omega | (simp; omega) | (simp; done)) _ | refine Below.alloc ?_ (by first | omega | (simp; omega) | (simp; done)) _ | refine Below.drew ?_)) hw1; (try obtain ⟨k1, k2, k3⟩ := keepB hw1 (w.heap.size) (by first | omega | (simp; omega) | (simp; done))); (try obtain ⟨k1, k2, k3⟩ := keepB hw1 (w.heap.size + 1) (by first | omega | (simp; omega) | (simp; done))); (try obtain ⟨k1, k2, k3⟩ := keepB hw1 (w.heap.size + 1 + 1) (by first | omega | (simp; omega) | (simp; done)))))
  refine bodyPost_ret (v := .tuple #[.agg #[.int .i64 n, .int .i64 m], .bool true]) (by simp [results, Try.results30, go_sem, *]) rfl ⟨rfl, ?_⟩
  exact (by repeat (first | (with_reducible exact Below.refl _ _) | (with_reducible assumption) | refine Below.setCell ?_ (by first | omega | (simp; omega) | (simp; done)) _ | refine Below.alloc ?_ (by first | omega | (simp; omega) | (simp; done)) _ | refine Below.drew ?_))

set_option maxHeartbeats 1600000 in
theorem rof_spanbad (k : Int) (t : ByteArray) (n m : Int) (s : ByteArray) (a : Option Addr) (l c : Nat) (w : World) (hk0 : (k == 3) = false) (hk : (k == 10) = true) (hr : Sp.right n m = false) :
    Calls Try.prog 30 #[av k t n m s a l c] w fun e w' => e = .returned (.tuple #[.agg #[.int .i64 0, .int .i64 0], .bool false]) ∧ Below w.heap.size w w' := by
  have hn3 : (k != 3) = true := by simp at hk0 ⊢; simp [hk0]
  have hn10 : (k != 10) = false := by simp at hk ⊢; simp [hk]
  go_enter Try.func30, Try.ntmps30
  go_wp2_with (first
    | (go_at_call 34; refine (rright_any _ _ _).mono ?_; rintro e w1 ⟨rfl, hw1⟩; have hz := hw1.size; (try simp at hz); have hB : Below w.heap.size w w1 := Below.call (w := w) (by repeat (first | (with_reducible exact Below.refl _ _) | (with_reducible assumption) | refine Below.setCell ?_ (by first | omega | (simp; omega) | (simp; done)) _ | refine Below.alloc ?_ (by first | omega | (simp; omega) | (simp; done)) _ | refine Below.drew ?_)) hw1; (try obtain ⟨k1, k2, k3⟩ := keepB hw1 (w.heap.size) (by first | omega | (simp; omega) | (simp; done))); (try obtain ⟨k1, k2, k3⟩ := keepB hw1 (w.heap.size + 1) (by first | omega | (simp; omega) | (simp; done))); (try obtain ⟨k1, k2, k3⟩ := keepB hw1 (w.heap.size + 1 + 1) (by first | omega | (simp; omega) | (simp; done)))))
  refine bodyPost_ret (v := .tuple #[.agg #[.int .i64 0, .int .i64 0], .bool false]) (by simp [results, Try.results30, go_sem, *]) rfl ⟨rfl, ?_⟩
  exact (by repeat (first | (with_reducible exact Below.refl _ _) | (with_reducible assumption) | refine Below.setCell ?_ (by first | omega | (simp; omega) | (simp; done)) _ | refine Below.alloc ?_ (by first | omega | (simp; omega) | (simp; done)) _ | refine Below.drew ?_))

set_option maxHeartbeats 1600000 in
theorem rof_no (k : Int) (t : ByteArray) (n m : Int) (s : ByteArray) (a : Option Addr) (l c : Nat) (w : World) (hk0 : (k == 3) = false) (hk : (k == 10) = false) :
    Calls Try.prog 30 #[av k t n m s a l c] w fun e w' => e = .returned (.tuple #[.agg #[.int .i64 0, .int .i64 0], .bool false]) ∧ Below w.heap.size w w' := by
  have hn3 : (k != 3) = true := by simp at hk0 ⊢; simp [hk0]
  have hn10 : (k != 10) = true := by simp at hk ⊢; simp [hk]
  go_enter Try.func30, Try.ntmps30
  go_wp2_with (first
    | (go_at_call 34; refine (rright_any _ _ _).mono ?_; rintro e w1 ⟨rfl, hw1⟩; have hz := hw1.size; (try simp at hz); have hB : Below w.heap.size w w1 := Below.call (w := w) (by repeat (first | (with_reducible exact Below.refl _ _) | (with_reducible assumption) | refine Below.setCell ?_ (by first | omega | (simp; omega) | (simp; done)) _ | refine Below.alloc ?_ (by first | omega | (simp; omega) | (simp; done)) _ | refine Below.drew ?_)) hw1; (try obtain ⟨k1, k2, k3⟩ := keepB hw1 (w.heap.size) (by first | omega | (simp; omega) | (simp; done))); (try obtain ⟨k1, k2, k3⟩ := keepB hw1 (w.heap.size + 1) (by first | omega | (simp; omega) | (simp; done))); (try obtain ⟨k1, k2, k3⟩ := keepB hw1 (w.heap.size + 1 + 1) (by first | omega | (simp; omega) | (simp; done)))))
  refine bodyPost_ret (v := .tuple #[.agg #[.int .i64 0, .int .i64 0], .bool false]) (by simp [results, Try.results30, go_sem, *]) rfl ⟨rfl, ?_⟩
  exact (by repeat (first | (with_reducible exact Below.refl _ _) | (with_reducible assumption) | refine Below.setCell ?_ (by first | omega | (simp; omega) | (simp; done)) _ | refine Below.alloc ?_ (by first | omega | (simp; omega) | (simp; done)) _ | refine Below.drew ?_))

theorem rof_any (k : Int) (t : ByteArray) (n m : Int) (s : ByteArray) (a : Option Addr) (l c : Nat) (w : World) :
    Calls Try.prog 30 #[av k t n m s a l c] w fun e w' => e = .returned (.tuple #[.agg #[.int .i64 (Sp.ofLo k n m), .int .i64 (Sp.ofHi k n m)], .bool (Sp.ofOk k n m)]) ∧ Below w.heap.size w w' := by
  cases h3 : (k == 3) with
  | true =>
    have h3' : k = 3 := by simpa using h3
    cases hr : Sp.right n n with
    | true =>
      have e1 : Sp.ofOk k n m = true := by simp [Sp.ofOk, h3', hr]
      have e2 : Sp.ofLo k n m = n := by simp [Sp.ofLo, e1]
      have e3 : Sp.ofHi k n m = n := by rw [Sp.ofHi, e1]; simp [h3']
      rw [e1, e2, e3]; exact rof_int k t n m s a l c w h3 hr
    | false =>
      have e1 : Sp.ofOk k n m = false := by simp [Sp.ofOk, h3', hr]
      have e2 : Sp.ofLo k n m = 0 := by simp [Sp.ofLo, e1]
      have e3 : Sp.ofHi k n m = 0 := by simp [Sp.ofHi, e1]
      rw [e1, e2, e3]; exact rof_intbad k t n m s a l c w h3 hr
  | false =>
    have h3' : k ≠ 3 := by simpa using h3
    cases h10 : (k == 10) with
    | true =>
      have h10' : k = 10 := by simpa using h10
      cases hr : Sp.right n m with
      | true =>
        have e1 : Sp.ofOk k n m = true := by simp [Sp.ofOk, h10', hr]
        have e2 : Sp.ofLo k n m = n := by simp [Sp.ofLo, e1]
        have e3 : Sp.ofHi k n m = m := by simp [Sp.ofHi, e1, h3']
        rw [e1, e2, e3]; exact rof_span k t n m s a l c w h3 h10 hr
      | false =>
        have e1 : Sp.ofOk k n m = false := by simp [Sp.ofOk, h10', hr]
        have e2 : Sp.ofLo k n m = 0 := by simp [Sp.ofLo, e1]
        have e3 : Sp.ofHi k n m = 0 := by simp [Sp.ofHi, e1]
        rw [e1, e2, e3]; exact rof_spanbad k t n m s a l c w h3 h10 hr
    | false =>
      have h10' : k ≠ 10 := by simpa using h10
      have e1 : Sp.ofOk k n m = false := by simp [Sp.ofOk, h3', h10']
      have e2 : Sp.ofLo k n m = 0 := by simp [Sp.ofLo, e1]
      have e3 : Sp.ofHi k n m = 0 := by simp [Sp.ofHi, e1]
      rw [e1, e2, e3]; exact rof_no k t n m s a l c w h3 h10

end Go.Proofs.Ytjdppnkmhgihnaa
