/- The contract of retroactref20.Ready. -/
import Derived.Test.YtjdjfjokniingaaSf
namespace Go.Proofs.Ytjdjfjokniingaa
open Go.RowKit

set_option maxHeartbeats 1600000 in
theorem readyR_t1 (s : SysC) (a : LiveC) (ups : List Bool) (w : World) (hup : Rd w w.heap.size 1 s.up.a s.up.n (ups.map .bool)) (k1 : a.stopped = true) :
    Calls Try.prog 92 #[sysV s, .agg (liveL a).toArray] w fun e w' => e = .returned (.bool (Sy.ready ups a)) ∧ Below w.heap.size w w' := by
  have _u := hup
  clear _u
  have hlen : ups.length = s.up.n := by have := hup.1; simpa using this
  have hfin : Sy.ready ups a = false := by simp [Sy.ready, k1]
  clear hlen
  rw [hfin]
  clear hfin
  go_enter Try.func92, Try.ntmps92
  go_wp2_with fail
  go_wp2
  go_ret
  exact ⟨rfl, ((Below.refl _ _).alloc (Nat.le_refl _) _).alloc (by simp) _⟩

set_option maxHeartbeats 1600000 in
theorem readyR_t2 (s : SysC) (a : LiveC) (ups : List Bool) (w : World) (hup : Rd w w.heap.size 1 s.up.a s.up.n (ups.map .bool)) (k1 : a.stopped = false) (k2 : decide (0 < a.mail.n) = false) :
    Calls Try.prog 92 #[sysV s, .agg (liveL a).toArray] w fun e w' => e = .returned (.bool (Sy.ready ups a)) ∧ Below w.heap.size w w' := by
  have _u := hup
  clear _u
  have hlen : ups.length = s.up.n := by have := hup.1; simpa using this
  have hfin : Sy.ready ups a = false := by simp only [Sy.ready, k1, k2]; rfl
  clear hlen
  rw [hfin]
  clear hfin
  go_enter Try.func92, Try.ntmps92
  go_wp2_with fail
  go_wp2
  go_ret
  exact ⟨rfl, ((Below.refl _ _).alloc (Nat.le_refl _) _).alloc (by simp) _⟩

set_option maxHeartbeats 1600000 in
theorem readyR_t3 (s : SysC) (a : LiveC) (ups : List Bool) (w : World) (hup : Rd w w.heap.size 1 s.up.a s.up.n (ups.map .bool)) (k1 : a.stopped = false) (k2 : decide (0 < a.mail.n) = true) (k3 : decide (0 ≤ a.node) = false) :
    Calls Try.prog 92 #[sysV s, .agg (liveL a).toArray] w fun e w' => e = .returned (.bool (Sy.ready ups a)) ∧ Below w.heap.size w w' := by
  have _u := hup
  clear _u
  have hlen : ups.length = s.up.n := by have := hup.1; simpa using this
  have hfin : Sy.ready ups a = false := by simp only [Sy.ready, k1, k2, k3]; rfl
  clear hlen
  rw [hfin]
  clear hfin
  go_enter Try.func92, Try.ntmps92
  go_wp2_with fail
  go_wp2
  go_ret
  exact ⟨rfl, ((Below.refl _ _).alloc (Nat.le_refl _) _).alloc (by simp) _⟩

set_option maxHeartbeats 1600000 in
theorem readyR_t4 (s : SysC) (a : LiveC) (ups : List Bool) (w : World) (hup : Rd w w.heap.size 1 s.up.a s.up.n (ups.map .bool)) (k1 : a.stopped = false) (k2 : decide (0 < a.mail.n) = true) (k3 : decide (0 ≤ a.node) = true) (k4 : decide (a.node < (s.up.n : Int)) = false) :
    Calls Try.prog 92 #[sysV s, .agg (liveL a).toArray] w fun e w' => e = .returned (.bool (Sy.ready ups a)) ∧ Below w.heap.size w w' := by
  have _u := hup
  clear _u
  have hlen : ups.length = s.up.n := by have := hup.1; simpa using this
  have hfin : Sy.ready ups a = false := by simp only [Sy.ready, k1, k2, k3, hlen, k4]; rfl
  clear hlen
  rw [hfin]
  clear hfin
  go_enter Try.func92, Try.ntmps92
  go_wp2_with fail
  go_wp2
  go_ret
  exact ⟨rfl, ((Below.refl _ _).alloc (Nat.le_refl _) _).alloc (by simp) _⟩

set_option maxHeartbeats 1600000 in
theorem readyR_t5 (s : SysC) (a : LiveC) (ups : List Bool) (w : World) (hup : Rd w w.heap.size 1 s.up.a s.up.n (ups.map .bool)) (k1 : a.stopped = false) (k2 : decide (0 < a.mail.n) = true) (k3 : decide (0 ≤ a.node) = true) (k4 : decide (a.node < (s.up.n : Int)) = true) :
    Calls Try.prog 92 #[sysV s, .agg (liveL a).toArray] w fun e w' => e = .returned (.bool (Sy.ready ups a)) ∧ Below w.heap.size w w' := by
  have _u := hup
  clear _u
  have hlen : ups.length = s.up.n := by have := hup.1; simpa using this
  obtain ⟨n, hn⟩ : ∃ n : Nat, a.node = n := ⟨a.node.toNat, by simp at k3; omega⟩
  have hlt : n < s.up.n := by simp [hn] at k4; exact k4
  obtain ⟨bu, offu, hA, hbu, hcell⟩ := hup.2 (by omega)
  obtain ⟨u, hu⟩ : ∃ u, ups[n]? = some u := ⟨ups[n]'(by omega), List.getElem?_eq_getElem (by omega)⟩
  have hcu : w.cell? ⟨bu, offu + n, none⟩ = some (.bool u) := hcell n _ (by simp [hu])
  have hfin : Sy.ready ups a = u := by
    simp only [Sy.ready, k1, k2, hlen, hn, Int.toNat_natCast]
    simp [List.getD, hu, hlt]
  clear hlen hcell hu k3 k4 hup
  obtain ⟨⟨A, un, uc⟩, s1, s2, s3, s4, s5, s6, s7, s8⟩ := s
  obtain ⟨p1, p2, nd, p4, p5, p6, p7, p8, p9⟩ := a
  simp only at hA hlt hn k1 k2
  subst hA hn
  have hn0 : decide ((0 : Int) ≤ (n : Int)) = true := by simp
  have hn1 : decide (n < un) = true := by simp [hlt]
  rw [hfin]
  clear hfin
  go_enter Try.func92, Try.ntmps92
  go_wp2_with fail
  go_wp2
  go_ret
  exact ⟨rfl, ((Below.refl _ _).alloc (Nat.le_refl _) _).alloc (by simp) _⟩

theorem readyR_any (s : SysC) (a : LiveC) (ups : List Bool) (w : World) (hup : Rd w w.heap.size 1 s.up.a s.up.n (ups.map .bool)) :
    Calls Try.prog 92 #[sysV s, .agg (liveL a).toArray] w fun e w' => e = .returned (.bool (Sy.ready ups a)) ∧ Below w.heap.size w w' := by
  cases k1 : a.stopped with
  | true => exact readyR_t1 s a ups w hup k1
  | false =>
    cases k2 : decide (0 < a.mail.n) with
    | false => exact readyR_t2 s a ups w hup k1 k2
    | true =>
      cases k3 : decide (0 ≤ a.node) with
      | false => exact readyR_t3 s a ups w hup k1 k2 k3
      | true =>
        cases k4 : decide (a.node < (s.up.n : Int)) with
        | false => exact readyR_t4 s a ups w hup k1 k2 k3 k4
        | true => exact readyR_t5 s a ups w hup k1 k2 k3 k4
end Go.Proofs.Ytjdjfjokniingaa
