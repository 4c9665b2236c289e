/- The contract of sched.ready. -/
import Derived.Test.YtjdjfjokniingaaSa
import Derived.Test.YtjdjfjokniingaaDat
namespace Go.Proofs.Ytjdjfjokniingaa
open Go.RowKit

set_option maxHeartbeats 1600000 in
theorem ready_t1 (s : SysC) (a : LiveC) (b off : Nat) (ups : List Bool) (w : World) (hup : Rd w w.heap.size 1 s.up.a s.up.n (ups.map .bool)) (hb : b < w.heap.size)
    (hc2 : w.cell? ⟨b, off + 2, none⟩ = some (.int .i64 a.node)) (hc7 : w.cell? ⟨b, off + 7, none⟩ = some (.bool a.stopped)) (hc8 : w.cell? ⟨b, off + 8, none⟩ = some (.slice a.mail.a a.mail.n a.mail.c)) (k1 : a.stopped = true) :
    Calls Try.prog 90 #[sysV s, .pointer (some ⟨b, off, none⟩)] w fun e w' => e = .returned (.bool (Sy.ready ups a)) ∧ Below w.heap.size w w' := by
  have _u := And.intro hb (And.intro hc2 (And.intro hc7 (And.intro hc8 hup)))
  clear _u
  have hlen : ups.length = s.up.n := by have := hup.1; simpa using this
  have hfin : Sy.ready ups a = false := by simp [Sy.ready, k1]
  rw [k1] at hc7
  clear k1 hlen
  rw [hfin]
  clear hfin
  go_enter Try.func90, Try.ntmps90
  go_wp2_with fail
  go_quiet (fail)
  go_wp2
  go_ret
  exact ⟨rfl, below_drewN ((Below.refl _ _).alloc (Nat.le_refl _) _) _⟩

set_option maxHeartbeats 1600000 in
theorem ready_t2 (s : SysC) (a : LiveC) (b off : Nat) (ups : List Bool) (w : World) (hup : Rd w w.heap.size 1 s.up.a s.up.n (ups.map .bool)) (hb : b < w.heap.size)
    (hc2 : w.cell? ⟨b, off + 2, none⟩ = some (.int .i64 a.node)) (hc7 : w.cell? ⟨b, off + 7, none⟩ = some (.bool a.stopped)) (hc8 : w.cell? ⟨b, off + 8, none⟩ = some (.slice a.mail.a a.mail.n a.mail.c)) (k1 : a.stopped = false) (k2 : decide (0 < a.mail.n) = false) :
    Calls Try.prog 90 #[sysV s, .pointer (some ⟨b, off, none⟩)] w fun e w' => e = .returned (.bool (Sy.ready ups a)) ∧ Below w.heap.size w w' := by
  have _u := And.intro hb (And.intro hc2 (And.intro hc7 (And.intro hc8 hup)))
  clear _u
  have hlen : ups.length = s.up.n := by have := hup.1; simpa using this
  have hfin : Sy.ready ups a = false := by simp only [Sy.ready, k1, k2]; rfl
  rw [k1] at hc7
  clear k1 hlen
  rw [hfin]
  clear hfin
  go_enter Try.func90, Try.ntmps90
  go_wp2_with fail
  go_quiet (fail)
  go_wp2
  go_ret
  exact ⟨rfl, below_drewN ((Below.refl _ _).alloc (Nat.le_refl _) _) _⟩

set_option maxHeartbeats 1600000 in
theorem ready_t3 (s : SysC) (a : LiveC) (b off : Nat) (ups : List Bool) (w : World) (hup : Rd w w.heap.size 1 s.up.a s.up.n (ups.map .bool)) (hb : b < w.heap.size)
    (hc2 : w.cell? ⟨b, off + 2, none⟩ = some (.int .i64 a.node)) (hc7 : w.cell? ⟨b, off + 7, none⟩ = some (.bool a.stopped)) (hc8 : w.cell? ⟨b, off + 8, none⟩ = some (.slice a.mail.a a.mail.n a.mail.c)) (k1 : a.stopped = false) (k2 : decide (0 < a.mail.n) = true) (k3 : decide (0 ≤ a.node) = false) :
    Calls Try.prog 90 #[sysV s, .pointer (some ⟨b, off, none⟩)] w fun e w' => e = .returned (.bool (Sy.ready ups a)) ∧ Below w.heap.size w w' := by
  have _u := And.intro hb (And.intro hc2 (And.intro hc7 (And.intro hc8 hup)))
  clear _u
  have hlen : ups.length = s.up.n := by have := hup.1; simpa using this
  have hfin : Sy.ready ups a = false := by simp only [Sy.ready, k1, k2, k3]; rfl
  rw [k1] at hc7
  clear k1 hlen
  rw [hfin]
  clear hfin
  go_enter Try.func90, Try.ntmps90
  go_wp2_with fail
  go_quiet (fail)
  go_wp2
  go_ret
  exact ⟨rfl, below_drewN ((Below.refl _ _).alloc (Nat.le_refl _) _) _⟩

set_option maxHeartbeats 1600000 in
theorem ready_t4 (s : SysC) (a : LiveC) (b off : Nat) (ups : List Bool) (w : World) (hup : Rd w w.heap.size 1 s.up.a s.up.n (ups.map .bool)) (hb : b < w.heap.size)
    (hc2 : w.cell? ⟨b, off + 2, none⟩ = some (.int .i64 a.node)) (hc7 : w.cell? ⟨b, off + 7, none⟩ = some (.bool a.stopped)) (hc8 : w.cell? ⟨b, off + 8, none⟩ = some (.slice a.mail.a a.mail.n a.mail.c)) (k1 : a.stopped = false) (k2 : decide (0 < a.mail.n) = true) (k3 : decide (0 ≤ a.node) = true) (k4 : decide (a.node < (s.up.n : Int)) = false) :
    Calls Try.prog 90 #[sysV s, .pointer (some ⟨b, off, none⟩)] w fun e w' => e = .returned (.bool (Sy.ready ups a)) ∧ Below w.heap.size w w' := by
  have _u := And.intro hb (And.intro hc2 (And.intro hc7 (And.intro hc8 hup)))
  clear _u
  have hlen : ups.length = s.up.n := by have := hup.1; simpa using this
  have hfin : Sy.ready ups a = false := by simp only [Sy.ready, k1, k2, k3, hlen, k4]; rfl
  rw [k1] at hc7
  clear k1 hlen
  rw [hfin]
  clear hfin
  go_enter Try.func90, Try.ntmps90
  go_wp2_with fail
  go_quiet (fail)
  go_wp2
  go_ret
  exact ⟨rfl, below_drewN ((Below.refl _ _).alloc (Nat.le_refl _) _) _⟩

set_option maxHeartbeats 1600000 in
theorem ready_t5 (s : SysC) (a : LiveC) (b off : Nat) (ups : List Bool) (w : World) (hup : Rd w w.heap.size 1 s.up.a s.up.n (ups.map .bool)) (hb : b < w.heap.size)
    (hc2 : w.cell? ⟨b, off + 2, none⟩ = some (.int .i64 a.node)) (hc7 : w.cell? ⟨b, off + 7, none⟩ = some (.bool a.stopped)) (hc8 : w.cell? ⟨b, off + 8, none⟩ = some (.slice a.mail.a a.mail.n a.mail.c)) (k1 : a.stopped = false) (k2 : decide (0 < a.mail.n) = true) (k3 : decide (0 ≤ a.node) = true) (k4 : decide (a.node < (s.up.n : Int)) = true) :
    Calls Try.prog 90 #[sysV s, .pointer (some ⟨b, off, none⟩)] w fun e w' => e = .returned (.bool (Sy.ready ups a)) ∧ Below w.heap.size w w' := by
  have _u := And.intro hb (And.intro hc2 (And.intro hc7 (And.intro hc8 hup)))
  clear _u
  have hlen : ups.length = s.up.n := by have := hup.1; simpa using this
  obtain ⟨n, hn⟩ : ∃ n : Nat, a.node = n := ⟨a.node.toNat, by simp at k3; omega⟩
  have hlt : n < s.up.n := by simp [hn] at k4; exact k4
  obtain ⟨bu, offu, hA, hbu, hcell⟩ := hup.2 (by omega)
  obtain ⟨u, hu⟩ : ∃ u, ups[n]? = some u := ⟨ups[n]'(by omega), List.getElem?_eq_getElem (by omega)⟩
  have hcu : w.cell? ⟨bu, offu + n, none⟩ = some (.bool u) := hcell n _ (by simp [hu])
  have hfin : Sy.ready ups a = u := by
    simp only [Sy.ready, k1, k2, hlen, hn, Int.toNat_natCast]
    simp [List.getD, hu, hlt]
  rw [k1] at hc7
  rw [hn] at hc2
  clear k1 hlen hcell hu k3 k4 hup
  obtain ⟨⟨A, un, uc⟩, s1, s2, s3, s4, s5, s6, s7, s8⟩ := s
  simp only at hA hlt
  subst hA
  clear hn
  have hn0 : decide ((0 : Int) ≤ (n : Int)) = true := by simp
  have hn1 : decide (n < un) = true := by simp [hlt]
  rw [hfin]
  clear hfin
  go_enter Try.func90, Try.ntmps90
  go_wp2_with fail
  go_quiet (fail)
  go_wp2
  go_ret
  exact ⟨rfl, below_drewN ((Below.refl _ _).alloc (Nat.le_refl _) _) _⟩

theorem ready_any (s : SysC) (a : LiveC) (b off : Nat) (ups : List Bool) (w : World) (hup : Rd w w.heap.size 1 s.up.a s.up.n (ups.map .bool)) (hb : b < w.heap.size)
    (hc2 : w.cell? ⟨b, off + 2, none⟩ = some (.int .i64 a.node)) (hc7 : w.cell? ⟨b, off + 7, none⟩ = some (.bool a.stopped)) (hc8 : w.cell? ⟨b, off + 8, none⟩ = some (.slice a.mail.a a.mail.n a.mail.c)) :
    Calls Try.prog 90 #[sysV s, .pointer (some ⟨b, off, none⟩)] w fun e w' => e = .returned (.bool (Sy.ready ups a)) ∧ Below w.heap.size w w' := by
  cases k1 : a.stopped with
  | true => exact ready_t1 s a b off ups w hup hb hc2 hc7 hc8 k1
  | false =>
    cases k2 : decide (0 < a.mail.n) with
    | false => exact ready_t2 s a b off ups w hup hb hc2 hc7 hc8 k1 k2
    | true =>
      cases k3 : decide (0 ≤ a.node) with
      | false => exact ready_t3 s a b off ups w hup hb hc2 hc7 hc8 k1 k2 k3
      | true =>
        cases k4 : decide (a.node < (s.up.n : Int)) with
        | false => exact ready_t4 s a b off ups w hup hb hc2 hc7 hc8 k1 k2 k3 k4
        | true => exact ready_t5 s a b off ups w hup hb hc2 hc7 hc8 k1 k2 k3 k4
end Go.Proofs.Ytjdjfjokniingaa
