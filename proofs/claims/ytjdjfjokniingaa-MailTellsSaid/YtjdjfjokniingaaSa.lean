/- The contracts of cmp.Compare and cmp.Or at int, and of sched's closure that compares channels. -/
import Derived.Test.YtjdjfjokniingaaRows
import Derived.Test.YtjdjfjokniingaaKit
import Derived.Sort.Grow
namespace Go.Proofs.Ytjdjfjokniingaa
open Go.RowKit

namespace Sy
def cmpI (a b : Int) : Int := if a < b then -1 else if b < a then 1 else 0
def orI (x y : Int) : Int := if x = 0 then y else x
end Sy

set_option maxHeartbeats 400000 in
theorem isNaN_any (n : Int) (w : World) : Calls Try.prog 95 #[.int .i64 n] w fun e w' => e = .returned (.bool false) ∧ w = w' := by
  go_enter Try.func95, Try.ntmps95
  go_wp2
  go_ret
  exact ⟨by simp, rfl⟩

set_option maxHeartbeats 400000 in
theorem cmpI_any (a b : Int) (w : World) : Calls Try.prog 66 #[.int .i64 a, .int .i64 b] w fun e w' => e = .returned (.int .i64 (Sy.cmpI a b)) ∧ w = w' := by
  go_enter Try.func66, Try.ntmps66
  go_wp2_with (go_at_call 95; refine (isNaN_any _ _).mono ?_; rintro e w1 ⟨rfl, rfl⟩)
  all_goals
    go_ret
    refine ⟨ret_int ?_, rfl⟩
    unfold Sy.cmpI
    repeat' split
    all_goals first | rfl | (exfalso; omega)

set_option maxHeartbeats 800000 in
theorem or2_any (b : Nat) (x y : Int) (w : World) (h0 : w.cell? ⟨b, 0, none⟩ = some (.int .i64 x)) (h1 : w.cell? ⟨b, 1, none⟩ = some (.int .i64 y)) :
    Calls Try.prog 65 #[.slice (some ⟨b, 0, none⟩) 2 2] w fun e w' => e = .returned (.int .i64 (Sy.orI x y)) ∧ w = w' := by
  cases hx : (x != 0) <;> cases hy : (y != 0)
  all_goals
    go_enter Try.func65, Try.ntmps65
    go_wp2
    refine wp_loop_rounds 3 ?_
    rw [rounds_succ]
    go_wp2
    try (rw [rounds_succ]; go_wp2)
    try (rw [rounds_succ]; go_wp2)
    go_ret
    refine ⟨ret_int ?_, rfl⟩
    simp only [bne_iff_ne, ne_eq, bne_eq_false_iff_eq] at hx hy
    simp [Sy.orI, hx, hy]

set_option maxHeartbeats 800000 in
/-- the closure that compares two channels -/
theorem chanCmp_any (a b c d : Int) (w : World) : Calls Try.prog 102 #[.agg #[.int .i64 a, .int .i64 b], .agg #[.int .i64 c, .int .i64 d]] w fun e w' =>
    e = .returned (.int .i64 (Sy.orI (Sy.cmpI a c) (Sy.cmpI b d))) ∧ ∃ q os, w' = Sort.grow (w.drewN q) os := by
  generalize hx : Sy.cmpI a c = x
  generalize hy : Sy.cmpI b d = y
  have h1 := fun wz => cmpI_any a c wz
  have h2 := fun wz => cmpI_any b d wz
  rw [hx] at h1
  rw [hy] at h2
  have H1 := Lib.hid h1
  have H2 := Lib.hid h2
  clear h1 h2 hx hy
  go_enter Try.func102, Try.ntmps102
  go_wp2_with fail
  go_region_held3 (fun w' => w'.cell? ⟨w.heap.size, 0, none⟩ = some (.int .i64 a) ∧ w'.cell? ⟨w.heap.size, 1, none⟩ = some (.int .i64 b) ∧ w'.cell? ⟨w.heap.size + 1, 0, none⟩ = some (.int .i64 c) ∧ w'.cell? ⟨w.heap.size + 1, 1, none⟩ = some (.int .i64 d)) (simp [go_sem, *])
    (first
    | (go_at_call 66; with_reducible refine (H1.out _).mono ?_; rintro e w1 ⟨rfl, rfl⟩)
    | (go_at_call 66; with_reducible refine (H2.out _).mono ?_; rintro e w1 ⟨rfl, rfl⟩)
    | (go_at_call 65; refine (or2_any _ x y _ ?_ ?_).mono ?_; (simp [go_sem]); (simp [go_sem]); rintro e w1 ⟨rfl, rfl⟩))
  go_wp2
  go_ret
  exact ⟨rfl, 1, #[_, _, _], by rw [Sort.alloc_eq_grow, Sort.alloc_eq_grow, Sort.alloc_eq_grow, Sort.grow_grow, Sort.grow_grow]; rfl⟩
end Go.Proofs.Ytjdjfjokniingaa
