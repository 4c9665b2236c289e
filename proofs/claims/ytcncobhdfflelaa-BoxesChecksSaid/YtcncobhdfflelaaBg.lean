/- The contract of the reference's contains. -/
import Derived.Test.YtcncobhdfflelaaBf
namespace Go.Proofs.Ytcncobhdfflelaa
open Go.RowKit

set_option linter.unusedSimpArgs false in
set_option linter.unusedVariables false in
set_option maxRecDepth 100000 in
set_option maxHeartbeats 3200000 in
theorem contains44 (b : BxC) (A : Option Addr) (n c : Nat) (lo hi p : List Int) (w : World) (hx : Rd w w.heap.size 1 b.lo.a b.lo.n (lo.map (Value.int .i64))) (hy : Rd w w.heap.size 1 b.hi.a b.hi.n (hi.map (Value.int .i64))) (hz : Rd w w.heap.size 1 A n (p.map (Value.int .i64))) (hn : n ≤ 1000000) :
    Calls Try.prog 44 #[bxV b, .slice A n c] w fun e w' => e = .returned (.bool (Bx.contains lo hi p)) ∧ Below w.heap.size w w' := by
  have HX := Lib.hid hx
  have HY := Lib.hid hy
  have HZ := Lib.hid hz
  have HL := Lib.hid (show lo.length = b.lo.n by simpa using hx.1)
  have HM := Lib.hid (show hi.length = b.hi.n by simpa using hy.1)
  have HN := Lib.hid (show p.length = n by simpa using hz.1)
  clear hx hy hz
  by_cases g1 : b.lo.n = n
  · by_cases g2 : b.hi.n = n
    · have HC : Hid (Bx.contains lo hi p = Bx.inside lo hi p) := Lib.hid (by unfold Bx.contains; rw [HL.out, HM.out, HN.out]; simp [g1, g2])
      have t1 : ((b.lo.n : Int) != (n : Int)) = false := by simp [g1]
      have t2 : ((b.hi.n : Int) != (n : Int)) = false := by simp [g2]
      have l1 : n ≤ b.lo.n := by omega
      have l2 : n ≤ b.hi.n := by omega
      clear g1 g2
      go_enter Try.func44, Try.ntmps44
      go_wp2_with fail
      go_loopw [5] (fun i W => ∃ k : Nat, k ≤ n ∧ i = .int .i64 k ∧ Hid (Bx.inside (lo.drop k) (hi.drop k) (p.drop k) = Bx.inside lo hi p) ∧ Hid (Below w.heap.size w W) ∧ W.cell? ⟨w.heap.size, 0, none⟩ = some (.slice b.lo.a b.lo.n b.lo.c) ∧ W.cell? ⟨w.heap.size, 1, none⟩ = some (.slice b.hi.a b.hi.n b.hi.c)) (fun i _ => n - (intOf i).toNat)
      case atStart => exact ⟨0, Nat.zero_le _, rfl, Lib.hid rfl, Lib.hid ((Below.refl _ _).alloc (Nat.le_refl _) _), by simp [go_sem], by simp [go_sem]⟩
      case round =>
        obtain ⟨k, hk, rfl, HK, HB, c0, c1⟩ := hrel
        by_cases hlt : k < n
        · obtain ⟨b1, o1, x, ha, hix, hcx, hb1, _⟩ := rd_int (HX.out.below HB.out (Nat.le_refl _)) b.lo.c (show k < b.lo.n by omega)
          obtain ⟨b2, o2, y, hb, hiy, hcy, hb2, _⟩ := rd_int (HY.out.below HB.out (Nat.le_refl _)) b.hi.c (show k < b.hi.n by omega)
          obtain ⟨b3, o3, z, hc, hiz, hcz, hb3, _⟩ := rd_int (HZ.out.below HB.out (Nat.le_refl _)) c hlt
          have HS := Lib.hid (Bx.inside_at ha hb hc)
          have n1 : ¬ b1 = w.heap.size := by omega
          have n2 : ¬ b2 = w.heap.size := by omega
          have n3 : ¬ b3 = w.heap.size := by omega
          clear ha hb hc
          by_cases q1 : z < x
          · have HF : Hid (Bx.contains lo hi p = false) := Lib.hid (by rw [HC.out, ← HK.out, HS.out]; simp [q1])
            go_wp2_with fail
            go_quiet (fail)
            go_wp2_with fail
            go_ret
            exact ⟨ret_bool HF.out.symm, below_drewN HB.out _⟩
          · have t3 : decide (z < x) = false := by simpa using q1
            by_cases q2 : y < z
            · have HF : Hid (Bx.contains lo hi p = false) := Lib.hid (by rw [HC.out, ← HK.out, HS.out]; simp [q2])
              go_wp2_with fail
              go_quiet (fail)
              go_wp2_with fail
              go_ret
              exact ⟨ret_bool HF.out.symm, below_drewN HB.out _⟩
            · have t4 : decide (y < z) = false := by simpa using q2
              have HF : Hid (Bx.inside (lo.drop (k + 1)) (hi.drop (k + 1)) (p.drop (k + 1)) = Bx.inside lo hi p) := Lib.hid (by rw [← HK.out, HS.out]; simp [q1, q2])
              go_wp2_with fail
              go_quiet (fail)
              go_wp2_with fail
              go_roundw
              case rel => exact ⟨k + 1, by omega, by go_num, HF, Lib.hid (below_drewN HB.out _), c0, c1⟩
              case measure => simp [intOf]; omega
        · have HF : Hid (Bx.contains lo hi p = true) := Lib.hid (by rw [HC.out, ← HK.out, Bx.inside_end (by rw [HN.out]; omega)])
          go_wp2_with fail
          go_ret
          exact ⟨ret_bool HF.out.symm, HB.out⟩
    · have HF : Hid (Bx.contains lo hi p = false) := Lib.hid (by unfold Bx.contains; rw [HM.out, HN.out]; simp [g2])
      have t1 : ((b.lo.n : Int) != (n : Int)) = false := by simp [g1]
      have t2 : ((b.hi.n : Int) != (n : Int)) = true := by simp; omega
      clear g1 g2
      go_enter Try.func44, Try.ntmps44
      go_wp2_with fail
      go_ret
      exact ⟨ret_bool HF.out.symm, (Below.refl _ _).alloc (Nat.le_refl _) _⟩
  · have HF : Hid (Bx.contains lo hi p = false) := Lib.hid (by unfold Bx.contains; rw [HL.out, HN.out]; simp [g1])
    have t1 : ((b.lo.n : Int) != (n : Int)) = true := by simp; omega
    clear g1
    go_enter Try.func44, Try.ntmps44
    go_wp2_with fail
    go_ret
    exact ⟨ret_bool HF.out.symm, (Below.refl _ _).alloc (Nat.le_refl _) _⟩
end Go.Proofs.Ytcncobhdfflelaa
