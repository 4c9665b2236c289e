/- The contracts of num.Clamp and boxes.valid. -/
import Derived.Test.YtcncobhdfflelaaKit
import Derived.Test.YtcncobhdfflelaaPl
namespace Go.Proofs.Ytcncobhdfflelaa
open Go.RowKit

theorem clamp36 (n a b : Int) (w : World) : Calls Try.prog 36 #[.int .i64 n, .int .i64 a, .int .i64 b] w fun e w' => e = .returned (.int .i64 (Bx.clamp n a b)) ∧ w = w' := by
  by_cases h1 : n < a
  · have H : Hid (Bx.clamp n a b = a) := Lib.hid (by unfold Bx.clamp; rw [if_pos h1])
    go_enter Try.func36, Try.ntmps36
    go_wp2
    go_ret
    exact ⟨ret_int H.out.symm, rfl⟩
  · by_cases h2 : b < n
    · have H : Hid (Bx.clamp n a b = b) := Lib.hid (by unfold Bx.clamp; rw [if_neg h1, if_pos h2])
      go_enter Try.func36, Try.ntmps36
      go_wp2
      go_ret
      exact ⟨ret_int H.out.symm, rfl⟩
    · have H : Hid (Bx.clamp n a b = n) := Lib.hid (by unfold Bx.clamp; rw [if_neg h1, if_neg h2])
      go_enter Try.func36, Try.ntmps36
      go_wp2
      go_ret
      exact ⟨ret_int H.out.symm, rfl⟩

/-- element k of a row of ints -/
theorem rd_int {w : World} {B n : Nat} {A : Option Addr} {xs : List Int} (h : Rd w B 1 A n (xs.map (Value.int .i64))) (c : Nat) {k : Nat} (hk : k < n) :
    ∃ b off x, xs[k]? = some x ∧ (∀ W, Sem.run Try.prog (Instr.indexAt 22 (.slice A n c) (.int .i64 (k : Int))) W = .ok (.pointer (some ⟨b, off, none⟩)) W) ∧ w.cell? ⟨b, off, none⟩ = some (.int .i64 x) ∧ b < B ∧ xs.length = n := by
  obtain ⟨hl, h2⟩ := h
  obtain ⟨b, off, hA, hb, hc⟩ := h2 (by omega)
  have hl2 : xs.length = n := by simpa using hl
  have hkl : k < xs.length := by omega
  refine ⟨b, off + k, xs[k], List.getElem?_eq_getElem hkl, ?_, ?_, hb, hl2⟩
  · intro W
    rw [hA]
    go_simp
  · apply hc
    rw [List.getElem?_map, List.getElem?_eq_getElem hkl]
    rfl
namespace Bx
theorem zip_at {lo hi : List Int} {k : Nat} {a b : Int} (ha : lo[k]? = some a) (hb : hi[k]? = some b) : (lo.zip hi).drop k = (a, b) :: (lo.zip hi).drop (k + 1) := by
  obtain ⟨h1, e1⟩ := List.getElem?_eq_some_iff.1 ha
  obtain ⟨h2, e2⟩ := List.getElem?_eq_some_iff.1 hb
  have hk : k < (lo.zip hi).length := by rw [List.length_zip]; omega
  rw [List.drop_eq_getElem_cons hk, List.getElem_zip, e1, e2]
end Bx
set_option linter.unusedSimpArgs false in
set_option linter.unusedVariables false in
set_option maxRecDepth 100000 in
set_option maxHeartbeats 3200000 in
theorem valid34 (A B : Option Addr) (n m c d : Nat) (lo hi : List Int) (w : World) (hx : Rd w w.heap.size 1 A n (lo.map (Value.int .i64))) (hy : Rd w w.heap.size 1 B m (hi.map (Value.int .i64))) :
    Calls Try.prog 34 #[.slice A n c, .slice B m d] w fun e w' => e = .returned (.bool (Bx.valid lo hi)) ∧ Below w.heap.size w w' := by
  have HX := Lib.hid hx
  have HY := Lib.hid hy
  have HL := Lib.hid (show lo.length = n by simpa using hx.1)
  have HM := Lib.hid (show hi.length = m by simpa using hy.1)
  clear hx hy
  by_cases hnm : n = m
  · subst hnm
    have t1 : ((n : Int) != (n : Int)) = false := by simp
    by_cases h16 : n ≤ 16
    · have t2 : decide ((16 : Int) < (n : Int)) = false := by simp; omega
      have HV : Hid (Bx.valid lo hi = (lo.zip hi).all fun p => Bx.okAt p.1 p.2) := Lib.hid (by unfold Bx.valid; rw [HL.out, HM.out]; simp [h16])
      go_enter Try.func34, Try.ntmps34
      go_wp2_with fail
      go_loopw [18] (fun i W => ∃ k : Nat, k ≤ n ∧ i = .int .i64 k ∧ Hid ((lo.zip hi).all (fun p => Bx.okAt p.1 p.2) = ((lo.zip hi).drop k).all fun p => Bx.okAt p.1 p.2) ∧ Hid (Below w.heap.size w W)) (fun i _ => n - (intOf i).toNat)
      case atStart => exact ⟨0, Nat.zero_le _, rfl, Lib.hid rfl, Lib.hid (Below.refl _ _)⟩
      case round =>
        obtain ⟨k, hk, rfl, HK, HB⟩ := hrel
        by_cases hlt : k < n
        · obtain ⟨b1, o1, a, ha, hix, hcx, _, _⟩ := rd_int (HX.out.below HB.out (Nat.le_refl _)) c hlt
          obtain ⟨b2, o2, b, hb, hiy, hcy, _, _⟩ := rd_int (HY.out.below HB.out (Nat.le_refl _)) d hlt
          have HZ := Lib.hid (Bx.zip_at ha hb)
          clear ha hb
          by_cases g1 : a < -9007199254740992
          · have HF : Hid (Bx.valid lo hi = false) := Lib.hid (by rw [HV.out, HK.out, HZ.out]; simp [Bx.okAt, g1])
            go_wp2_with fail
            go_quiet (fail)
            go_wp2_with fail
            go_ret
            exact ⟨ret_bool HF.out.symm, below_drewN HB.out _⟩
          · by_cases g2 : b < a
            · have HF : Hid (Bx.valid lo hi = false) := Lib.hid (by rw [HV.out, HK.out, HZ.out]; simp [Bx.okAt, g2])
              have t3 : decide (a < -9007199254740992) = false := by simpa using g1
              go_wp2_with fail
              go_quiet (fail)
              go_wp2_with fail
              go_ret
              exact ⟨ret_bool HF.out.symm, below_drewN HB.out _⟩
            · by_cases g3 : 9007199254740992 < b
              · have HF : Hid (Bx.valid lo hi = false) := Lib.hid (by rw [HV.out, HK.out, HZ.out]; simp [Bx.okAt, g3])
                have t3 : decide (a < -9007199254740992) = false := by simpa using g1
                have t4 : decide (b < a) = false := by simpa using g2
                go_wp2_with fail
                go_quiet (fail)
                go_wp2_with fail
                go_ret
                exact ⟨ret_bool HF.out.symm, below_drewN HB.out _⟩
              · have HF : Hid ((lo.zip hi).all (fun p => Bx.okAt p.1 p.2) = ((lo.zip hi).drop (k + 1)).all fun p => Bx.okAt p.1 p.2) := Lib.hid (by rw [HK.out, HZ.out]; simp [Bx.okAt, g1, g2, g3])
                have t3 : decide (a < -9007199254740992) = false := by simpa using g1
                have t4 : decide (b < a) = false := by simpa using g2
                have t5 : decide (9007199254740992 < b) = false := by simpa using g3
                go_wp2_with fail
                go_quiet (fail)
                go_wp2_with fail
                go_roundw
                case rel => exact ⟨k + 1, by omega, by go_num, HF, Lib.hid (below_drewN HB.out _)⟩
                case measure => simp [intOf]; omega
        · have HF : Hid (Bx.valid lo hi = true) := Lib.hid (by rw [HV.out, HK.out, List.drop_eq_nil_of_le (by rw [List.length_zip, HL.out, HM.out]; omega)]; rfl)
          go_wp2_with fail
          go_ret
          exact ⟨ret_bool HF.out.symm, HB.out⟩
    · have t2 : decide ((16 : Int) < (n : Int)) = true := by simp; omega
      have HF : Hid (Bx.valid lo hi = false) := Lib.hid (by unfold Bx.valid; rw [HL.out]; simp [h16])
      go_enter Try.func34, Try.ntmps34
      go_wp2_with fail
      go_ret
      exact ⟨ret_bool HF.out.symm, Below.refl _ _⟩
  · have t1 : ((n : Int) != (m : Int)) = true := by simp; omega
    have HF : Hid (Bx.valid lo hi = false) := Lib.hid (by unfold Bx.valid; rw [HL.out, HM.out]; simp [hnm])
    clear hnm
    go_enter Try.func34, Try.ntmps34
    go_wp2_with fail
    go_ret
    exact ⟨ret_bool HF.out.symm, Below.refl _ _⟩
end Go.Proofs.Ytcncobhdfflelaa
