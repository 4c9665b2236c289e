/- The contracts of the reference's Valid and Less. -/
import Derived.Test.YtjdjfjokniingaaVe
namespace Go.Proofs.Ytjdjfjokniingaa
open Go.RowKit

set_option maxRecDepth 100000 in
theorem valid29 (path : ByteArray) (w : World) (hs : path.size ≤ 1000000) :
    Calls Try.prog 29 #[.string path] w fun e w' => e = .returned (.bool (Ml.splitP path).isSome) ∧ Below w.heap.size w w' := by
  go_enter Try.func29, Try.ntmps29
  go_wp2_with fail
  refine (parts71 path w hs).mono ?_
  rintro e w1 ⟨hb, v, ⟨ok, rfl, hok⟩, hrow⟩
  obtain ⟨ao, cap, rfl⟩ := row_shape hrow
  go_wp2_with fail
  go_ret
  exact ⟨by rw [← hok]; rfl, hb⟩

namespace Ml
theorem cmpL_end {xs ys : List Int} {k : Nat} (h : xs.length ≤ k ∨ ys.length ≤ k) (h1 : k ≤ xs.length) (h2 : k ≤ ys.length) : decide (cmpL (xs.drop k) (ys.drop k) < 0) = decide (xs.length < ys.length) := by
  by_cases hx : xs.length ≤ k
  · by_cases hy : ys.length ≤ k
    · rw [cmpL_same hx hy, show xs.length = ys.length by omega]
      simp
    · rw [cmpL_less hx (by omega)]
      have : xs.length < ys.length := by omega
      simp [this]
  · have hy : ys.length ≤ k := by omega
    rw [cmpL_more (by omega) hy]
    have : ¬ xs.length < ys.length := by omega
    simp [this]
theorem cmpI_less {x y : Int} (h : x ≠ y) : Sy.cmpI x y ≠ 0 ∧ decide (Sy.cmpI x y < 0) = decide (x < y) := by
  unfold Sy.cmpI
  by_cases h1 : x < y
  · simp [h1]
  · by_cases h2 : y < x
    · simp [h1, h2]
    · omega
theorem cmpI_same (x : Int) : Sy.cmpI x x = 0 := by simp [Sy.cmpI]
end Ml

set_option linter.unusedSimpArgs false in
set_option linter.unusedVariables false in
set_option maxHeartbeats 4000000 in
set_option maxRecDepth 100000 in
theorem less31 (a b : ByteArray) (w : World) (ha : a.size ≤ 1000000) (hb : b.size ≤ 1000000) :
    Calls Try.prog 31 #[.string a, .string b] w fun e w' => e = .returned (.bool (Ml.lessP a b)) ∧ Below w.heap.size w w' := by
  go_enter Try.func31, Try.ntmps31
  go_wp2_with fail
  refine (parts71 a w ha).mono ?_
  rintro e w1 ⟨hb1, v, ⟨ok, rfl, hok⟩, hrow⟩
  obtain ⟨ao, cap, rfl⟩ := row_shape hrow
  have hrd := own_rd hrow
  clear hrow
  have HR1 := Lib.hid hrd
  have HO1 := Lib.hid hok
  have HL1 := Lib.hid (Ml.splitP_len (path := a))
  clear hrd hok
  generalize hxs : (Ml.splitP a).getD [] = xs at *
  have HX := Lib.hid hxs
  clear hxs
  go_wp2_with fail
  refine (parts71 b w1 hb).mono ?_
  rintro e w2 ⟨hb2, v2, ⟨ok2, rfl, hok2⟩, hrow2⟩
  obtain ⟨ao2, cap2, rfl⟩ := row_shape hrow2
  have hrd2 := own_rd hrow2
  clear hrow2
  have hrd1 := (HR1.out.below hb2 (Nat.le_refl _)).more hb2.size
  clear HR1
  have HR1 := Lib.hid hrd1
  have HR2 := Lib.hid hrd2
  have HO2 := Lib.hid hok2
  have HL2 := Lib.hid (Ml.splitP_len (path := b))
  clear hrd2 hok2 hrd1
  generalize hys : (Ml.splitP b).getD [] = ys at *
  have HY := Lib.hid hys
  clear hys
  have hbb : Below w.heap.size w w2 := hb1.trans (hb2.mono hb1.size)
  have HBB := Lib.hid hbb
  clear hbb hb1 hb2
  cases ok with
  | false =>
    have : Ml.splitP a = none := by simpa using HO1.out.symm
    have HZ := Lib.hid this
    clear this
    go_wp2_with fail
    go_ret
    exact ⟨by simp [Ml.lessP, HZ.out], HBB.out⟩
  | true =>
    cases ok2 with
    | false =>
      have : Ml.splitP b = none := by simpa using HO2.out.symm
      have HZ := Lib.hid this
      clear this
      go_wp2_with fail
      go_ret
      exact ⟨by unfold Ml.lessP; rw [HZ.out]; cases Ml.splitP a <;> rfl, HBB.out⟩
    | true =>
      have HZ : Hid (Ml.lessP a b = decide (Ml.cmpL xs ys < 0)) := Lib.hid (by
        obtain ⟨x, hx⟩ := Option.isSome_iff_exists.1 HO1.out.symm
        obtain ⟨y, hy⟩ := Option.isSome_iff_exists.1 HO2.out.symm
        have e1 : x = xs := by have := HX.out; rw [hx] at this; exact this
        have e2 : y = ys := by have := HY.out; rw [hy] at this; exact this
        subst e1
        subst e2
        unfold Ml.lessP; rw [hx, hy])
      obtain ⟨n, hn⟩ : ∃ n, xs.length = n := ⟨_, rfl⟩
      obtain ⟨m, hm⟩ : ∃ m, ys.length = m := ⟨_, rfl⟩
      have hn2 : n ≤ 201 := by rw [← hn]; exact HL1.out
      have hm2 : m ≤ 201 := by rw [← hm]; exact HL2.out
      rw [hn] at HR1
      rw [hm] at HR2
      have HN := Lib.hid hn
      have HM := Lib.hid hm
      simp only [hn, hm]
      clear hn hm HX HY HO1 HO2 HL1 HL2
      go_wp2_with fail
      go_loopw [9] (fun i W => ∃ k : Nat, k ≤ n ∧ k ≤ m ∧ i = .int .i64 k ∧ Hid (Ml.cmpL (xs.drop k) (ys.drop k) = Ml.cmpL xs ys) ∧ Hid (Below w2.heap.size w2 W)) (fun i _ => n - (intOf i).toNat)
      case atStart => exact ⟨0, Nat.zero_le _, Nat.zero_le _, rfl, Lib.hid rfl, Lib.hid (Below.refl _ _)⟩
      case round =>
        obtain ⟨k, hk, hkm, rfl, HK, HB⟩ := hrel
        by_cases hlt : k < n
        · by_cases hlm : k < m
          · obtain ⟨b1, off1, x, hx, hix, hcx, _⟩ := rd_int (HR1.out.below HB.out (Nat.le_refl _)) cap hlt
            obtain ⟨b2, off2, y, hy, hiy, hcy, _⟩ := rd_int (HR2.out.below HB.out (Nat.le_refl _)) cap2 hlm
            have HS := Lib.hid (Ml.cmpL_at hx hy)
            clear hx hy
            by_cases hxy : x = y
            · subst hxy
              have hq : (x != x) = false := by simp
              go_wp2_with fail
              go_quiet (fail)
              go_wp2_with fail
              go_roundw
              case rel =>
                refine ⟨k + 1, by omega, by omega, by go_num, Lib.hid ?_, Lib.hid (below_drewN HB.out _)⟩
                rw [← HK.out, HS.out, Ml.cmpI_same, if_neg (by simp)]
              case measure => simp [intOf]; omega
            · have hq : (x != y) = true := by simp [hxy]
              have HQ : Hid (Ml.lessP a b = decide (x < y)) := Lib.hid (by
                obtain ⟨e1, e2⟩ := Ml.cmpI_less hxy
                rw [HZ.out, ← HK.out, HS.out, if_pos e1, e2])
              clear hxy
              go_wp2_with fail
              go_quiet (fail)
              go_wp2_with fail
              go_quiet (fail)
              go_wp2_with fail
              go_ret
              exact ⟨ret_bool HQ.out.symm, HBB.out.trans ((below_drewN (below_drewN HB.out _) _).mono HBB.out.size)⟩
          · have HQ : Hid (Ml.lessP a b = decide (n < m)) := Lib.hid (by
              rw [HZ.out, ← HK.out, Ml.cmpL_end (.inr (by rw [HM.out]; omega)) (by rw [HN.out]; omega) (by rw [HM.out]; omega), HN.out, HM.out])
            go_wp2_with fail
            go_ret
            exact ⟨ret_bool (HQ.out.trans (by simp)).symm, HBB.out.trans (HB.out.mono HBB.out.size)⟩
        · have HQ : Hid (Ml.lessP a b = decide (n < m)) := Lib.hid (by
            rw [HZ.out, ← HK.out, Ml.cmpL_end (.inl (by rw [HN.out]; omega)) (by rw [HN.out]; omega) (by rw [HM.out]; omega), HN.out, HM.out])
          go_wp2_with fail
          go_ret
          exact ⟨ret_bool (HQ.out.trans (by simp)).symm, HBB.out.trans (HB.out.mono HBB.out.size)⟩
end Go.Proofs.Ytjdjfjokniingaa
