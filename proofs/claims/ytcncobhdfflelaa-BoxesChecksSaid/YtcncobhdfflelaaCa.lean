/- The contract of slices.Compare at ints; the order that it makes. -/
import Derived.Test.YtcncobhdfflelaaSo
namespace Go.Proofs.Ytcncobhdfflelaa
open Go.RowKit

namespace Bx
def cmpI (a b : Int) : Int := if a < b then -1 else if b < a then 1 else 0
def cmpL : List Int → List Int → Int
  | [], [] => 0
  | [], _ :: _ => -1
  | _ :: _, [] => 1
  | x :: xs, y :: ys => if cmpI x y ≠ 0 then cmpI x y else cmpL xs ys
theorem cmpL_at {xs ys : List Int} {k : Nat} {x y : Int} (hx : xs[k]? = some x) (hy : ys[k]? = some y) : cmpL (xs.drop k) (ys.drop k) = if cmpI x y ≠ 0 then cmpI x y else cmpL (xs.drop (k + 1)) (ys.drop (k + 1)) := by
  obtain ⟨h1, e1⟩ := List.getElem?_eq_some_iff.1 hx
  obtain ⟨h2, e2⟩ := List.getElem?_eq_some_iff.1 hy
  rw [List.drop_eq_getElem_cons h1, List.drop_eq_getElem_cons h2, cmpL, e1, e2]
theorem cmpL_more {xs ys : List Int} {k : Nat} (hx : k < xs.length) (hy : ys.length ≤ k) : cmpL (xs.drop k) (ys.drop k) = 1 := by
  rw [List.drop_eq_getElem_cons hx, List.drop_eq_nil_of_le hy, cmpL]
theorem cmpL_less {xs ys : List Int} {k : Nat} (hx : xs.length ≤ k) (hy : k < ys.length) : cmpL (xs.drop k) (ys.drop k) = -1 := by
  rw [List.drop_eq_getElem_cons hy, List.drop_eq_nil_of_le hx, cmpL]
theorem cmpL_same {xs ys : List Int} {k : Nat} (hx : xs.length ≤ k) (hy : ys.length ≤ k) : cmpL (xs.drop k) (ys.drop k) = 0 := by
  rw [List.drop_eq_nil_of_le hx, List.drop_eq_nil_of_le hy, cmpL]
theorem cmpI_val (x y : Int) : cmpI x y = if x < y then -1 else if y < x then 1 else 0 := by
  unfold cmpI
  split <;> (try split) <;> (try split) <;> simp_all <;> omega
theorem cmpL_refl : ∀ x : List Int, cmpL x x = 0
  | [] => rfl
  | x :: xs => by rw [cmpL, cmpL_refl xs]; simp [cmpI_val]
theorem cmpL_swap : ∀ x y : List Int, cmpL y x = - cmpL x y
  | [], [] => rfl
  | [], _ :: _ => rfl
  | _ :: _, [] => rfl
  | x :: xs, y :: ys => by
    rw [cmpL, cmpL, cmpL_swap xs ys, cmpI_val, cmpI_val]
    rcases Int.lt_trichotomy x y with h | h | h
    · have h2 : ¬ y < x := by omega
      simp [h, h2]
    · subst h; simp
    · have h2 : ¬ x < y := by omega
      simp [h, h2]
theorem cmpL_eq : ∀ {x y : List Int}, cmpL x y = 0 → x = y
  | [], [], _ => rfl
  | [], _ :: _, h => by simp [cmpL] at h
  | _ :: _, [], h => by simp [cmpL] at h
  | x :: xs, y :: ys, h => by
    rw [cmpL, cmpI_val] at h
    rcases Int.lt_trichotomy x y with h1 | h1 | h1
    · simp [h1] at h
    · subst h1; simp at h; rw [cmpL_eq h]
    · have h2 : ¬ x < y := by omega
      simp [h1, h2] at h
theorem cmpL_trans : ∀ {x y z : List Int}, cmpL x y < 0 → cmpL y z < 0 → cmpL x z < 0
  | [], [], _, h, _ => by simp [cmpL] at h
  | _ :: _, [], _, h, _ => by simp [cmpL] at h
  | _, _ :: _, [], _, h => by simp [cmpL] at h
  | [], _ :: _, _ :: _, _, _ => by simp [cmpL]
  | x :: xs, y :: ys, z :: zs, h1, h2 => by
    rw [cmpL, cmpI_val] at h1 h2 ⊢
    rcases Int.lt_trichotomy x y with a | a | a
    · rcases Int.lt_trichotomy y z with b | b | b
      · have : x < z := by omega
        simp [this]
      · have : x < z := by omega
        simp [this]
      · have b2 : ¬ y < z := by omega
        simp [b, b2] at h2
    · subst a
      rcases Int.lt_trichotomy x z with b | b | b
      · simp [b]
      · subst b
        simp at h1 h2 ⊢
        exact cmpL_trans h1 h2
      · have b2 : ¬ x < z := by omega
        simp [b, b2] at h2
    · have a2 : ¬ x < y := by omega
      simp [a, a2] at h1
end Bx
theorem isNaN84 (n : Int) (w : World) : Calls Try.prog 84 #[.int .i64 n] w fun e w' => e = .returned (.bool false) ∧ w = w' := by
  go_enter Try.func84, Try.ntmps84
  go_wp2
  go_ret
  exact ⟨by simp, rfl⟩


set_option maxHeartbeats 400000 in
theorem cmpI72 (a b : Int) (w : World) : Calls Try.prog 72 #[.int .i64 a, .int .i64 b] w fun e w' => e = .returned (.int .i64 (Bx.cmpI a b)) ∧ w = w' := by
  go_enter Try.func72, Try.ntmps72
  go_wp2_with (go_at_call 84; refine (isNaN84 _ _).mono ?_; rintro e w1 ⟨rfl, rfl⟩)
  all_goals
    go_ret
    refine ⟨ret_int ?_, rfl⟩
    unfold Bx.cmpI
    repeat' split
    all_goals first | rfl | (exfalso; omega)

set_option linter.unusedSimpArgs false in
set_option linter.unusedVariables false in
set_option maxHeartbeats 4000000 in
set_option maxRecDepth 100000 in
theorem compare63 (A B : Option Addr) (n m c d : Nat) (xs ys : List Int) (w : World) (hx : Rd w w.heap.size 1 A n (xs.map (Value.int .i64))) (hy : Rd w w.heap.size 1 B m (ys.map (Value.int .i64))) (hn : n ≤ 1000000) (hm : m ≤ 1000000) :
    Calls Try.prog 63 #[.slice A n c, .slice B m d] w fun e w' => e = .returned (.int .i64 (Bx.cmpL xs ys)) ∧ w' = w := by
  have hxl : xs.length = n := by simpa using hx.1
  have hyl : ys.length = m := by simpa using hy.1
  have HX := Lib.hid hx
  have HY := Lib.hid hy
  have HXL := Lib.hid hxl
  have HYL := Lib.hid hyl
  clear hx hy hxl hyl
  go_enter Try.func63, Try.ntmps63
  go_wp2_with fail
  go_loop [11] (fun i => ∃ k : Nat, k ≤ n ∧ i = .int .i64 k ∧ Hid (Bx.cmpL (xs.drop k) (ys.drop k) = Bx.cmpL xs ys) ∧ k ≤ m) (fun i => n - (intOf i).toNat)
  case atStart => exact ⟨0, Nat.zero_le _, rfl, rfl, Nat.zero_le _⟩
  case round =>
    obtain ⟨k, hk, rfl, HK, hkm⟩ := hrel
    by_cases hlt : k < n
    · obtain ⟨b, off, x, hx, hix, hcx, _, _⟩ := rd_int HX.out c hlt
      by_cases hlm : k < m
      · obtain ⟨b2, off2, y, hy, hiy, hcy, _, _⟩ := rd_int HY.out d hlm
        have HS := Lib.hid (Bx.cmpL_at hx hy)
        clear hx hy
        go_wp2_with fail
        refine (cmpI72 x y w).mono ?_
        rintro e w1 ⟨rfl, rfl⟩
        obtain ⟨r, hr⟩ : ∃ r, Bx.cmpI x y = r := ⟨_, rfl⟩
        have HR := Lib.hid hr
        rw [hr]
        clear hr
        by_cases h0 : r = 0
        · subst h0
          go_wp2_with fail
          go_round
          case rel =>
            refine ⟨k + 1, by omega, by go_num, Lib.hid ?_, by omega⟩
            rw [← HK.out, HS.out, HR.out, if_neg (by simp)]
          case measure => simp [intOf]; omega
        · go_wp2_with fail
          go_ret
          exact ⟨by rw [← HK.out, HS.out, HR.out, if_pos h0]; rfl, rfl⟩
      · clear hx
        have hz : Bx.cmpL xs ys = 1 := by rw [← HK.out, Bx.cmpL_more (by rw [HXL.out]; exact hlt) (by rw [HYL.out]; omega)]
        have HZ := Lib.hid hz
        clear hz
        go_wp2_with fail
        go_ret
        exact ⟨by rw [HZ.out]; rfl, rfl⟩
    · by_cases hlm : n < m
      · have hz : Bx.cmpL xs ys = -1 := by rw [← HK.out, Bx.cmpL_less (by rw [HXL.out]; omega) (by rw [HYL.out]; omega)]
        have HZ := Lib.hid hz
        clear hz
        go_wp2_with fail
        go_ret
        exact ⟨by rw [HZ.out]; rfl, rfl⟩
      · have hz : Bx.cmpL xs ys = 0 := by rw [← HK.out, Bx.cmpL_same (by rw [HXL.out]; omega) (by rw [HYL.out]; omega)]
        have HZ := Lib.hid hz
        clear hz
        go_wp2_with fail
        go_ret
        exact ⟨by rw [HZ.out]; rfl, rfl⟩

end Go.Proofs.Ytcncobhdfflelaa
