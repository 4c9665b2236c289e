/- mail.Valid, slices.Compare at ints. -/
import Derived.Test.YtjdjfjokniingaaPe
import Derived.Test.YtjdjfjokniingaaSa
namespace Go.Proofs.Ytjdjfjokniingaa
open Go.RowKit

set_option maxRecDepth 100000 in
theorem valid28 (path : ByteArray) (w : World) (hmax : path.size ≤ maxLen) :
    Calls Try.prog 28 #[.string path] w fun e w' => e = .returned (.bool (Ml.splitP path).isSome) ∧ Below w.heap.size w w' := by
  go_enter Try.func28, Try.ntmps28
  go_wp2_with fail
  refine (split70 path w hmax).mono ?_
  rintro e w1 ⟨hb, v, ⟨ok, rfl, hok⟩, hrow⟩
  obtain ⟨ao, cap, rfl⟩ := row_shape hrow
  go_wp2_with fail
  go_ret
  exact ⟨by rw [← hok]; rfl, hb⟩

namespace Ml
/-- slices.Compare. -/
def cmpL : List Int → List Int → Int
  | [], [] => 0
  | [], _ :: _ => -1
  | _ :: _, [] => 1
  | x :: xs, y :: ys => if Sy.cmpI x y ≠ 0 then Sy.cmpI x y else cmpL xs ys
theorem cmpL_at {xs ys : List Int} {k : Nat} {x y : Int} (hx : xs[k]? = some x) (hy : ys[k]? = some y) : cmpL (xs.drop k) (ys.drop k) = if Sy.cmpI x y ≠ 0 then Sy.cmpI x y else cmpL (xs.drop (k + 1)) (ys.drop (k + 1)) := by
  obtain ⟨h1, e1⟩ := List.getElem?_eq_some_iff.1 hx
  obtain ⟨h2, e2⟩ := List.getElem?_eq_some_iff.1 hy
  rw [List.drop_eq_getElem_cons h1, List.drop_eq_getElem_cons h2, cmpL, e1, e2]
theorem cmpL_more {xs ys : List Int} {k : Nat} (hx : k < xs.length) (hy : ys.length ≤ k) : cmpL (xs.drop k) (ys.drop k) = 1 := by
  rw [List.drop_eq_getElem_cons hx, List.drop_eq_nil_of_le hy, cmpL]
theorem cmpL_less {xs ys : List Int} {k : Nat} (hx : xs.length ≤ k) (hy : k < ys.length) : cmpL (xs.drop k) (ys.drop k) = -1 := by
  rw [List.drop_eq_getElem_cons hy, List.drop_eq_nil_of_le hx, cmpL]
theorem cmpL_same {xs ys : List Int} {k : Nat} (hx : xs.length ≤ k) (hy : ys.length ≤ k) : cmpL (xs.drop k) (ys.drop k) = 0 := by
  rw [List.drop_eq_nil_of_le hx, List.drop_eq_nil_of_le hy, cmpL]
end Ml

theorem rd_int {w : World} {B n : Nat} {A : Option Addr} {xs : List Int} (h : Rd w B 1 A n (xs.map (Value.int .i64))) (c : Nat) {k : Nat} (hk : k < n) :
    ∃ b off x, xs[k]? = some x ∧ (∀ W, Sem.run Try.prog (Instr.indexAt 100 (.slice A n c) (.int .i64 (k : Int))) W = .ok (.pointer (some ⟨b, off, none⟩)) W) ∧ w.cell? ⟨b, off, none⟩ = some (.int .i64 x) ∧ xs.length = n := by
  obtain ⟨hl, h2⟩ := h
  obtain ⟨b, off, hA, _, hc⟩ := h2 (by omega)
  have hl2 : xs.length = n := by simpa using hl
  have hkl : k < xs.length := by omega
  refine ⟨b, off + k, xs[k], List.getElem?_eq_getElem hkl, ?_, ?_, hl2⟩
  · intro W
    rw [hA]
    go_simp
  · apply hc
    rw [List.getElem?_map, List.getElem?_eq_getElem hkl]
    rfl

set_option linter.unusedSimpArgs false in
set_option linter.unusedVariables false in
set_option maxHeartbeats 4000000 in
set_option maxRecDepth 100000 in
theorem compare73 (A B : Option Addr) (n m c d : Nat) (xs ys : List Int) (w : World) (hx : Rd w w.heap.size 1 A n (xs.map (Value.int .i64))) (hy : Rd w w.heap.size 1 B m (ys.map (Value.int .i64))) (hn : n ≤ 1000000) (hm : m ≤ 1000000) :
    Calls Try.prog 73 #[.slice A n c, .slice B m d] w fun e w' => e = .returned (.int .i64 (Ml.cmpL xs ys)) ∧ w' = w := by
  have hxl : xs.length = n := by simpa using hx.1
  have hyl : ys.length = m := by simpa using hy.1
  have HX := Lib.hid hx
  have HY := Lib.hid hy
  have HXL := Lib.hid hxl
  have HYL := Lib.hid hyl
  clear hx hy hxl hyl
  go_enter Try.func73, Try.ntmps73
  go_wp2_with fail
  go_loop [11] (fun i => ∃ k : Nat, k ≤ n ∧ i = .int .i64 k ∧ Hid (Ml.cmpL (xs.drop k) (ys.drop k) = Ml.cmpL xs ys) ∧ k ≤ m) (fun i => n - (intOf i).toNat)
  case atStart => exact ⟨0, Nat.zero_le _, rfl, rfl, Nat.zero_le _⟩
  case round =>
    obtain ⟨k, hk, rfl, HK, hkm⟩ := hrel
    by_cases hlt : k < n
    · obtain ⟨b, off, x, hx, hix, hcx, _⟩ := rd_int HX.out c hlt
      by_cases hlm : k < m
      · obtain ⟨b2, off2, y, hy, hiy, hcy, _⟩ := rd_int HY.out d hlm
        have HS := Lib.hid (Ml.cmpL_at hx hy)
        clear hx hy
        go_wp2_with fail
        refine (cmpI_any x y w).mono ?_
        rintro e w1 ⟨rfl, rfl⟩
        obtain ⟨r, hr⟩ : ∃ r, Sy.cmpI x y = r := ⟨_, rfl⟩
        have HR := Lib.hid hr
        rw [hr]
        clear hr
        by_cases h0 : r = 0
        · subst h0
          go_wp2_with fail
          go_round
          case rel =>
            refine ⟨k + 1, by omega, by go_num, Lib.hid ?_, by omega⟩
            rw [← HK.out, HS.out, HR.out, if_neg (by simp)]
          case measure => simp [intOf]; omega
        · go_wp2_with fail
          go_ret
          exact ⟨by rw [← HK.out, HS.out, HR.out, if_pos h0]; rfl, rfl⟩
      · clear hx
        have hz : Ml.cmpL xs ys = 1 := by rw [← HK.out, Ml.cmpL_more (by rw [HXL.out]; exact hlt) (by rw [HYL.out]; omega)]
        have HZ := Lib.hid hz
        clear hz
        go_wp2_with fail
        go_ret
        exact ⟨by rw [HZ.out]; rfl, rfl⟩
    · by_cases hlm : n < m
      · have hz : Ml.cmpL xs ys = -1 := by rw [← HK.out, Ml.cmpL_less (by rw [HXL.out]; omega) (by rw [HYL.out]; omega)]
        have HZ := Lib.hid hz
        clear hz
        go_wp2_with fail
        go_ret
        exact ⟨by rw [HZ.out]; rfl, rfl⟩
      · have hz : Ml.cmpL xs ys = 0 := by rw [← HK.out, Ml.cmpL_same (by rw [HXL.out]; omega) (by rw [HYL.out]; omega)]
        have HZ := Lib.hid hz
        clear hz
        go_wp2_with fail
        go_ret
        exact ⟨by rw [HZ.out]; rfl, rfl⟩

theorem nan98 (a : ByteArray) (w : World) : Calls Try.prog 98 #[.string a] w fun e w' => e = .returned (.bool false) ∧ w' = w := by
  go_enter Try.func98, Try.ntmps98
  have h : (a.toList == a.toList) = true := by simp
  go_wp2_with fail
  go_ret
  exact ⟨rfl, rfl⟩
/-- Go's < on texts. -/
theorem less72 (a b : ByteArray) (w : World) :
    Calls Try.prog 72 #[.string a, .string b] w fun e w' => e = .returned (.bool (Op.bytesLess a.toList b.toList)) ∧ w' = w := by
  go_enter Try.func72, Try.ntmps72
  go_wp2_with fail
  refine (nan98 a w).mono ?_
  rintro e w1 ⟨rfl, rfl⟩
  go_wp2_with fail
  go_ret
  exact ⟨rfl, rfl⟩

def Ml.lessP (a b : ByteArray) : Bool := match Ml.splitP a, Ml.splitP b with
  | some x, some y => decide (Ml.cmpL x y < 0)
  | _, _ => Op.bytesLess a.toList b.toList

theorem Ml.accP_len : ∀ (cs : List (Int × Bool)) (l r : List Int), Ml.accP cs l = some r → r.length ≤ l.length + cs.length
  | [], l, r, h => by simp [Ml.accP] at h; simp [h]
  | c :: cs, l, r, h => by
    rw [Ml.accP] at h
    split at h
    · cases h
    · have := Ml.accP_len cs _ _ h
      simp at this ⊢
      omega
theorem Ml.splitP_len {path : ByteArray} : ((Ml.splitP path).getD []).length ≤ 201 := by
  unfold Ml.splitP
  split
  · simp
  · cases h : Ml.accP (Ml.comps path) [] with
    | none => simp
    | some r =>
      have h1 := Ml.accP_len _ _ _ h
      have h2 := Ml.comps_len path
      simp at h1 ⊢
      omega

set_option linter.unusedSimpArgs false in
set_option linter.unusedVariables false in
set_option maxHeartbeats 4000000 in
set_option maxRecDepth 100000 in
theorem less30 (a b : ByteArray) (w : World) (ha : a.size ≤ maxLen) (hb : b.size ≤ maxLen) :
    Calls Try.prog 30 #[.string a, .string b] w fun e w' => e = .returned (.bool (Ml.lessP a b)) ∧ Below w.heap.size w w' := by
  go_enter Try.func30, Try.ntmps30
  go_wp2_with fail
  refine (split70 a w ha).mono ?_
  rintro e w1 ⟨hb1, v, ⟨ok, rfl, hok⟩, hrow⟩
  obtain ⟨ao, cap, rfl⟩ := row_shape hrow
  have hrd := own_rd hrow
  clear hrow
  have HR1 := Lib.hid hrd
  have HO1 := Lib.hid hok
  have HL1 := Lib.hid (Ml.splitP_len (path := a))
  clear hrd hok
  generalize hxs : (Ml.splitP a).getD [] = xs at *
  have HX := Lib.hid hxs
  clear hxs
  go_wp2_with fail
  refine (split70 b w1 hb).mono ?_
  rintro e w2 ⟨hb2, v2, ⟨ok2, rfl, hok2⟩, hrow2⟩
  obtain ⟨ao2, cap2, rfl⟩ := row_shape hrow2
  have hrd2 := own_rd hrow2
  clear hrow2
  have hrd1 := (HR1.out.below hb2 (Nat.le_refl _)).more hb2.size
  clear HR1
  have HR1 := Lib.hid hrd1
  have HR2 := Lib.hid hrd2
  have HO2 := Lib.hid hok2
  have HL2 := Lib.hid (Ml.splitP_len (path := b))
  clear hrd2 hok2 hrd1
  generalize hys : (Ml.splitP b).getD [] = ys at *
  have HY := Lib.hid hys
  clear hys
  have hbb : Below w.heap.size w w2 := hb1.trans (hb2.mono hb1.size)
  cases ok with
  | false =>
    go_wp2_with fail
    refine (less72 a b w2).mono ?_
    rintro e w3 ⟨rfl, rfl⟩
    go_wp2_with fail
    go_ret
    have : Ml.splitP a = none := by simpa using HO1.out.symm
    exact ⟨by simp [Ml.lessP, this], hbb⟩
  | true =>
    cases ok2 with
    | false =>
      go_wp2_with fail
      refine (less72 a b w2).mono ?_
      rintro e w3 ⟨rfl, rfl⟩
      go_wp2_with fail
      go_ret
      have : Ml.splitP b = none := by simpa using HO2.out.symm
      exact ⟨by unfold Ml.lessP; rw [this]; cases Ml.splitP a <;> rfl, hbb⟩
    | true =>
      go_wp2_with fail
      refine (compare73 ao ao2 _ _ cap cap2 xs ys w2 HR1.out HR2.out (by have := HL1.out; omega) (by have := HL2.out; omega)).mono ?_
      rintro e w3 ⟨rfl, rfl⟩
      go_wp2_with fail
      go_ret
      obtain ⟨x, hx⟩ := Option.isSome_iff_exists.1 HO1.out.symm
      obtain ⟨y, hy⟩ := Option.isSome_iff_exists.1 HO2.out.symm
      have e1 : x = xs := by have := HX.out; rw [hx] at this; exact this
      have e2 : y = ys := by have := HY.out; rw [hy] at this; exact this
      subst e1
      subst e2
      exact ⟨by unfold Ml.lessP; rw [hx, hy]; rfl, hbb⟩
end Go.Proofs.Ytjdjfjokniingaa
