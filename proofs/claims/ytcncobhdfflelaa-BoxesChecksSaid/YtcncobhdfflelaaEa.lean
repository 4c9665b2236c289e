/- The contract of boxes.points. -/
import Derived.Test.YtcncobhdfflelaaDb
namespace Go.Proofs.Ytcncobhdfflelaa
open Go.RowKit

namespace Bx
/-- the bounds are in order -/
def ordered : List Int → List Int → Bool
  | a :: lo, b :: hi => !(decide (b < a)) && ordered lo hi
  | _, _ => true
/-- the number of points, at most 2^53 -/
def pts (lo hi : List Int) : Nat := if lo.length = hi.length ∧ ordered lo hi = true then min (vol lo hi) 9007199254740992 else 0
theorem ordered_at {lo hi : List Int} {k : Nat} {a b : Int} (h1 : lo[k]? = some a) (h2 : hi[k]? = some b) : ordered (lo.drop k) (hi.drop k) = (!(decide (b < a)) && ordered (lo.drop (k + 1)) (hi.drop (k + 1))) := by
  obtain ⟨e1, rfl⟩ := List.getElem?_eq_some_iff.1 h1
  obtain ⟨e2, rfl⟩ := List.getElem?_eq_some_iff.1 h2
  rw [List.drop_eq_getElem_cons e1, List.drop_eq_getElem_cons e2, ordered]
theorem ordered_end {lo hi : List Int} {k : Nat} (h : lo.length ≤ k) : ordered (lo.drop k) (hi.drop k) = true := by
  rw [List.drop_eq_nil_of_le h]
  rfl
theorem ordered_get : ∀ {lo hi : List Int} (i : Nat) {a b : Int}, ordered lo hi = true → lo[i]? = some a → hi[i]? = some b → a ≤ b
  | a :: lo, b :: hi, 0, _, _, h, h1, h2 => by
    simp at h1 h2
    subst h1 h2
    simp [ordered] at h
    omega
  | a :: lo, b :: hi, i + 1, _, _, h, h1, h2 => by
    simp only [ordered, Bool.and_eq_true] at h
    exact ordered_get i h.2 (by simpa using h1) (by simpa using h2)
  | [], _, _, _, _, _, h1, _ => by simp at h1
  | _ :: _, [], _, _, _, _, _, h2 => by simp at h2
theorem volF_pos : ∀ l : List (Int × Int), (∀ p ∈ l, p.1 ≤ p.2) → 1 ≤ volF l
  | [], _ => Nat.le_refl _
  | p :: l, h => by
    rw [volF]
    have := h p List.mem_cons_self
    exact Nat.mul_le_mul (show 1 ≤ (p.2 - p.1 + 1).toNat by omega) (volF_pos l (fun q hq => h q (List.mem_cons_of_mem _ hq)))
theorem volF_take_le (l : List (Int × Int)) (h : ∀ p ∈ l, p.1 ≤ p.2) (k : Nat) : volF (l.take k) ≤ volF l := by
  have e : volF l = volF (l.take k) * volF (l.drop k) := by rw [← volF_append, List.take_append_drop]
  rw [e]
  exact Nat.le_mul_of_pos_right _ (volF_pos _ (fun p hp => h p (List.mem_of_mem_drop hp)))
theorem volF_take_succ {lo hi : List Int} {k : Nat} {x y : Int} (hx : lo[k]? = some x) (hy : hi[k]? = some y) : volF ((lo.zip hi).take (k + 1)) = volF ((lo.zip hi).take k) * (y - x + 1).toNat := by
  have h1 : (lo.zip hi)[k]? = some (x, y) := by rw [List.getElem?_zip_eq_some]; exact ⟨hx, hy⟩
  obtain ⟨h2, h3⟩ := List.getElem?_eq_some_iff.1 h1
  rw [List.take_succ_eq_append_getElem h2, volF_append, h3]
  simp [volF]
def I64 (l : List Int) : Prop := ∀ x ∈ l, -9223372036854775808 ≤ x ∧ x ≤ 9223372036854775807
end Bx

set_option linter.unusedSimpArgs false in
set_option linter.unusedVariables false in
set_option maxRecDepth 100000 in
set_option maxHeartbeats 3200000 in
theorem points51 (b : BxC) (lo hi : List Int) (w : World) (hx : Rd w w.heap.size 1 b.lo.a b.lo.n (ints lo)) (hy : Rd w w.heap.size 1 b.hi.a b.hi.n (ints hi)) (hn : b.lo.n ≤ 1000000) (h1 : Bx.I64 lo) (h2 : Bx.I64 hi) :
    Calls Try.prog 51 #[bxV b] w fun e w' => e = .returned (.int .i64 (Bx.pts lo hi : Int)) ∧ Below w.heap.size w w' := by
  have HX := Lib.hid hx
  have HY := Lib.hid hy
  have HL := Lib.hid (show lo.length = b.lo.n by simpa using hx.1)
  have HM := Lib.hid (show hi.length = b.hi.n by simpa using hy.1)
  have H1 := Lib.hid h1
  have H2 := Lib.hid h2
  clear hx hy h1 h2
  by_cases hnm : b.lo.n = b.hi.n
  · have HNM := Lib.hid hnm
    have HP : Hid (Bx.pts lo hi = if Bx.ordered lo hi = true then min (Bx.vol lo hi) 9007199254740992 else 0) := Lib.hid (by unfold Bx.pts; rw [HL.out, HM.out]; simp [hnm])
    have t1 : ((b.lo.n : Int) != (b.hi.n : Int)) = false := by simp [hnm]
    have hle : b.lo.n ≤ b.hi.n := by omega
    clear hnm
    go_enter Try.func51, Try.ntmps51
    go_wp2_with fail
    go_loopw [19] (fun i W => ∃ k : Nat, k ≤ b.lo.n ∧ i = .int .i64 k ∧ Hid (Bx.ordered (lo.drop k) (hi.drop k) = Bx.ordered lo hi) ∧ Hid (Below (w.heap.size + 1) (boxB w b) W)) (fun i _ => b.lo.n - (intOf i).toNat)
    case atStart => exact ⟨0, Nat.zero_le _, rfl, Lib.hid rfl, Lib.hid (Below.refl _ _)⟩
    case round =>
      obtain ⟨k, hk, rfl, HK, HI⟩ := hrel
      have HB : Hid (Below w.heap.size w wr) := Lib.hid (((Below.refl _ _).alloc (Nat.le_refl _) _).trans (HI.out.mono (Nat.le_succ _)))
      have x0 : wr.cell? ⟨w.heap.size, 0, none⟩ = some (.slice b.lo.a b.lo.n b.lo.c) := (HI.out.cell (p := ⟨w.heap.size, 0, none⟩) (Nat.lt_succ_self _)).trans (by simp [boxB, go_sem])
      have x1 : wr.cell? ⟨w.heap.size, 1, none⟩ = some (.slice b.hi.a b.hi.n b.hi.c) := (HI.out.cell (p := ⟨w.heap.size, 1, none⟩) (Nat.lt_succ_self _)).trans (by simp [boxB, go_sem])
      by_cases hlt : k < b.lo.n
      · obtain ⟨b1, o1, x, e1, ix1, c1, _, _⟩ := rd_int (HX.out.below HB.out (Nat.le_refl _)) b.lo.c hlt
        obtain ⟨b2, o2, y, e2, ix2, c2, _, _⟩ := rd_int (HY.out.below HB.out (Nat.le_refl _)) b.hi.c (show k < b.hi.n by omega)
        have HS := Lib.hid (Bx.ordered_at e1 e2)
        clear e1 e2
        by_cases q1 : y < x
        · have HF : Hid ((Bx.pts lo hi : Int) = 0) := Lib.hid (by rw [HP.out, ← HK.out, HS.out]; simp [q1])
          go_wp2_with fail
          go_quiet (fail)
          go_wp2_with fail
          go_ret
          exact ⟨ret_int HF.out.symm, below_drewN HB.out _⟩
        · have t5 : decide (y < x) = false := by simpa using q1
          have HF : Hid (Bx.ordered (lo.drop (k + 1)) (hi.drop (k + 1)) = Bx.ordered lo hi) := Lib.hid (by rw [← HK.out, HS.out]; simp [q1])
          go_wp2_with fail
          go_quiet (fail)
          go_wp2_with fail
          go_roundw
          case rel => exact ⟨k + 1, by omega, by go_num, HF, Lib.hid (below_drewN HI.out _)⟩
          case measure => simp [intOf]; omega
      · have hor : Bx.ordered lo hi = true := by rw [← HK.out, Bx.ordered_end (by rw [HL.out]; omega)]
        have HOR : Hid (∀ p ∈ lo.zip hi, p.1 ≤ p.2) := Lib.hid (fun p hp => by
          obtain ⟨i, hi', he⟩ := List.getElem_of_mem hp
          have h1 : (lo.zip hi)[i]? = some p := by rw [List.getElem?_eq_getElem hi', he]
          rw [List.getElem?_zip_eq_some] at h1
          exact Bx.ordered_get i hor h1.1 h1.2)
        have HPT : Hid (Bx.pts lo hi = min (Bx.vol lo hi) 9007199254740992) := Lib.hid (by rw [HP.out, if_pos hor])
        clear hor HK
        obtain ⟨wo, rfl⟩ : ∃ W, W = wr := ⟨wr, rfl⟩
        go_wp2_with fail
        clear hlt hk
        go_loopw [4, 37] (fun t i W => ∃ (j T : Nat), j ≤ b.lo.n ∧ i = .int .i64 j ∧ t = .int .u64 T ∧ T ≤ 9007199254740992 ∧ Hid (T = Bx.volF ((lo.zip hi).take j)) ∧ Hid (Below wo.heap.size wo W)) (fun _ i _ => b.lo.n - (intOf i).toNat)
        case atStart => exact ⟨0, 1, Nat.zero_le _, rfl, rfl, by decide, Lib.hid rfl, Lib.hid (Below.refl _ _)⟩
        case round =>
          obtain ⟨j, T, hj, rfl, rfl, hT, HK, HJ⟩ := hrel
          have hb0 := HB.out.size
          have hbo : w.heap.size < wo.heap.size := by have := HI.out.size; simp at this; omega
          have y0 : wr.cell? ⟨w.heap.size, 0, none⟩ = some (.slice b.lo.a b.lo.n b.lo.c) := (HJ.out.cell (p := ⟨w.heap.size, 0, none⟩) hbo).trans x0
          have y1 : wr.cell? ⟨w.heap.size, 1, none⟩ = some (.slice b.hi.a b.hi.n b.hi.c) := (HJ.out.cell (p := ⟨w.heap.size, 1, none⟩) hbo).trans x1
          have HBr : Hid (Below w.heap.size w wr) := Lib.hid (Below.call HB.out HJ.out)
          by_cases hlj : j < b.lo.n
          · obtain ⟨b1, o1, x, e1, ix1, c1, _, _⟩ := rd_int (HX.out.below HBr.out (Nat.le_refl _)) b.lo.c hlj
            obtain ⟨b2, o2, y, e2, ix2, c2, _, _⟩ := rd_int (HY.out.below HBr.out (Nat.le_refl _)) b.hi.c (show j < b.hi.n by omega)
            have r1 := H1.out x (List.mem_of_getElem? e1)
            have r2 := H2.out y (List.mem_of_getElem? e2)
            have hxy : x ≤ y := HOR.out (x, y) (List.mem_of_getElem? (i := j) (by rw [List.getElem?_zip_eq_some]; exact ⟨e1, e2⟩))
            obtain ⟨dd, hdd⟩ : ∃ dd : Nat, y - x = (dd : Int) := ⟨(y - x).toNat, by omega⟩
            have HS : Hid (Bx.volF ((lo.zip hi).take (j + 1)) = T * (dd + 1)) := Lib.hid (by rw [Bx.volF_take_succ e1 e2, ← HK.out, hdd]; congr 1)
            have HV : Hid (T * (dd + 1) ≤ Bx.vol lo hi) := Lib.hid (by rw [← HS.out]; exact Bx.volF_take_le _ HOR.out _)
            have HT1 : Hid (1 ≤ T) := Lib.hid (by rw [HK.out]; exact Bx.volF_pos _ (fun p hp => HOR.out p (List.mem_of_mem_take hp)))
            obtain ⟨ay, hay⟩ : ∃ ay, IntKind.u64.wrap y = ay := ⟨_, rfl⟩
            obtain ⟨ax, hax⟩ : ∃ ax, IntKind.u64.wrap x = ax := ⟨_, rfl⟩
            have hsub : IntKind.u64.wrap (ay - ax) = (dd : Int) := by rw [← hay, ← hax, IntKind.wrap_u64, IntKind.wrap_u64, IntKind.wrap_u64]; omega
            clear e1 e2 r1 r2 hxy hdd
            by_cases q1 : 9007199254740992 ≤ dd
            · have t6 : decide ((9007199254740992 : Int) ≤ (dd : Int)) = true := by simp; omega
              have HF : Hid ((Bx.pts lo hi : Int) = 9007199254740992) := Lib.hid (by
                have a := HV.out
                have c := Nat.mul_le_mul HT1.out (show 9007199254740992 ≤ dd + 1 by omega)
                rw [HPT.out, Nat.min_eq_right (by omega)]; rfl)
              clear q1
              go_wp2_with fail
              go_quiet (fail)
              go_wp2_with fail
              go_ret
              exact ⟨ret_int HF.out.symm, below_drewN HBr.out _⟩
            · have t6 : decide ((9007199254740992 : Int) ≤ (dd : Int)) = false := by simp; omega
              have hw1 : IntKind.u64.wrap ((dd : Int) + 1) = ((dd + 1 : Nat) : Int) := by rw [IntKind.wrap_u64]; omega
              have CM := Lib.hid (fun X => mul65 T (dd + 1) (by omega) (by omega) X)
              obtain ⟨L, hL⟩ : ∃ L, T * (dd + 1) % 18446744073709551616 = L := ⟨_, rfl⟩
              obtain ⟨H, hH⟩ : ∃ H, T * (dd + 1) / 18446744073709551616 = H := ⟨_, rfl⟩
              rw [hL, hH] at CM
              have HLH : Hid (T * (dd + 1) = L + 18446744073709551616 * H) := Lib.hid (by omega)
              have HL64 : Hid (L < 18446744073709551616) := Lib.hid (by omega)
              clear hL hH q1
              by_cases q2 : 0 < H
              · have HF : Hid ((Bx.pts lo hi : Int) = 9007199254740992) := Lib.hid (by
                  have a := HV.out
                  have c := HLH.out
                  rw [HPT.out, Nat.min_eq_right (by omega)]; rfl)
                go_wp2_with fail
                go_quiet (fail)
                go_wp2_with fail
                refine (CM.out _).mono ?_
                rintro e _ ⟨rfl, rfl⟩
                go_wp2_with fail
                go_ret
                exact ⟨ret_int HF.out.symm, below_drewN HBr.out _⟩
              · have hH0 : H = 0 := by omega
                subst hH0
                by_cases q3 : 9007199254740992 < L
                · have t8 : decide ((9007199254740992 : Int) < (L : Int)) = true := by simp; omega
                  have HF : Hid ((Bx.pts lo hi : Int) = 9007199254740992) := Lib.hid (by
                    have a := HV.out
                    have c := HLH.out
                    rw [HPT.out, Nat.min_eq_right (by omega)]; rfl)
                  clear q3
                  go_wp2_with fail
                  go_quiet (fail)
                  go_wp2_with fail
                  refine (CM.out _).mono ?_
                  rintro e _ ⟨rfl, rfl⟩
                  go_wp2_with fail
                  go_ret
                  exact ⟨ret_int HF.out.symm, below_drewN HBr.out _⟩
                · have t8 : decide ((9007199254740992 : Int) < (L : Int)) = false := by simp; omega
                  have hL2 : L ≤ 9007199254740992 := by omega
                  have HF : Hid (L = Bx.volF ((lo.zip hi).take (j + 1))) := Lib.hid (by rw [HS.out, HLH.out]; omega)
                  clear q3
                  go_wp2_with fail
                  go_quiet (fail)
                  go_wp2_with fail
                  refine (CM.out _).mono ?_
                  rintro e _ ⟨rfl, rfl⟩
                  go_wp2_with fail
                  go_roundw
                  case rel => exact ⟨j + 1, L, by omega, by go_num, rfl, hL2, HF, Lib.hid (below_drewN HJ.out _)⟩
                  case measure => simp [intOf]; omega
          · have HF : Hid ((Bx.pts lo hi : Int) = (T : Int)) := Lib.hid (by
              have e : Bx.vol lo hi = T := by rw [HK.out, List.take_of_length_le (by rw [List.length_zip, HL.out, HM.out]; omega)]; rfl
              rw [HPT.out, e, Nat.min_eq_left hT])
            have hwt : IntKind.i64.wrap (T : Int) = (T : Int) := by rw [IntWalk.i64_left, IntWalk.wrap64_in _ (by omega)]
            have hwt2 : wrap64 (T : Int) = (T : Int) := by rw [IntWalk.wrap64_in _ (by omega)]
            go_wp2_with fail
            go_ret
            exact ⟨ret_int HF.out.symm, HBr.out⟩
  · have t1 : ((b.lo.n : Int) != (b.hi.n : Int)) = true := by simp; omega
    have HF : Hid ((Bx.pts lo hi : Int) = 0) := Lib.hid (by unfold Bx.pts; rw [HL.out, HM.out]; simp [hnm])
    clear hnm
    go_enter Try.func51, Try.ntmps51
    go_wp2_with fail
    go_ret
    exact ⟨ret_int HF.out.symm, (Below.refl _ _).alloc (Nat.le_refl _) _⟩
end Go.Proofs.Ytcncobhdfflelaa
