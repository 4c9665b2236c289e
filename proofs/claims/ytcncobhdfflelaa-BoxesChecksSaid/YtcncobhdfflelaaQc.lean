/- The contracts of the reference's points and Count. -/
import Derived.Test.YtcncobhdfflelaaQb
namespace Go.Proofs.Ytcncobhdfflelaa
namespace Bx
theorem inD_self : ∀ lo hi : List Int, inD lo hi lo hi = ordered lo hi
  | [], _ => by cases ‹List Int› <;> rfl
  | _ :: _, [] => rfl
  | a :: lo, b :: hi => by
    rw [inD, ordered, inD_self lo hi]
    simp
theorem within_self (lo hi : List Int) : within lo hi (lo, hi) = (decide (lo.length = hi.length) && ordered lo hi) := by
  unfold within
  rw [inD_self]
  simp only [decide_true, Bool.true_and, eq_comm]
theorem pts_big {V d : Nat} (hV : 1 ≤ V) (hd : 9007199254740992 ≤ d) : min (V * (d + 1)) 9007199254740992 = 9007199254740992 := by
  have := Nat.mul_le_mul hV (show 9007199254740992 ≤ d + 1 by omega)
  omega
theorem pts_over {V T d : Nat} (hT : T = min V 9007199254740992) (h : 9007199254740992 < T * (d + 1)) : min (V * (d + 1)) 9007199254740992 = 9007199254740992 := by
  have := Nat.mul_le_mul_right (d + 1) (show T ≤ V by omega)
  omega
theorem pts_fit {V T d : Nat} (hT : T = min V 9007199254740992) (h : T * (d + 1) ≤ 9007199254740992) : min (V * (d + 1)) 9007199254740992 = T * (d + 1) := by
  by_cases hV : V ≤ 9007199254740992
  · have e : T = V := by omega
    rw [← e]
    exact Nat.min_eq_left h
  · have e : T = 9007199254740992 := by omega
    have hd : d = 0 := by
      rcases Nat.eq_zero_or_pos d with h0 | h0
      · exact h0
      · have := Nat.mul_le_mul_left T (show 2 ≤ d + 1 by omega)
        omega
    subst hd
    omega
theorem quo_lt {T d : Nat} : ((9007199254740992 : Int) / ((d : Int) + 1) < (T : Int)) ↔ 9007199254740992 < T * (d + 1) := by
  rw [Int.ediv_lt_iff_lt_mul (by omega)]
  constructor
  · intro h
    have : ((T : Int) * ((d : Int) + 1)) = ((T * (d + 1) : Nat) : Int) := by push_cast; rfl
    omega
  · intro h
    have : ((T : Int) * ((d : Int) + 1)) = ((T * (d + 1) : Nat) : Int) := by push_cast; rfl
    omega
end Bx
open Go.RowKit

set_option linter.unusedSimpArgs false in
set_option linter.unusedVariables false in
set_option maxRecDepth 100000 in
set_option maxHeartbeats 3200000 in
theorem points52 (b : BxC) (lo hi : List Int) (w : World) (hx : Rd w w.heap.size 1 b.lo.a b.lo.n (ints lo)) (hy : Rd w w.heap.size 1 b.hi.a b.hi.n (ints hi)) (hn : b.lo.n ≤ 1000000) (h1 : Bx.I64 lo) (h2 : Bx.I64 hi) :
    Calls Try.prog 52 #[bxV b] w fun e w' => e = .returned (.int .i64 (Bx.pts lo hi : Int)) ∧ Below w.heap.size w w' := by
  have HX := Lib.hid hx
  have HY := Lib.hid hy
  have HL := Lib.hid (show lo.length = b.lo.n by simpa using hx.1)
  have HM := Lib.hid (show hi.length = b.hi.n by simpa using hy.1)
  have H1 := Lib.hid h1
  have H2 := Lib.hid h2
  have CW := Lib.hid (fun (X : World) (hX : Below w.heap.size w X) => within48 b b.lo.a b.hi.a b.lo.n b.hi.n b.lo.c b.hi.c lo hi lo hi X (HX.out.up hX) (HY.out.up hX) (HX.out.up hX) (HY.out.up hX) (fun _ h => by omega) hn)
  rw [Bx.within_self] at CW
  have HP : Hid (Bx.pts lo hi = if (decide (lo.length = hi.length) && Bx.ordered lo hi) = true then min (Bx.vol lo hi) 9007199254740992 else 0) := Lib.hid (by unfold Bx.pts; simp)
  clear hx hy h1 h2
  cases hw : (decide (lo.length = hi.length) && Bx.ordered lo hi) with
  | false =>
    have HF : Hid ((Bx.pts lo hi : Int) = 0) := Lib.hid (by rw [HP.out, hw]; rfl)
    rw [hw] at CW
    clear hw HP
    go_enter Try.func52, Try.ntmps52
    go_wp2_with fail
    refine (CW.out _ ((Below.refl _ _).alloc (Nat.le_refl _) _)).mono ?_
    rintro e w1 ⟨rfl, g1⟩
    have HB1 : Hid (Below w.heap.size w w1) := Lib.hid (Below.call ((Below.refl _ _).alloc (Nat.le_refl _) _) g1)
    clear g1 CW
    go_wp2_with fail
    go_ret
    exact ⟨ret_int HF.out.symm, HB1.out⟩
  | true =>
    have HPT : Hid (Bx.pts lo hi = min (Bx.vol lo hi) 9007199254740992) := Lib.hid (by rw [HP.out, hw]; rfl)
    rw [hw] at CW
    simp only [Bool.and_eq_true, decide_eq_true_eq] at hw
    obtain ⟨hle0, hor⟩ := hw
    have hle : b.lo.n = b.hi.n := by rw [← HL.out, ← HM.out]; exact hle0
    have HOR : Hid (∀ p ∈ lo.zip hi, p.1 ≤ p.2) := Lib.hid (fun p hp => by
      obtain ⟨i, hi', he⟩ := List.getElem_of_mem hp
      have h1 : (lo.zip hi)[i]? = some p := by rw [List.getElem?_eq_getElem hi', he]
      rw [List.getElem?_zip_eq_some] at h1
      exact Bx.ordered_get i hor h1.1 h1.2)
    have hle2 : b.lo.n ≤ b.hi.n := by omega
    clear hle0 hor hle HP
    go_enter Try.func52, Try.ntmps52
    go_wp2_with fail
    refine (CW.out _ ((Below.refl _ _).alloc (Nat.le_refl _) _)).mono ?_
    rintro e wo ⟨rfl, g1⟩
    have x0 : wo.cell? ⟨w.heap.size, 0, none⟩ = some (.slice b.lo.a b.lo.n b.lo.c) := (g1.cell (p := ⟨w.heap.size, 0, none⟩) (by simp)).trans (by simp [go_sem])
    have x1 : wo.cell? ⟨w.heap.size, 1, none⟩ = some (.slice b.hi.a b.hi.n b.hi.c) := (g1.cell (p := ⟨w.heap.size, 1, none⟩) (by simp)).trans (by simp [go_sem])
    have HB : Hid (Below w.heap.size w wo) := Lib.hid (Below.call ((Below.refl _ _).alloc (Nat.le_refl _) _) g1)
    have hbo : w.heap.size < wo.heap.size := by have := g1.size; simp at this; omega
    clear g1 CW
    go_wp2_with fail
    go_loopw [3, 4] (fun t i W => ∃ (j T : Nat), j ≤ b.lo.n ∧ i = .int .i64 j ∧ t = .int .i64 T ∧ T ≤ 9007199254740992 ∧ Hid (T = min (Bx.volF ((lo.zip hi).take j)) 9007199254740992) ∧ Hid (Below wo.heap.size wo W)) (fun _ i _ => b.lo.n - (intOf i).toNat)
    case atStart => exact ⟨0, 1, Nat.zero_le _, rfl, rfl, by decide, Lib.hid rfl, Lib.hid (Below.refl _ _)⟩
    case round =>
      obtain ⟨j, T, hj, rfl, rfl, hT, HK, HJ⟩ := hrel
      have y0 : wr.cell? ⟨w.heap.size, 0, none⟩ = some (.slice b.lo.a b.lo.n b.lo.c) := (HJ.out.cell (p := ⟨w.heap.size, 0, none⟩) hbo).trans x0
      have y1 : wr.cell? ⟨w.heap.size, 1, none⟩ = some (.slice b.hi.a b.hi.n b.hi.c) := (HJ.out.cell (p := ⟨w.heap.size, 1, none⟩) hbo).trans x1
      have HBr : Hid (Below w.heap.size w wr) := Lib.hid (Below.call HB.out HJ.out)
      by_cases hlj : j < b.lo.n
      · obtain ⟨b1, o1, x, e1, ix1, c1, hb1, _⟩ := rd_int (HX.out.below HBr.out (Nat.le_refl _)) b.lo.c hlj
        obtain ⟨b2, o2, y, e2, ix2, c2, hb2, _⟩ := rd_int (HY.out.below HBr.out (Nat.le_refl _)) b.hi.c (show j < b.hi.n by omega)
        have r1 := H1.out x (List.mem_of_getElem? e1)
        have r2 := H2.out y (List.mem_of_getElem? e2)
        have hxy : x ≤ y := HOR.out (x, y) (List.mem_of_getElem? (i := j) (by rw [List.getElem?_zip_eq_some]; exact ⟨e1, e2⟩))
        obtain ⟨dd, hdd⟩ : ∃ dd : Nat, y - x = (dd : Int) := ⟨(y - x).toNat, by omega⟩
        have HS : Hid (Bx.volF ((lo.zip hi).take (j + 1)) = Bx.volF ((lo.zip hi).take j) * (dd + 1)) := Lib.hid (by rw [Bx.volF_take_succ e1 e2, hdd]; congr 1)
        have HV1 : Hid (1 ≤ Bx.volF ((lo.zip hi).take j)) := Lib.hid (Bx.volF_pos _ (fun p hp => HOR.out p (List.mem_of_mem_take hp)))
        have hdl : dd < 18446744073709551616 := by omega
        obtain ⟨ws, hws⟩ : ∃ ws, IntKind.i64.wrap (y - x) = ws := ⟨_, rfl⟩
        have hw64 : wrap64 (y - x) = ws := by rw [← hws, IntWalk.i64_left]
        have hcase : (ws < 0 ∧ 9007199254740992 ≤ dd) ∨ (ws = (dd : Int) ∧ 0 ≤ ws) := by
          rw [← hws, hdd, IntKind.wrap_i64]
          omega
        clear e1 e2 r1 r2 hxy hdd
        by_cases q1 : ws < 0
        · have t6 : decide (ws < 0) = true := by simpa using q1
          have HF : Hid (9007199254740992 = min (Bx.volF ((lo.zip hi).take (j + 1))) 9007199254740992) := Lib.hid (by rw [HS.out, Bx.pts_big HV1.out (by omega)])
          clear q1 hcase
          go_wp2_with fail
          go_quiet (fail)
          go_wp2_with fail
          go_roundw
          case rel => exact ⟨j + 1, 9007199254740992, hlj, by go_num, rfl, Nat.le_refl _, HF, Lib.hid (below_drewN HJ.out _)⟩
          case measure => simp [intOf]; omega
        · have hws2 : ws = (dd : Int) := by omega
          subst hws2
          have t6 : decide ((dd : Int) < 0) = false := decide_eq_false (by omega)
          by_cases q2 : 9007199254740992 ≤ dd
          · have t7 : decide ((9007199254740992 : Int) ≤ (dd : Int)) = true := by simp; omega
            have HF : Hid (9007199254740992 = min (Bx.volF ((lo.zip hi).take (j + 1))) 9007199254740992) := Lib.hid (by rw [HS.out, Bx.pts_big HV1.out q2])
            clear q1 q2 hcase
            go_wp2_with fail
            go_quiet (fail)
            go_wp2_with fail
            go_roundw
            case rel => exact ⟨j + 1, 9007199254740992, hlj, by go_num, rfl, Nat.le_refl _, HF, Lib.hid (below_drewN HJ.out _)⟩
            case measure => simp [intOf]; omega
          · have t7 : decide ((9007199254740992 : Int) ≤ (dd : Int)) = false := by simp; omega
            have hd1 : dd < 9007199254740992 := by omega
            have w1 : IntKind.i64.wrap ((dd : Int) + 1) = (dd : Int) + 1 := by rw [IntWalk.i64_left, IntWalk.wrap64_in _ (by omega)]
            clear hcase q1 q2
            by_cases q3 : 9007199254740992 < T * (dd + 1)
            · have q4 : (9007199254740992 : Int) / ((dd : Int) + 1) < (T : Int) := Bx.quo_lt.2 q3
              have HF : Hid (9007199254740992 = min (Bx.volF ((lo.zip hi).take (j + 1))) 9007199254740992) := Lib.hid (by rw [HS.out, Bx.pts_over HK.out q3])
              clear q3
              go_wp2_with fail
              go_quiet (fail)
              go_wp2_with fail
              go_roundw
              case rel => exact ⟨j + 1, 9007199254740992, hlj, by go_num, rfl, Nat.le_refl _, HF, Lib.hid (below_drewN HJ.out _)⟩
              case measure => simp [intOf]; omega
            · have q4 : ¬ (9007199254740992 : Int) / ((dd : Int) + 1) < (T : Int) := fun h => q3 (Bx.quo_lt.1 h)
              have hle : T * (dd + 1) ≤ 9007199254740992 := by omega
              have HF : Hid (T * (dd + 1) = min (Bx.volF ((lo.zip hi).take (j + 1))) 9007199254740992) := Lib.hid (by rw [HS.out, Bx.pts_fit HK.out hle])
              have e3 : (T : Int) * ((dd : Int) + 1) = ((T * (dd + 1) : Nat) : Int) := by push_cast; rfl
              obtain ⟨P, hP⟩ : ∃ P, T * (dd + 1) = P := ⟨_, rfl⟩
              rw [hP] at hle HF e3
              have w2 : IntKind.i64.wrap ((T : Int) * ((dd : Int) + 1)) = (P : Int) := by rw [e3, IntWalk.i64_left, IntWalk.wrap64_in _ (by omega)]
              clear q3 hP e3
              go_wp2_with fail
              go_quiet (fail)
              go_wp2_with fail
              go_roundw
              case rel => exact ⟨j + 1, P, hlj, by go_num, rfl, hle, HF, Lib.hid (below_drewN HJ.out _)⟩
              case measure => simp [intOf]; omega
      · have HF : Hid ((Bx.pts lo hi : Int) = (T : Int)) := Lib.hid (by
          have e : Bx.vol lo hi = Bx.volF ((lo.zip hi).take j) := by rw [List.take_of_length_le (by rw [List.length_zip, HL.out, HM.out]; omega)]; rfl
          rw [HPT.out, e, ← HK.out])
        go_wp2_with fail
        go_ret
        exact ⟨ret_int HF.out.symm, HBr.out⟩

set_option linter.unusedSimpArgs false in
set_option linter.unusedVariables false in
set_option maxRecDepth 100000 in
set_option maxHeartbeats 3200000 in
theorem count22 (u : Sl) (qs : List BxM) (w : World) (hu : Rd w w.heap.size 3 u.a u.n ((qs.map (·.1)).flatMap bxL)) (hq : ∀ q ∈ qs, BoxRd6 w q) (hun : u.n ≤ 1000000) :
    Calls Try.prog 22 #[.slice u.a u.n u.c] w fun e w' => e = .returned (.int .i64 (Bx.countF (qs.map plD) 0)) ∧ Below w.heap.size w w' := by
  have HU := Lib.hid hu
  have HQ := Lib.hid hq
  have HL := Lib.hid (show qs.length = u.n by have := hu.len (fun _ => rfl) (by omega); simpa using this)
  clear hu hq
  go_enter Try.func22, Try.ntmps22
  go_wp2_with fail
  go_loopw [3, 4] (fun t i W => ∃ (k : Nat) (T : Int), k ≤ u.n ∧ i = .int .i64 k ∧ t = .int .i64 T ∧ 0 ≤ T ∧ T ≤ 9007199254740992 ∧ Hid (Bx.countF ((qs.map plD).drop k) T = Bx.countF (qs.map plD) 0) ∧ Hid (Below w.heap.size w W)) (fun _ i _ => u.n - (intOf i).toNat)
  case atStart => exact ⟨0, 0, Nat.zero_le _, rfl, rfl, by decide, by decide, Lib.hid rfl, Lib.hid (Below.refl _ _)⟩
  case round =>
    obtain ⟨k, T, hk, rfl, rfl, hT0, hT1, HK, HB⟩ := hrel
    by_cases hlt : k < u.n
    · obtain ⟨b1, o1, q, hqi, hb1, hix1, x0, x1, x2⟩ := box_at (HU.out.up HB.out) u.c hlt
      have QR := Lib.hid (HQ.out q (List.mem_of_getElem? hqi))
      have hdk : (qs.map plD).drop k = plD q :: (qs.map plD).drop (k + 1) := by
        have h1 : (qs.map plD)[k]? = some (plD q) := by rw [List.getElem?_map, hqi]; rfl
        obtain ⟨h2, h3⟩ := List.getElem?_eq_some_iff.1 h1
        rw [List.drop_eq_getElem_cons h2, h3]
      have HZ : Hid (Bx.countF (qs.map plD) 0 = Bx.countF ((qs.map plD).drop (k + 1)) (if q.1.holds = true then min (T + (Bx.pts q.2.1 q.2.2 : Int)) 9007199254740992 else T)) := Lib.hid (by rw [← HK.out, hdk]; rfl)
      have CP := Lib.hid (fun (X : World) (hX : Below wr.heap.size wr X) => points52 q.1 q.2.1 q.2.2 X ((QR.out.rd.up HB.out).up hX).lo ((QR.out.rd.up HB.out).up hX).hi QR.out.n QR.out.i1 QR.out.i2)
      clear hqi hdk
      cases hh : q.1.holds with
      | true =>
        rw [hh] at x2 HZ
        obtain ⟨P, hP⟩ : ∃ P : Int, P = (Bx.pts q.2.1 q.2.2 : Int) := ⟨_, rfl⟩
        have hP1 : 0 ≤ P ∧ P ≤ 9007199254740992 := by rw [hP]; unfold Bx.pts; split <;> omega
        rw [← hP] at HZ CP
        have HH := Lib.hid hh
        rw [show bxV q.1 = .agg #[.slice q.1.lo.a q.1.lo.n q.1.lo.c, .slice q.1.hi.a q.1.hi.n q.1.hi.c, .bool true] from by show Value.agg #[.slice q.1.lo.a q.1.lo.n q.1.lo.c, .slice q.1.hi.a q.1.hi.n q.1.hi.c, .bool q.1.holds] = _; rw [hh]] at CP
        have hw1 : IntKind.i64.wrap (T + P) = T + P := by rw [IntWalk.i64_left, IntWalk.wrap64_in _ (by omega)]
        have hw2 : wrap64 (T + P) = T + P := by rw [IntWalk.wrap64_in _ (by omega)]
        obtain ⟨mn, hmn⟩ : ∃ mn, min (T + P) 9007199254740992 = mn := ⟨_, rfl⟩
        have hmn2 : 0 ≤ mn ∧ mn ≤ 9007199254740992 := by omega
        have HN : Hid (Bx.countF ((qs.map plD).drop (k + 1)) mn = Bx.countF (qs.map plD) 0) := Lib.hid (by rw [HZ.out, if_pos rfl, hmn])
        clear hh hP
        go_wp2_with fail
        refine (CP.out _ (Below.refl _ _)).mono ?_
        rintro e w5 ⟨rfl, h5⟩
        have H5 : Hid (Below w.heap.size w w5) := Lib.hid (Below.call HB.out h5)
        clear h5 CP
        go_wp2_with fail
        go_roundw
        case rel => exact ⟨k + 1, mn, by omega, by go_num, rfl, hmn2.1, hmn2.2, HN, H5⟩
        case measure => simp [intOf]; omega
      | false =>
        rw [hh] at x2 HZ
        have HN : Hid (Bx.countF ((qs.map plD).drop (k + 1)) T = Bx.countF (qs.map plD) 0) := Lib.hid (by rw [HZ.out]; rfl)
        clear hh CP
        go_wp2_with fail
        go_roundw
        case rel => exact ⟨k + 1, T, by omega, by go_num, rfl, hT0, hT1, HN, HB⟩
        case measure => simp [intOf]; omega
    · have HF : Hid (Bx.countF (qs.map plD) 0 = T) := Lib.hid (by
        rw [← HK.out, List.drop_eq_nil_of_le (by rw [List.length_map, HL.out]; omega)]
        rfl)
      go_wp2_with fail
      go_ret
      exact ⟨ret_int HF.out.symm, HB.out⟩
end Go.Proofs.Ytcncobhdfflelaa
