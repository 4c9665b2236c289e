/- The contract of boxes.Check. -/
import Derived.Test.YtcncobhdfflelaaDa
namespace Go.Proofs.Ytcncobhdfflelaa
open Go.RowKit

/-- between two rounds of Check -/
structure ChkRel (w wr : World) (X : Nat) (lo hi : List Int) (bs : List Bx.Dm) (k t : Nat) (us : List Nat) : Prop where
  len : us.length = 15
  wd : Bx.Wd us
  vl : Bx.val us = t
  le : t ≤ k * 36028797018963968 ^ 16
  run : Bx.chkF lo hi t (bs.drop k) = Bx.chkF lo hi 0 bs
  bx : BoxAt wr X (us.map u64V)
  bl : Below w.heap.size w wr
theorem vol_mod {b : Bx.Dm} (h : Bx.Fit b) : Bx.vol b.1 b.2 % 18446744073709551616 ^ 15 = Bx.vol b.1 b.2 := by
  refine Nat.mod_eq_of_lt (Nat.lt_of_le_of_lt h.vol.2 (by decide))
theorem sum_mod {k t v : Nat} (h : t ≤ k * 36028797018963968 ^ 16) (hv : v ≤ 36028797018963968 ^ 16) (hk : k + 1 ≤ 1000000) : (t + v) % 18446744073709551616 ^ 15 = t + v ∧ t + v ≤ (k + 1) * 36028797018963968 ^ 16 := by
  have h1 : t + v ≤ (k + 1) * 36028797018963968 ^ 16 := by rw [Nat.succ_mul]; exact Nat.add_le_add h hv
  have h2 : (k + 1) * 36028797018963968 ^ 16 ≤ 1000000 * 36028797018963968 ^ 16 := Nat.mul_le_mul_right _ hk
  have h3 : (1000000 : Nat) * 36028797018963968 ^ 16 < 18446744073709551616 ^ 15 := by decide
  exact ⟨Nat.mod_eq_of_lt (Nat.lt_of_le_of_lt (Nat.le_trans h1 h2) h3), h1⟩
/-- boxes that can be read, of any dimensions -/
structure BoxRd (w : World) (q : BxM) : Prop where
  lo : Rd w w.heap.size 1 q.1.lo.a q.1.lo.n (ints q.2.1)
  hi : Rd w w.heap.size 1 q.1.hi.a q.1.hi.n (ints q.2.2)
theorem BoxRd.up {w W : World} {q : BxM} (h : BoxRd w q) (hb : Below w.heap.size w W) : BoxRd W q := ⟨h.lo.up hb, h.hi.up hb⟩

set_option linter.unusedSimpArgs false in
set_option linter.unusedVariables false in
set_option maxRecDepth 100000 in
set_option maxHeartbeats 6400000 in
theorem check19_bad (A D : Option Addr) (n m c d : Nat) (lo hi : List Int) (u : Sl) (qs : List BxM) (w : World) (hx : Rd w w.heap.size 1 A n (ints lo)) (hy : Rd w w.heap.size 1 D m (ints hi)) (hv : Bx.valid lo hi = false) :
    Calls Try.prog 19 #[.slice A n c, .slice D m d, .slice u.a u.n u.c] w fun e w' => e = .returned (.bool (Bx.check lo hi (qs.map (·.2)))) ∧ Below w.heap.size w w' := by
  have CV := Lib.hid (valid34 A D n m c d lo hi w hx hy)
  rw [hv] at CV
  have HF : Hid (Bx.check lo hi (qs.map (·.2)) = false) := Lib.hid (by unfold Bx.check; rw [hv]; rfl)
  clear hx hy hv
  go_enter Try.func19, Try.ntmps19
  go_wp2_with fail
  refine CV.out.mono ?_
  rintro e w1 ⟨rfl, h1⟩
  have H1 := Lib.hid h1
  clear h1
  go_wp2_with fail
  go_ret
  exact ⟨ret_bool HF.out.symm, H1.out⟩

set_option linter.unusedSimpArgs false in
set_option linter.unusedVariables false in
set_option maxRecDepth 100000 in
set_option maxHeartbeats 6400000 in
theorem check19_main (A D : Option Addr) (n c d : Nat) (lo hi : List Int) (u : Sl) (qs : List BxM) (w : World) (hx : Rd w w.heap.size 1 A n (ints lo)) (hy : Rd w w.heap.size 1 D n (ints hi)) (hv : Bx.valid lo hi = true)
    (hu : Rd w w.heap.size 3 u.a u.n ((qs.map (·.1)).flatMap bxL)) (hq : ∀ q ∈ qs, BoxRd w q) (hun : u.n ≤ 900000) :
    Calls Try.prog 19 #[.slice A n c, .slice D n d, .slice u.a u.n u.c] w fun e w' => e = .returned (.bool (Bx.check lo hi (qs.map (·.2)))) ∧ Below w.heap.size w w' := by
  have CV0 := Lib.hid (valid34 A D n n c d lo hi w hx hy)
  rw [hv] at CV0
  have hfit := Bx.valid_fit hv
  have hl1 : lo.length = n := by simpa using hx.1
  have hl2 : hi.length = n := by simpa using hy.1
  have hn16 : n ≤ 16 := by have := hfit.1; simp only at this; omega
  have HFIT := Lib.hid hfit
  have HL1 := Lib.hid hl1
  have HL2 := Lib.hid hl2
  have HX := Lib.hid hx
  have HY := Lib.hid hy
  have HU := Lib.hid hu
  have HQ := Lib.hid hq
  have HQL := Lib.hid (show qs.length = u.n by have := hu.len (fun _ => rfl) (by omega); simpa using this)
  have CKF : Hid (Bx.check lo hi (qs.map (·.2)) = match Bx.chkF lo hi 0 (qs.map (·.2)) with | some t => decide (t = Bx.vol lo hi) && Bx.disj (qs.map (·.2)) | none => false) := Lib.hid (by unfold Bx.check; rw [hv]; rfl)
  clear hx hy hu hq hv hfit hl1 hl2
  go_enter Try.func19, Try.ntmps19
  go_wp2_with fail
  refine CV0.out.mono ?_
  rintro e w1 ⟨rfl, h1⟩
  have H1 := Lib.hid h1
  have zw1 := h1.size
  clear h1 CV0
  obtain ⟨X, hXe⟩ : ∃ X, X = w1.heap.size := ⟨_, rfl⟩
  have hX : w.heap.size ≤ X := by omega
  go_wp2_with fail
  rw [← hXe]
  have BX0 : Hid (BoxAt (w1.alloc (.cells #[.int .u64 0, .int .u64 0, .int .u64 0, .int .u64 0, .int .u64 0, .int .u64 0, .int .u64 0, .int .u64 0, .int .u64 0, .int .u64 0, .int .u64 0, .int .u64 0, .int .u64 0, .int .u64 0, .int .u64 0] 65)) X (([0, 0, 0, 0, 0, 0, 0, 0, 0, 0, 0, 0, 0, 0, 0] : List Nat).map u64V)) := Lib.hid (by rw [hXe]; exact BoxAt.new w1 65 (([0, 0, 0, 0, 0, 0, 0, 0, 0, 0, 0, 0, 0, 0, 0] : List Nat).map u64V) _ rfl)
  clear hXe
  go_loopw [17] (fun i W => ∃ (k t : Nat) (us : List Nat), k ≤ u.n ∧ i = .int .i64 k ∧ Hid (ChkRel w W X lo hi (qs.map (·.2)) k t us)) (fun i _ => u.n - (intOf i).toNat)
  case atStart => exact ⟨0, 0, [0, 0, 0, 0, 0, 0, 0, 0, 0, 0, 0, 0, 0, 0, 0], Nat.zero_le _, rfl, Lib.hid ⟨rfl, fun a ha => by simp at ha; omega, rfl, Nat.zero_le _, rfl, BX0.out, H1.out.alloc H1.out.size _⟩⟩
  case round =>
    obtain ⟨wo, rfl⟩ : ∃ W, W = wr := ⟨wr, rfl⟩
    obtain ⟨k, t, us, hk, rfl, HR⟩ := hrel
    by_cases hlt : k < u.n
    · obtain ⟨b1, o1, q, hq, hb1, hix1, x0, x1, x2⟩ := box_at (HU.out.up HR.out.bl) u.c hlt
      have hqm : q ∈ qs := List.mem_of_getElem? hq
      have QR := Lib.hid ((HQ.out q hqm).up HR.out.bl)
      have hdk : (qs.map (·.2)).drop k = q.2 :: (qs.map (·.2)).drop (k + 1) := by
        have h1 : (qs.map (·.2))[k]? = some q.2 := by rw [List.getElem?_map, hq]; rfl
        obtain ⟨h2, h3⟩ := List.getElem?_eq_some_iff.1 h1
        rw [List.drop_eq_getElem_cons h2, h3]
      have HNO : Hid (Bx.within lo hi q.2 = false → Bx.check lo hi (qs.map (·.2)) = false) := Lib.hid (fun h => by
        rw [CKF.out, ← HR.out.run, hdk, Bx.chkF, h]; rfl)
      have HYES : Hid (Bx.within lo hi q.2 = true → Bx.chkF lo hi (t + Bx.vol q.2.1 q.2.2) ((qs.map (·.2)).drop (k + 1)) = Bx.chkF lo hi 0 (qs.map (·.2))) := Lib.hid (fun h => by
        rw [← HR.out.run, hdk, Bx.chkF, h, if_pos rfl])
      have hz0 := HR.out.bl.size
      have hXo : X < wo.heap.size := HR.out.bx.1
      have nX1 : ¬ X = wo.heap.size := by omega
      have nX2 : ¬ wo.heap.size = X := by omega
      clear hq hqm hdk
      by_cases g1 : q.1.lo.n = n
      · by_cases g2 : q.1.hi.n = n
        · have l1 : q.2.1.length = n := by have := QR.out.lo.1; rw [List.length_map] at this; omega
          have l2 : q.2.2.length = n := by have := QR.out.hi.1; rw [List.length_map] at this; omega
          have HWI : Hid (Bx.within lo hi q.2 = Bx.inD lo hi q.2.1 q.2.2) := Lib.hid (by unfold Bx.within; rw [l1, l2, HL1.out]; simp)
          have G1 := Lib.hid g1
          have G2 := Lib.hid g2
          have t1 : ((q.1.lo.n : Int) != (n : Int)) = false := by simp [g1]
          have t2 : ((q.1.hi.n : Int) != (n : Int)) = false := by simp [g2]
          have n1 : n ≤ q.1.lo.n := by omega
          have n2 : n ≤ q.1.hi.n := by omega
          clear g1 g2 l1 l2
          go_wp2_with fail
          go_loopw [37] (fun i W => ∃ j : Nat, j ≤ n ∧ i = .int .i64 j ∧ Hid (Bx.inD (lo.drop j) (hi.drop j) (q.2.1.drop j) (q.2.2.drop j) = Bx.inD lo hi q.2.1 q.2.2) ∧ Hid (Below (wo.heap.size + 1) (boxB wo q.1) W)) (fun i _ => n - (intOf i).toNat)
          case atStart => exact ⟨0, Nat.zero_le _, rfl, Lib.hid rfl, Lib.hid (Below.refl _ _)⟩
          case round =>
            obtain ⟨wi, rfl⟩ : ∃ W, W = wr := ⟨wr, rfl⟩
            obtain ⟨j, hj, rfl, HK, HI⟩ := hrel
            have hwi := HI.out.size
            simp at hwi
            have m1 : wo.heap.size < wi.heap.size := by omega
            have BO : Hid (Below wo.heap.size wo wi) := Lib.hid (((Below.refl _ _).alloc (Nat.le_refl _) _).trans (HI.out.mono (Nat.le_succ _)))
            have BWi : Hid (Below w.heap.size w wi) := Lib.hid (Below.call HR.out.bl BO.out)
            have x0 : wi.cell? ⟨wo.heap.size, 0, none⟩ = some (.slice q.1.lo.a q.1.lo.n q.1.lo.c) := (HI.out.cell (p := ⟨wo.heap.size, 0, none⟩) (Nat.lt_succ_self _)).trans (by simp [boxB, go_sem])
            have x1 : wi.cell? ⟨wo.heap.size, 1, none⟩ = some (.slice q.1.hi.a q.1.hi.n q.1.hi.c) := (HI.out.cell (p := ⟨wo.heap.size, 1, none⟩) (Nat.lt_succ_self _)).trans (by simp [boxB, go_sem])
            by_cases hlj : j < n
            · obtain ⟨b1, o1, a, e1, ix1, c1, _, _⟩ := rd_int (HX.out.below BWi.out (Nat.le_refl _)) c hlj
              obtain ⟨b2, o2, b, e2, ix2, c2, _, _⟩ := rd_int (HY.out.below BWi.out (Nat.le_refl _)) d hlj
              obtain ⟨b3, o3, x, e3, ix3, c3, _, _⟩ := rd_int (QR.out.lo.up BO.out) q.1.lo.c (show j < q.1.lo.n by omega)
              obtain ⟨b4, o4, y, e4, ix4, c4, _, _⟩ := rd_int (QR.out.hi.up BO.out) q.1.hi.c (show j < q.1.hi.n by omega)
              have HS := Lib.hid (Bx.inD_at e1 e2 e3 e4)
              clear e1 e2 e3 e4
              by_cases q1 : x < a
              · have HF : Hid (Bx.check lo hi (qs.map (·.2)) = false) := Lib.hid (HNO.out (by rw [HWI.out, ← HK.out, HS.out]; simp [q1]))
                go_wp2_with fail
                go_quiet (fail)
                go_wp2_with fail
                go_ret
                exact ⟨ret_bool HF.out.symm, below_drewN BWi.out _⟩
              · have t5 : decide (x < a) = false := by simpa using q1
                by_cases q2 : y < x
                · have HF : Hid (Bx.check lo hi (qs.map (·.2)) = false) := Lib.hid (HNO.out (by rw [HWI.out, ← HK.out, HS.out]; simp [q2]))
                  go_wp2_with fail
                  go_quiet (fail)
                  go_wp2_with fail
                  go_ret
                  exact ⟨ret_bool HF.out.symm, below_drewN BWi.out _⟩
                · have t6 : decide (y < x) = false := by simpa using q2
                  by_cases q3 : b < y
                  · have HF : Hid (Bx.check lo hi (qs.map (·.2)) = false) := Lib.hid (HNO.out (by rw [HWI.out, ← HK.out, HS.out]; simp [q3]))
                    go_wp2_with fail
                    go_quiet (fail)
                    go_wp2_with fail
                    go_ret
                    exact ⟨ret_bool HF.out.symm, below_drewN BWi.out _⟩
                  · have t7 : decide (b < y) = false := by simpa using q3
                    have HF : Hid (Bx.inD (lo.drop (j + 1)) (hi.drop (j + 1)) (q.2.1.drop (j + 1)) (q.2.2.drop (j + 1)) = Bx.inD lo hi q.2.1 q.2.2) := Lib.hid (by rw [← HK.out, HS.out]; simp [q1, q2, q3])
                    go_wp2_with fail
                    go_quiet (fail)
                    go_wp2_with fail
                    go_roundw
                    case rel => exact ⟨j + 1, by omega, by go_num, HF, Lib.hid (below_drewN HI.out _)⟩
                    case measure => simp [intOf]; omega
            · have hwt : Bx.within lo hi q.2 = true := by rw [HWI.out, ← HK.out, Bx.inD_end (by rw [HL1.out]; omega)]
              have hft := Bx.within_fit HFIT.out hwt
              have HRN : Hid (Bx.chkF lo hi (t + Bx.vol q.2.1 q.2.2) ((qs.map (·.2)).drop (k + 1)) = Bx.chkF lo hi 0 (qs.map (·.2))) := Lib.hid (HYES.out hwt)
              have hsm := sum_mod HR.out.le hft.vol.2 (by omega : k + 1 ≤ 1000000)
              have HTN := Lib.hid hsm.2
              have CV : Hid (∀ X : World, Below wi.heap.size wi X → Calls Try.prog 46 #[.slice q.1.lo.a q.1.lo.n q.1.lo.c, .slice q.1.hi.a q.1.hi.n q.1.hi.c] X (WordsPost (Bx.vol q.2.1 q.2.2) X)) := Lib.hid (fun X hX => by
                have a := (QR.out.lo.up BO.out).up hX
                have b := (QR.out.hi.up BO.out).up hX
                rw [G1.out] at a
                rw [G2.out] at b
                rw [G1.out, G2.out]
                exact volume46 q.1.lo.a q.1.hi.a n q.1.lo.c q.1.hi.c q.2.1 q.2.2 _ X a b (by omega) hft.2.2 (vol_mod hft))
              have CP : Hid (∀ (X : World) (es : List Nat), es.length = 15 → Bx.Wd es → Bx.val es = Bx.vol q.2.1 q.2.2 → Calls Try.prog 45 #[wV us, wV es] X (WordsPost (t + Bx.vol q.2.1 q.2.2) X)) := Lib.hid (fun X es h1 h2 h3 => plus45 us es _ X HR.out.len HR.out.wd h1 h2 (by rw [HR.out.vl, h3]; exact hsm.1))
              obtain ⟨b0, b1, b2, b3, b4, b5, b6, b7, b8, b9, b10, b11, b12, b13, b14, hus⟩ := list15 HR.out.len
              have HUS := Lib.hid hus
              have ewv : wV us = .agg #[u64V b0, u64V b1, u64V b2, u64V b3, u64V b4, u64V b5, u64V b6, u64V b7, u64V b8, u64V b9, u64V b10, u64V b11, u64V b12, u64V b13, u64V b14] := by rw [hus]; rfl
              rw [ewv] at CP
              have BXi : Hid (BoxAt wi X [u64V b0, u64V b1, u64V b2, u64V b3, u64V b4, u64V b5, u64V b6, u64V b7, u64V b8, u64V b9, u64V b10, u64V b11, u64V b12, u64V b13, u64V b14]) := Lib.hid (by have := HR.out.bx.call BO.out; rw [hus] at this; exact this)
              have C9 := Lib.hid (And.intro x0 x1)
              clear hus ewv hwt hft hsm
              have y0 : wi.cell? ⟨X, 0, none⟩ = some (u64V b0) := BXi.out.2.1 0 _ rfl
              have y1 : wi.cell? ⟨X, 1, none⟩ = some (u64V b1) := BXi.out.2.1 1 _ rfl
              have y2 : wi.cell? ⟨X, 2, none⟩ = some (u64V b2) := BXi.out.2.1 2 _ rfl
              have y3 : wi.cell? ⟨X, 3, none⟩ = some (u64V b3) := BXi.out.2.1 3 _ rfl
              have y4 : wi.cell? ⟨X, 4, none⟩ = some (u64V b4) := BXi.out.2.1 4 _ rfl
              have y5 : wi.cell? ⟨X, 5, none⟩ = some (u64V b5) := BXi.out.2.1 5 _ rfl
              have y6 : wi.cell? ⟨X, 6, none⟩ = some (u64V b6) := BXi.out.2.1 6 _ rfl
              have y7 : wi.cell? ⟨X, 7, none⟩ = some (u64V b7) := BXi.out.2.1 7 _ rfl
              have y8 : wi.cell? ⟨X, 8, none⟩ = some (u64V b8) := BXi.out.2.1 8 _ rfl
              have y9 : wi.cell? ⟨X, 9, none⟩ = some (u64V b9) := BXi.out.2.1 9 _ rfl
              have y10 : wi.cell? ⟨X, 10, none⟩ = some (u64V b10) := BXi.out.2.1 10 _ rfl
              have y11 : wi.cell? ⟨X, 11, none⟩ = some (u64V b11) := BXi.out.2.1 11 _ rfl
              have y12 : wi.cell? ⟨X, 12, none⟩ = some (u64V b12) := BXi.out.2.1 12 _ rfl
              have y13 : wi.cell? ⟨X, 13, none⟩ = some (u64V b13) := BXi.out.2.1 13 _ rfl
              have y14 : wi.cell? ⟨X, 14, none⟩ = some (u64V b14) := BXi.out.2.1 14 _ rfl
              go_wp2_with fail
              refine wp_region_held_drew (S := (fun X => X.cell? ⟨wo.heap.size, 0, none⟩ = some (.slice q.1.lo.a q.1.lo.n q.1.lo.c) ∧ X.cell? ⟨wo.heap.size, 1, none⟩ = some (.slice q.1.hi.a q.1.hi.n q.1.hi.c))) (by kernel_rfl) ?_ (fun hHeld => ?_)
              · simp [go_sem, *]
              refine wpAnyH_take (i := 1) (v := ?_) rfl (by kernel_rfl) (by kernel_rfl) (by kernel_rfl) (fun _ _ _ h => h) (Or.inl ⟨by rfl, ?_⟩) (by assumption) ?_
              rotate_left
              · intro w hSw; (try dsimp only at hSw); go_simp; (first | done | (with_reducible rfl))
              try simp only [Act.put, List.getElem_toArray, List.getElem_cons_succ, List.getElem_cons_zero, List.setIfInBounds_toArray, List.set_cons_zero, List.set_cons_succ]
              refine wpAnyH_take (i := 2) (v := ?_) rfl (by kernel_rfl) (by kernel_rfl) (by kernel_rfl) (fun _ _ _ h => h) (Or.inl ⟨by rfl, ?_⟩) (by assumption) ?_
              rotate_left
              · intro w hSw; (try dsimp only at hSw); go_simp; (first | done | (with_reducible rfl))
              try simp only [Act.put, List.getElem_toArray, List.getElem_cons_succ, List.getElem_cons_zero, List.setIfInBounds_toArray, List.set_cons_zero, List.set_cons_succ]
              refine wpAnyH_take (i := 3) (v := ?_) rfl (by kernel_rfl) (by kernel_rfl) (by kernel_rfl) (fun _ _ _ h => h) (Or.inl ⟨by rfl, ?_⟩) (by assumption) ?_
              rotate_left
              · intro w hSw; (try dsimp only at hSw); go_simp; (first | done | (with_reducible rfl))
              try simp only [Act.put, List.getElem_toArray, List.getElem_cons_succ, List.getElem_cons_zero, List.setIfInBounds_toArray, List.set_cons_zero, List.set_cons_succ]
              refine wpAnyH_take (i := 4) (v := ?_) rfl (by kernel_rfl) (by kernel_rfl) (by kernel_rfl) (fun _ _ _ h => h) (Or.inl ⟨by rfl, ?_⟩) (by assumption) ?_
              rotate_left
              · intro w hSw; (try dsimp only at hSw); go_simp; (first | done | (with_reducible rfl))
              try simp only [Act.put, List.getElem_toArray, List.getElem_cons_succ, List.getElem_cons_zero, List.setIfInBounds_toArray, List.set_cons_zero, List.set_cons_succ]
              refine wpAnyH_ready (rs := [0, 5]) (by kernel_rfl) (by simp) ?_
              refine AllReadyH.cons rfl (fun K hK => ?_) (AllReadyH.cons rfl (fun K hK => ?_) AllReadyH.nil)
              · go_simp
                refine hK.out _ _ ?_ (fun hHeld => ?_)
                · simp [go_sem, *]
                clear hK K
                try simp only [Act.put, List.getElem_toArray, List.getElem_cons_succ, List.getElem_cons_zero, List.setIfInBounds_toArray, List.set_cons_zero, List.set_cons_succ]
                refine wpAnyH_ready (rs := [5]) (by kernel_rfl) (by simp) ?_
                refine AllReadyH.cons rfl (fun K hK => ?_) AllReadyH.nil
                go_simp
                refine (CV.out _ (by repeat (first | (with_reducible exact Below.refl _ _) | (with_reducible assumption) | ((with_reducible refine Below.setCell ?_ ?_ _); rotate_left; (focus (first | omega | (simp; omega) | (simp; done)))) | ((with_reducible refine Below.alloc ?_ ?_ _); rotate_left; (focus (first | omega | (simp; omega) | (simp; done)))) | (with_reducible refine Below.drew ?_)))).mono ?_
                rintro e v2 ⟨es, rfl, he1, he2, he3, h2⟩
                have z2 := h2.size
                try simp at z2
                have HE := Lib.hid (And.intro he1 (And.intro he2 he3))
                have H2 : Hid (Below wi.heap.size wi v2) := Lib.hid (Below.call (by repeat (first | (with_reducible exact Below.refl _ _) | (with_reducible assumption) | ((with_reducible refine Below.setCell ?_ ?_ _); rotate_left; (focus (first | omega | (simp; omega) | (simp; done)))) | ((with_reducible refine Below.alloc ?_ ?_ _); rotate_left; (focus (first | omega | (simp; omega) | (simp; done)))) | (with_reducible refine Below.drew ?_))) h2)
                clear he1 he2 he3 h2 x0 x1
                have g0 : v2.cell? ⟨wo.heap.size, 0, none⟩ = some (.slice q.1.lo.a q.1.lo.n q.1.lo.c) := (H2.out.cell (p := ⟨wo.heap.size, 0, none⟩) m1).trans C9.out.1
                have g1 : v2.cell? ⟨wo.heap.size, 1, none⟩ = some (.slice q.1.hi.a q.1.hi.n q.1.hi.c) := (H2.out.cell (p := ⟨wo.heap.size, 1, none⟩) m1).trans C9.out.2
                have BX2 : Hid (BoxAt v2 X [u64V b0, u64V b1, u64V b2, u64V b3, u64V b4, u64V b5, u64V b6, u64V b7, u64V b8, u64V b9, u64V b10, u64V b11, u64V b12, u64V b13, u64V b14]) := Lib.hid (BXi.out.call H2.out)
                have s0 : v2.cell? ⟨X, 0, none⟩ = some (u64V b0) := BX2.out.2.1 0 _ rfl
                have s1 : v2.cell? ⟨X, 1, none⟩ = some (u64V b1) := BX2.out.2.1 1 _ rfl
                have s2 : v2.cell? ⟨X, 2, none⟩ = some (u64V b2) := BX2.out.2.1 2 _ rfl
                have s3 : v2.cell? ⟨X, 3, none⟩ = some (u64V b3) := BX2.out.2.1 3 _ rfl
                have s4 : v2.cell? ⟨X, 4, none⟩ = some (u64V b4) := BX2.out.2.1 4 _ rfl
                have s5 : v2.cell? ⟨X, 5, none⟩ = some (u64V b5) := BX2.out.2.1 5 _ rfl
                have s6 : v2.cell? ⟨X, 6, none⟩ = some (u64V b6) := BX2.out.2.1 6 _ rfl
                have s7 : v2.cell? ⟨X, 7, none⟩ = some (u64V b7) := BX2.out.2.1 7 _ rfl
                have s8 : v2.cell? ⟨X, 8, none⟩ = some (u64V b8) := BX2.out.2.1 8 _ rfl
                have s9 : v2.cell? ⟨X, 9, none⟩ = some (u64V b9) := BX2.out.2.1 9 _ rfl
                have s10 : v2.cell? ⟨X, 10, none⟩ = some (u64V b10) := BX2.out.2.1 10 _ rfl
                have s11 : v2.cell? ⟨X, 11, none⟩ = some (u64V b11) := BX2.out.2.1 11 _ rfl
                have s12 : v2.cell? ⟨X, 12, none⟩ = some (u64V b12) := BX2.out.2.1 12 _ rfl
                have s13 : v2.cell? ⟨X, 13, none⟩ = some (u64V b13) := BX2.out.2.1 13 _ rfl
                have s14 : v2.cell? ⟨X, 14, none⟩ = some (u64V b14) := BX2.out.2.1 14 _ rfl
                refine hK.out _ _ ?_ (fun hHeld => ?_)
                · simp [go_sem, *]
                clear hK K
                try simp only [Act.put, List.getElem_toArray, List.getElem_cons_succ, List.getElem_cons_zero, List.setIfInBounds_toArray, List.set_cons_zero, List.set_cons_succ]
                refine wpAnyH_ready (rs := [6]) (by kernel_rfl) (by simp) ?_
                refine AllReadyH.cons rfl (fun K hK => ?_) AllReadyH.nil
                go_simp
                refine (CP.out _ es HE.out.1 HE.out.2.1 HE.out.2.2).mono ?_
                rintro e v3 ⟨fs, rfl, hf1, hf2, hf3, h3⟩
                have z3 := h3.size
                try simp at z3
                have HF := Lib.hid (And.intro hf1 (And.intro hf2 hf3))
                obtain ⟨f0, f1, f2, f3, f4, f5, f6, f7, f8, f9, f10, f11, f12, f13, f14, hfs⟩ := list15 hf1
                have HFS := Lib.hid hfs
                have efv : wV fs = .agg #[u64V f0, u64V f1, u64V f2, u64V f3, u64V f4, u64V f5, u64V f6, u64V f7, u64V f8, u64V f9, u64V f10, u64V f11, u64V f12, u64V f13, u64V f14] := by rw [hfs]; rfl
                rw [efv]
                clear efv hfs hf1 hf2 hf3
                have H3 : Hid (Below wi.heap.size wi v3) := Lib.hid (Below.call H2.out h3)
                clear h3 g0 g1 s0 s1 s2 s3 s4 s5 s6 s7 s8 s9 s10 s11 s12 s13 s14
                have g0 : v3.cell? ⟨wo.heap.size, 0, none⟩ = some (.slice q.1.lo.a q.1.lo.n q.1.lo.c) := (H3.out.cell (p := ⟨wo.heap.size, 0, none⟩) m1).trans C9.out.1
                have g1 : v3.cell? ⟨wo.heap.size, 1, none⟩ = some (.slice q.1.hi.a q.1.hi.n q.1.hi.c) := (H3.out.cell (p := ⟨wo.heap.size, 1, none⟩) m1).trans C9.out.2
                have BX3 : Hid (BoxAt v3 X [u64V b0, u64V b1, u64V b2, u64V b3, u64V b4, u64V b5, u64V b6, u64V b7, u64V b8, u64V b9, u64V b10, u64V b11, u64V b12, u64V b13, u64V b14]) := Lib.hid (BXi.out.call H3.out)
                have s0 : v3.cell? ⟨X, 0, none⟩ = some (u64V b0) := BX3.out.2.1 0 _ rfl
                have s1 : v3.cell? ⟨X, 1, none⟩ = some (u64V b1) := BX3.out.2.1 1 _ rfl
                have s2 : v3.cell? ⟨X, 2, none⟩ = some (u64V b2) := BX3.out.2.1 2 _ rfl
                have s3 : v3.cell? ⟨X, 3, none⟩ = some (u64V b3) := BX3.out.2.1 3 _ rfl
                have s4 : v3.cell? ⟨X, 4, none⟩ = some (u64V b4) := BX3.out.2.1 4 _ rfl
                have s5 : v3.cell? ⟨X, 5, none⟩ = some (u64V b5) := BX3.out.2.1 5 _ rfl
                have s6 : v3.cell? ⟨X, 6, none⟩ = some (u64V b6) := BX3.out.2.1 6 _ rfl
                have s7 : v3.cell? ⟨X, 7, none⟩ = some (u64V b7) := BX3.out.2.1 7 _ rfl
                have s8 : v3.cell? ⟨X, 8, none⟩ = some (u64V b8) := BX3.out.2.1 8 _ rfl
                have s9 : v3.cell? ⟨X, 9, none⟩ = some (u64V b9) := BX3.out.2.1 9 _ rfl
                have s10 : v3.cell? ⟨X, 10, none⟩ = some (u64V b10) := BX3.out.2.1 10 _ rfl
                have s11 : v3.cell? ⟨X, 11, none⟩ = some (u64V b11) := BX3.out.2.1 11 _ rfl
                have s12 : v3.cell? ⟨X, 12, none⟩ = some (u64V b12) := BX3.out.2.1 12 _ rfl
                have s13 : v3.cell? ⟨X, 13, none⟩ = some (u64V b13) := BX3.out.2.1 13 _ rfl
                have s14 : v3.cell? ⟨X, 14, none⟩ = some (u64V b14) := BX3.out.2.1 14 _ rfl
                have t0 : v3.frozen? ⟨X, 0, none⟩ = false := BX3.out.2.2 0
                have t1 : v3.frozen? ⟨X, 1, none⟩ = false := BX3.out.2.2 1
                have t2 : v3.frozen? ⟨X, 2, none⟩ = false := BX3.out.2.2 2
                have t3 : v3.frozen? ⟨X, 3, none⟩ = false := BX3.out.2.2 3
                have t4 : v3.frozen? ⟨X, 4, none⟩ = false := BX3.out.2.2 4
                have t5 : v3.frozen? ⟨X, 5, none⟩ = false := BX3.out.2.2 5
                have t6 : v3.frozen? ⟨X, 6, none⟩ = false := BX3.out.2.2 6
                have t7 : v3.frozen? ⟨X, 7, none⟩ = false := BX3.out.2.2 7
                have t8 : v3.frozen? ⟨X, 8, none⟩ = false := BX3.out.2.2 8
                have t9 : v3.frozen? ⟨X, 9, none⟩ = false := BX3.out.2.2 9
                have t10 : v3.frozen? ⟨X, 10, none⟩ = false := BX3.out.2.2 10
                have t11 : v3.frozen? ⟨X, 11, none⟩ = false := BX3.out.2.2 11
                have t12 : v3.frozen? ⟨X, 12, none⟩ = false := BX3.out.2.2 12
                have t13 : v3.frozen? ⟨X, 13, none⟩ = false := BX3.out.2.2 13
                have t14 : v3.frozen? ⟨X, 14, none⟩ = false := BX3.out.2.2 14
                refine hK.out _ _ ?_ (fun hHeld => ?_)
                · simp [go_sem, *]
                clear hK K
                try simp only [Act.put, List.getElem_toArray, List.getElem_cons_succ, List.getElem_cons_zero, List.setIfInBounds_toArray, List.set_cons_zero, List.set_cons_succ]
                refine wpAnyH_ready (rs := [7]) (by kernel_rfl) (by simp) ?_
                refine AllReadyH.cons rfl (fun K hK => ?_) AllReadyH.nil
                go_simp
                refine hK.out _ _ ?_ (fun hHeld => ?_)
                · simp [go_sem, *]
                clear hK K
                try simp only [Act.put, List.getElem_toArray, List.getElem_cons_succ, List.getElem_cons_zero, List.setIfInBounds_toArray, List.set_cons_zero, List.set_cons_succ]
                refine wpAnyH_done (by kernel_rfl) ?_ _
                have HNX : Hid (ChkRel w (put15 v3 X f0 f1 f2 f3 f4 f5 f6 f7 f8 f9 f10 f11 f12 f13 f14) X lo hi (qs.map (·.2)) (k + 1) (t + Bx.vol q.2.1 q.2.2) fs) := Lib.hid ⟨HF.out.1, HF.out.2.1, HF.out.2.2, HTN.out, HRN.out, by rw [HFS.out]; exact put15_box f0 f1 f2 f3 f4 f5 f6 f7 f8 f9 f10 f11 f12 f13 f14 BX3.out rfl, put15_below f0 f1 f2 f3 f4 f5 f6 f7 f8 f9 f10 f11 f12 f13 f14 (BWi.out.trans (H3.out.mono BWi.out.size)) hX⟩
                clear s0 t0 s1 t1 s2 t2 s3 t3 s4 t4 s5 t5 s6 t6 s7 t7 s8 t8 s9 t9 s10 t10 s11 t11 s12 t12 s13 t13 s14 t14
                go_wp2_with fail
                go_roundw
                case rel => exact ⟨k + 1, t + Bx.vol q.2.1 q.2.2, fs, by omega, by go_num, HNX⟩
                case measure => simp [intOf]; omega
              · go_simp
                refine (CV.out _ (by repeat (first | (with_reducible exact Below.refl _ _) | (with_reducible assumption) | ((with_reducible refine Below.setCell ?_ ?_ _); rotate_left; (focus (first | omega | (simp; omega) | (simp; done)))) | ((with_reducible refine Below.alloc ?_ ?_ _); rotate_left; (focus (first | omega | (simp; omega) | (simp; done)))) | (with_reducible refine Below.drew ?_)))).mono ?_
                rintro e v2 ⟨es, rfl, he1, he2, he3, h2⟩
                have z2 := h2.size
                try simp at z2
                have HE := Lib.hid (And.intro he1 (And.intro he2 he3))
                have H2 : Hid (Below wi.heap.size wi v2) := Lib.hid (Below.call (by repeat (first | (with_reducible exact Below.refl _ _) | (with_reducible assumption) | ((with_reducible refine Below.setCell ?_ ?_ _); rotate_left; (focus (first | omega | (simp; omega) | (simp; done)))) | ((with_reducible refine Below.alloc ?_ ?_ _); rotate_left; (focus (first | omega | (simp; omega) | (simp; done)))) | (with_reducible refine Below.drew ?_))) h2)
                clear he1 he2 he3 h2 x0 x1
                have g0 : v2.cell? ⟨wo.heap.size, 0, none⟩ = some (.slice q.1.lo.a q.1.lo.n q.1.lo.c) := (H2.out.cell (p := ⟨wo.heap.size, 0, none⟩) m1).trans C9.out.1
                have g1 : v2.cell? ⟨wo.heap.size, 1, none⟩ = some (.slice q.1.hi.a q.1.hi.n q.1.hi.c) := (H2.out.cell (p := ⟨wo.heap.size, 1, none⟩) m1).trans C9.out.2
                have BX2 : Hid (BoxAt v2 X [u64V b0, u64V b1, u64V b2, u64V b3, u64V b4, u64V b5, u64V b6, u64V b7, u64V b8, u64V b9, u64V b10, u64V b11, u64V b12, u64V b13, u64V b14]) := Lib.hid (BXi.out.call H2.out)
                have s0 : v2.cell? ⟨X, 0, none⟩ = some (u64V b0) := BX2.out.2.1 0 _ rfl
                have s1 : v2.cell? ⟨X, 1, none⟩ = some (u64V b1) := BX2.out.2.1 1 _ rfl
                have s2 : v2.cell? ⟨X, 2, none⟩ = some (u64V b2) := BX2.out.2.1 2 _ rfl
                have s3 : v2.cell? ⟨X, 3, none⟩ = some (u64V b3) := BX2.out.2.1 3 _ rfl
                have s4 : v2.cell? ⟨X, 4, none⟩ = some (u64V b4) := BX2.out.2.1 4 _ rfl
                have s5 : v2.cell? ⟨X, 5, none⟩ = some (u64V b5) := BX2.out.2.1 5 _ rfl
                have s6 : v2.cell? ⟨X, 6, none⟩ = some (u64V b6) := BX2.out.2.1 6 _ rfl
                have s7 : v2.cell? ⟨X, 7, none⟩ = some (u64V b7) := BX2.out.2.1 7 _ rfl
                have s8 : v2.cell? ⟨X, 8, none⟩ = some (u64V b8) := BX2.out.2.1 8 _ rfl
                have s9 : v2.cell? ⟨X, 9, none⟩ = some (u64V b9) := BX2.out.2.1 9 _ rfl
                have s10 : v2.cell? ⟨X, 10, none⟩ = some (u64V b10) := BX2.out.2.1 10 _ rfl
                have s11 : v2.cell? ⟨X, 11, none⟩ = some (u64V b11) := BX2.out.2.1 11 _ rfl
                have s12 : v2.cell? ⟨X, 12, none⟩ = some (u64V b12) := BX2.out.2.1 12 _ rfl
                have s13 : v2.cell? ⟨X, 13, none⟩ = some (u64V b13) := BX2.out.2.1 13 _ rfl
                have s14 : v2.cell? ⟨X, 14, none⟩ = some (u64V b14) := BX2.out.2.1 14 _ rfl
                refine hK.out _ _ ?_ (fun hHeld => ?_)
                · simp [go_sem, *]
                clear hK K
                try simp only [Act.put, List.getElem_toArray, List.getElem_cons_succ, List.getElem_cons_zero, List.setIfInBounds_toArray, List.set_cons_zero, List.set_cons_succ]
                refine wpAnyH_ready (rs := [0]) (by kernel_rfl) (by simp) ?_
                refine AllReadyH.cons rfl (fun K hK => ?_) AllReadyH.nil
                go_simp
                refine hK.out _ _ ?_ (fun hHeld => ?_)
                · simp [go_sem, *]
                clear hK K
                try simp only [Act.put, List.getElem_toArray, List.getElem_cons_succ, List.getElem_cons_zero, List.setIfInBounds_toArray, List.set_cons_zero, List.set_cons_succ]
                refine wpAnyH_ready (rs := [6]) (by kernel_rfl) (by simp) ?_
                refine AllReadyH.cons rfl (fun K hK => ?_) AllReadyH.nil
                go_simp
                refine (CP.out _ es HE.out.1 HE.out.2.1 HE.out.2.2).mono ?_
                rintro e v3 ⟨fs, rfl, hf1, hf2, hf3, h3⟩
                have z3 := h3.size
                try simp at z3
                have HF := Lib.hid (And.intro hf1 (And.intro hf2 hf3))
                obtain ⟨f0, f1, f2, f3, f4, f5, f6, f7, f8, f9, f10, f11, f12, f13, f14, hfs⟩ := list15 hf1
                have HFS := Lib.hid hfs
                have efv : wV fs = .agg #[u64V f0, u64V f1, u64V f2, u64V f3, u64V f4, u64V f5, u64V f6, u64V f7, u64V f8, u64V f9, u64V f10, u64V f11, u64V f12, u64V f13, u64V f14] := by rw [hfs]; rfl
                rw [efv]
                clear efv hfs hf1 hf2 hf3
                have H3 : Hid (Below wi.heap.size wi v3) := Lib.hid (Below.call H2.out h3)
                clear h3 g0 g1 s0 s1 s2 s3 s4 s5 s6 s7 s8 s9 s10 s11 s12 s13 s14
                have g0 : v3.cell? ⟨wo.heap.size, 0, none⟩ = some (.slice q.1.lo.a q.1.lo.n q.1.lo.c) := (H3.out.cell (p := ⟨wo.heap.size, 0, none⟩) m1).trans C9.out.1
                have g1 : v3.cell? ⟨wo.heap.size, 1, none⟩ = some (.slice q.1.hi.a q.1.hi.n q.1.hi.c) := (H3.out.cell (p := ⟨wo.heap.size, 1, none⟩) m1).trans C9.out.2
                have BX3 : Hid (BoxAt v3 X [u64V b0, u64V b1, u64V b2, u64V b3, u64V b4, u64V b5, u64V b6, u64V b7, u64V b8, u64V b9, u64V b10, u64V b11, u64V b12, u64V b13, u64V b14]) := Lib.hid (BXi.out.call H3.out)
                have s0 : v3.cell? ⟨X, 0, none⟩ = some (u64V b0) := BX3.out.2.1 0 _ rfl
                have s1 : v3.cell? ⟨X, 1, none⟩ = some (u64V b1) := BX3.out.2.1 1 _ rfl
                have s2 : v3.cell? ⟨X, 2, none⟩ = some (u64V b2) := BX3.out.2.1 2 _ rfl
                have s3 : v3.cell? ⟨X, 3, none⟩ = some (u64V b3) := BX3.out.2.1 3 _ rfl
                have s4 : v3.cell? ⟨X, 4, none⟩ = some (u64V b4) := BX3.out.2.1 4 _ rfl
                have s5 : v3.cell? ⟨X, 5, none⟩ = some (u64V b5) := BX3.out.2.1 5 _ rfl
                have s6 : v3.cell? ⟨X, 6, none⟩ = some (u64V b6) := BX3.out.2.1 6 _ rfl
                have s7 : v3.cell? ⟨X, 7, none⟩ = some (u64V b7) := BX3.out.2.1 7 _ rfl
                have s8 : v3.cell? ⟨X, 8, none⟩ = some (u64V b8) := BX3.out.2.1 8 _ rfl
                have s9 : v3.cell? ⟨X, 9, none⟩ = some (u64V b9) := BX3.out.2.1 9 _ rfl
                have s10 : v3.cell? ⟨X, 10, none⟩ = some (u64V b10) := BX3.out.2.1 10 _ rfl
                have s11 : v3.cell? ⟨X, 11, none⟩ = some (u64V b11) := BX3.out.2.1 11 _ rfl
                have s12 : v3.cell? ⟨X, 12, none⟩ = some (u64V b12) := BX3.out.2.1 12 _ rfl
                have s13 : v3.cell? ⟨X, 13, none⟩ = some (u64V b13) := BX3.out.2.1 13 _ rfl
                have s14 : v3.cell? ⟨X, 14, none⟩ = some (u64V b14) := BX3.out.2.1 14 _ rfl
                have t0 : v3.frozen? ⟨X, 0, none⟩ = false := BX3.out.2.2 0
                have t1 : v3.frozen? ⟨X, 1, none⟩ = false := BX3.out.2.2 1
                have t2 : v3.frozen? ⟨X, 2, none⟩ = false := BX3.out.2.2 2
                have t3 : v3.frozen? ⟨X, 3, none⟩ = false := BX3.out.2.2 3
                have t4 : v3.frozen? ⟨X, 4, none⟩ = false := BX3.out.2.2 4
                have t5 : v3.frozen? ⟨X, 5, none⟩ = false := BX3.out.2.2 5
                have t6 : v3.frozen? ⟨X, 6, none⟩ = false := BX3.out.2.2 6
                have t7 : v3.frozen? ⟨X, 7, none⟩ = false := BX3.out.2.2 7
                have t8 : v3.frozen? ⟨X, 8, none⟩ = false := BX3.out.2.2 8
                have t9 : v3.frozen? ⟨X, 9, none⟩ = false := BX3.out.2.2 9
                have t10 : v3.frozen? ⟨X, 10, none⟩ = false := BX3.out.2.2 10
                have t11 : v3.frozen? ⟨X, 11, none⟩ = false := BX3.out.2.2 11
                have t12 : v3.frozen? ⟨X, 12, none⟩ = false := BX3.out.2.2 12
                have t13 : v3.frozen? ⟨X, 13, none⟩ = false := BX3.out.2.2 13
                have t14 : v3.frozen? ⟨X, 14, none⟩ = false := BX3.out.2.2 14
                refine hK.out _ _ ?_ (fun hHeld => ?_)
                · simp [go_sem, *]
                clear hK K
                try simp only [Act.put, List.getElem_toArray, List.getElem_cons_succ, List.getElem_cons_zero, List.setIfInBounds_toArray, List.set_cons_zero, List.set_cons_succ]
                refine wpAnyH_ready (rs := [7]) (by kernel_rfl) (by simp) ?_
                refine AllReadyH.cons rfl (fun K hK => ?_) AllReadyH.nil
                go_simp
                refine hK.out _ _ ?_ (fun hHeld => ?_)
                · simp [go_sem, *]
                clear hK K
                try simp only [Act.put, List.getElem_toArray, List.getElem_cons_succ, List.getElem_cons_zero, List.setIfInBounds_toArray, List.set_cons_zero, List.set_cons_succ]
                refine wpAnyH_done (by kernel_rfl) ?_ _
                have HNX : Hid (ChkRel w (put15 v3 X f0 f1 f2 f3 f4 f5 f6 f7 f8 f9 f10 f11 f12 f13 f14) X lo hi (qs.map (·.2)) (k + 1) (t + Bx.vol q.2.1 q.2.2) fs) := Lib.hid ⟨HF.out.1, HF.out.2.1, HF.out.2.2, HTN.out, HRN.out, by rw [HFS.out]; exact put15_box f0 f1 f2 f3 f4 f5 f6 f7 f8 f9 f10 f11 f12 f13 f14 BX3.out rfl, put15_below f0 f1 f2 f3 f4 f5 f6 f7 f8 f9 f10 f11 f12 f13 f14 (BWi.out.trans (H3.out.mono BWi.out.size)) hX⟩
                clear s0 t0 s1 t1 s2 t2 s3 t3 s4 t4 s5 t5 s6 t6 s7 t7 s8 t8 s9 t9 s10 t10 s11 t11 s12 t12 s13 t13 s14 t14
                go_wp2_with fail
                go_roundw
                case rel => exact ⟨k + 1, t + Bx.vol q.2.1 q.2.2, fs, by omega, by go_num, HNX⟩
                case measure => simp [intOf]; omega
        · have HF : Hid (Bx.check lo hi (qs.map (·.2)) = false) := Lib.hid (HNO.out (by
            have l2 : q.2.2.length = q.1.hi.n := by have := QR.out.hi.1; rw [List.length_map] at this; omega
            unfold Bx.within; rw [l2, HL1.out]; simp [g2]))
          have t1 : ((q.1.lo.n : Int) != (n : Int)) = false := by simp [g1]
          have t2 : ((q.1.hi.n : Int) != (n : Int)) = true := by simp; omega
          clear g1 g2
          go_wp2_with fail
          go_ret
          exact ⟨ret_bool HF.out.symm, HR.out.bl.alloc hz0 _⟩
      · have HF : Hid (Bx.check lo hi (qs.map (·.2)) = false) := Lib.hid (HNO.out (by
          have l1 : q.2.1.length = q.1.lo.n := by have := QR.out.lo.1; rw [List.length_map] at this; omega
          unfold Bx.within; rw [l1, HL1.out]; simp [g1]))
        have t1 : ((q.1.lo.n : Int) != (n : Int)) = true := by simp; omega
        clear g1
        go_wp2_with fail
        go_ret
        exact ⟨ret_bool HF.out.symm, HR.out.bl.alloc hz0 _⟩
    · have hke : k = u.n := by omega
      have hnil : (qs.map (·.2)).drop k = [] := List.drop_eq_nil_of_le (by rw [List.length_map, HQL.out]; omega)
      have hrun : Bx.chkF lo hi 0 (qs.map (·.2)) = some t := by rw [← HR.out.run, hnil]; rfl
      have hck : Bx.check lo hi (qs.map (·.2)) = (decide (t = Bx.vol lo hi) && Bx.disj (qs.map (·.2))) := by rw [CKF.out, hrun]
      have hdim : ∀ q ∈ qs, q.1.lo.n = n ∧ q.1.hi.n = n := fun q hqm => by
        have hw := Bx.chkF_within hrun q.2 (List.mem_map.2 ⟨q, hqm, rfl⟩)
        unfold Bx.within at hw
        simp only [Bool.and_eq_true, decide_eq_true_eq] at hw
        have a := (HQ.out q hqm).lo.1
        have b := (HQ.out q hqm).hi.1
        rw [List.length_map] at a b
        have e := HL1.out
        omega
      have CJ : Hid (∀ X' : World, Below wo.heap.size wo X' → Calls Try.prog 47 #[.slice u.a u.n u.c] X' fun e w' => e = .returned (.bool (Bx.disj (qs.map (·.2)))) ∧ Below X'.heap.size X' w') := Lib.hid (fun X' hX' => disjoint47 u qs n X' ((HU.out.up HR.out.bl).up hX') (fun q hqm => ⟨(((HQ.out q hqm).up HR.out.bl).up hX').lo, (((HQ.out q hqm).up HR.out.bl).up hX').hi, (hdim q hqm).1, (hdim q hqm).2⟩) (by omega) (by omega))
      have CD : Hid (∀ X' : World, Below wo.heap.size wo X' → Calls Try.prog 46 #[.slice A n c, .slice D n d] X' (WordsPost (Bx.vol lo hi) X')) := Lib.hid (fun X' hX' => volume46 A D n c d lo hi _ X' ((HX.out.up HR.out.bl).up hX') ((HY.out.up HR.out.bl).up hX') (by omega) HFIT.out.2.2 (vol_mod HFIT.out))
      obtain ⟨b0, b1, b2, b3, b4, b5, b6, b7, b8, b9, b10, b11, b12, b13, b14, hus⟩ := list15 HR.out.len
      have ewv : wV us = .agg #[u64V b0, u64V b1, u64V b2, u64V b3, u64V b4, u64V b5, u64V b6, u64V b7, u64V b8, u64V b9, u64V b10, u64V b11, u64V b12, u64V b13, u64V b14] := by rw [hus]; rfl
      have BXi : Hid (BoxAt wo X [u64V b0, u64V b1, u64V b2, u64V b3, u64V b4, u64V b5, u64V b6, u64V b7, u64V b8, u64V b9, u64V b10, u64V b11, u64V b12, u64V b13, u64V b14]) := Lib.hid (by have := HR.out.bx; rw [hus] at this; exact this)
      have EWV := Lib.hid ewv
      have hXo : X < wo.heap.size := HR.out.bx.1
      clear hus hke hnil hrun hdim ewv
      by_cases hgood : t = Bx.vol lo hi
      · have CK : Hid (Bx.check lo hi (qs.map (·.2)) = Bx.disj (qs.map (·.2))) := Lib.hid (by rw [hck, hgood]; simp)
        have EQ : Hid (∀ es : List Nat, es.length = 15 → Bx.Wd es → Bx.val es = Bx.vol lo hi → decide (us = es) = true) := Lib.hid (fun es h1 h2 h3 => by
          rw [decide_eq_true_eq]; exact Bx.val_inj (by rw [HR.out.len, h1]) HR.out.wd h2 (by rw [HR.out.vl, h3, hgood]))
        clear hgood hck
        have x0 : wo.cell? ⟨X, 0, none⟩ = some (u64V b0) := BXi.out.2.1 0 _ rfl
        have x1 : wo.cell? ⟨X, 1, none⟩ = some (u64V b1) := BXi.out.2.1 1 _ rfl
        have x2 : wo.cell? ⟨X, 2, none⟩ = some (u64V b2) := BXi.out.2.1 2 _ rfl
        have x3 : wo.cell? ⟨X, 3, none⟩ = some (u64V b3) := BXi.out.2.1 3 _ rfl
        have x4 : wo.cell? ⟨X, 4, none⟩ = some (u64V b4) := BXi.out.2.1 4 _ rfl
        have x5 : wo.cell? ⟨X, 5, none⟩ = some (u64V b5) := BXi.out.2.1 5 _ rfl
        have x6 : wo.cell? ⟨X, 6, none⟩ = some (u64V b6) := BXi.out.2.1 6 _ rfl
        have x7 : wo.cell? ⟨X, 7, none⟩ = some (u64V b7) := BXi.out.2.1 7 _ rfl
        have x8 : wo.cell? ⟨X, 8, none⟩ = some (u64V b8) := BXi.out.2.1 8 _ rfl
        have x9 : wo.cell? ⟨X, 9, none⟩ = some (u64V b9) := BXi.out.2.1 9 _ rfl
        have x10 : wo.cell? ⟨X, 10, none⟩ = some (u64V b10) := BXi.out.2.1 10 _ rfl
        have x11 : wo.cell? ⟨X, 11, none⟩ = some (u64V b11) := BXi.out.2.1 11 _ rfl
        have x12 : wo.cell? ⟨X, 12, none⟩ = some (u64V b12) := BXi.out.2.1 12 _ rfl
        have x13 : wo.cell? ⟨X, 13, none⟩ = some (u64V b13) := BXi.out.2.1 13 _ rfl
        have x14 : wo.cell? ⟨X, 14, none⟩ = some (u64V b14) := BXi.out.2.1 14 _ rfl
        go_wp2_with fail
        refine wp_region_held_drew (S := (fun _ => True)) (by kernel_rfl) ?_ (fun hHeld => ?_)
        · trivial
        refine wpAnyH_take (i := 1) (v := ?_) rfl (by kernel_rfl) (by kernel_rfl) (by kernel_rfl) (fun _ _ _ h => h) (Or.inl ⟨by rfl, ?_⟩) (by assumption) ?_
        rotate_left
        · intro w hSw; (try dsimp only at hSw); go_simp; (first | done | (with_reducible rfl))
        try simp only [Act.put, List.getElem_toArray, List.getElem_cons_succ, List.getElem_cons_zero, List.setIfInBounds_toArray, List.set_cons_zero, List.set_cons_succ]
        refine wpAnyH_take (i := 2) (v := ?_) rfl (by kernel_rfl) (by kernel_rfl) (by kernel_rfl) (fun _ _ _ h => h) (Or.inl ⟨by rfl, ?_⟩) (by assumption) ?_
        rotate_left
        · intro w hSw; (try dsimp only at hSw); go_simp; (first | done | (with_reducible rfl))
        try simp only [Act.put, List.getElem_toArray, List.getElem_cons_succ, List.getElem_cons_zero, List.setIfInBounds_toArray, List.set_cons_zero, List.set_cons_succ]
        refine wpAnyH_ready (rs := [0, 3]) (by kernel_rfl) (by simp) ?_
        refine AllReadyH.cons rfl (fun K hK => ?_) (AllReadyH.cons rfl (fun K hK => ?_) AllReadyH.nil)
        · go_simp
          refine hK.out _ _ ?_ (fun hHeld => ?_)
          · trivial
          clear hK K
          try simp only [Act.put, List.getElem_toArray, List.getElem_cons_succ, List.getElem_cons_zero, List.setIfInBounds_toArray, List.set_cons_zero, List.set_cons_succ]
          refine wpAnyH_ready (rs := [3]) (by kernel_rfl) (by simp) ?_
          refine AllReadyH.cons rfl (fun K hK => ?_) AllReadyH.nil
          go_simp
          refine (CD.out _ (by repeat (first | (with_reducible exact Below.refl _ _) | (with_reducible assumption) | ((with_reducible refine Below.setCell ?_ ?_ _); rotate_left; (focus (first | omega | (simp; omega) | (simp; done)))) | ((with_reducible refine Below.alloc ?_ ?_ _); rotate_left; (focus (first | omega | (simp; omega) | (simp; done)))) | (with_reducible refine Below.drew ?_)))).mono ?_
          rintro e v2 ⟨es, rfl, he1, he2, he3, h2⟩
          have z2 := h2.size
          try simp at z2
          have HE := Lib.hid (And.intro he1 (And.intro he2 he3))
          have H2 : Hid (Below wo.heap.size wo v2) := Lib.hid (Below.call (by repeat (first | (with_reducible exact Below.refl _ _) | (with_reducible assumption) | ((with_reducible refine Below.setCell ?_ ?_ _); rotate_left; (focus (first | omega | (simp; omega) | (simp; done)))) | ((with_reducible refine Below.alloc ?_ ?_ _); rotate_left; (focus (first | omega | (simp; omega) | (simp; done)))) | (with_reducible refine Below.drew ?_))) h2)
          obtain ⟨e0, e1, e2, e3, e4, e5, e6, e7, e8, e9, e10, e11, e12, e13, e14, hes⟩ := list15 he1
          have HES := Lib.hid hes
          have eev : wV es = .agg #[u64V e0, u64V e1, u64V e2, u64V e3, u64V e4, u64V e5, u64V e6, u64V e7, u64V e8, u64V e9, u64V e10, u64V e11, u64V e12, u64V e13, u64V e14] := by rw [hes]; rfl
          have heq : ∀ W, Sem.run Try.prog (binOp .eql 65 (.agg #[u64V b0, u64V b1, u64V b2, u64V b3, u64V b4, u64V b5, u64V b6, u64V b7, u64V b8, u64V b9, u64V b10, u64V b11, u64V b12, u64V b13, u64V b14]) (.agg #[u64V e0, u64V e1, u64V e2, u64V e3, u64V e4, u64V e5, u64V e6, u64V e7, u64V e8, u64V e9, u64V e10, u64V e11, u64V e12, u64V e13, u64V e14])) W = .ok (.bool true) W := fun W => by have h := run_eql65 us es HR.out.len HE.out.1 W; rw [EWV.out, eev] at h; rw [h, EQ.out es HE.out.1 HE.out.2.1 HE.out.2.2]
          have hgd : ∀ (x y : Operand) W, Sem.run Try.prog (eqGuard .eql 65 x y (.agg #[u64V b0, u64V b1, u64V b2, u64V b3, u64V b4, u64V b5, u64V b6, u64V b7, u64V b8, u64V b9, u64V b10, u64V b11, u64V b12, u64V b13, u64V b14]) (.agg #[u64V e0, u64V e1, u64V e2, u64V e3, u64V e4, u64V e5, u64V e6, u64V e7, u64V e8, u64V e9, u64V e10, u64V e11, u64V e12, u64V e13, u64V e14])) W = .ok () W := fun x y W => eqGuard65 .eql x y _ _ W
          rw [eev]
          clear he1 he2 he3 h2 hes eev x0 x1 x2 x3 x4 x5 x6 x7 x8 x9 x10 x11 x12 x13 x14
          have BX2 : Hid (BoxAt v2 X [u64V b0, u64V b1, u64V b2, u64V b3, u64V b4, u64V b5, u64V b6, u64V b7, u64V b8, u64V b9, u64V b10, u64V b11, u64V b12, u64V b13, u64V b14]) := Lib.hid (BXi.out.call H2.out)
          have s0 : v2.cell? ⟨X, 0, none⟩ = some (u64V b0) := BX2.out.2.1 0 _ rfl
          have s1 : v2.cell? ⟨X, 1, none⟩ = some (u64V b1) := BX2.out.2.1 1 _ rfl
          have s2 : v2.cell? ⟨X, 2, none⟩ = some (u64V b2) := BX2.out.2.1 2 _ rfl
          have s3 : v2.cell? ⟨X, 3, none⟩ = some (u64V b3) := BX2.out.2.1 3 _ rfl
          have s4 : v2.cell? ⟨X, 4, none⟩ = some (u64V b4) := BX2.out.2.1 4 _ rfl
          have s5 : v2.cell? ⟨X, 5, none⟩ = some (u64V b5) := BX2.out.2.1 5 _ rfl
          have s6 : v2.cell? ⟨X, 6, none⟩ = some (u64V b6) := BX2.out.2.1 6 _ rfl
          have s7 : v2.cell? ⟨X, 7, none⟩ = some (u64V b7) := BX2.out.2.1 7 _ rfl
          have s8 : v2.cell? ⟨X, 8, none⟩ = some (u64V b8) := BX2.out.2.1 8 _ rfl
          have s9 : v2.cell? ⟨X, 9, none⟩ = some (u64V b9) := BX2.out.2.1 9 _ rfl
          have s10 : v2.cell? ⟨X, 10, none⟩ = some (u64V b10) := BX2.out.2.1 10 _ rfl
          have s11 : v2.cell? ⟨X, 11, none⟩ = some (u64V b11) := BX2.out.2.1 11 _ rfl
          have s12 : v2.cell? ⟨X, 12, none⟩ = some (u64V b12) := BX2.out.2.1 12 _ rfl
          have s13 : v2.cell? ⟨X, 13, none⟩ = some (u64V b13) := BX2.out.2.1 13 _ rfl
          have s14 : v2.cell? ⟨X, 14, none⟩ = some (u64V b14) := BX2.out.2.1 14 _ rfl
          refine hK.out _ _ ?_ (fun hHeld => ?_)
          · trivial
          clear hK K
          try simp only [Act.put, List.getElem_toArray, List.getElem_cons_succ, List.getElem_cons_zero, List.setIfInBounds_toArray, List.set_cons_zero, List.set_cons_succ]
          refine wpAnyH_take (i := 4) (v := ?_) rfl (by kernel_rfl) (by kernel_rfl) (by kernel_rfl) (fun _ _ _ h => h) (Or.inl ⟨by rfl, ?_⟩) (by assumption) ?_
          rotate_left
          · intro w hSw; (try dsimp only at hSw); go_simp; (first | done | (with_reducible rfl))
          try simp only [Act.put, List.getElem_toArray, List.getElem_cons_succ, List.getElem_cons_zero, List.setIfInBounds_toArray, List.set_cons_zero, List.set_cons_succ]
          refine wpAnyH_take (i := 5) (v := ?_) rfl (by kernel_rfl) (by kernel_rfl) (by kernel_rfl) (fun _ _ _ h => h) (Or.inl ⟨by rfl, ?_⟩) (by assumption) ?_
          rotate_left
          · intro w hSw; (try dsimp only at hSw); go_simp; (first | done | (with_reducible rfl))
          try simp only [Act.put, List.getElem_toArray, List.getElem_cons_succ, List.getElem_cons_zero, List.setIfInBounds_toArray, List.set_cons_zero, List.set_cons_succ]
          refine wpAnyH_take (i := 6) (v := ?_) rfl (by kernel_rfl) (by kernel_rfl) (by kernel_rfl) (fun _ _ _ h => h) (Or.inl ⟨by rfl, ?_⟩) (by assumption) ?_
          rotate_left
          · intro w hSw; (try dsimp only at hSw); go_simp; (first | done | (with_reducible rfl))
          try simp only [Act.put, List.getElem_toArray, List.getElem_cons_succ, List.getElem_cons_zero, List.setIfInBounds_toArray, List.set_cons_zero, List.set_cons_succ]
          refine wpAnyH_ready (rs := [7]) (by kernel_rfl) (by simp) ?_
          refine AllReadyH.cons rfl (fun K hK => ?_) AllReadyH.nil
          go_simp
          refine (CJ.out _ H2.out).mono ?_
          rintro e v3 ⟨rfl, h3⟩
          have H3 := Lib.hid h3
          clear h3
          refine hK.out _ _ ?_ (fun hHeld => ?_)
          · trivial
          clear hK K
          try simp only [Act.put, List.getElem_toArray, List.getElem_cons_succ, List.getElem_cons_zero, List.setIfInBounds_toArray, List.set_cons_zero, List.set_cons_succ]
          refine wpAnyH_take (i := 8) (v := ?_) rfl (by kernel_rfl) (by kernel_rfl) (by kernel_rfl) (fun _ _ _ h => h) (Or.inl ⟨by rfl, ?_⟩) (by assumption) ?_
          rotate_left
          · intro w hSw; (try dsimp only at hSw); go_simp; (first | done | (with_reducible rfl))
          try simp only [Act.put, List.getElem_toArray, List.getElem_cons_succ, List.getElem_cons_zero, List.setIfInBounds_toArray, List.set_cons_zero, List.set_cons_succ]
          refine wpAnyH_take (i := 9) (v := ?_) rfl (by kernel_rfl) (by kernel_rfl) (by kernel_rfl) (fun _ _ _ h => h) (Or.inl ⟨by rfl, ?_⟩) (by assumption) ?_
          rotate_left
          · intro w hSw; (try dsimp only at hSw); go_simp; (first | done | (with_reducible rfl))
          try simp only [Act.put, List.getElem_toArray, List.getElem_cons_succ, List.getElem_cons_zero, List.setIfInBounds_toArray, List.set_cons_zero, List.set_cons_succ]
          refine wpAnyH_done (by kernel_rfl) ?_ _
          go_wp2_with fail
          go_ret
          exact ⟨ret_bool CK.out.symm, Below.call HR.out.bl (Below.call H2.out H3.out)⟩
        · go_simp
          refine (CD.out _ (by repeat (first | (with_reducible exact Below.refl _ _) | (with_reducible assumption) | ((with_reducible refine Below.setCell ?_ ?_ _); rotate_left; (focus (first | omega | (simp; omega) | (simp; done)))) | ((with_reducible refine Below.alloc ?_ ?_ _); rotate_left; (focus (first | omega | (simp; omega) | (simp; done)))) | (with_reducible refine Below.drew ?_)))).mono ?_
          rintro e v2 ⟨es, rfl, he1, he2, he3, h2⟩
          have z2 := h2.size
          try simp at z2
          have HE := Lib.hid (And.intro he1 (And.intro he2 he3))
          have H2 : Hid (Below wo.heap.size wo v2) := Lib.hid (Below.call (by repeat (first | (with_reducible exact Below.refl _ _) | (with_reducible assumption) | ((with_reducible refine Below.setCell ?_ ?_ _); rotate_left; (focus (first | omega | (simp; omega) | (simp; done)))) | ((with_reducible refine Below.alloc ?_ ?_ _); rotate_left; (focus (first | omega | (simp; omega) | (simp; done)))) | (with_reducible refine Below.drew ?_))) h2)
          obtain ⟨e0, e1, e2, e3, e4, e5, e6, e7, e8, e9, e10, e11, e12, e13, e14, hes⟩ := list15 he1
          have HES := Lib.hid hes
          have eev : wV es = .agg #[u64V e0, u64V e1, u64V e2, u64V e3, u64V e4, u64V e5, u64V e6, u64V e7, u64V e8, u64V e9, u64V e10, u64V e11, u64V e12, u64V e13, u64V e14] := by rw [hes]; rfl
          have heq : ∀ W, Sem.run Try.prog (binOp .eql 65 (.agg #[u64V b0, u64V b1, u64V b2, u64V b3, u64V b4, u64V b5, u64V b6, u64V b7, u64V b8, u64V b9, u64V b10, u64V b11, u64V b12, u64V b13, u64V b14]) (.agg #[u64V e0, u64V e1, u64V e2, u64V e3, u64V e4, u64V e5, u64V e6, u64V e7, u64V e8, u64V e9, u64V e10, u64V e11, u64V e12, u64V e13, u64V e14])) W = .ok (.bool true) W := fun W => by have h := run_eql65 us es HR.out.len HE.out.1 W; rw [EWV.out, eev] at h; rw [h, EQ.out es HE.out.1 HE.out.2.1 HE.out.2.2]
          have hgd : ∀ (x y : Operand) W, Sem.run Try.prog (eqGuard .eql 65 x y (.agg #[u64V b0, u64V b1, u64V b2, u64V b3, u64V b4, u64V b5, u64V b6, u64V b7, u64V b8, u64V b9, u64V b10, u64V b11, u64V b12, u64V b13, u64V b14]) (.agg #[u64V e0, u64V e1, u64V e2, u64V e3, u64V e4, u64V e5, u64V e6, u64V e7, u64V e8, u64V e9, u64V e10, u64V e11, u64V e12, u64V e13, u64V e14])) W = .ok () W := fun x y W => eqGuard65 .eql x y _ _ W
          rw [eev]
          clear he1 he2 he3 h2 hes eev x0 x1 x2 x3 x4 x5 x6 x7 x8 x9 x10 x11 x12 x13 x14
          have BX2 : Hid (BoxAt v2 X [u64V b0, u64V b1, u64V b2, u64V b3, u64V b4, u64V b5, u64V b6, u64V b7, u64V b8, u64V b9, u64V b10, u64V b11, u64V b12, u64V b13, u64V b14]) := Lib.hid (BXi.out.call H2.out)
          have s0 : v2.cell? ⟨X, 0, none⟩ = some (u64V b0) := BX2.out.2.1 0 _ rfl
          have s1 : v2.cell? ⟨X, 1, none⟩ = some (u64V b1) := BX2.out.2.1 1 _ rfl
          have s2 : v2.cell? ⟨X, 2, none⟩ = some (u64V b2) := BX2.out.2.1 2 _ rfl
          have s3 : v2.cell? ⟨X, 3, none⟩ = some (u64V b3) := BX2.out.2.1 3 _ rfl
          have s4 : v2.cell? ⟨X, 4, none⟩ = some (u64V b4) := BX2.out.2.1 4 _ rfl
          have s5 : v2.cell? ⟨X, 5, none⟩ = some (u64V b5) := BX2.out.2.1 5 _ rfl
          have s6 : v2.cell? ⟨X, 6, none⟩ = some (u64V b6) := BX2.out.2.1 6 _ rfl
          have s7 : v2.cell? ⟨X, 7, none⟩ = some (u64V b7) := BX2.out.2.1 7 _ rfl
          have s8 : v2.cell? ⟨X, 8, none⟩ = some (u64V b8) := BX2.out.2.1 8 _ rfl
          have s9 : v2.cell? ⟨X, 9, none⟩ = some (u64V b9) := BX2.out.2.1 9 _ rfl
          have s10 : v2.cell? ⟨X, 10, none⟩ = some (u64V b10) := BX2.out.2.1 10 _ rfl
          have s11 : v2.cell? ⟨X, 11, none⟩ = some (u64V b11) := BX2.out.2.1 11 _ rfl
          have s12 : v2.cell? ⟨X, 12, none⟩ = some (u64V b12) := BX2.out.2.1 12 _ rfl
          have s13 : v2.cell? ⟨X, 13, none⟩ = some (u64V b13) := BX2.out.2.1 13 _ rfl
          have s14 : v2.cell? ⟨X, 14, none⟩ = some (u64V b14) := BX2.out.2.1 14 _ rfl
          refine hK.out _ _ ?_ (fun hHeld => ?_)
          · trivial
          clear hK K
          try simp only [Act.put, List.getElem_toArray, List.getElem_cons_succ, List.getElem_cons_zero, List.setIfInBounds_toArray, List.set_cons_zero, List.set_cons_succ]
          refine wpAnyH_ready (rs := [0]) (by kernel_rfl) (by simp) ?_
          refine AllReadyH.cons rfl (fun K hK => ?_) AllReadyH.nil
          go_simp
          refine hK.out _ _ ?_ (fun hHeld => ?_)
          · trivial
          clear hK K
          try simp only [Act.put, List.getElem_toArray, List.getElem_cons_succ, List.getElem_cons_zero, List.setIfInBounds_toArray, List.set_cons_zero, List.set_cons_succ]
          refine wpAnyH_take (i := 4) (v := ?_) rfl (by kernel_rfl) (by kernel_rfl) (by kernel_rfl) (fun _ _ _ h => h) (Or.inl ⟨by rfl, ?_⟩) (by assumption) ?_
          rotate_left
          · intro w hSw; (try dsimp only at hSw); go_simp; (first | done | (with_reducible rfl))
          try simp only [Act.put, List.getElem_toArray, List.getElem_cons_succ, List.getElem_cons_zero, List.setIfInBounds_toArray, List.set_cons_zero, List.set_cons_succ]
          refine wpAnyH_take (i := 5) (v := ?_) rfl (by kernel_rfl) (by kernel_rfl) (by kernel_rfl) (fun _ _ _ h => h) (Or.inl ⟨by rfl, ?_⟩) (by assumption) ?_
          rotate_left
          · intro w hSw; (try dsimp only at hSw); go_simp; (first | done | (with_reducible rfl))
          try simp only [Act.put, List.getElem_toArray, List.getElem_cons_succ, List.getElem_cons_zero, List.setIfInBounds_toArray, List.set_cons_zero, List.set_cons_succ]
          refine wpAnyH_take (i := 6) (v := ?_) rfl (by kernel_rfl) (by kernel_rfl) (by kernel_rfl) (fun _ _ _ h => h) (Or.inl ⟨by rfl, ?_⟩) (by assumption) ?_
          rotate_left
          · intro w hSw; (try dsimp only at hSw); go_simp; (first | done | (with_reducible rfl))
          try simp only [Act.put, List.getElem_toArray, List.getElem_cons_succ, List.getElem_cons_zero, List.setIfInBounds_toArray, List.set_cons_zero, List.set_cons_succ]
          refine wpAnyH_ready (rs := [7]) (by kernel_rfl) (by simp) ?_
          refine AllReadyH.cons rfl (fun K hK => ?_) AllReadyH.nil
          go_simp
          refine (CJ.out _ H2.out).mono ?_
          rintro e v3 ⟨rfl, h3⟩
          have H3 := Lib.hid h3
          clear h3
          refine hK.out _ _ ?_ (fun hHeld => ?_)
          · trivial
          clear hK K
          try simp only [Act.put, List.getElem_toArray, List.getElem_cons_succ, List.getElem_cons_zero, List.setIfInBounds_toArray, List.set_cons_zero, List.set_cons_succ]
          refine wpAnyH_take (i := 8) (v := ?_) rfl (by kernel_rfl) (by kernel_rfl) (by kernel_rfl) (fun _ _ _ h => h) (Or.inl ⟨by rfl, ?_⟩) (by assumption) ?_
          rotate_left
          · intro w hSw; (try dsimp only at hSw); go_simp; (first | done | (with_reducible rfl))
          try simp only [Act.put, List.getElem_toArray, List.getElem_cons_succ, List.getElem_cons_zero, List.setIfInBounds_toArray, List.set_cons_zero, List.set_cons_succ]
          refine wpAnyH_take (i := 9) (v := ?_) rfl (by kernel_rfl) (by kernel_rfl) (by kernel_rfl) (fun _ _ _ h => h) (Or.inl ⟨by rfl, ?_⟩) (by assumption) ?_
          rotate_left
          · intro w hSw; (try dsimp only at hSw); go_simp; (first | done | (with_reducible rfl))
          try simp only [Act.put, List.getElem_toArray, List.getElem_cons_succ, List.getElem_cons_zero, List.setIfInBounds_toArray, List.set_cons_zero, List.set_cons_succ]
          refine wpAnyH_done (by kernel_rfl) ?_ _
          go_wp2_with fail
          go_ret
          exact ⟨ret_bool CK.out.symm, Below.call HR.out.bl (Below.call H2.out H3.out)⟩
      · have CK : Hid (Bx.check lo hi (qs.map (·.2)) = false) := Lib.hid (by rw [hck]; simp [hgood])
        have EQ : Hid (∀ es : List Nat, es.length = 15 → Bx.Wd es → Bx.val es = Bx.vol lo hi → decide (us = es) = false) := Lib.hid (fun es h1 h2 h3 => by
          rw [decide_eq_false_iff_not]; intro h; apply hgood; rw [← HR.out.vl, h, h3])
        clear hgood hck
        have x0 : wo.cell? ⟨X, 0, none⟩ = some (u64V b0) := BXi.out.2.1 0 _ rfl
        have x1 : wo.cell? ⟨X, 1, none⟩ = some (u64V b1) := BXi.out.2.1 1 _ rfl
        have x2 : wo.cell? ⟨X, 2, none⟩ = some (u64V b2) := BXi.out.2.1 2 _ rfl
        have x3 : wo.cell? ⟨X, 3, none⟩ = some (u64V b3) := BXi.out.2.1 3 _ rfl
        have x4 : wo.cell? ⟨X, 4, none⟩ = some (u64V b4) := BXi.out.2.1 4 _ rfl
        have x5 : wo.cell? ⟨X, 5, none⟩ = some (u64V b5) := BXi.out.2.1 5 _ rfl
        have x6 : wo.cell? ⟨X, 6, none⟩ = some (u64V b6) := BXi.out.2.1 6 _ rfl
        have x7 : wo.cell? ⟨X, 7, none⟩ = some (u64V b7) := BXi.out.2.1 7 _ rfl
        have x8 : wo.cell? ⟨X, 8, none⟩ = some (u64V b8) := BXi.out.2.1 8 _ rfl
        have x9 : wo.cell? ⟨X, 9, none⟩ = some (u64V b9) := BXi.out.2.1 9 _ rfl
        have x10 : wo.cell? ⟨X, 10, none⟩ = some (u64V b10) := BXi.out.2.1 10 _ rfl
        have x11 : wo.cell? ⟨X, 11, none⟩ = some (u64V b11) := BXi.out.2.1 11 _ rfl
        have x12 : wo.cell? ⟨X, 12, none⟩ = some (u64V b12) := BXi.out.2.1 12 _ rfl
        have x13 : wo.cell? ⟨X, 13, none⟩ = some (u64V b13) := BXi.out.2.1 13 _ rfl
        have x14 : wo.cell? ⟨X, 14, none⟩ = some (u64V b14) := BXi.out.2.1 14 _ rfl
        go_wp2_with fail
        refine wp_region_held_drew (S := (fun _ => True)) (by kernel_rfl) ?_ (fun hHeld => ?_)
        · trivial
        refine wpAnyH_take (i := 1) (v := ?_) rfl (by kernel_rfl) (by kernel_rfl) (by kernel_rfl) (fun _ _ _ h => h) (Or.inl ⟨by rfl, ?_⟩) (by assumption) ?_
        rotate_left
        · intro w hSw; (try dsimp only at hSw); go_simp; (first | done | (with_reducible rfl))
        try simp only [Act.put, List.getElem_toArray, List.getElem_cons_succ, List.getElem_cons_zero, List.setIfInBounds_toArray, List.set_cons_zero, List.set_cons_succ]
        refine wpAnyH_take (i := 2) (v := ?_) rfl (by kernel_rfl) (by kernel_rfl) (by kernel_rfl) (fun _ _ _ h => h) (Or.inl ⟨by rfl, ?_⟩) (by assumption) ?_
        rotate_left
        · intro w hSw; (try dsimp only at hSw); go_simp; (first | done | (with_reducible rfl))
        try simp only [Act.put, List.getElem_toArray, List.getElem_cons_succ, List.getElem_cons_zero, List.setIfInBounds_toArray, List.set_cons_zero, List.set_cons_succ]
        refine wpAnyH_ready (rs := [0, 3]) (by kernel_rfl) (by simp) ?_
        refine AllReadyH.cons rfl (fun K hK => ?_) (AllReadyH.cons rfl (fun K hK => ?_) AllReadyH.nil)
        · go_simp
          refine hK.out _ _ ?_ (fun hHeld => ?_)
          · trivial
          clear hK K
          try simp only [Act.put, List.getElem_toArray, List.getElem_cons_succ, List.getElem_cons_zero, List.setIfInBounds_toArray, List.set_cons_zero, List.set_cons_succ]
          refine wpAnyH_ready (rs := [3]) (by kernel_rfl) (by simp) ?_
          refine AllReadyH.cons rfl (fun K hK => ?_) AllReadyH.nil
          go_simp
          refine (CD.out _ (by repeat (first | (with_reducible exact Below.refl _ _) | (with_reducible assumption) | ((with_reducible refine Below.setCell ?_ ?_ _); rotate_left; (focus (first | omega | (simp; omega) | (simp; done)))) | ((with_reducible refine Below.alloc ?_ ?_ _); rotate_left; (focus (first | omega | (simp; omega) | (simp; done)))) | (with_reducible refine Below.drew ?_)))).mono ?_
          rintro e v2 ⟨es, rfl, he1, he2, he3, h2⟩
          have z2 := h2.size
          try simp at z2
          have HE := Lib.hid (And.intro he1 (And.intro he2 he3))
          have H2 : Hid (Below wo.heap.size wo v2) := Lib.hid (Below.call (by repeat (first | (with_reducible exact Below.refl _ _) | (with_reducible assumption) | ((with_reducible refine Below.setCell ?_ ?_ _); rotate_left; (focus (first | omega | (simp; omega) | (simp; done)))) | ((with_reducible refine Below.alloc ?_ ?_ _); rotate_left; (focus (first | omega | (simp; omega) | (simp; done)))) | (with_reducible refine Below.drew ?_))) h2)
          obtain ⟨e0, e1, e2, e3, e4, e5, e6, e7, e8, e9, e10, e11, e12, e13, e14, hes⟩ := list15 he1
          have HES := Lib.hid hes
          have eev : wV es = .agg #[u64V e0, u64V e1, u64V e2, u64V e3, u64V e4, u64V e5, u64V e6, u64V e7, u64V e8, u64V e9, u64V e10, u64V e11, u64V e12, u64V e13, u64V e14] := by rw [hes]; rfl
          have heq : ∀ W, Sem.run Try.prog (binOp .eql 65 (.agg #[u64V b0, u64V b1, u64V b2, u64V b3, u64V b4, u64V b5, u64V b6, u64V b7, u64V b8, u64V b9, u64V b10, u64V b11, u64V b12, u64V b13, u64V b14]) (.agg #[u64V e0, u64V e1, u64V e2, u64V e3, u64V e4, u64V e5, u64V e6, u64V e7, u64V e8, u64V e9, u64V e10, u64V e11, u64V e12, u64V e13, u64V e14])) W = .ok (.bool false) W := fun W => by have h := run_eql65 us es HR.out.len HE.out.1 W; rw [EWV.out, eev] at h; rw [h, EQ.out es HE.out.1 HE.out.2.1 HE.out.2.2]
          have hgd : ∀ (x y : Operand) W, Sem.run Try.prog (eqGuard .eql 65 x y (.agg #[u64V b0, u64V b1, u64V b2, u64V b3, u64V b4, u64V b5, u64V b6, u64V b7, u64V b8, u64V b9, u64V b10, u64V b11, u64V b12, u64V b13, u64V b14]) (.agg #[u64V e0, u64V e1, u64V e2, u64V e3, u64V e4, u64V e5, u64V e6, u64V e7, u64V e8, u64V e9, u64V e10, u64V e11, u64V e12, u64V e13, u64V e14])) W = .ok () W := fun x y W => eqGuard65 .eql x y _ _ W
          rw [eev]
          clear he1 he2 he3 h2 hes eev x0 x1 x2 x3 x4 x5 x6 x7 x8 x9 x10 x11 x12 x13 x14
          have BX2 : Hid (BoxAt v2 X [u64V b0, u64V b1, u64V b2, u64V b3, u64V b4, u64V b5, u64V b6, u64V b7, u64V b8, u64V b9, u64V b10, u64V b11, u64V b12, u64V b13, u64V b14]) := Lib.hid (BXi.out.call H2.out)
          have s0 : v2.cell? ⟨X, 0, none⟩ = some (u64V b0) := BX2.out.2.1 0 _ rfl
          have s1 : v2.cell? ⟨X, 1, none⟩ = some (u64V b1) := BX2.out.2.1 1 _ rfl
          have s2 : v2.cell? ⟨X, 2, none⟩ = some (u64V b2) := BX2.out.2.1 2 _ rfl
          have s3 : v2.cell? ⟨X, 3, none⟩ = some (u64V b3) := BX2.out.2.1 3 _ rfl
          have s4 : v2.cell? ⟨X, 4, none⟩ = some (u64V b4) := BX2.out.2.1 4 _ rfl
          have s5 : v2.cell? ⟨X, 5, none⟩ = some (u64V b5) := BX2.out.2.1 5 _ rfl
          have s6 : v2.cell? ⟨X, 6, none⟩ = some (u64V b6) := BX2.out.2.1 6 _ rfl
          have s7 : v2.cell? ⟨X, 7, none⟩ = some (u64V b7) := BX2.out.2.1 7 _ rfl
          have s8 : v2.cell? ⟨X, 8, none⟩ = some (u64V b8) := BX2.out.2.1 8 _ rfl
          have s9 : v2.cell? ⟨X, 9, none⟩ = some (u64V b9) := BX2.out.2.1 9 _ rfl
          have s10 : v2.cell? ⟨X, 10, none⟩ = some (u64V b10) := BX2.out.2.1 10 _ rfl
          have s11 : v2.cell? ⟨X, 11, none⟩ = some (u64V b11) := BX2.out.2.1 11 _ rfl
          have s12 : v2.cell? ⟨X, 12, none⟩ = some (u64V b12) := BX2.out.2.1 12 _ rfl
          have s13 : v2.cell? ⟨X, 13, none⟩ = some (u64V b13) := BX2.out.2.1 13 _ rfl
          have s14 : v2.cell? ⟨X, 14, none⟩ = some (u64V b14) := BX2.out.2.1 14 _ rfl
          refine hK.out _ _ ?_ (fun hHeld => ?_)
          · trivial
          clear hK K
          try simp only [Act.put, List.getElem_toArray, List.getElem_cons_succ, List.getElem_cons_zero, List.setIfInBounds_toArray, List.set_cons_zero, List.set_cons_succ]
          refine wpAnyH_take (i := 4) (v := ?_) rfl (by kernel_rfl) (by kernel_rfl) (by kernel_rfl) (fun _ _ _ h => h) (Or.inl ⟨by rfl, ?_⟩) (by assumption) ?_
          rotate_left
          · intro w hSw; (try dsimp only at hSw); go_simp; (first | done | (with_reducible rfl))
          try simp only [Act.put, List.getElem_toArray, List.getElem_cons_succ, List.getElem_cons_zero, List.setIfInBounds_toArray, List.set_cons_zero, List.set_cons_succ]
          refine wpAnyH_take (i := 5) (v := ?_) rfl (by kernel_rfl) (by kernel_rfl) (by kernel_rfl) (fun _ _ _ h => h) (Or.inl ⟨by rfl, ?_⟩) (by assumption) ?_
          rotate_left
          · intro w hSw; (try dsimp only at hSw); go_simp; (first | done | (with_reducible rfl))
          try simp only [Act.put, List.getElem_toArray, List.getElem_cons_succ, List.getElem_cons_zero, List.setIfInBounds_toArray, List.set_cons_zero, List.set_cons_succ]
          refine wpAnyH_take (i := 6) (v := undef) rfl (by kernel_rfl) (by kernel_rfl) (by kernel_rfl) (fun _ _ _ h => h) (Or.inr ⟨by rfl, rfl⟩) (by assumption) ?_
          try simp only [Act.put, List.getElem_toArray, List.getElem_cons_succ, List.getElem_cons_zero, List.setIfInBounds_toArray, List.set_cons_zero, List.set_cons_succ]
          refine wpAnyH_take (i := 7) (v := undef) rfl (by kernel_rfl) (by kernel_rfl) (by kernel_rfl) (fun _ _ _ h => h) (Or.inr ⟨by rfl, rfl⟩) (by assumption) ?_
          try simp only [Act.put, List.getElem_toArray, List.getElem_cons_succ, List.getElem_cons_zero, List.setIfInBounds_toArray, List.set_cons_zero, List.set_cons_succ]
          refine wpAnyH_take (i := 8) (v := ?_) rfl (by kernel_rfl) (by kernel_rfl) (by kernel_rfl) (fun _ _ _ h => h) (Or.inl ⟨by rfl, ?_⟩) (by assumption) ?_
          rotate_left
          · intro w hSw; (try dsimp only at hSw); go_simp; (first | done | (with_reducible rfl))
          try simp only [Act.put, List.getElem_toArray, List.getElem_cons_succ, List.getElem_cons_zero, List.setIfInBounds_toArray, List.set_cons_zero, List.set_cons_succ]
          refine wpAnyH_take (i := 9) (v := ?_) rfl (by kernel_rfl) (by kernel_rfl) (by kernel_rfl) (fun _ _ _ h => h) (Or.inl ⟨by rfl, ?_⟩) (by assumption) ?_
          rotate_left
          · intro w hSw; (try dsimp only at hSw); go_simp; (first | done | (with_reducible rfl))
          try simp only [Act.put, List.getElem_toArray, List.getElem_cons_succ, List.getElem_cons_zero, List.setIfInBounds_toArray, List.set_cons_zero, List.set_cons_succ]
          refine wpAnyH_done (by kernel_rfl) ?_ _
          go_wp2_with fail
          go_ret
          exact ⟨ret_bool CK.out.symm, Below.call HR.out.bl H2.out⟩
        · go_simp
          refine (CD.out _ (by repeat (first | (with_reducible exact Below.refl _ _) | (with_reducible assumption) | ((with_reducible refine Below.setCell ?_ ?_ _); rotate_left; (focus (first | omega | (simp; omega) | (simp; done)))) | ((with_reducible refine Below.alloc ?_ ?_ _); rotate_left; (focus (first | omega | (simp; omega) | (simp; done)))) | (with_reducible refine Below.drew ?_)))).mono ?_
          rintro e v2 ⟨es, rfl, he1, he2, he3, h2⟩
          have z2 := h2.size
          try simp at z2
          have HE := Lib.hid (And.intro he1 (And.intro he2 he3))
          have H2 : Hid (Below wo.heap.size wo v2) := Lib.hid (Below.call (by repeat (first | (with_reducible exact Below.refl _ _) | (with_reducible assumption) | ((with_reducible refine Below.setCell ?_ ?_ _); rotate_left; (focus (first | omega | (simp; omega) | (simp; done)))) | ((with_reducible refine Below.alloc ?_ ?_ _); rotate_left; (focus (first | omega | (simp; omega) | (simp; done)))) | (with_reducible refine Below.drew ?_))) h2)
          obtain ⟨e0, e1, e2, e3, e4, e5, e6, e7, e8, e9, e10, e11, e12, e13, e14, hes⟩ := list15 he1
          have HES := Lib.hid hes
          have eev : wV es = .agg #[u64V e0, u64V e1, u64V e2, u64V e3, u64V e4, u64V e5, u64V e6, u64V e7, u64V e8, u64V e9, u64V e10, u64V e11, u64V e12, u64V e13, u64V e14] := by rw [hes]; rfl
          have heq : ∀ W, Sem.run Try.prog (binOp .eql 65 (.agg #[u64V b0, u64V b1, u64V b2, u64V b3, u64V b4, u64V b5, u64V b6, u64V b7, u64V b8, u64V b9, u64V b10, u64V b11, u64V b12, u64V b13, u64V b14]) (.agg #[u64V e0, u64V e1, u64V e2, u64V e3, u64V e4, u64V e5, u64V e6, u64V e7, u64V e8, u64V e9, u64V e10, u64V e11, u64V e12, u64V e13, u64V e14])) W = .ok (.bool false) W := fun W => by have h := run_eql65 us es HR.out.len HE.out.1 W; rw [EWV.out, eev] at h; rw [h, EQ.out es HE.out.1 HE.out.2.1 HE.out.2.2]
          have hgd : ∀ (x y : Operand) W, Sem.run Try.prog (eqGuard .eql 65 x y (.agg #[u64V b0, u64V b1, u64V b2, u64V b3, u64V b4, u64V b5, u64V b6, u64V b7, u64V b8, u64V b9, u64V b10, u64V b11, u64V b12, u64V b13, u64V b14]) (.agg #[u64V e0, u64V e1, u64V e2, u64V e3, u64V e4, u64V e5, u64V e6, u64V e7, u64V e8, u64V e9, u64V e10, u64V e11, u64V e12, u64V e13, u64V e14])) W = .ok () W := fun x y W => eqGuard65 .eql x y _ _ W
          rw [eev]
          clear he1 he2 he3 h2 hes eev x0 x1 x2 x3 x4 x5 x6 x7 x8 x9 x10 x11 x12 x13 x14
          have BX2 : Hid (BoxAt v2 X [u64V b0, u64V b1, u64V b2, u64V b3, u64V b4, u64V b5, u64V b6, u64V b7, u64V b8, u64V b9, u64V b10, u64V b11, u64V b12, u64V b13, u64V b14]) := Lib.hid (BXi.out.call H2.out)
          have s0 : v2.cell? ⟨X, 0, none⟩ = some (u64V b0) := BX2.out.2.1 0 _ rfl
          have s1 : v2.cell? ⟨X, 1, none⟩ = some (u64V b1) := BX2.out.2.1 1 _ rfl
          have s2 : v2.cell? ⟨X, 2, none⟩ = some (u64V b2) := BX2.out.2.1 2 _ rfl
          have s3 : v2.cell? ⟨X, 3, none⟩ = some (u64V b3) := BX2.out.2.1 3 _ rfl
          have s4 : v2.cell? ⟨X, 4, none⟩ = some (u64V b4) := BX2.out.2.1 4 _ rfl
          have s5 : v2.cell? ⟨X, 5, none⟩ = some (u64V b5) := BX2.out.2.1 5 _ rfl
          have s6 : v2.cell? ⟨X, 6, none⟩ = some (u64V b6) := BX2.out.2.1 6 _ rfl
          have s7 : v2.cell? ⟨X, 7, none⟩ = some (u64V b7) := BX2.out.2.1 7 _ rfl
          have s8 : v2.cell? ⟨X, 8, none⟩ = some (u64V b8) := BX2.out.2.1 8 _ rfl
          have s9 : v2.cell? ⟨X, 9, none⟩ = some (u64V b9) := BX2.out.2.1 9 _ rfl
          have s10 : v2.cell? ⟨X, 10, none⟩ = some (u64V b10) := BX2.out.2.1 10 _ rfl
          have s11 : v2.cell? ⟨X, 11, none⟩ = some (u64V b11) := BX2.out.2.1 11 _ rfl
          have s12 : v2.cell? ⟨X, 12, none⟩ = some (u64V b12) := BX2.out.2.1 12 _ rfl
          have s13 : v2.cell? ⟨X, 13, none⟩ = some (u64V b13) := BX2.out.2.1 13 _ rfl
          have s14 : v2.cell? ⟨X, 14, none⟩ = some (u64V b14) := BX2.out.2.1 14 _ rfl
          refine hK.out _ _ ?_ (fun hHeld => ?_)
          · trivial
          clear hK K
          try simp only [Act.put, List.getElem_toArray, List.getElem_cons_succ, List.getElem_cons_zero, List.setIfInBounds_toArray, List.set_cons_zero, List.set_cons_succ]
          refine wpAnyH_ready (rs := [0]) (by kernel_rfl) (by simp) ?_
          refine AllReadyH.cons rfl (fun K hK => ?_) AllReadyH.nil
          go_simp
          refine hK.out _ _ ?_ (fun hHeld => ?_)
          · trivial
          clear hK K
          try simp only [Act.put, List.getElem_toArray, List.getElem_cons_succ, List.getElem_cons_zero, List.setIfInBounds_toArray, List.set_cons_zero, List.set_cons_succ]
          refine wpAnyH_take (i := 4) (v := ?_) rfl (by kernel_rfl) (by kernel_rfl) (by kernel_rfl) (fun _ _ _ h => h) (Or.inl ⟨by rfl, ?_⟩) (by assumption) ?_
          rotate_left
          · intro w hSw; (try dsimp only at hSw); go_simp; (first | done | (with_reducible rfl))
          try simp only [Act.put, List.getElem_toArray, List.getElem_cons_succ, List.getElem_cons_zero, List.setIfInBounds_toArray, List.set_cons_zero, List.set_cons_succ]
          refine wpAnyH_take (i := 5) (v := ?_) rfl (by kernel_rfl) (by kernel_rfl) (by kernel_rfl) (fun _ _ _ h => h) (Or.inl ⟨by rfl, ?_⟩) (by assumption) ?_
          rotate_left
          · intro w hSw; (try dsimp only at hSw); go_simp; (first | done | (with_reducible rfl))
          try simp only [Act.put, List.getElem_toArray, List.getElem_cons_succ, List.getElem_cons_zero, List.setIfInBounds_toArray, List.set_cons_zero, List.set_cons_succ]
          refine wpAnyH_take (i := 6) (v := undef) rfl (by kernel_rfl) (by kernel_rfl) (by kernel_rfl) (fun _ _ _ h => h) (Or.inr ⟨by rfl, rfl⟩) (by assumption) ?_
          try simp only [Act.put, List.getElem_toArray, List.getElem_cons_succ, List.getElem_cons_zero, List.setIfInBounds_toArray, List.set_cons_zero, List.set_cons_succ]
          refine wpAnyH_take (i := 7) (v := undef) rfl (by kernel_rfl) (by kernel_rfl) (by kernel_rfl) (fun _ _ _ h => h) (Or.inr ⟨by rfl, rfl⟩) (by assumption) ?_
          try simp only [Act.put, List.getElem_toArray, List.getElem_cons_succ, List.getElem_cons_zero, List.setIfInBounds_toArray, List.set_cons_zero, List.set_cons_succ]
          refine wpAnyH_take (i := 8) (v := ?_) rfl (by kernel_rfl) (by kernel_rfl) (by kernel_rfl) (fun _ _ _ h => h) (Or.inl ⟨by rfl, ?_⟩) (by assumption) ?_
          rotate_left
          · intro w hSw; (try dsimp only at hSw); go_simp; (first | done | (with_reducible rfl))
          try simp only [Act.put, List.getElem_toArray, List.getElem_cons_succ, List.getElem_cons_zero, List.setIfInBounds_toArray, List.set_cons_zero, List.set_cons_succ]
          refine wpAnyH_take (i := 9) (v := ?_) rfl (by kernel_rfl) (by kernel_rfl) (by kernel_rfl) (fun _ _ _ h => h) (Or.inl ⟨by rfl, ?_⟩) (by assumption) ?_
          rotate_left
          · intro w hSw; (try dsimp only at hSw); go_simp; (first | done | (with_reducible rfl))
          try simp only [Act.put, List.getElem_toArray, List.getElem_cons_succ, List.getElem_cons_zero, List.setIfInBounds_toArray, List.set_cons_zero, List.set_cons_succ]
          refine wpAnyH_done (by kernel_rfl) ?_ _
          go_wp2_with fail
          go_ret
          exact ⟨ret_bool CK.out.symm, Below.call HR.out.bl H2.out⟩

theorem check19 (A D : Option Addr) (n m c d : Nat) (lo hi : List Int) (u : Sl) (qs : List BxM) (w : World) (hx : Rd w w.heap.size 1 A n (ints lo)) (hy : Rd w w.heap.size 1 D m (ints hi))
    (hu : Rd w w.heap.size 3 u.a u.n ((qs.map (·.1)).flatMap bxL)) (hq : ∀ q ∈ qs, BoxRd w q) (hun : u.n ≤ 900000) :
    Calls Try.prog 19 #[.slice A n c, .slice D m d, .slice u.a u.n u.c] w fun e w' => e = .returned (.bool (Bx.check lo hi (qs.map (·.2)))) ∧ Below w.heap.size w w' := by
  cases hv : Bx.valid lo hi with
  | false => exact check19_bad A D n m c d lo hi u qs w hx hy hv
  | true =>
    have h1 : lo.length = n := by simpa using hx.1
    have h2 : hi.length = m := by simpa using hy.1
    have h3 : lo.length = hi.length := by unfold Bx.valid at hv; simp only [Bool.and_eq_true, decide_eq_true_eq] at hv; exact hv.1.1
    have e : m = n := by omega
    subst e
    exact check19_main A D m c d lo hi u qs w hx hy hv hu hq hun
end Go.Proofs.Ytcncobhdfflelaa
