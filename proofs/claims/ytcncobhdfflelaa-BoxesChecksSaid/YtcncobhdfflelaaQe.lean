/- The contracts of the reference's Covers and Check. -/
import Derived.Test.YtcncobhdfflelaaQb
namespace Go.Proofs.Ytcncobhdfflelaa
namespace Bx
/-- a box that holds points -/
def Ord (D : Dm) : Prop := ∀ (i : Nat) (x y : Int), D.1[i]? = some x → D.2[i]? = some y → x ≤ y
theorem Ord.pos {D : Dm} (h : Ord D) : 1 ≤ vol D.1 D.2 := by
  refine volF_pos _ fun p hp => ?_
  obtain ⟨i, hi, he⟩ := List.getElem_of_mem hp
  have h1 : (D.1.zip D.2)[i]? = some p := by rw [List.getElem?_eq_getElem hi, he]
  rw [List.getElem?_zip_eq_some] at h1
  exact h i _ _ h1.1 h1.2
theorem Ord.halves {lo hi : List Int} (h : Ord (lo, hi)) {i : Nat} {x y m : Int} (hx : lo[i]? = some x) (hy : hi[i]? = some y) (h1 : x ≤ m) (h2 : m < y) :
    Ord (lo, hi.set i m) ∧ Ord (lo.set i (m + 1), hi) ∧ vol lo (hi.set i m) < vol lo hi ∧ vol (lo.set i (m + 1)) hi < vol lo hi := by
  have g1 := (List.getElem?_eq_some_iff.1 hx).1
  have g2 := (List.getElem?_eq_some_iff.1 hy).1
  have o1 : Ord (lo, hi.set i m) := fun k a c ha hc => by
    by_cases e : i = k
    · subst e
      simp only at ha hc
      rw [List.getElem?_set_self g2] at hc
      rw [hx] at ha
      injection ha with ha
      injection hc with hc
      omega
    · simp only at ha hc
      rw [List.getElem?_set_ne e] at hc
      exact h k a c ha hc
  have o2 : Ord (lo.set i (m + 1), hi) := fun k a c ha hc => by
    by_cases e : i = k
    · subst e
      simp only at ha hc
      rw [List.getElem?_set_self g1] at ha
      rw [hy] at hc
      injection ha with ha
      injection hc with hc
      omega
    · simp only at ha hc
      rw [List.getElem?_set_ne e] at ha
      exact h k a c ha hc
  have e := cnt_cut (lo, hi) (fun _ => true) hx hy h1 (by omega)
  rw [cnt_true, cnt_true, cnt_true] at e
  have p1 := o1.pos
  have p2 := o2.pos
  simp only at e p1 p2
  exact ⟨o1, o2, by omega, by omega⟩
theorem meet_in {al ah bl bh : List Int} (h : meet al ah bl bh = true) (i : Nat) {a b c d : Int} (h1 : al[i]? = some a) (h2 : ah[i]? = some b) (h3 : bl[i]? = some c) (h4 : bh[i]? = some d) : c ≤ b ∧ a ≤ d := by
  by_cases g : b < c ∨ d < a
  · have := meet_false.2 ⟨i, a, b, c, d, h1, h2, h3, h4, g⟩
    rw [this] at h
    cases h
  · omega
theorem cov_pred {lo hi : List Int} {bs : List Dm} {i : Nat} {x y p : Int} (hx : lo[i]? = some x) (hy : hi[i]? = some y) (h1 : x < p) (h2 : p ≤ y) : cov (lo, hi) bs = (cov (lo, hi.set i (p - 1)) bs && cov (lo.set i p, hi) bs) := by
  have := cov_cut (lo, hi) bs (m := p - 1) hx hy (by omega) (by omega)
  rw [show p - 1 + 1 = p by omega] at this
  exact this
end Bx
open Go.RowKit

/-- Covers, for domains of at most N points -/
def CovIH (u : Sl) (qs : List BxM) (n N : Nat) : Prop := ∀ (A D : Option Addr) (c d : Nat) (lo hi : List Int) (w : World), Rd w w.heap.size 1 A n (ints lo) → Rd w w.heap.size 1 D n (ints hi) →
    Rd w w.heap.size 3 u.a u.n ((qs.map (·.1)).flatMap bxL) → (∀ q ∈ qs, BoxOk w n q) → Bx.Ord (lo, hi) → Bx.vol lo hi ≤ N →
    Calls Try.prog 50 #[.slice A n c, .slice D n d, .slice u.a u.n u.c] w fun e w' => e = .returned (.bool (Bx.cov (lo, hi) (qs.map (·.2)))) ∧ Below w.heap.size w w'
set_option linter.unusedSimpArgs false in
set_option linter.unusedVariables false in
set_option maxRecDepth 100000 in
set_option maxHeartbeats 6400000 in
theorem covers50_step (u : Sl) (qs : List BxM) (n : Nat) (hn : n ≤ 1000000) (hun : u.n ≤ 1000000) (hsm : ∀ q ∈ qs, Bx.Small q.2.1 ∧ Bx.Small q.2.2) (N : Nat) (IH : CovIH u qs n N) : CovIH u qs n (N + 1) := by
    intro A D c d lo hi w hx hy hu hq ho hv
    have IH := Lib.hid IH
    have HX := Lib.hid hx
    have HY := Lib.hid hy
    have HU := Lib.hid hu
    have HQ := Lib.hid hq
    have HO := Lib.hid ho
    have HV := Lib.hid hv
    have HSM := Lib.hid hsm
    have HL := Lib.hid (show lo.length = n by simpa using hx.1)
    have HM := Lib.hid (show hi.length = n by simpa using hy.1)
    have HQL := Lib.hid (show qs.length = u.n by have := hu.len (fun _ => rfl) (by omega); simpa using this)
    have HD : Hid (Bx.Dims n (lo, hi)) := Lib.hid ⟨HL.out, HM.out⟩
    clear hx hy hu hq ho hv hsm
    go_enter Try.func50, Try.ntmps50
    go_wp2_with fail
    go_loopw [7] (fun i W => ∃ k : Nat, k ≤ u.n ∧ i = .int .i64 k ∧ Hid (∀ q ∈ qs.take k, Bx.meetD q.2 (lo, hi) = false) ∧ Hid (Below w.heap.size w W)) (fun i _ => u.n - (intOf i).toNat)
    case atStart => exact ⟨0, Nat.zero_le _, rfl, Lib.hid (fun q hq => by simp at hq), Lib.hid (Below.refl _ _)⟩
    case round =>
      obtain ⟨k, hk, rfl, HK, HB⟩ := hrel
      obtain ⟨wa, rfl⟩ : ∃ W, W = wr := ⟨wr, rfl⟩
      by_cases hlt : k < u.n
      · obtain ⟨b1, o1, q, hqi, hb1, hix1, x0, x1, x2⟩ := box_at (HU.out.up HB.out) u.c hlt
        have HT := Lib.hid (show qs.take (k + 1) = qs.take k ++ [q] by
          obtain ⟨h1, h2⟩ := List.getElem?_eq_some_iff.1 hqi
          rw [List.take_succ_eq_append_getElem h1, h2])
        have hmem := List.mem_of_getElem? hqi
        have HMEM := Lib.hid hmem
        have QK := Lib.hid (HQ.out q hmem)
        have QA := Lib.hid ((HQ.out q hmem).up HB.out)
        have X0 := Lib.hid x0
        have X1 := Lib.hid x1
        have CM := Lib.hid (meet49 q.1 A D n c d q.2.1 q.2.2 lo hi wa QA.out.lo QA.out.hi (HX.out.up HB.out) (HY.out.up HB.out) QA.out.n1 QA.out.n2 hn)
        clear hqi hmem
        cases hm : Bx.meet q.2.1 q.2.2 lo hi with
        | false =>
          rw [hm] at CM
          have HF : Hid (∀ p ∈ qs.take (k + 1), Bx.meetD p.2 (lo, hi) = false) := Lib.hid (fun p hp => by
            rw [HT.out] at hp
            rcases List.mem_append.1 hp with hp | hp
            · exact HK.out p hp
            · rw [List.mem_singleton] at hp; subst hp; exact hm)
          clear hm
          go_wp2_with fail
          refine CM.out.mono ?_
          rintro e w1 ⟨rfl, g1⟩
          have HB1 := Lib.hid (Below.call HB.out g1)
          clear g1 CM x0 x1 x2
          go_wp2_with fail
          go_roundw
          case rel => exact ⟨k + 1, by omega, by go_num, HF, HB1⟩
          case measure => simp [intOf]; omega
        | true =>
          rw [hm] at CM
          have HME := Lib.hid hm
          clear hm
          go_wp2_with fail
          refine CM.out.mono ?_
          rintro e w1 ⟨rfl, g1⟩
          have HB1 := Lib.hid (Below.call HB.out g1)
          have hb1' : b1 < w1.heap.size := by have := g1.size; omega
          have y0 := (g1.cell (p := ⟨b1, o1, none⟩) hb1).trans X0.out
          have y1 := (g1.cell (p := ⟨b1, o1 + 1, none⟩) hb1).trans X1.out
          have ln1 : n ≤ q.1.lo.n := by have := QK.out.n1; omega
          have ln2 : n ≤ q.1.hi.n := by have := QK.out.n2; omega
          clear g1 CM x0 x1 x2 X0 X1 HK
          go_wp2_with fail
          go_loopw [8] (fun i W => ∃ j : Nat, j ≤ n ∧ i = .int .i64 j ∧ Hid (∀ (i : Nat) (x y p t : Int), i < j → lo[i]? = some x → hi[i]? = some y → q.2.1[i]? = some p → q.2.2[i]? = some t → p ≤ x ∧ y ≤ t) ∧ Hid (Below w1.heap.size w1 W)) (fun i _ => n - (intOf i).toNat)
          case atStart => exact ⟨0, Nat.zero_le _, rfl, Lib.hid (fun i x y p t hi => absurd hi (Nat.not_lt_zero _)), Lib.hid (Below.refl _ _)⟩
          case round =>
            obtain ⟨j, hj, rfl, HJ, HI⟩ := hrel
            obtain ⟨wi, rfl⟩ : ∃ W, W = wr := ⟨wr, rfl⟩
            have HBI := Lib.hid (Below.call HB1.out HI.out)
            have z0 := (HI.out.cell (p := ⟨b1, o1, none⟩) hb1').trans y0
            have z1 := (HI.out.cell (p := ⟨b1, o1 + 1, none⟩) hb1').trans y1
            have hbi : b1 < wi.heap.size := by have := HI.out.size; omega
            by_cases hlj : j < n
            · obtain ⟨p1, f1, x, e1, ix1, c1, hp1, _⟩ := rd_int (HX.out.up HBI.out) c hlj
              obtain ⟨p2, f2, y, e2, ix2, c2, hp2, _⟩ := rd_int (HY.out.up HBI.out) d hlj
              obtain ⟨p3, f3, p, e3, ix3, c3, hp3, _⟩ := rd_int (QK.out.lo.up HBI.out) q.1.lo.c (show j < q.1.lo.n by omega)
              obtain ⟨p4, f4, t, e4, ix4, c4, hp4, _⟩ := rd_int (QK.out.hi.up HBI.out) q.1.hi.c (show j < q.1.hi.n by omega)
              obtain ⟨m1, m2⟩ := Bx.meet_in HME.out j e3 e4 e1 e2
              obtain ⟨s1, s2⟩ := (HSM.out q HMEM.out).1 p (List.mem_of_getElem? e3)
              obtain ⟨s3, s4⟩ := (HSM.out q HMEM.out).2 t (List.mem_of_getElem? e4)
              have E1 := Lib.hid e1
              have E2 := Lib.hid e2
              have E3 := Lib.hid e3
              have E4 := Lib.hid e4
              have C3 := Lib.hid c3
              have C4 := Lib.hid c4
              have Z0 := Lib.hid z0
              have Z1 := Lib.hid z1
              clear e1 e2 e3 e4
              by_cases q1 : x < p
              · have t1 : decide (x < p) = true := by simpa using q1
                have ha := HO.out.halves E1.out E2.out (show x ≤ p - 1 by omega) (show p - 1 < y by omega)
                rw [show p - 1 + 1 = p by omega] at ha
                have HA := Lib.hid ha
                clear ha
                have HC : Hid (Bx.cov (lo, hi) (qs.map (·.2)) = (Bx.cov (lo, hi.set j (p - 1)) (qs.map (·.2)) && Bx.cov (lo.set j p, hi) (qs.map (·.2)))) := Lib.hid (Bx.cov_pred E1.out E2.out q1 m2)
                have hw1 : IntKind.i64.wrap (p - 1) = p - 1 := by rw [IntWalk.i64_left, IntWalk.wrap64_in _ (by omega)]
                go_wp2_with fail
                go_quiet (fail)
                go_wp2_with fail
                generalize hwd : wi.drewN _ = wd
                have HWD : Hid (Below w.heap.size w wd) := Lib.hid (by rw [← hwd]; exact below_drewN HBI.out _)
                have v0 : wd.cell? ⟨b1, o1, none⟩ = some (.slice q.1.lo.a q.1.lo.n q.1.lo.c) := by rw [← hwd]; exact Z0.out
                have v3 : wd.cell? ⟨p3, f3, none⟩ = some (.int .i64 p) := by rw [← hwd]; exact C3.out
                have hbd : b1 < wd.heap.size := by rw [← hwd]; exact hbi
                have hpd : p3 < wd.heap.size := by rw [← hwd]; have := HBI.out.size; simp; omega
                have V0 := Lib.hid v0
                have V3 := Lib.hid v3
                clear hwd z0 z1 c1 c2 c3 c4
                have CW1 := Lib.hid (with41 hi D n d j (p - 1) wd (HY.out.up HWD.out) hn hlj)
                go_wp2_with fail
                refine CW1.out.mono ?_
                rintro e w2 ⟨u2, rfl, ro2, h2⟩
                have RO2 := Lib.hid (own_rd ro2)
                have HW2 := Lib.hid (Below.call HWD.out h2)
                have CR1 := Lib.hid (IH.out A u2.a c u2.c lo (hi.set j (p - 1)) w2 (HX.out.up HW2.out) RO2.out (HU.out.up HW2.out) (fun p hp => (HQ.out p hp).up HW2.out) HA.out.1 (by have := HA.out.2.2.1; have := HV.out; omega))
                have u0 := (h2.cell (p := ⟨b1, o1, none⟩) hbd).trans V0.out
                have u3 := (h2.cell (p := ⟨p3, f3, none⟩) hpd).trans V3.out
                have hbu : b1 < w2.heap.size := by have := h2.size; omega
                have hpu : p3 < w2.heap.size := by have := h2.size; omega
                have U0 := Lib.hid u0
                have U3 := Lib.hid u3
                clear ro2 h2 CW1 v0 v3 V0 V3 hbd hpd
                obtain ⟨ca, hca⟩ : ∃ ca, Bx.cov (lo, hi.set j (p - 1)) (qs.map (·.2)) = ca := ⟨_, rfl⟩
                rw [hca] at CR1 HC
                clear hca
                go_wp2_with fail
                refine CR1.out.mono ?_
                rintro e w3 ⟨rfl, h3⟩
                have HW3 := Lib.hid (Below.call HW2.out h3)
                have r0 := (h3.cell (p := ⟨b1, o1, none⟩) hbu).trans U0.out
                have r3 := (h3.cell (p := ⟨p3, f3, none⟩) hpu).trans U3.out
                clear h3 CR1 u0 u3 U0 U3 hbu hpu
                cases ca with
                | false =>
                  have HF : Hid (Bx.cov (lo, hi) (qs.map (·.2)) = false) := Lib.hid (by rw [HC.out]; rfl)
                  go_wp2_with fail
                  go_ret
                  exact ⟨ret_bool HF.out.symm, HW3.out⟩
                | true =>
                  have CW2 := Lib.hid (with41 lo A n c j (p) w3 (HX.out.up HW3.out) hn hlj)
                  go_wp2_with fail
                  refine CW2.out.mono ?_
                  rintro e w4 ⟨u4, rfl, ro4, h4⟩
                  have RO4 := Lib.hid (own_rd ro4)
                  have HW4 := Lib.hid (Below.call HW3.out h4)
                  have CR2 := Lib.hid (IH.out u4.a D u4.c d (lo.set j (p)) hi w4 RO4.out (HY.out.up HW4.out) (HU.out.up HW4.out) (fun p hp => (HQ.out p hp).up HW4.out) HA.out.2.1 (by have := HA.out.2.2.2; have := HV.out; omega))
                  clear ro4 h4 CW2 r0 r3
                  obtain ⟨cb, hcb⟩ : ∃ cb, Bx.cov (lo.set j (p), hi) (qs.map (·.2)) = cb := ⟨_, rfl⟩
                  rw [hcb] at CR2 HC
                  have HF : Hid (Bx.cov (lo, hi) (qs.map (·.2)) = cb) := Lib.hid (by rw [HC.out]; rfl)
                  clear hcb HC
                  go_wp2_with fail
                  refine CR2.out.mono ?_
                  rintro e w5 ⟨rfl, h5⟩
                  have HW5 := Lib.hid (Below.call HW4.out h5)
                  clear h5 CR2
                  go_wp2_with fail
                  go_ret
                  exact ⟨ret_bool HF.out.symm, HW5.out⟩
              · have t1 : decide (x < p) = false := by simpa using q1
                by_cases q2 : t < y
                · have t2 : decide (t < y) = true := by simpa using q2
                  have m2' : x ≤ t := m1
                  have HA := Lib.hid (HO.out.halves E1.out E2.out m2' q2)
                  have HC : Hid (Bx.cov (lo, hi) (qs.map (·.2)) = (Bx.cov (lo, hi.set j t) (qs.map (·.2)) && Bx.cov (lo.set j (t + 1), hi) (qs.map (·.2)))) := Lib.hid (Bx.cov_cut (lo, hi) _ E1.out E2.out m2' (by omega))
                  have hw1 : IntKind.i64.wrap (t + 1) = t + 1 := by rw [IntWalk.i64_left, IntWalk.wrap64_in _ (by omega)]
                  go_wp2_with fail
                  go_quiet (fail)
                  go_wp2_with fail
                  go_quiet (fail)
                  go_wp2_with fail
                  generalize hwd : wi.drewN _ = wd
                  have HWD : Hid (Below w.heap.size w wd) := Lib.hid (by rw [← hwd]; exact below_drewN HBI.out _)
                  have v0 : wd.cell? ⟨b1, o1 + 1, none⟩ = some (.slice q.1.hi.a q.1.hi.n q.1.hi.c) := by rw [← hwd]; exact Z1.out
                  have v3 : wd.cell? ⟨p4, f4, none⟩ = some (.int .i64 t) := by rw [← hwd]; exact C4.out
                  have hbd : b1 < wd.heap.size := by rw [← hwd]; exact hbi
                  have hpd : p4 < wd.heap.size := by rw [← hwd]; have := HBI.out.size; simp; omega
                  have V0 := Lib.hid v0
                  have V3 := Lib.hid v3
                  clear hwd z0 z1 c1 c2 c3 c4
                  have CW1 := Lib.hid (with41 hi D n d j (t) wd (HY.out.up HWD.out) hn hlj)
                  go_wp2_with fail
                  refine CW1.out.mono ?_
                  rintro e w2 ⟨u2, rfl, ro2, h2⟩
                  have RO2 := Lib.hid (own_rd ro2)
                  have HW2 := Lib.hid (Below.call HWD.out h2)
                  have CR1 := Lib.hid (IH.out A u2.a c u2.c lo (hi.set j (t)) w2 (HX.out.up HW2.out) RO2.out (HU.out.up HW2.out) (fun p hp => (HQ.out p hp).up HW2.out) HA.out.1 (by have := HA.out.2.2.1; have := HV.out; omega))
                  have u0 := (h2.cell (p := ⟨b1, o1 + 1, none⟩) hbd).trans V0.out
                  have u3 := (h2.cell (p := ⟨p4, f4, none⟩) hpd).trans V3.out
                  have hbu : b1 < w2.heap.size := by have := h2.size; omega
                  have hpu : p4 < w2.heap.size := by have := h2.size; omega
                  have U0 := Lib.hid u0
                  have U3 := Lib.hid u3
                  clear ro2 h2 CW1 v0 v3 V0 V3 hbd hpd
                  obtain ⟨ca, hca⟩ : ∃ ca, Bx.cov (lo, hi.set j (t)) (qs.map (·.2)) = ca := ⟨_, rfl⟩
                  rw [hca] at CR1 HC
                  clear hca
                  go_wp2_with fail
                  refine CR1.out.mono ?_
                  rintro e w3 ⟨rfl, h3⟩
                  have HW3 := Lib.hid (Below.call HW2.out h3)
                  have r0 := (h3.cell (p := ⟨b1, o1 + 1, none⟩) hbu).trans U0.out
                  have r3 := (h3.cell (p := ⟨p4, f4, none⟩) hpu).trans U3.out
                  clear h3 CR1 u0 u3 U0 U3 hbu hpu
                  cases ca with
                  | false =>
                    have HF : Hid (Bx.cov (lo, hi) (qs.map (·.2)) = false) := Lib.hid (by rw [HC.out]; rfl)
                    go_wp2_with fail
                    go_ret
                    exact ⟨ret_bool HF.out.symm, HW3.out⟩
                  | true =>
                    have CW2 := Lib.hid (with41 lo A n c j (t + 1) w3 (HX.out.up HW3.out) hn hlj)
                    go_wp2_with fail
                    refine CW2.out.mono ?_
                    rintro e w4 ⟨u4, rfl, ro4, h4⟩
                    have RO4 := Lib.hid (own_rd ro4)
                    have HW4 := Lib.hid (Below.call HW3.out h4)
                    have CR2 := Lib.hid (IH.out u4.a D u4.c d (lo.set j (t + 1)) hi w4 RO4.out (HY.out.up HW4.out) (HU.out.up HW4.out) (fun p hp => (HQ.out p hp).up HW4.out) HA.out.2.1 (by have := HA.out.2.2.2; have := HV.out; omega))
                    clear ro4 h4 CW2 r0 r3
                    obtain ⟨cb, hcb⟩ : ∃ cb, Bx.cov (lo.set j (t + 1), hi) (qs.map (·.2)) = cb := ⟨_, rfl⟩
                    rw [hcb] at CR2 HC
                    have HF : Hid (Bx.cov (lo, hi) (qs.map (·.2)) = cb) := Lib.hid (by rw [HC.out]; rfl)
                    clear hcb HC
                    go_wp2_with fail
                    refine CR2.out.mono ?_
                    rintro e w5 ⟨rfl, h5⟩
                    have HW5 := Lib.hid (Below.call HW4.out h5)
                    clear h5 CR2
                    go_wp2_with fail
                    go_ret
                    exact ⟨ret_bool HF.out.symm, HW5.out⟩
                · have t2 : decide (t < y) = false := by simpa using q2
                  have HN : Hid (∀ (i : Nat) (x y p t : Int), i < j + 1 → lo[i]? = some x → hi[i]? = some y → q.2.1[i]? = some p → q.2.2[i]? = some t → p ≤ x ∧ y ≤ t) := Lib.hid (fun i x' y' p' t' hi' d1 d2 d3 d4 => by
                    by_cases e : i = j
                    · subst e
                      rw [E1.out] at d1
                      rw [E2.out] at d2
                      rw [E3.out] at d3
                      rw [E4.out] at d4
                      injection d1 with d1
                      injection d2 with d2
                      injection d3 with d3
                      injection d4 with d4
                      omega
                    · exact HJ.out i x' y' p' t' (by omega) d1 d2 d3 d4)
                  go_wp2_with fail
                  go_quiet (fail)
                  go_wp2_with fail
                  go_quiet (fail)
                  go_wp2_with fail
                  go_roundw
                  case rel => exact ⟨j + 1, hlj, by go_num, HN, Lib.hid (below_drewN HI.out _)⟩
                  case measure => simp [intOf]; omega
            · have HF : Hid (Bx.cov (lo, hi) (qs.map (·.2)) = true) := Lib.hid (Bx.cov_all HD.out QK.out.dims (List.mem_map.2 ⟨q, HMEM.out, rfl⟩) (fun i x y p t d1 d2 d3 d4 => HJ.out i x y p t (by have := (List.getElem?_eq_some_iff.1 d1).1; have := HL.out; simp only at *; omega) d1 d2 d3 d4))
              go_wp2_with fail
              go_ret
              exact ⟨ret_bool HF.out.symm, HBI.out⟩
      · have HF : Hid (Bx.cov (lo, hi) (qs.map (·.2)) = false) := Lib.hid (by
          refine Bx.cov_none HD.out (fun b hb => ?_) (fun b hb => ?_) HO.out.pos
          · obtain ⟨q, hq, rfl⟩ := List.mem_map.1 hb
            exact (HQ.out q hq).dims
          · obtain ⟨q, hq, rfl⟩ := List.mem_map.1 hb
            exact HK.out q (by rw [List.take_of_length_le (by rw [HQL.out]; omega)]; exact hq))
        go_wp2_with fail
        go_ret
        exact ⟨ret_bool HF.out.symm, HB.out⟩
theorem covers50 (u : Sl) (qs : List BxM) (n : Nat) (hn : n ≤ 1000000) (hun : u.n ≤ 1000000) (hsm : ∀ q ∈ qs, Bx.Small q.2.1 ∧ Bx.Small q.2.2) : ∀ N : Nat, CovIH u qs n N
  | 0 => fun _ _ _ _ lo hi _ _ _ _ _ ho hv => absurd ho.pos (by simp only; omega)
  | N + 1 => covers50_step u qs n hn hun hsm N (covers50 u qs n hn hun hsm N)
end Go.Proofs.Ytcncobhdfflelaa
namespace Go.Proofs.Ytcncobhdfflelaa
open Go.RowKit

theorem take_snoc {α : Type} {l : List α} {k : Nat} {q : α} (h : l[k]? = some q) : l.take (k + 1) = l.take k ++ [q] := by
  obtain ⟨h1, h2⟩ := List.getElem?_eq_some_iff.1 h
  rw [List.take_succ_eq_append_getElem h1, h2]
set_option linter.unusedSimpArgs false in
set_option linter.unusedVariables false in
set_option maxRecDepth 100000 in
set_option maxHeartbeats 6400000 in
theorem check20 (A D : Option Addr) (n m c d : Nat) (lo hi : List Int) (u : Sl) (qs : List BxM) (w : World) (hx : Rd w w.heap.size 1 A n (ints lo)) (hy : Rd w w.heap.size 1 D m (ints hi))
    (hu : Rd w w.heap.size 3 u.a u.n ((qs.map (·.1)).flatMap bxL)) (hq : ∀ q ∈ qs, BoxRd w q) (hun : u.n ≤ 1000000) :
    Calls Try.prog 20 #[.slice A n c, .slice D m d, .slice u.a u.n u.c] w fun e w' => e = .returned (.bool (Bx.check lo hi (qs.map (·.2)))) ∧ Below w.heap.size w w' := by
  rw [← Bx.checkR_eq]
  have HX := Lib.hid hx
  have HY := Lib.hid hy
  have HU := Lib.hid hu
  have HQ := Lib.hid hq
  have HL := Lib.hid (show lo.length = n by simpa using hx.1)
  have HM := Lib.hid (show hi.length = m by simpa using hy.1)
  have HQL := Lib.hid (show qs.length = u.n by have := hu.len (fun _ => rfl) (by omega); simpa using this)
  have CV := Lib.hid (valid39 A D n m c d lo hi w hx hy)
  clear hx hy hu hq
  cases hv : Bx.valid lo hi with
  | false =>
    have HF : Hid (Bx.checkR lo hi (qs.map (·.2)) = false) := Lib.hid (by unfold Bx.checkR; rw [hv]; rfl)
    rw [hv] at CV
    clear hv
    go_enter Try.func20, Try.ntmps20
    go_wp2_with fail
    refine CV.out.mono ?_
    rintro e w1 ⟨rfl, h1⟩
    have HB1 := Lib.hid h1
    clear h1 CV
    go_wp2_with fail
    go_ret
    exact ⟨ret_bool HF.out.symm, HB1.out⟩
  | true =>
    rw [hv] at CV
    have HV := Lib.hid hv
    obtain ⟨v1, v2, v3, v4⟩ := Bx.sub_self' hv
    have hmn : m = n := by have := HL.out; have := HM.out; omega
    subst hmn
    have hn : m ≤ 1000000 := by
      have h := hv
      unfold Bx.valid at h
      simp only [Bool.and_eq_true, decide_eq_true_eq] at h
      have := HL.out
      omega
    have HO : Hid (Bx.Ord (lo, hi)) := Lib.hid (fun i x y h1 h2 => (v1.in_ i x y x y h1 h2 h1 h2).2.1)
    have HLH := Lib.hid v2
    have HS3 := Lib.hid v3
    have HS4 := Lib.hid v4
    clear hv v1 v2 v3 v4
    go_enter Try.func20, Try.ntmps20
    go_wp2_with fail
    refine CV.out.mono ?_
    rintro e w1 ⟨rfl, h1⟩
    have HB1 := Lib.hid h1
    clear h1 CV
    go_wp2_with fail
    go_loopw [7] (fun i W => ∃ k : Nat, k ≤ u.n ∧ i = .int .i64 k ∧ Hid (∀ q ∈ qs.take k, Bx.within lo hi q.2 = true) ∧ Hid (Bx.disj ((qs.take k).map (·.2)) = true) ∧ Hid (Below w.heap.size w W)) (fun i _ => u.n - (intOf i).toNat)
    case atStart => exact ⟨0, Nat.zero_le _, rfl, Lib.hid (fun q hq => by simp at hq), Lib.hid rfl, HB1⟩
    case round =>
      obtain ⟨k, hk, rfl, HW, HDJ, HB⟩ := hrel
      obtain ⟨wa, rfl⟩ : ∃ W, W = wr := ⟨wr, rfl⟩
      by_cases hlt : k < u.n
      · obtain ⟨b1, o1, q, hqi, hb1, hix1, x0, x1, x2⟩ := box_at (HU.out.up HB.out) u.c hlt
        have HT := Lib.hid (take_snoc hqi)
        have HQI := Lib.hid hqi
        have hmem := List.mem_of_getElem? hqi
        have HMEM := Lib.hid hmem
        have QK := Lib.hid (HQ.out q hmem)
        have QA := Lib.hid ((HQ.out q hmem).up HB.out)
        have X0 := Lib.hid x0
        have X1 := Lib.hid x1
        have CW := Lib.hid (within48 q.1 A D m m c d q.2.1 q.2.2 lo hi wa QA.out.lo QA.out.hi (HX.out.up HB.out) (HY.out.up HB.out) (fun _ _ => Nat.le_refl _) hn)
        clear hqi hmem
        cases hw : Bx.within lo hi q.2 with
        | false =>
          have hw' : Bx.within lo hi (q.2.1, q.2.2) = false := hw
          rw [hw'] at CW
          have HF : Hid (Bx.checkR lo hi (qs.map (·.2)) = false) := Lib.hid (by
            have h : ((qs.map (·.2)).all fun b => Bx.within lo hi b) = false := by
              rw [List.all_eq_false]
              exact ⟨q.2, List.mem_map.2 ⟨q, HMEM.out, rfl⟩, by rw [hw]; decide⟩
            unfold Bx.checkR
            rw [h]
            simp)
          clear hw hw'
          go_wp2_with fail
          refine CW.out.mono ?_
          rintro e w2 ⟨rfl, h2⟩
          have HB2 := Lib.hid (Below.call HB.out h2)
          clear h2 CW x0 x1 x2
          go_wp2_with fail
          go_ret
          exact ⟨ret_bool HF.out.symm, HB2.out⟩
        | true =>
          have hw' : Bx.within lo hi (q.2.1, q.2.2) = true := hw
          rw [hw'] at CW
          have HWQ := Lib.hid hw
          have hsub := Bx.within_sub hw
          have QN : Hid (q.1.lo.n = m ∧ q.1.hi.n = m) := Lib.hid (by
            have a := QK.out.lo.1
            have b := QK.out.hi.1
            rw [List.length_map] at a b
            have := hsub.l1
            have := hsub.l2
            have := HL.out
            simp only at *
            omega)
          clear hw hw' hsub
          go_wp2_with fail
          refine CW.out.mono ?_
          rintro e w2 ⟨rfl, h2⟩
          have HB2 := Lib.hid (Below.call HB.out h2)
          have hb2 : b1 < w2.heap.size := by have := h2.size; omega
          have y0 := (h2.cell (p := ⟨b1, o1, none⟩) hb1).trans X0.out
          have y1 := (h2.cell (p := ⟨b1, o1 + 1, none⟩) hb1).trans X1.out
          clear h2 CW x0 x1 x2 X0 X1
          go_wp2_with fail
          go_loopw [8] (fun i W => ∃ j : Nat, j ≤ k ∧ i = .int .i64 j ∧ Hid (∀ p ∈ qs.take j, Bx.meetD p.2 q.2 = false) ∧ Hid (Below w2.heap.size w2 W)) (fun i _ => k - (intOf i).toNat)
          case atStart => exact ⟨0, Nat.zero_le _, rfl, Lib.hid (fun p hp => by simp at hp), Lib.hid (Below.refl _ _)⟩
          case round =>
            obtain ⟨j, hj, rfl, HJ, HI⟩ := hrel
            obtain ⟨wi, rfl⟩ : ∃ W, W = wr := ⟨wr, rfl⟩
            have HBI := Lib.hid (Below.call HB2.out HI.out)
            have z0 := (HI.out.cell (p := ⟨b1, o1, none⟩) hb2).trans y0
            have z1 := (HI.out.cell (p := ⟨b1, o1 + 1, none⟩) hb2).trans y1
            have hbi : b1 < wi.heap.size := by have := HI.out.size; omega
            by_cases hlj : j < k
            · obtain ⟨b3, o3, p, hpi, hb3, hix3, t0, t1, t2⟩ := box_at (HU.out.up HBI.out) u.c (show j < u.n by omega)
              have HT3 := Lib.hid (take_snoc hpi)
              have HPI := Lib.hid hpi
              have hpm : p ∈ qs.take k := List.mem_iff_getElem?.2 ⟨j, by rw [List.getElem?_take]; simp [hlj, hpi]⟩
              have hpw := Bx.within_sub (HW.out p hpm)
              have PR := Lib.hid (HQ.out p (List.mem_of_getElem? hpi))
              have PN : Hid (p.1.lo.n = m ∧ p.1.hi.n = m) := Lib.hid (by
                have a := PR.out.lo.1
                have b := PR.out.hi.1
                rw [List.length_map] at a b
                have := hpw.l1
                have := hpw.l2
                have := HL.out
                simp only at *
                omega)
              have CM : Hid (∀ X : World, Below wi.heap.size wi X → Calls Try.prog 49 #[bxV p.1, .slice q.1.lo.a q.1.lo.n q.1.lo.c, .slice q.1.hi.a q.1.hi.n q.1.hi.c] X fun e w' => e = .returned (.bool (Bx.meet p.2.1 p.2.2 q.2.1 q.2.2)) ∧ Below X.heap.size X w') := Lib.hid (fun X hX => by
                have h1 := ((QK.out.lo.up HBI.out).up hX)
                have h2 := ((QK.out.hi.up HBI.out).up hX)
                rw [QN.out.1] at h1 ⊢
                rw [QN.out.2] at h2 ⊢
                exact meet49 p.1 _ _ m q.1.lo.c q.1.hi.c p.2.1 p.2.2 q.2.1 q.2.2 X ((PR.out.lo.up HBI.out).up hX) ((PR.out.hi.up HBI.out).up hX) h1 h2 PN.out.1 PN.out.2 hn)
              clear hpi hpm hpw
              cases hm : Bx.meet p.2.1 p.2.2 q.2.1 q.2.2 with
              | true =>
                rw [hm] at CM
                have HF : Hid (Bx.checkR lo hi (qs.map (·.2)) = false) := Lib.hid (by
                  have h : Bx.disj (qs.map (·.2)) = false := Bx.disj_meets (i := j) (j := k) (b := p.2) (c := q.2) hlj (by rw [List.getElem?_map, HPI.out]; rfl) (by rw [List.getElem?_map, HQI.out]; rfl) hm
                  unfold Bx.checkR
                  rw [h]
                  simp)
                clear hm
                go_wp2_with fail
                go_region_held3 (fun Z => Z.cell? ⟨b3, o3, none⟩ = some (.slice p.1.lo.a p.1.lo.n p.1.lo.c) ∧ Z.cell? ⟨b3, o3 + 1, none⟩ = some (.slice p.1.hi.a p.1.hi.n p.1.hi.c) ∧ Z.cell? ⟨b3, o3 + 2, none⟩ = some (.bool p.1.holds) ∧ Z.cell? ⟨b1, o1, none⟩ = some (.slice q.1.lo.a q.1.lo.n q.1.lo.c) ∧ Z.cell? ⟨b1, o1 + 1, none⟩ = some (.slice q.1.hi.a q.1.hi.n q.1.hi.c)) (simp [go_sem, *])
                  (first
                    | (go_at_call 49; (with_reducible refine (CM.out _ (by repeat (first | (with_reducible exact Below.refl _ _) | (with_reducible assumption) | ((with_reducible refine Below.setCell ?_ ?_ _); rotate_left; (focus (first | omega | (simp; omega) | (simp; done)))) | ((with_reducible refine Below.alloc ?_ ?_ _); rotate_left; (focus (first | omega | (simp; omega) | (simp; done)))) | (with_reducible refine Below.drew ?_)))).mono ?_); rintro e w9 ⟨rfl, h9⟩; have H9 : Hid (Below wi.heap.size wi w9) := Lib.hid (Below.call (by repeat (first | (with_reducible exact Below.refl _ _) | (with_reducible assumption) | ((with_reducible refine Below.setCell ?_ ?_ _); rotate_left; (focus (first | omega | (simp; omega) | (simp; done)))) | ((with_reducible refine Below.alloc ?_ ?_ _); rotate_left; (focus (first | omega | (simp; omega) | (simp; done)))) | (with_reducible refine Below.drew ?_))) h9); have z9 := h9.size; (try simp at z9); obtain ⟨k1, k2, k3⟩ := keepB h9 b1 (by first | omega | (simp; omega)); obtain ⟨l1, l2, l3⟩ := keepB h9 b3 (by first | omega | (simp; omega)); clear h9))
                go_wp2_with fail
                go_ret
                exact ⟨ret_bool HF.out.symm, Below.call HBI.out H9.out⟩
              | false =>
                rw [hm] at CM
                have HF : Hid (∀ r ∈ qs.take (j + 1), Bx.meetD r.2 q.2 = false) := Lib.hid (fun r hr => by
                  rw [HT3.out] at hr
                  rcases List.mem_append.1 hr with hr | hr
                  · exact HJ.out r hr
                  · rw [List.mem_singleton] at hr; subst hr; exact hm)
                clear hm
                go_wp2_with fail
                go_region_held3 (fun Z => Z.cell? ⟨b3, o3, none⟩ = some (.slice p.1.lo.a p.1.lo.n p.1.lo.c) ∧ Z.cell? ⟨b3, o3 + 1, none⟩ = some (.slice p.1.hi.a p.1.hi.n p.1.hi.c) ∧ Z.cell? ⟨b3, o3 + 2, none⟩ = some (.bool p.1.holds) ∧ Z.cell? ⟨b1, o1, none⟩ = some (.slice q.1.lo.a q.1.lo.n q.1.lo.c) ∧ Z.cell? ⟨b1, o1 + 1, none⟩ = some (.slice q.1.hi.a q.1.hi.n q.1.hi.c)) (simp [go_sem, *])
                  (first
                    | (go_at_call 49; (with_reducible refine (CM.out _ (by repeat (first | (with_reducible exact Below.refl _ _) | (with_reducible assumption) | ((with_reducible refine Below.setCell ?_ ?_ _); rotate_left; (focus (first | omega | (simp; omega) | (simp; done)))) | ((with_reducible refine Below.alloc ?_ ?_ _); rotate_left; (focus (first | omega | (simp; omega) | (simp; done)))) | (with_reducible refine Below.drew ?_)))).mono ?_); rintro e w9 ⟨rfl, h9⟩; have H9 : Hid (Below wi.heap.size wi w9) := Lib.hid (Below.call (by repeat (first | (with_reducible exact Below.refl _ _) | (with_reducible assumption) | ((with_reducible refine Below.setCell ?_ ?_ _); rotate_left; (focus (first | omega | (simp; omega) | (simp; done)))) | ((with_reducible refine Below.alloc ?_ ?_ _); rotate_left; (focus (first | omega | (simp; omega) | (simp; done)))) | (with_reducible refine Below.drew ?_))) h9); have z9 := h9.size; (try simp at z9); obtain ⟨k1, k2, k3⟩ := keepB h9 b1 (by first | omega | (simp; omega)); obtain ⟨l1, l2, l3⟩ := keepB h9 b3 (by first | omega | (simp; omega)); clear h9))
                go_wp2_with fail
                go_roundw
                case rel => exact ⟨j + 1, hlj, by go_num, HF, Lib.hid (Below.call HI.out H9.out)⟩
                case measure => simp [intOf]; omega
            · obtain rfl : j = k := by omega
              have HN1 : Hid (∀ r ∈ qs.take (j + 1), Bx.within lo hi r.2 = true) := Lib.hid (fun r hr => by
                rw [HT.out] at hr
                rcases List.mem_append.1 hr with hr | hr
                · exact HW.out r hr
                · rw [List.mem_singleton] at hr; subst hr; exact HWQ.out)
              have HN2 : Hid (Bx.disj ((qs.take (j + 1)).map (·.2)) = true) := Lib.hid (by
                rw [HT.out, List.map_append]
                exact Bx.disj_snoc HDJ.out (fun b hb => by
                  obtain ⟨r, hr, rfl⟩ := List.mem_map.1 hb
                  exact HJ.out r hr))
              go_wp2_with fail
              go_roundw
              case rel => exact ⟨j + 1, hlt, by go_num, HN1, HN2, HBI⟩
              case measure => simp [intOf]; omega
      · have htk : qs.take k = qs := List.take_of_length_le (by rw [HQL.out]; omega)
        have HWA : Hid (∀ q ∈ qs, Bx.within lo hi q.2 = true) := Lib.hid (by have h := HW.out; rw [htk] at h; exact h)
        have HDA : Hid (Bx.disj (qs.map (·.2)) = true) := Lib.hid (by have h := HDJ.out; rw [htk] at h; exact h)
        have HCR : Hid (Bx.checkR lo hi (qs.map (·.2)) = Bx.cov (lo, hi) (qs.map (·.2))) := Lib.hid (by
          have h : ((qs.map (·.2)).all fun b => Bx.within lo hi b) = true := by
            rw [List.all_eq_true]
            intro b hb
            obtain ⟨r, hr, rfl⟩ := List.mem_map.1 hb
            exact HWA.out r hr
          unfold Bx.checkR
          rw [h, HV.out, HDA.out]
          simp)
        have CC := Lib.hid (covers50 u qs m hn hun (fun q hq => (Bx.within_sub (HWA.out q hq)).small HLH.out HS3.out HS4.out) (Bx.vol lo hi) A D c d lo hi wa (HX.out.up HB.out) (HY.out.up HB.out) (HU.out.up HB.out) (fun q hq => by
          have hs := Bx.within_sub (HWA.out q hq)
          have hr := HQ.out q hq
          have a := hr.lo.1
          have b := hr.hi.1
          rw [List.length_map] at a b
          have e1 := hs.l1
          have e2 := hs.l2
          have e3 := HL.out
          simp only at e1 e2
          exact ⟨hr.lo.up HB.out, hr.hi.up HB.out, by omega, by omega⟩) HO.out (Nat.le_refl _))
        clear htk
        go_wp2_with fail
        refine CC.out.mono ?_
        rintro e w9 ⟨rfl, h9⟩
        have HB9 := Lib.hid (Below.call HB.out h9)
        clear h9 CC
        go_wp2_with fail
        go_ret
        exact ⟨ret_bool HCR.out.symm, HB9.out⟩
end Go.Proofs.Ytcncobhdfflelaa
