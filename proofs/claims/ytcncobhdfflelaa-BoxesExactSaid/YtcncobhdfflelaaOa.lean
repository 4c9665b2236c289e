/- The walk of BoxesExact. -/
import Derived.Test.YtcncobhdfflelaaNb
import Derived.Test.YtcncobhdfflelaaJa
namespace Go.Proofs.Ytcncobhdfflelaa
namespace Bx
theorem inside_dom : ∀ {lo hi p : List Int}, lo.length = p.length → hi.length = p.length → inside lo hi p = true → Dom lo → Dom hi → Dom p
  | [], [], [], _, _, _, _, _ => fun x hx => (List.not_mem_nil hx).elim
  | a :: lo, b :: hi, z :: p, h1, h2, h, k1, k2 => by
    rw [inside] at h
    simp only [Bool.and_eq_true, Bool.not_eq_true', decide_eq_false_iff_not, Int.not_lt] at h
    have ih := inside_dom (lo := lo) (hi := hi) (p := p) (by simpa using h1) (by simpa using h2) h.2 (fun x hx => k1 x (List.mem_cons_of_mem _ hx)) (fun x hx => k2 x (List.mem_cons_of_mem _ hx))
    have q1 := k1 a List.mem_cons_self
    have q2 := k2 b List.mem_cons_self
    intro x hx
    rcases List.mem_cons.1 hx with rfl | hx
    · omega
    · exact ih x hx
  | [], _ :: _, [], _, h, _, _, _ => by simp at h
  | [], _, _ :: _, h, _, _, _, _ => by simp at h
  | _ :: _, _, [], h, _, _, _, _ => by simp at h
  | _ :: _, [], _ :: _, _, h, _, _, _ => by simp at h
theorem dom_in {lo hi p : List Int} (h : contains lo hi p = true) (k1 : Dom lo) (k2 : Dom hi) : Dom p := by
  unfold contains at h
  simp only [Bool.and_eq_true, decide_eq_true_eq] at h
  exact inside_dom h.1.1 h.1.2 h.2 k1 k2
end Bx
open Go.RowKit

set_option linter.unusedSimpArgs false in
set_option linter.unusedVariables false in
set_option maxRecDepth 100000 in
set_option maxHeartbeats 6400000 in
theorem clos28 (u1 u2 : Sl) (lo hi : List Int) (u : Sl) (cs : List (List Int × Int)) (N : Nat) (w : World) (hc : w.cell? ⟨N, 0, none⟩ = some (.slice u.a u.n u.c)) (hu : LnsAt w u cs) (hx : Rd w w.heap.size 1 u1.a u1.n (ints lo)) (hy : Rd w w.heap.size 1 u2.a u2.n (ints hi)) (he : u2.n = u1.n) (hn : u1.n ≤ 1000) (hun : u.n ≤ 1000000) (h1 : Bx.Dom lo) (h2 : Bx.Dom hi) (hle : ∀ (i : Nat) (x y : Int), lo[i]? = some x → hi[i]? = some y → x ≤ y) :
    Calls Try.prog 28 #[.slice u1.a u1.n u1.c, .slice u2.a u2.n u2.c, .pointer (some ⟨N, 0, none⟩)] w fun e w' => e = .returned (.int .i64 (Bx.verd lo hi cs 1)) ∧ Below w.heap.size w w' := by
  obtain ⟨a2, m2, c2⟩ := u2
  obtain rfl : m2 = u1.n := he
  have C := Lib.hid (verdict29 u cs u1.a a2 u1.n u1.c c2 lo hi w hu hx hy hn hun h1 h2 hle)
  clear hu hx hy hn h1 h2 hle
  go_enter Try.func28, Try.ntmps28
  go_wp2_with fail
  refine C.out.mono ?_
  rintro e w1 ⟨rfl, h1⟩
  have H1 := Lib.hid h1
  clear h1
  go_wp2_with fail
  go_ret
  exact ⟨rfl, H1.out⟩
theorem verd28 {w : World} {N : Nat} {u : Sl} {cs : List (List Int × Int)} {D : Bx.Dm} (hN : N < w.heap.size) (hc : w.cell? ⟨N, 0, none⟩ = some (.slice u.a u.n u.c)) (hu : LnsAt w u cs) (hun : u.n ≤ 1000000) (hl : D.2.length = D.1.length) (hn : D.1.length ≤ 1000) (h1 : Bx.Dom D.1) (h2 : Bx.Dom D.2) :
    VerdAt w 28 #[.pointer (some ⟨N, 0, none⟩)] (fun lo hi => Bx.verd lo hi cs 1) D := by
  intro W u1 u2 lo hi hW hs hx hy
  obtain ⟨d1, d2⟩ := hs.dom hl h1 h2
  have e1 : u1.n = D.1.length := by have a := hx.1; rw [List.length_map] at a; have b := hs.l1; simp only at b; omega
  have e2 : u2.n = D.1.length := by have a := hy.1; rw [List.length_map] at a; have b := hs.l2; simp only at b; omega
  exact clos28 u1 u2 lo hi u cs N W ((hW.cell (p := ⟨N, 0, none⟩) hN).trans hc) (hu.up hW) hx hy (by omega) (by omega) hun d1 d2 (fun i x y q1 q2 => ((hs.self hl).in_ i x y x y q1 q2 q1 q2).2.1)
theorem eg28 : ∀ args w, (callFunc 28 args).run Try.prog w = .ok (.enter 28 args) w := enters_of Try.func28 (by kernel_rfl) rfl

set_option linter.unusedSimpArgs false in
set_option linter.unusedVariables false in
set_option maxRecDepth 100000 in
set_option maxHeartbeats 6400000 in
theorem exact8 (A D E : Option Addr) (n m l c d f : Nat) (lo hi at_ : List Int) (u : Sl) (qs : List LnM) (most : Int) (w : World) (hx : Rd w w.heap.size 1 A n (ints lo)) (hy : Rd w w.heap.size 1 D m (ints hi)) (hu : LnsRd w u qs) (hz : Rd w w.heap.size 1 E l (ints at_)) :
    Calls Try.prog 8 #[.slice A n c, .slice D m d, .slice u.a u.n u.c, .int .i64 most, .slice E l f] w fun e w' => e = .returned (.bool true) ∧ Below w.heap.size w w' := by
  have hmf : ∀ (fn : Fn) (first cap : Array Value) (w : World), (Instr.makeFunc fn first cap).run Try.prog w = .ok (.func fn first cap) w := fun _ _ _ _ => rfl
  have HL := Lib.hid (show lo.length = n by simpa using hx.1)
  have HM := Lib.hid (show hi.length = m by simpa using hy.1)
  have HN := Lib.hid (show at_.length = l by simpa using hz.1)
  have HX := Lib.hid hx
  have HY := Lib.hid hy
  have HZ := Lib.hid hz
  have HU := Lib.hid hu
  clear hx hy hu hz
  go_enter Try.func8, Try.ntmps8
  go_wp2_with fail
  refine (small9 _).mono ?_
  rintro e v1 ⟨rfl, h1⟩
  have hB1 : Below w.heap.size w v1 := Below.call (w := w) (by repeat (first | (with_reducible exact Below.refl _ _) | (with_reducible assumption) | ((with_reducible refine Below.setCell ?_ ?_ _); rotate_left; (focus (first | omega | (simp; omega) | (simp; done)))) | ((with_reducible refine Below.alloc ?_ ?_ _); rotate_left; (focus (first | omega | (simp; omega) | (simp; done)))) | (with_reducible refine Below.drew ?_))) h1
  have hz1 := h1.size
  simp at hz1
  have k1 : v1.cell? ⟨w.heap.size, 0, none⟩ = some (.slice u.a u.n u.c) := (h1.cell (p := ⟨w.heap.size, 0, none⟩) (by simp)).trans (by simp [go_sem])
  have HB1 := Lib.hid hB1
  clear h1 hB1
  have CP := Lib.hid (plain10 A D n m c d lo hi u qs v1 (HX.out.up HB1.out) (HY.out.up HB1.out) (HU.out.up HB1.out))
  obtain ⟨pl, hpl⟩ : ∃ pl, Bx.plainB lo hi (qs.map lnP) = pl := ⟨_, rfl⟩
  rw [hpl] at CP
  have HPL := Lib.hid hpl
  clear hpl
  go_wp2_with fail
  refine CP.out.mono ?_
  rintro e v2 ⟨rfl, h2⟩
  have k2 : v2.cell? ⟨w.heap.size, 0, none⟩ = some (.slice u.a u.n u.c) := (h2.cell (p := ⟨w.heap.size, 0, none⟩) (by show w.heap.size < v1.heap.size; omega)).trans k1
  have hz2 : w.heap.size < v2.heap.size := by have := h2.size; omega
  have HB2 := Lib.hid (Below.call HB1.out h2)
  clear h2 CP k1
  cases pl with
  | false =>
    go_wp2_with fail
    go_ret
    exact ⟨rfl, HB2.out⟩
  | true =>
    by_cases g1 : 300 < most
    · have t1 : decide (300 < most) = true := by simpa using g1
      go_wp2_with fail
      go_ret
      exact ⟨rfl, HB2.out⟩
    · have t1 : decide (300 < most) = false := by simpa using g1
      by_cases g2 : l = n
      · subst g2
        have t2 : ((l : Int) != (l : Int)) = false := by simp
        obtain ⟨p1, p2, p3, p4, p5, p6⟩ := Bx.plainB_spec HPL.out
        have hun : u.n ≤ 4 := by rw [List.length_map, HU.out.len] at p3; exact p3
        have hl4 : l ≤ 4 := by have := HL.out; omega
        have HP6 := Lib.hid p6
        have HP4 := Lib.hid p4
        have HP5 := Lib.hid p5
        have HG1 := Lib.hid g1
        clear p1 p2 p3 p4 p5 p6
        go_wp2_with fail
        go_loop [12] (fun i => ∃ k : Nat, k ≤ u.n ∧ i = .int .i64 k) (fun i => u.n - (intOf i).toNat)
        case atStart => exact ⟨0, Nat.zero_le _, rfl⟩
        case round =>
          obtain ⟨k, hk, rfl⟩ := hrel
          by_cases hlt : k < u.n
          · obtain ⟨lb, lf, q, hq, hlb, ix, cx, cy⟩ := line_at (HU.out.up HB2.out) hlt
            clear hq
            by_cases q1 : q.1.bd < -1000000000000
            · have t5 : decide (q.1.bd < -1000000000000) = true := by simpa using q1
              go_wp2_with fail
              go_ret
              exact ⟨rfl, HB2.out⟩
            · have t5 : decide (q.1.bd < -1000000000000) = false := by simpa using q1
              by_cases q2 : 1000000000000 < q.1.bd
              · have t6 : decide (1000000000000 < q.1.bd) = true := by simpa using q2
                go_wp2_with fail
                go_ret
                exact ⟨rfl, HB2.out⟩
              · have t6 : decide (1000000000000 < q.1.bd) = false := by simpa using q2
                go_wp2_with fail
                go_round
                case rel => exact ⟨k + 1, by omega, by go_num⟩
                case measure => simp [intOf]; omega
          · have LA := Lib.hid ((HU.out.up HB2.out).at_ (fun c hc => (HP6.out c hc).2))
            have CS : Hid (∀ (X : World), Below v2.heap.size v2 X → Calls Try.prog 11 #[.slice A l c, .slice D m d, .func (.func 28) #[] #[.pointer (some ⟨w.heap.size, 0, none⟩)], .int .i64 most] X (SolvePost (Bx.solve (fun a b => Bx.verd a b (qs.map lnP) 1) lo hi most) X)) := Lib.hid (fun X hX =>
              solve11 A D l m c d lo hi 28 _ _ most X ((HX.out.up HB2.out).up hX) ((HY.out.up HB2.out).up hX) eg28 (fun hv => verd28 (D := (lo, hi)) (Nat.lt_of_lt_of_le hz2 hX.size) ((hX.cell (p := ⟨w.heap.size, 0, none⟩) hz2).trans k2) (LA.out.up hX) (by omega) ((Bx.sub_self' hv).2.1) (by show lo.length ≤ 1000; have := HL.out; omega) HP4.out HP5.out))
            have LAW := Lib.hid (Bx.solve_cases lo hi (qs.map lnP) most)
            go_wp2_with fail
            clear hlt hk
            rcases LAW.out with r1 | r1 | r1 | ⟨r, r1, hv, hp, hrl⟩
            · rw [r1] at CS
              clear r1 LAW
              refine (CS.out _ (by repeat (first | (with_reducible exact Below.refl _ _) | (with_reducible assumption) | ((with_reducible refine Below.setCell ?_ ?_ _); rotate_left; (focus (first | omega | (simp; omega) | (simp; done)))) | ((with_reducible refine Below.alloc ?_ ?_ _); rotate_left; (focus (first | omega | (simp; omega) | (simp; done)))) | (with_reducible refine Below.drew ?_)))).mono ?_
              rintro e v3 ⟨u3, rfl, hx3, h3⟩
              have s3 : Below v2.heap.size v2 v3 := Below.call (w := v2) (by repeat (first | (with_reducible exact Below.refl _ _) | (with_reducible assumption) | ((with_reducible refine Below.setCell ?_ ?_ _); rotate_left; (focus (first | omega | (simp; omega) | (simp; done)))) | ((with_reducible refine Below.alloc ?_ ?_ _); rotate_left; (focus (first | omega | (simp; omega) | (simp; done)))) | (with_reducible refine Below.drew ?_))) h3
              have HB3 := Lib.hid (Below.call HB2.out s3)
              have hu3 : u3.n = 0 := by have := hx3.full.n; simpa using this.symm
              have t7 : ((u3.n : Int) == 0) = true := by simp [hu3]
              have HU3 := Lib.hid hu3
              clear h3 hx3 CS s3 hu3
              go_wp2_with fail
              go_ret
              exact ⟨rfl, HB3.out⟩
            · rw [r1] at CS
              clear r1 LAW
              refine (CS.out _ (by repeat (first | (with_reducible exact Below.refl _ _) | (with_reducible assumption) | ((with_reducible refine Below.setCell ?_ ?_ _); rotate_left; (focus (first | omega | (simp; omega) | (simp; done)))) | ((with_reducible refine Below.alloc ?_ ?_ _); rotate_left; (focus (first | omega | (simp; omega) | (simp; done)))) | (with_reducible refine Below.drew ?_)))).mono ?_
              rintro e v3 ⟨u3, rfl, hx3, h3⟩
              have s3 : Below v2.heap.size v2 v3 := Below.call (w := v2) (by repeat (first | (with_reducible exact Below.refl _ _) | (with_reducible assumption) | ((with_reducible refine Below.setCell ?_ ?_ _); rotate_left; (focus (first | omega | (simp; omega) | (simp; done)))) | ((with_reducible refine Below.alloc ?_ ?_ _); rotate_left; (focus (first | omega | (simp; omega) | (simp; done)))) | (with_reducible refine Below.drew ?_))) h3
              have HB3 := Lib.hid (Below.call HB2.out s3)
              have hu3 : u3.n = 0 := by have := hx3.full.n; simpa using this.symm
              have t7 : ((u3.n : Int) == 0) = true := by simp [hu3]
              have HU3 := Lib.hid hu3
              clear h3 hx3 CS s3 hu3
              go_wp2_with fail
              go_ret
              exact ⟨rfl, HB3.out⟩
            · rw [r1] at CS
              clear r1 LAW
              refine (CS.out _ (by repeat (first | (with_reducible exact Below.refl _ _) | (with_reducible assumption) | ((with_reducible refine Below.setCell ?_ ?_ _); rotate_left; (focus (first | omega | (simp; omega) | (simp; done)))) | ((with_reducible refine Below.alloc ?_ ?_ _); rotate_left; (focus (first | omega | (simp; omega) | (simp; done)))) | (with_reducible refine Below.drew ?_)))).mono ?_
              rintro e v3 ⟨u3, rfl, hx3, h3⟩
              have s3 : Below v2.heap.size v2 v3 := Below.call (w := v2) (by repeat (first | (with_reducible exact Below.refl _ _) | (with_reducible assumption) | ((with_reducible refine Below.setCell ?_ ?_ _); rotate_left; (focus (first | omega | (simp; omega) | (simp; done)))) | ((with_reducible refine Below.alloc ?_ ?_ _); rotate_left; (focus (first | omega | (simp; omega) | (simp; done)))) | (with_reducible refine Below.drew ?_))) h3
              have HB3 := Lib.hid (Below.call HB2.out s3)
              have hu3 : u3.n = 0 := by have := hx3.full.n; simpa using this.symm
              have t7 : ((u3.n : Int) == 0) = true := by simp [hu3]
              have HU3 := Lib.hid hu3
              clear h3 hx3 CS s3 hu3
              go_wp2_with fail
              go_ret
              exact ⟨rfl, HB3.out⟩
            · rw [r1] at CS
              have HP := Lib.hid hp
              have HV := Lib.hid hv
              have HRL := Lib.hid hrl
              have hmn : m = l := by have h1 := (Bx.sub_self' hv).2.1; have := HL.out; have := HM.out; omega
              subst hmn
              have HHL := Lib.hid ((Bx.sub_self' hv).2.1)
              clear r1 hv hp hrl LAW
              refine (CS.out _ (by repeat (first | (with_reducible exact Below.refl _ _) | (with_reducible assumption) | ((with_reducible refine Below.setCell ?_ ?_ _); rotate_left; (focus (first | omega | (simp; omega) | (simp; done)))) | ((with_reducible refine Below.alloc ?_ ?_ _); rotate_left; (focus (first | omega | (simp; omega) | (simp; done)))) | (with_reducible refine Below.drew ?_)))).mono ?_
              rintro e v3 ⟨u3, rfl, hx3, h3⟩
              have s3 : Below v2.heap.size v2 v3 := Below.call (w := v2) (by repeat (first | (with_reducible exact Below.refl _ _) | (with_reducible assumption) | ((with_reducible refine Below.setCell ?_ ?_ _); rotate_left; (focus (first | omega | (simp; omega) | (simp; done)))) | ((with_reducible refine Below.alloc ?_ ?_ _); rotate_left; (focus (first | omega | (simp; omega) | (simp; done)))) | (with_reducible refine Below.drew ?_))) h3
              have HB3 := Lib.hid (Below.call HB2.out s3)
              have HR3 := Lib.hid hx3.full
              have k3 : v3.cell? ⟨w.heap.size, 0, none⟩ = some (.slice u.a u.n u.c) := (s3.cell (p := ⟨w.heap.size, 0, none⟩) hz2).trans k2
              have hz3 : w.heap.size < v3.heap.size := by have := s3.size; omega
              have HX3 := Lib.hid ((HX.out.up HB3.out))
              have HY3 := Lib.hid ((HY.out.up HB3.out))
              have HZ3 := Lib.hid ((HZ.out.up HB3.out))
              have HU3 := Lib.hid ((HU.out.up HB3.out))
              clear h3 hx3 CS s3 k2 hz2 LA
              go_wp2_with fail
              go_loopw [15] (fun i W => ∃ k : Nat, k ≤ m ∧ i = .int .i64 k ∧ Hid (Bx.inside lo hi at_ = Bx.inside (lo.drop k) (hi.drop k) (at_.drop k)) ∧ Hid (Below v3.heap.size v3 W)) (fun i _ => m - (intOf i).toNat)
              case atStart => exact ⟨0, Nat.zero_le _, rfl, Lib.hid rfl, Lib.hid (Below.refl _ _)⟩
              case round =>
                obtain ⟨k, hk, rfl, HK, HI⟩ := hrel
                obtain ⟨wi, rfl⟩ : ∃ W, W = wr := ⟨wr, rfl⟩
                by_cases hlk : k < m
                · obtain ⟨b1, o1, x, ha, hix, hcx, hb1, _⟩ := rd_int (HX3.out.up HI.out) c hlk
                  obtain ⟨b2, o2, y, hb, hiy, hcy, hb2, _⟩ := rd_int (HY3.out.up HI.out) d hlk
                  obtain ⟨b3, o3, z, hc, hiz, hcz, hb3, _⟩ := rd_int (HZ3.out.up HI.out) f hlk
                  have HS := Lib.hid (Bx.inside_at ha hb hc)
                  clear ha hb hc
                  by_cases q1 : z < x
                  · have t5 : decide (z < x) = true := by simpa using q1
                    go_wp2_with fail
                    go_quiet (fail)
                    go_wp2_with fail
                    go_ret
                    exact ⟨rfl, below_drewN (Below.call HB3.out HI.out) _⟩
                  · have t5 : decide (z < x) = false := by simpa using q1
                    by_cases q2 : y < z
                    · have t6 : decide (y < z) = true := by simpa using q2
                      go_wp2_with fail
                      go_quiet (fail)
                      go_wp2_with fail
                      go_ret
                      exact ⟨rfl, below_drewN (Below.call HB3.out HI.out) _⟩
                    · have t6 : decide (y < z) = false := by simpa using q2
                      have HNX : Hid (Bx.inside lo hi at_ = Bx.inside (lo.drop (k + 1)) (hi.drop (k + 1)) (at_.drop (k + 1))) := Lib.hid (by rw [HK.out, HS.out, t5, t6]; rfl)
                      go_wp2_with fail
                      go_quiet (fail)
                      go_wp2_with fail
                      go_roundw
                      case rel => exact ⟨k + 1, hlk, by go_num, HNX, Lib.hid (below_drewN HI.out _)⟩
                      case measure => simp [intOf]; omega
                · have HIN : Hid (Bx.contains lo hi at_ = true) := Lib.hid (by
                    unfold Bx.contains
                    rw [HK.out, Bx.inside_end (by rw [HN.out]; omega), decide_eq_true (HL.out.trans HN.out.symm), decide_eq_true (HM.out.trans HN.out.symm)]
                    rfl)
                  have HDP : Hid (Bx.Dom at_) := Lib.hid (Bx.dom_in HIN.out HP4.out HP5.out)
                  have HHO : Hid (Bx.holds at_ r = (Bx.allAt (qs.map lnP) at_, true)) := Lib.hid (HP.out.holds HHL.out HIN.out)
                  have HI3 := Lib.hid (Below.call HB3.out HI.out)
                  have HRI := Lib.hid (HR3.out.up HI.out)
                  have HZI := Lib.hid (HZ3.out.up HI.out)
                  have HUI := Lib.hid (HU3.out.up HI.out)
                  have ki : wi.cell? ⟨w.heap.size, 0, none⟩ = some (.slice u.a u.n u.c) := (HI.out.cell (p := ⟨w.heap.size, 0, none⟩) hz3).trans k3
                  have hzi : w.heap.size < wi.heap.size := by have := HI.out.size; omega
                  have hr3 : r.length ≤ 4096 := by have := (Bx.lim_any most).2; have := HRL.out; omega
                  have CH := Lib.hid (full_holds HRI.out E m f at_ HZI.out (by omega) (by omega) (Bx.allAt (qs.map lnP) at_, true) HHO.out)
                  clear HX3 HY3 HZ3 HU3 HR3 HI HK k3 hz3
                  go_wp2_with fail
                  refine CH.out.mono ?_
                  rintro e w4 ⟨rfl, h4⟩
                  have HB4 := Lib.hid (Below.call HI3.out h4)
                  have HR4 := Lib.hid (HRI.out.up h4)
                  have HZ4 := Lib.hid (HZI.out.up h4)
                  have HU4 := Lib.hid (HUI.out.up h4)
                  have k4 : w4.cell? ⟨w.heap.size, 0, none⟩ = some (.slice u.a u.n u.c) := (h4.cell (p := ⟨w.heap.size, 0, none⟩) hzi).trans ki
                  have hz4 : w.heap.size < w4.heap.size := by have := h4.size; omega
                  clear h4 CH ki hzi HI3 HRI HZI HUI
                  go_wp2_with fail
                  go_loopw [18, 19] (fun h i W => ∃ (k : Nat) (bb : Bool), k ≤ u.n ∧ h = .bool bb ∧ i = .int .i64 k ∧ Hid ((bb && Bx.allAt ((qs.map lnP).drop k) at_) = Bx.allAt (qs.map lnP) at_) ∧ Hid (Below w4.heap.size w4 W)) (fun _ i _ => u.n - (intOf i).toNat)
                  case atStart => exact ⟨0, true, Nat.zero_le _, rfl, rfl, Lib.hid rfl, Lib.hid (Below.refl _ _)⟩
                  case round =>
                    obtain ⟨k, bb, hk, rfl, rfl, HK, HI⟩ := hrel
                    obtain ⟨wk, rfl⟩ : ∃ W, W = wr := ⟨wr, rfl⟩
                    have ck : wk.cell? ⟨w.heap.size, 0, none⟩ = some (.slice u.a u.n u.c) := (HI.out.cell (p := ⟨w.heap.size, 0, none⟩) hz4).trans k4
                    have hzk : w.heap.size < wk.heap.size := by have := HI.out.size; omega
                    by_cases hlq : k < u.n
                    · obtain ⟨lb, lf, q, hq, hlb, ix, cx, cy⟩ := line_at (HU4.out.up HI.out) hlq
                      have hqk : (qs.map lnP).drop k = (q.2, q.1.bd) :: (qs.map lnP).drop (k + 1) := by
                        have h1 : (qs.map lnP)[k]? = some (q.2, q.1.bd) := by rw [List.getElem?_map, hq]; rfl
                        obtain ⟨h2, h3⟩ := List.getElem?_eq_some_iff.1 h1
                        rw [List.drop_eq_getElem_cons h2, h3]
                      have HST : Hid ((bb && (decide (Bx.valF q.2 at_ 0 ≤ q.1.bd) && Bx.allAt ((qs.map lnP).drop (k + 1)) at_)) = Bx.allAt (qs.map lnP) at_) := Lib.hid (by rw [← HK.out, hqk]; rfl)
                      have CV := Lib.hid (fun (Z : World) (hZ : Below wk.heap.size wk Z) => value27 q.1 E m f at_ q.2 Z ((HZ4.out.up HI.out).up hZ) (((HU4.out.up HI.out).el q (List.mem_of_getElem? hq)).up hZ) (by omega) HDP.out (HP6.out (lnP q) (List.mem_map.2 ⟨q, List.mem_of_getElem? hq, rfl⟩)).2)
                      clear hqk hq
                      cases bb with
                      | false =>
                        have HNX : Hid ((false && Bx.allAt ((qs.map lnP).drop (k + 1)) at_) = Bx.allAt (qs.map lnP) at_) := Lib.hid (by rw [← HST.out]; rfl)
                        go_wp2_with fail
                        go_quiet (fail)
                        go_wp2_with fail
                        go_roundw
                        case rel => exact ⟨k + 1, false, hlq, rfl, by go_num, HNX, Lib.hid (below_drewN HI.out _)⟩
                        case measure => simp [intOf]; omega
                      | true =>
                        go_wp2_with fail
                        go_region_held3 (fun Z => Z.cell? ⟨w.heap.size, 0, none⟩ = some (.slice u.a u.n u.c) ∧ Z.cell? ⟨lb, lf, none⟩ = some (.slice q.1.cf.a q.1.cf.n q.1.cf.c) ∧ Z.cell? ⟨lb, lf + 1, none⟩ = some (.int .i64 q.1.bd)) (simp [go_sem, *])
                          (first
                            | (go_at_call 27; (with_reducible refine (CV.out _ (by repeat (first | (with_reducible exact Below.refl _ _) | (with_reducible assumption) | ((with_reducible refine Below.setCell ?_ ?_ _); rotate_left; (focus (first | omega | (simp; omega) | (simp; done)))) | ((with_reducible refine Below.alloc ?_ ?_ _); rotate_left; (focus (first | omega | (simp; omega) | (simp; done)))) | (with_reducible refine Below.drew ?_)))).mono ?_); rintro e w9 ⟨rfl, h9⟩; have H9 : Hid (Below wk.heap.size wk w9) := Lib.hid (Below.call (by repeat (first | (with_reducible exact Below.refl _ _) | (with_reducible assumption) | ((with_reducible refine Below.setCell ?_ ?_ _); rotate_left; (focus (first | omega | (simp; omega) | (simp; done)))) | ((with_reducible refine Below.alloc ?_ ?_ _); rotate_left; (focus (first | omega | (simp; omega) | (simp; done)))) | (with_reducible refine Below.drew ?_))) h9); have z9 := h9.size; (try simp at z9); obtain ⟨k1, k2, k3⟩ := keepB h9 w.heap.size (by first | omega | (simp; omega)); obtain ⟨l1, l2, l3⟩ := keepB h9 lb (by first | omega | (simp; omega)); clear h9))
                        have HNX : Hid ((decide (Bx.valF q.2 at_ 0 ≤ q.1.bd) && Bx.allAt ((qs.map lnP).drop (k + 1)) at_) = Bx.allAt (qs.map lnP) at_) := Lib.hid (by rw [← HST.out, Bool.true_and])
                        go_wp2_with fail
                        go_roundw
                        case rel => exact ⟨k + 1, _, hlq, rfl, by go_num, HNX, Lib.hid (Below.call HI.out H9.out)⟩
                        case measure => simp [intOf]; omega
                    · have HBB : Hid (bb = Bx.allAt (qs.map lnP) at_) := Lib.hid (by rw [← HK.out, List.drop_eq_nil_of_le (by rw [List.length_map, HU4.out.len]; omega)]; simp [Bx.allAt])
                      have hbb := HBB.out
                      obtain ⟨aa, haa⟩ : ∃ aa, Bx.allAt (qs.map lnP) at_ = aa := ⟨_, rfl⟩
                      rw [haa] at hbb ⊢
                      subst hbb
                      clear HK
                      have HB5 := Lib.hid (Below.call HB4.out HI.out)
                      have CC := Lib.hid (full_checkv (HR4.out.up HI.out) A D m m c d lo hi (HX.out.up HB5.out) (HY.out.up HB5.out) (by omega) true (HP.out.check HV.out))
                      have hfit : (u3.n : Int) ≤ max most 1 := by
                        have h1 := HR4.out.n
                        have h2 := HRL.out
                        unfold Bx.lim Bx.clamp at h2
                        split at h2
                        · omega
                        · split at h2 <;> omega
                      have e1 : (bb == bb) = true := by simp
                      go_wp2_with fail
                      refine CC.out.mono ?_
                      rintro e w9 ⟨rfl, h9⟩
                      have HB9 := Lib.hid (Below.call HB5.out h9)
                      clear h9
                      go_wp2_with fail
                      go_ret
                      exact ⟨rfl, HB9.out⟩
      · have t2 : ((l : Int) != (n : Int)) = true := by simp; omega
        go_wp2_with fail
        go_ret
        exact ⟨rfl, HB2.out⟩
end Go.Proofs.Ytcncobhdfflelaa
