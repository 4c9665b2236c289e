/- The walk of BoxesFull. -/
import Derived.Test.YtcncobhdfflelaaGb
namespace Go.Proofs.Ytcncobhdfflelaa
open Go.RowKit

set_option linter.unusedSimpArgs false in
set_option linter.unusedVariables false in
set_option maxRecDepth 100000 in
set_option maxHeartbeats 6400000 in
theorem full5 (A D : Option Addr) (n m c d : Nat) (lo hi : List Int) (u : Sl) (qs : List LnM) (most more : Int) (w : World) (hx : Rd w w.heap.size 1 A n (ints lo)) (hy : Rd w w.heap.size 1 D m (ints hi)) (hu : LnsRd w u qs) :
    Calls Try.prog 5 #[.slice A n c, .slice D m d, .slice u.a u.n u.c, .int .i64 most, .int .i64 more] w fun e w' => e = .returned (.bool true) ∧ Below w.heap.size w w' := by
  have hmf : ∀ (fn : Fn) (first cap : Array Value) (w : World), (Instr.makeFunc fn first cap).run Try.prog w = .ok (.func fn first cap) w := fun _ _ _ _ => rfl
  have HL := Lib.hid (show lo.length = n by simpa using hx.1)
  have HM := Lib.hid (show hi.length = m by simpa using hy.1)
  have HX := Lib.hid hx
  have HY := Lib.hid hy
  have HU := Lib.hid hu
  clear hx hy hu
  go_enter Try.func5, Try.ntmps5
  go_wp2_with fail
  refine (small9 _).mono ?_
  rintro e v1 ⟨rfl, h1⟩
  have hB1 : Below w.heap.size w v1 := Below.call (w := w) (by repeat (first | (with_reducible exact Below.refl _ _) | (with_reducible assumption) | ((with_reducible refine Below.setCell ?_ ?_ _); rotate_left; (focus (first | omega | (simp; omega) | (simp; done)))) | ((with_reducible refine Below.alloc ?_ ?_ _); rotate_left; (focus (first | omega | (simp; omega) | (simp; done)))) | (with_reducible refine Below.drew ?_))) h1
  have hz1 := h1.size
  simp at hz1
  have k1 : v1.cell? ⟨w.heap.size, 0, none⟩ = some (.slice u.a u.n u.c) := (h1.cell (p := ⟨w.heap.size, 0, none⟩) (by simp)).trans (by simp [go_sem])
  have HB1 := Lib.hid hB1
  clear h1 hB1
  have CP := Lib.hid (plain10 A D n m c d lo hi u qs v1 (HX.out.up HB1.out) (HY.out.up HB1.out) (HU.out.up HB1.out))
  obtain ⟨pl, hpl⟩ : ∃ pl, Bx.plainB lo hi (qs.map lnP) = pl := ⟨_, rfl⟩
  rw [hpl] at CP
  have HPL := Lib.hid hpl
  clear hpl
  go_wp2_with fail
  refine CP.out.mono ?_
  rintro e v2 ⟨rfl, h2⟩
  have k2 : v2.cell? ⟨w.heap.size, 0, none⟩ = some (.slice u.a u.n u.c) := (h2.cell (p := ⟨w.heap.size, 0, none⟩) (by show w.heap.size < v1.heap.size; omega)).trans k1
  have hz2 : w.heap.size < v2.heap.size := by have := h2.size; omega
  have HB2 := Lib.hid (Below.call HB1.out h2)
  clear h2 CP k1
  cases pl with
  | false =>
    go_wp2_with fail
    go_ret
    exact ⟨rfl, HB2.out⟩
  | true =>
    by_cases g1 : most < 1
    · go_wp2_with fail
      go_ret
      exact ⟨rfl, HB2.out⟩
    · have t1 : decide (most < 1) = false := by simpa using g1
      by_cases g2 : more < most
      · go_wp2_with fail
        go_ret
        exact ⟨rfl, HB2.out⟩
      · have t2 : decide (more < most) = false := by simpa using g2
        by_cases g3 : 300 < more
        · go_wp2_with fail
          go_ret
          exact ⟨rfl, HB2.out⟩
        · have t3 : decide (300 < more) = false := by simpa using g3
          obtain ⟨p1, p2, p3, p4, p5, p6⟩ := Bx.plainB_spec HPL.out
          have hun : u.n ≤ 4 := by rw [List.length_map, HU.out.len] at p3; exact p3
          have LA := Lib.hid ((HU.out.up HB2.out).at_ (fun c hc => (p6 c hc).2))
          have CS : Hid (∀ (k : Int) (X : World), Below v2.heap.size v2 X → Calls Try.prog 11 #[.slice A n c, .slice D m d, .func (.func 23) #[] #[.pointer (some ⟨w.heap.size, 0, none⟩)], .int .i64 k] X (SolvePost (Bx.solve (fun a b => Bx.verd a b (qs.map lnP) 1) lo hi k) X)) := Lib.hid (fun k X hX =>
            solve11 A D n m c d lo hi 23 _ _ k X ((HX.out.up HB2.out).up hX) ((HY.out.up HB2.out).up hX) eg23 (fun hv => verd23 (D := (lo, hi)) (Nat.lt_of_lt_of_le hz2 hX.size) ((hX.cell (p := ⟨w.heap.size, 0, none⟩) hz2).trans k2) (LA.out.up hX) (by omega) ((Bx.sub_self' hv).2.1) (by show lo.length ≤ 1000; omega) p4 p5))
          have LAW := Lib.hid (Bx.full_law (lo := lo) (hi := hi) (cs := qs.map lnP) (most := most) (more := more) (by omega) (by omega) (by omega) p1)
          have hm300 : most ≤ 300 := by omega
          clear p1 p2 p3 p4 p5 p6 LA
          rcases LAW.out with ⟨r1, r2⟩ | ⟨r1, r2⟩ | ⟨l, r2, hl, r1, hb⟩ | ⟨l, r2, hl, r1⟩ | ⟨r2, r1⟩
          · have C1 := Lib.hid (fun X hX => CS.out most X hX)
            have C2 := Lib.hid (fun X hX => CS.out more X hX)
            rw [r1] at C1
            rw [r2] at C2
            clear r1 r2 LAW CS g1 g2 g3
            go_wp2_with fail
            refine (C1.out _ (by repeat (first | (with_reducible exact Below.refl _ _) | (with_reducible assumption) | ((with_reducible refine Below.setCell ?_ ?_ _); rotate_left; (focus (first | omega | (simp; omega) | (simp; done)))) | ((with_reducible refine Below.alloc ?_ ?_ _); rotate_left; (focus (first | omega | (simp; omega) | (simp; done)))) | (with_reducible refine Below.drew ?_)))).mono ?_
            rintro e v3 ⟨u3, rfl, hx3, h3⟩
            have s3 : Below v2.heap.size v2 v3 := Below.call (w := v2) (by repeat (first | (with_reducible exact Below.refl _ _) | (with_reducible assumption) | ((with_reducible refine Below.setCell ?_ ?_ _); rotate_left; (focus (first | omega | (simp; omega) | (simp; done)))) | ((with_reducible refine Below.alloc ?_ ?_ _); rotate_left; (focus (first | omega | (simp; omega) | (simp; done)))) | (with_reducible refine Below.drew ?_))) h3
            have HB3 := Lib.hid (Below.call HB2.out s3)
            have HX3 := Lib.hid hx3.full
            clear h3 hx3
            go_wp2_with fail
            refine (C2.out _ s3).mono ?_
            rintro e v4 ⟨u4, rfl, hx4, h4⟩
            have HB4 := Lib.hid (Below.call HB3.out h4)
            have HX4 := Lib.hid hx4.full
            replace HX3 := Lib.hid (HX3.out.up h4)
            clear h4 hx4 s3
            go_wp2_with fail
            go_ret
            exact ⟨rfl, HB4.out⟩
          · have C1 := Lib.hid (fun X hX => CS.out most X hX)
            have C2 := Lib.hid (fun X hX => CS.out more X hX)
            rw [r1] at C1
            rw [r2] at C2
            clear r1 r2 LAW CS g1 g2 g3
            go_wp2_with fail
            refine (C1.out _ (by repeat (first | (with_reducible exact Below.refl _ _) | (with_reducible assumption) | ((with_reducible refine Below.setCell ?_ ?_ _); rotate_left; (focus (first | omega | (simp; omega) | (simp; done)))) | ((with_reducible refine Below.alloc ?_ ?_ _); rotate_left; (focus (first | omega | (simp; omega) | (simp; done)))) | (with_reducible refine Below.drew ?_)))).mono ?_
            rintro e v3 ⟨u3, rfl, hx3, h3⟩
            have s3 : Below v2.heap.size v2 v3 := Below.call (w := v2) (by repeat (first | (with_reducible exact Below.refl _ _) | (with_reducible assumption) | ((with_reducible refine Below.setCell ?_ ?_ _); rotate_left; (focus (first | omega | (simp; omega) | (simp; done)))) | ((with_reducible refine Below.alloc ?_ ?_ _); rotate_left; (focus (first | omega | (simp; omega) | (simp; done)))) | (with_reducible refine Below.drew ?_))) h3
            have HB3 := Lib.hid (Below.call HB2.out s3)
            have HX3 := Lib.hid hx3.full
            clear h3 hx3
            go_wp2_with fail
            refine (C2.out _ s3).mono ?_
            rintro e v4 ⟨u4, rfl, hx4, h4⟩
            have HB4 := Lib.hid (Below.call HB3.out h4)
            have HX4 := Lib.hid hx4.full
            replace HX3 := Lib.hid (HX3.out.up h4)
            clear h4 hx4 s3
            go_wp2_with fail
            go_ret
            exact ⟨rfl, HB4.out⟩
          · have C1 := Lib.hid (fun X hX => CS.out most X hX)
            have C2 := Lib.hid (fun X hX => CS.out more X hX)
            rw [r1] at C1
            rw [r2] at C2
            have HLL := Lib.hid hl
            have HBB := Lib.hid hb
            clear r1 r2 hl hb LAW CS g1 g2 g3
            go_wp2_with fail
            refine (C1.out _ (by repeat (first | (with_reducible exact Below.refl _ _) | (with_reducible assumption) | ((with_reducible refine Below.setCell ?_ ?_ _); rotate_left; (focus (first | omega | (simp; omega) | (simp; done)))) | ((with_reducible refine Below.alloc ?_ ?_ _); rotate_left; (focus (first | omega | (simp; omega) | (simp; done)))) | (with_reducible refine Below.drew ?_)))).mono ?_
            rintro e v3 ⟨u3, rfl, hx3, h3⟩
            have s3 : Below v2.heap.size v2 v3 := Below.call (w := v2) (by repeat (first | (with_reducible exact Below.refl _ _) | (with_reducible assumption) | ((with_reducible refine Below.setCell ?_ ?_ _); rotate_left; (focus (first | omega | (simp; omega) | (simp; done)))) | ((with_reducible refine Below.alloc ?_ ?_ _); rotate_left; (focus (first | omega | (simp; omega) | (simp; done)))) | (with_reducible refine Below.drew ?_))) h3
            have HB3 := Lib.hid (Below.call HB2.out s3)
            have HX3 := Lib.hid hx3.full
            clear h3 hx3
            go_wp2_with fail
            refine (C2.out _ s3).mono ?_
            rintro e v4 ⟨u4, rfl, hx4, h4⟩
            have HB4 := Lib.hid (Below.call HB3.out h4)
            have HX4 := Lib.hid hx4.full
            replace HX3 := Lib.hid (HX3.out.up h4)
            clear h4 hx4 s3
            have t4 : decide (most < (u4.n : Int)) = false := by rw [← HX4.out.n]; have := HLL.out; simp only [decide_eq_false_iff_not]; omega
            have hl6 : l.length ≤ 1000000 := by have := HLL.out; omega
            have CE := Lib.hid (full_samev HX3.out HX4.out HBB.out hl6 true (by simp))
            go_wp2_with fail
            refine CE.out.mono ?_
            rintro e v5 ⟨rfl, h5⟩
            have HB5 := Lib.hid (Below.call HB4.out h5)
            clear h5
            go_wp2_with fail
            go_ret
            exact ⟨rfl, HB5.out⟩
          · have C1 := Lib.hid (fun X hX => CS.out most X hX)
            have C2 := Lib.hid (fun X hX => CS.out more X hX)
            rw [r1] at C1
            rw [r2] at C2
            have HLL := Lib.hid hl
            clear r1 r2 hl LAW CS g1 g2 g3
            go_wp2_with fail
            refine (C1.out _ (by repeat (first | (with_reducible exact Below.refl _ _) | (with_reducible assumption) | ((with_reducible refine Below.setCell ?_ ?_ _); rotate_left; (focus (first | omega | (simp; omega) | (simp; done)))) | ((with_reducible refine Below.alloc ?_ ?_ _); rotate_left; (focus (first | omega | (simp; omega) | (simp; done)))) | (with_reducible refine Below.drew ?_)))).mono ?_
            rintro e v3 ⟨u3, rfl, hx3, h3⟩
            have s3 : Below v2.heap.size v2 v3 := Below.call (w := v2) (by repeat (first | (with_reducible exact Below.refl _ _) | (with_reducible assumption) | ((with_reducible refine Below.setCell ?_ ?_ _); rotate_left; (focus (first | omega | (simp; omega) | (simp; done)))) | ((with_reducible refine Below.alloc ?_ ?_ _); rotate_left; (focus (first | omega | (simp; omega) | (simp; done)))) | (with_reducible refine Below.drew ?_))) h3
            have HB3 := Lib.hid (Below.call HB2.out s3)
            have HX3 := Lib.hid hx3.full
            clear h3 hx3
            go_wp2_with fail
            refine (C2.out _ s3).mono ?_
            rintro e v4 ⟨u4, rfl, hx4, h4⟩
            have HB4 := Lib.hid (Below.call HB3.out h4)
            have HX4 := Lib.hid hx4.full
            replace HX3 := Lib.hid (HX3.out.up h4)
            clear h4 hx4 s3
            have t4 : decide (most < (u4.n : Int)) = true := by rw [← HX4.out.n]; have := HLL.out; simp only [decide_eq_true_eq]; omega
            go_wp2_with fail
            go_ret
            exact ⟨rfl, HB4.out⟩
          · have C1 := Lib.hid (fun X hX => CS.out most X hX)
            have C2 := Lib.hid (fun X hX => CS.out more X hX)
            rw [r1] at C1
            rw [r2] at C2
            clear r1 r2 LAW CS g1 g2 g3
            go_wp2_with fail
            refine (C1.out _ (by repeat (first | (with_reducible exact Below.refl _ _) | (with_reducible assumption) | ((with_reducible refine Below.setCell ?_ ?_ _); rotate_left; (focus (first | omega | (simp; omega) | (simp; done)))) | ((with_reducible refine Below.alloc ?_ ?_ _); rotate_left; (focus (first | omega | (simp; omega) | (simp; done)))) | (with_reducible refine Below.drew ?_)))).mono ?_
            rintro e v3 ⟨u3, rfl, hx3, h3⟩
            have s3 : Below v2.heap.size v2 v3 := Below.call (w := v2) (by repeat (first | (with_reducible exact Below.refl _ _) | (with_reducible assumption) | ((with_reducible refine Below.setCell ?_ ?_ _); rotate_left; (focus (first | omega | (simp; omega) | (simp; done)))) | ((with_reducible refine Below.alloc ?_ ?_ _); rotate_left; (focus (first | omega | (simp; omega) | (simp; done)))) | (with_reducible refine Below.drew ?_))) h3
            have HB3 := Lib.hid (Below.call HB2.out s3)
            have HX3 := Lib.hid hx3.full
            clear h3 hx3
            go_wp2_with fail
            refine (C2.out _ s3).mono ?_
            rintro e v4 ⟨u4, rfl, hx4, h4⟩
            have HB4 := Lib.hid (Below.call HB3.out h4)
            have HX4 := Lib.hid hx4.full
            replace HX3 := Lib.hid (HX3.out.up h4)
            clear h4 hx4 s3
            go_wp2_with fail
            go_ret
            exact ⟨rfl, HB4.out⟩
end Go.Proofs.Ytcncobhdfflelaa
