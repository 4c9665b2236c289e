/- The walk of BoxesSolves. -/
import Derived.Test.YtcncobhdfflelaaId
namespace Go.Proofs.Ytcncobhdfflelaa
open Go.RowKit

set_option linter.unusedSimpArgs false in
set_option linter.unusedVariables false in
set_option maxRecDepth 100000 in
set_option maxHeartbeats 6400000 in
theorem solves3 (A D : Option Addr) (n m c d : Nat) (lo hi : List Int) (u : Sl) (qs : List LnM) (most : Int) (w : World) (hx : Rd w w.heap.size 1 A n (ints lo)) (hy : Rd w w.heap.size 1 D m (ints hi)) (hu : LnsRd w u qs) :
    Calls Try.prog 3 #[.slice A n c, .slice D m d, .slice u.a u.n u.c, .int .i64 most] w fun e w' => e = .returned (.bool true) ∧ Below w.heap.size w w' := by
  have hmf : ∀ (fn : Fn) (first cap : Array Value) (w : World), (Instr.makeFunc fn first cap).run Try.prog w = .ok (.func fn first cap) w := fun _ _ _ _ => rfl
  have HL := Lib.hid (show lo.length = n by simpa using hx.1)
  have HM := Lib.hid (show hi.length = m by simpa using hy.1)
  have HX := Lib.hid hx
  have HY := Lib.hid hy
  have HU := Lib.hid hu
  clear hx hy hu
  go_enter Try.func3, Try.ntmps3
  go_wp2_with fail
  refine (small9 _).mono ?_
  rintro e v1 ⟨rfl, h1⟩
  have hB1 : Below w.heap.size w v1 := Below.call (w := w) (by repeat (first | (with_reducible exact Below.refl _ _) | (with_reducible assumption) | ((with_reducible refine Below.setCell ?_ ?_ _); rotate_left; (focus (first | omega | (simp; omega) | (simp; done)))) | ((with_reducible refine Below.alloc ?_ ?_ _); rotate_left; (focus (first | omega | (simp; omega) | (simp; done)))) | (with_reducible refine Below.drew ?_))) h1
  have hz1 := h1.size
  simp at hz1
  have k1 : v1.cell? ⟨w.heap.size, 0, none⟩ = some (.slice u.a u.n u.c) := (h1.cell (p := ⟨w.heap.size, 0, none⟩) (by simp)).trans (by simp [go_sem])
  have HB1 := Lib.hid hB1
  clear h1 hB1
  have CP := Lib.hid (plain10 A D n m c d lo hi u qs v1 (HX.out.up HB1.out) (HY.out.up HB1.out) (HU.out.up HB1.out))
  obtain ⟨pl, hpl⟩ : ∃ pl, Bx.plainB lo hi (qs.map lnP) = pl := ⟨_, rfl⟩
  rw [hpl] at CP
  have HPL := Lib.hid hpl
  clear hpl
  go_wp2_with fail
  refine CP.out.mono ?_
  rintro e v2 ⟨rfl, h2⟩
  have k2 : v2.cell? ⟨w.heap.size, 0, none⟩ = some (.slice u.a u.n u.c) := (h2.cell (p := ⟨w.heap.size, 0, none⟩) (by show w.heap.size < v1.heap.size; omega)).trans k1
  have hz2 : w.heap.size < v2.heap.size := by have := h2.size; omega
  have HB2 := Lib.hid (Below.call HB1.out h2)
  clear h2 CP k1
  cases pl with
  | false =>
    go_wp2_with fail
    go_ret
    exact ⟨rfl, HB2.out⟩
  | true =>
    by_cases g1 : 300 < most
    · go_wp2_with fail
      go_ret
      exact ⟨rfl, HB2.out⟩
    · have t1 : decide (300 < most) = false := by simpa using g1
      obtain ⟨p1, p2, p3, p4, p5, p6⟩ := Bx.plainB_spec HPL.out
      have hun : u.n ≤ 4 := by rw [List.length_map, HU.out.len] at p3; exact p3
      have LA := Lib.hid ((HU.out.up HB2.out).at_ (fun c hc => (p6 c hc).2))
      have CS : Hid (∀ (X : World), Below v2.heap.size v2 X → Calls Try.prog 11 #[.slice A n c, .slice D m d, .func (.func 12) #[] #[.pointer (some ⟨w.heap.size, 0, none⟩)], .int .i64 most] X (SolvePost (Bx.solve (fun a b => Bx.verd a b (qs.map lnP) 1) lo hi most) X)) := Lib.hid (fun X hX =>
        solve11 A D n m c d lo hi 12 _ _ most X ((HX.out.up HB2.out).up hX) ((HY.out.up HB2.out).up hX) eg12 (fun hv => verd12 (D := (lo, hi)) (Nat.lt_of_lt_of_le hz2 hX.size) ((hX.cell (p := ⟨w.heap.size, 0, none⟩) hz2).trans k2) (LA.out.up hX) (by omega) ((Bx.sub_self' hv).2.1) (by show lo.length ≤ 1000; omega) p4 p5))
      have CT : Hid (∀ (X : World), Below v2.heap.size v2 X → Calls Try.prog 14 #[.slice A n c, .slice D m d, .slice u.a u.n u.c, .int .i64 most] X (SolvePost (Bx.solve (fun a b => Bx.verd a b (qs.map lnP) 1) lo hi most) X)) := Lib.hid (fun X hX =>
        solve14 A D n m c d lo hi u _ most X ((HX.out.up HB2.out).up hX) ((HY.out.up HB2.out).up hX) (LA.out.up hX) (by omega) p4 p5)
      obtain ⟨bs, er, hbs, hok⟩ : ∃ (bs : List Bx.Box) (er : Int), Bx.solve (fun a b => Bx.verd a b (qs.map lnP) 1) lo hi most = (bs, er) ∧ (∀ b ∈ bs, b.1.length ≤ 1000 ∧ b.2.1.length ≤ 1000) ∧ bs.length ≤ 1000000 := by
        rcases Bx.solve_cases lo hi (qs.map lnP) most with h | h | h | ⟨r, h, _, hp, hr⟩
        · exact ⟨_, _, h, by simp, by simp⟩
        · exact ⟨_, _, h, by simp, by simp⟩
        · exact ⟨_, _, h, by simp, by simp⟩
        · refine ⟨_, _, h, fun b hb => ?_, by have := (Bx.lim_any most).2; omega⟩
          have hs := hp.len b hb
          have e1 := hs.l1
          have e2 := hs.l2
          simp only at e1 e2
          omega
      rw [hbs] at CS CT
      have HOK := Lib.hid hok
      clear p1 p2 p3 p4 p5 p6 LA hbs hok g1
      go_wp2_with fail
      refine (CS.out _ (by repeat (first | (with_reducible exact Below.refl _ _) | (with_reducible assumption) | ((with_reducible refine Below.setCell ?_ ?_ _); rotate_left; (focus (first | omega | (simp; omega) | (simp; done)))) | ((with_reducible refine Below.alloc ?_ ?_ _); rotate_left; (focus (first | omega | (simp; omega) | (simp; done)))) | (with_reducible refine Below.drew ?_)))).mono ?_
      rintro e v3 ⟨u3, rfl, hx3, h3⟩
      have s3 : Below v2.heap.size v2 v3 := Below.call (w := v2) (by repeat (first | (with_reducible exact Below.refl _ _) | (with_reducible assumption) | ((with_reducible refine Below.setCell ?_ ?_ _); rotate_left; (focus (first | omega | (simp; omega) | (simp; done)))) | ((with_reducible refine Below.alloc ?_ ?_ _); rotate_left; (focus (first | omega | (simp; omega) | (simp; done)))) | (with_reducible refine Below.drew ?_))) h3
      have HB3 := Lib.hid (Below.call HB2.out s3)
      have HX3 := Lib.hid hx3.full
      have k3 : v3.cell? ⟨w.heap.size, 0, none⟩ = some (.slice u.a u.n u.c) := (s3.cell (p := ⟨w.heap.size, 0, none⟩) hz2).trans k2
      clear h3 hx3
      go_wp2_with fail
      refine (CT.out _ s3).mono ?_
      rintro e v4 ⟨u4, rfl, hx4, h4⟩
      have HB4 := Lib.hid (Below.call HB3.out h4)
      have HX4 := Lib.hid hx4.full
      replace HX3 := Lib.hid (HX3.out.up h4)
      clear h4 hx4 s3
      have CE := Lib.hid (full_samev HX3.out HX4.out HOK.out.1 HOK.out.2 true (by simp))
      go_wp2_with fail
      refine CE.out.mono ?_
      rintro e v5 ⟨rfl, h5⟩
      have HB5 := Lib.hid (Below.call HB4.out h5)
      clear h5
      go_wp2_with fail
      go_ret
      exact ⟨rfl, HB5.out⟩
end Go.Proofs.Ytcncobhdfflelaa
