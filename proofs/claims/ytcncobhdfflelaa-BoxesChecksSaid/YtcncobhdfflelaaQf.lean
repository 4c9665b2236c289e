/- The walk of BoxesChecks; boxes as an argument, opened. -/
import Derived.Test.YtcncobhdfflelaaQc
import Derived.Test.YtcncobhdfflelaaQe
import Derived.Test.YtcncobhdfflelaaHd
namespace Go.Proofs.Ytcncobhdfflelaa
open Go.RowKit

theorem count21v {u : Sl} {qs : List BxM} {w : World} (hu : Rd w w.heap.size 3 u.a u.n ((qs.map (·.1)).flatMap bxL)) (hq : ∀ q ∈ qs, BoxRd6 w q) (hun : u.n ≤ 1000000) (r : Int) (hr : Bx.countF (qs.map plD) 0 = r) :
    Calls Try.prog 21 #[.slice u.a u.n u.c] w fun e w' => e = .returned (.int .i64 r) ∧ Below w.heap.size w w' := by
  subst hr
  exact count21 u qs w hu hq hun
theorem count22v {u : Sl} {qs : List BxM} {w : World} (hu : Rd w w.heap.size 3 u.a u.n ((qs.map (·.1)).flatMap bxL)) (hq : ∀ q ∈ qs, BoxRd6 w q) (hun : u.n ≤ 1000000) (r : Int) (hr : Bx.countF (qs.map plD) 0 = r) :
    Calls Try.prog 22 #[.slice u.a u.n u.c] w fun e w' => e = .returned (.int .i64 r) ∧ Below w.heap.size w w' := by
  subst hr
  exact count22 u qs w hu hq hun
theorem BoxRd6.up {w W : World} {q : BxM} (h : BoxRd6 w q) (hb : Below w.heap.size w W) : BoxRd6 W q := ⟨h.rd.up hb, h.n, h.i1, h.i2⟩
/-- a row of boxes, opened -/
structure BxIn (w : World) (u : Sl) (qs : List BxM) : Prop where
  rd : Rd w w.heap.size 3 u.a u.n ((qs.map (·.1)).flatMap bxL)
  el : ∀ q ∈ qs, BoxRd w q ∧ Bx.I64 q.2.1 ∧ Bx.I64 q.2.2
theorem BxIn.up {w W : World} {u : Sl} {qs : List BxM} (h : BxIn w u qs) (hb : Below w.heap.size w W) : BxIn W u qs := ⟨h.rd.up hb, fun q hq => ⟨(h.el q hq).1.up hb, (h.el q hq).2⟩⟩
theorem BxIn.bxs {w : World} {u : Sl} {qs : List BxM} (h : BxIn w u qs) : BxsAt w u (qs.map plD) := ⟨qs, h.rd, fun q hq => ⟨(h.el q hq).1.lo, (h.el q hq).1.hi⟩, rfl⟩

set_option linter.unusedSimpArgs false in
set_option linter.unusedVariables false in
set_option maxRecDepth 100000 in
set_option maxHeartbeats 6400000 in
theorem checks4 (A D E : Option Addr) (n m l c d f : Nat) (lo hi at_ : List Int) (u : Sl) (qs : List BxM) (w : World) (hx : Rd w w.heap.size 1 A n (ints lo)) (hy : Rd w w.heap.size 1 D m (ints hi)) (hu : BxIn w u qs) (hz : Rd w w.heap.size 1 E l (ints at_)) :
    Calls Try.prog 4 #[.slice A n c, .slice D m d, .slice u.a u.n u.c, .slice E l f] w fun e w' => e = .returned (.bool true) ∧ Below w.heap.size w w' := by
  have HX := Lib.hid hx
  have HY := Lib.hid hy
  have HZ := Lib.hid hz
  have HU := Lib.hid hu
  clear hx hy hu hz
  go_enter Try.func4, Try.ntmps4
  go_wp2_with fail
  refine (small9 _).mono ?_
  rintro e v1 ⟨rfl, h1⟩
  have HB1 := Lib.hid h1
  clear h1
  by_cases g1 : 3 < n
  · have t1 : decide ((3 : Int) < (n : Int)) = true := by simp; omega
    go_wp2_with fail
    go_ret
    exact ⟨rfl, HB1.out⟩
  · have t1 : decide ((3 : Int) < (n : Int)) = false := by simp; omega
    by_cases g2 : 3 < m
    · have t2 : decide ((3 : Int) < (m : Int)) = true := by simp; omega
      go_wp2_with fail
      go_ret
      exact ⟨rfl, HB1.out⟩
    · have t2 : decide ((3 : Int) < (m : Int)) = false := by simp; omega
      have CF := Lib.hid (few16 u qs v1 (HU.out.rd.up HB1.out))
      go_wp2_with fail
      refine CF.out.mono ?_
      rintro e v2 ⟨⟨t, rfl, ht⟩, h2⟩
      have HB2 := Lib.hid (Below.call HB1.out h2)
      clear h2 CF
      cases t with
      | false =>
        go_wp2_with fail
        go_ret
        exact ⟨rfl, HB2.out⟩
      | true =>
        obtain ⟨hun, hq3⟩ := ht rfl
        have HQ3 := Lib.hid hq3
        clear ht hq3
        by_cases g3 : 5 < l
        · have t3 : decide ((5 : Int) < (l : Int)) = true := by simp; omega
          go_wp2_with fail
          go_ret
          exact ⟨rfl, HB2.out⟩
        · have t3 : decide ((5 : Int) < (l : Int)) = false := by simp; omega
          have C1 := Lib.hid (holds17 u (qs.map plD) E l f at_ v2 (HU.out.up HB2.out).bxs (HZ.out.up HB2.out) (by omega) (by omega))
          obtain ⟨r1, hr1⟩ : ∃ r1, (Bx.holds at_ (qs.map plD)).1 = r1 := ⟨_, rfl⟩
          obtain ⟨r2, hr2⟩ : ∃ r2, (Bx.holds at_ (qs.map plD)).2 = r2 := ⟨_, rfl⟩
          obtain ⟨rc, hrc⟩ : ∃ rc, Bx.check lo hi (qs.map (·.2)) = rc := ⟨_, rfl⟩
          obtain ⟨rn, hrn⟩ : ∃ rn, Bx.countF (qs.map plD) 0 = rn := ⟨_, rfl⟩
          rw [hr1, hr2] at C1
          have R1 := Lib.hid hr1
          have R2 := Lib.hid hr2
          have RC := Lib.hid hrc
          have RN := Lib.hid hrn
          clear hr1 hr2 hrc hrn
          go_wp2_with fail
          refine C1.out.mono ?_
          rintro e v3 ⟨rfl, h3⟩
          have HB3 := Lib.hid (Below.call HB2.out h3)
          clear h3 C1
          have C2 := Lib.hid (holds18 u (qs.map plD) E l f at_ v3 (HU.out.up HB3.out).bxs (HZ.out.up HB3.out) (by omega) (by omega))
          rw [R1.out, R2.out] at C2
          go_wp2_with fail
          refine C2.out.mono ?_
          rintro e v4 ⟨rfl, h4⟩
          have HB4 := Lib.hid (Below.call HB3.out h4)
          clear h4 C2
          have C3 := Lib.hid (check19 A D n m c d lo hi u qs v4 (HX.out.up HB4.out) (HY.out.up HB4.out) (HU.out.rd.up HB4.out) (fun q hq => (HU.out.el q hq).1.up HB4.out) (by omega))
          rw [RC.out] at C3
          have e1 : (r1 == r1) = true := by simp
          have e2 : (r2 == r2) = true := by simp
          have e3 : (rc == rc) = true := by simp
          have e4 : (rn == rn) = true := by simp
          go_wp2_with fail
          refine C3.out.mono ?_
          rintro e v5 ⟨rfl, h5⟩
          have HB5 := Lib.hid (Below.call HB4.out h5)
          clear h5 C3
          have C4 := Lib.hid (check20 A D n m c d lo hi u qs v5 (HX.out.up HB5.out) (HY.out.up HB5.out) (HU.out.rd.up HB5.out) (fun q hq => (HU.out.el q hq).1.up HB5.out) (by omega))
          rw [RC.out] at C4
          go_wp2_with fail
          refine C4.out.mono ?_
          rintro e v6 ⟨rfl, h6⟩
          have HB6 := Lib.hid (Below.call HB5.out h6)
          clear h6 C4
          have H6 := Lib.hid (fun (X : World) (hX : Below w.heap.size w X) (q : BxM) (hq : q ∈ qs) => (⟨(HU.out.el q hq).1.up hX, by have := (HQ3.out q hq).1; omega, (HU.out.el q hq).2.1, (HU.out.el q hq).2.2⟩ : BoxRd6 X q))
          have C5 := Lib.hid (count21v (HU.out.rd.up HB6.out) (H6.out v6 HB6.out) (by omega) rn RN.out)
          go_wp2_with fail
          refine C5.out.mono ?_
          rintro e v7 ⟨rfl, h7⟩
          have HB7 := Lib.hid (Below.call HB6.out h7)
          clear h7 C5
          have C6 := Lib.hid (count22v (HU.out.rd.up HB7.out) (H6.out v7 HB7.out) (by omega) rn RN.out)
          go_wp2_with fail
          refine C6.out.mono ?_
          rintro e v8 ⟨rfl, h8⟩
          have HB8 := Lib.hid (Below.call HB7.out h8)
          clear h8 C6
          go_wp2_with fail
          go_ret
          exact ⟨rfl, HB8.out⟩
end Go.Proofs.Ytcncobhdfflelaa
namespace Go.Proofs.Ytcncobhdfflelaa
open Go.RowKit Go.ChangeShapes Go.WideShapes Go.Deep
section
variable {H : Type} {enc : TypeId × Value → H} {w : World} {base : Nat} {spare : Nat → Bool} {held : Bool}
theorem cells44 : Try.prog.cellsOf 44 = 3 := by kernel_rfl
theorem cells4 : Try.prog.cellsOf 4 = 1 := by kernel_rfl
set_option maxRecDepth 100000 in
theorem box_of (n : Nat) (cs : List Value) (y : DataW H × List MemPlace) (h : DataW.trod enc Try.prog w base spare held n 44 cs = some y) : ∃ r : BxC, (∃ xs ys : List Int, Rd w w.heap.size 1 r.lo.a r.lo.n (ints xs) ∧ Rd w w.heap.size 1 r.hi.a r.hi.n (ints ys) ∧ Bx.I64 xs ∧ Bx.I64 ys) ∧ cs = bxL r := by
  obtain ⟨xs, m, _, _, hl, hxl, hf⟩ := DataW.trod_struct Try.underlying44 h
  rw [cells44] at hl
  match cs, hl with
  | [c0, c1, c2], _ =>
    have hx : xs.length = 3 := hxl
    obtain ⟨y0, e0⟩ := one_cell (v := c0) cells22 rfl (hf 0 _ rfl) (get_some (by omega))
    obtain ⟨y1, e1⟩ := one_cell (v := c1) cells22 rfl (hf 1 _ rfl) (get_some (by omega))
    obtain ⟨y2, e2⟩ := one_cell (v := c2) cells4 rfl (hf 2 _ rfl) (get_some (by omega))
    obtain ⟨s, zs, q0, hr, hi0⟩ := open_int_row e0
    obtain ⟨t, us, q1, ht, hi1⟩ := open_int_row e1
    obtain ⟨k, q2, _⟩ := DataW.trod_bool Try.underlying4 e2
    simp at q2
    subst q0 q1 q2
    exact ⟨⟨s, t, k⟩, ⟨zs, us, hr, ht, hi0, hi1⟩, rfl⟩
theorem open_boxes {fuel : Nat} {v : Value} {x : DataW H × List MemPlace} (h : DataW.trod enc Try.prog w base spare held fuel 26 [v] = some x) : ∃ (s : Sl) (qs : List BxM), v = .slice s.a s.n s.c ∧ BxIn w s qs := by
  haveI : Inhabited BxC := ⟨⟨⟨none, 0, 0⟩, ⟨none, 0, 0⟩, false⟩⟩
  obtain ⟨s, rs, h1, h2, h3⟩ := open_rows bxL 3 (fun _ => rfl) (by decide) (fun r => ∃ xs ys : List Int, Rd w w.heap.size 1 r.lo.a r.lo.n (ints xs) ∧ Rd w w.heap.size 1 r.hi.a r.hi.n (ints ys) ∧ Bx.I64 xs ∧ Bx.I64 ys) Try.underlying26 cells44 (fun n cs y hy => box_of n cs y hy) h
  have key : ∀ rs : List BxC, (∀ r ∈ rs, ∃ xs ys : List Int, Rd w w.heap.size 1 r.lo.a r.lo.n (ints xs) ∧ Rd w w.heap.size 1 r.hi.a r.hi.n (ints ys) ∧ Bx.I64 xs ∧ Bx.I64 ys) → ∃ qs : List BxM, qs.map (·.1) = rs ∧ ∀ q ∈ qs, BoxRd w q ∧ Bx.I64 q.2.1 ∧ Bx.I64 q.2.2 := by
    intro rs
    induction rs with
    | nil => intro _; exact ⟨[], rfl, fun q hq => (List.not_mem_nil hq).elim⟩
    | cons r rs ih =>
      intro h
      obtain ⟨qs, e, hq⟩ := ih (fun p hp => h p (List.mem_cons_of_mem _ hp))
      obtain ⟨xs, ys, hx, hy, i1, i2⟩ := h r List.mem_cons_self
      refine ⟨(r, xs, ys) :: qs, by rw [List.map_cons, e], fun q hq' => ?_⟩
      rcases List.mem_cons.1 hq' with rfl | hq'
      · exact ⟨⟨hx, hy⟩, i1, i2⟩
      · exact hq q hq'
  obtain ⟨qs, e, hq⟩ := key rs h2
  exact ⟨s, qs, h1, ⟨by rw [e]; exact h3, hq⟩⟩
end
end Go.Proofs.Ytcncobhdfflelaa
