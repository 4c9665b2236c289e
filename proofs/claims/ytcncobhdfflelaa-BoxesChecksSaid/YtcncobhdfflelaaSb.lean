/- The contract of the solver's step: it splits, or fails. -/
import Derived.Test.YtcncobhdfflelaaSa
namespace Go.Proofs.Ytcncobhdfflelaa
open Go.RowKit

set_option linter.unusedSimpArgs false in
set_option linter.unusedVariables false in
set_option maxRecDepth 100000 in
set_option maxHeartbeats 6400000 in
theorem step37_stuck (w0 : World) (base S g : Nat) (cb : Array Value) (v : List Int → List Int → Int) (D : Bx.Dm) (d o : Sl) (qd st : List BxM) (q : BxM) (most : Int) (W : World)
    (eg : ∀ args w, (callFunc g args).run Try.prog w = .ok (.enter g args) w) (hv : VerdAt w0 g cb v D) (hB : Below w0.heap.size w0 W) (hbase : w0.heap.size ≤ base)
    (h : SolvAt W base S (.func (.func g) #[] cb) d o qd (q :: st)) (hq : Bx.Sub D q.2) (hn1 : q.1.lo.n ≤ 1000) (hn2 : q.1.hi.n ≤ 1000) (hlen : qd.length + st.length ≤ 10000) (h1 : v q.2.1 q.2.2 ≠ 1) (h0 : v q.2.1 q.2.2 ≠ 0) (hnm : q.1.lo.n = q.1.hi.n) (hsm1 : Bx.Small q.2.1) (hsm2 : Bx.Small q.2.2) (hw : Bx.widest q.2.1 q.2.2 < 0) :
    Calls Try.prog 37 #[.pointer (some ⟨S, 0, none⟩), .int .i64 most] W fun e w' => e = .returned (.int .i64 16) ∧ Below base W w' := by
  obtain ⟨hS1, hS2, c0, c1, c2, fS⟩ := h.sol
  obtain ⟨b, hA, hb1, hb2, hbS, hon, x0, x1, x2, fb⟩ := h.last
  have r1 := own_rd (h.row (q := q) (by simp)).1
  have r2 := own_rd (h.row (q := q) (by simp)).2
  have hsz0 := hB.size
  have C1 := Lib.hid (fun (X : World) (hX : Below (W.heap.size + 1) (boxW W q.1) X) => clone35 q.2.1 q.1.lo.a q.1.lo.n q.1.lo.c X (((r1.below ((Below.refl _ _).alloc (Nat.le_refl _) _) (Nat.le_refl _)).below hX (Nat.le_succ _)).more (by have := hX.size; simp at this; omega)) (by omega))
  have C2 := Lib.hid (fun (X : World) (hX : Below (W.heap.size + 1) (boxW W q.1) X) => clone35 q.2.2 q.1.hi.a q.1.hi.n q.1.hi.c X (((r2.below ((Below.refl _ _).alloc (Nat.le_refl _) _) (Nat.le_refl _)).below hX (Nat.le_succ _)).more (by have := hX.size; simp at this; omega)) (by omega))
  have CV := Lib.hid (fun (X : World) (u1 u2 : Sl) (hX : Below (W.heap.size + 1) (boxW W q.1) X) (hu1 : Rd X X.heap.size 1 u1.a u1.n (ints q.2.1)) (hu2 : Rd X X.heap.size 1 u2.a u2.n (ints q.2.2)) => hv X u1 u2 q.2.1 q.2.2 (Below.trans (Below.trans hB (((Below.refl _ _).alloc (Nat.le_refl _) _ : Below W.heap.size W (boxW W q.1)).mono hsz0)) (hX.mono (by omega))) hq hu1 hu2)
  have H := Lib.hid h
  have HON := Lib.hid hon
  have HA := Lib.hid hA
  have HC0 := Lib.hid c0
  have HR1 := Lib.hid r1
  have HR2 := Lib.hid r2
  have hix : ∀ W : World, Sem.run Try.prog (Instr.indexAt 26 (.slice o.a o.n o.c) (.int .i64 (st.length : Int))) W = .ok (.pointer (some ⟨b, st.length * 3, none⟩)) W := by
    intro W
    rw [hA, hon]
    go_simp
    intro h; omega
  have hl : IntKind.i64.wrap ((o.n : Int) - 1) = (st.length : Int) := by rw [hon, IntWalk.i64_left, IntWalk.wrap64_in _ (by omega)]; omega
  have HNM := Lib.hid hnm
  have HN1 := Lib.hid h1
  have HN0 := Lib.hid h0
  have t1 : (v q.2.1 q.2.2 == 1) = false := by simpa using h1
  have t2 : (v q.2.1 q.2.2 == 0) = false := by simpa using h0
  have t3 : decide (Bx.widest q.2.1 q.2.2 < 0) = true := by simpa using hw
  clear h1 h0 hnm
  clear h hA r1 r2 hon hv hB hq
  go_enter Try.func37, Try.ntmps37
  go_upto_region 3 with (fail)
  go_cut [33] (fun s33 X => s33 = .int .i64 (v q.2.1 q.2.2) ∧ Hid (Below (W.heap.size + 1) (boxW W q.1) X))
  case first =>
    go_region_held3 (fun X => X.cell? ⟨S, 0, none⟩ = some (.func (.func g) #[] cb) ∧ X.cell? ⟨W.heap.size, 0, none⟩ = some (.slice q.1.lo.a q.1.lo.n q.1.lo.c) ∧ X.cell? ⟨W.heap.size, 1, none⟩ = some (.slice q.1.hi.a q.1.hi.n q.1.hi.c)) (simp [go_sem, *])
      (first
        | (go_at_call 35; (with_reducible refine (C2.out _ HB1).mono ?_); rintro e v2 ⟨u2, rfl, o2, h2⟩; have HB2 : Below (W.heap.size + 1) (boxW W q.1) v2 := Below.trans HB1 (h2.mono (by omega)); obtain ⟨c0, d0, d1, m2⟩ := step_cells HB2 hS2 HC0.out; have HU2 := Lib.hid (own_rd o2); replace HU1 := Lib.hid (HU1.out.up h2); clear h2)
        | (go_at_call 35; (with_reducible refine (C1.out _ HB1).mono ?_); rintro e v2 ⟨u1, rfl, o1, h2⟩; have HB2 : Below (W.heap.size + 1) (boxW W q.1) v2 := Below.trans HB1 (h2.mono (by omega)); obtain ⟨c0, d0, d1, m2⟩ := step_cells HB2 hS2 HC0.out; have HU2 := Lib.hid (own_rd o1); replace HU1 := Lib.hid (HU1.out.up h2); clear h2)
        | (go_at_call 35; (with_reducible refine (C1.out _ (by repeat (first | (with_reducible exact Below.refl _ _) | (with_reducible assumption) | ((with_reducible refine Below.setCell ?_ ?_ _); rotate_left; (focus (first | omega | (simp; omega) | (simp; done)))) | ((with_reducible refine Below.alloc ?_ ?_ _); rotate_left; (focus (first | omega | (simp; omega) | (simp; done)))) | (with_reducible refine Below.drew ?_)))).mono ?_); rintro e v1 ⟨u1, rfl, o1, h1⟩; have HB1 : Below (W.heap.size + 1) (boxW W q.1) v1 := Below.trans (by repeat (first | (with_reducible exact Below.refl _ _) | (with_reducible assumption) | ((with_reducible refine Below.setCell ?_ ?_ _); rotate_left; (focus (first | omega | (simp; omega) | (simp; done)))) | ((with_reducible refine Below.alloc ?_ ?_ _); rotate_left; (focus (first | omega | (simp; omega) | (simp; done)))) | (with_reducible refine Below.drew ?_))) (h1.mono (by first | omega | (simp; done) | (simp; omega))); obtain ⟨c0, d0, d1, m1⟩ := step_cells HB1 hS2 HC0.out; have HU1 := Lib.hid (own_rd o1); clear h1)
        | (go_at_call 35; (with_reducible refine (C2.out _ (by repeat (first | (with_reducible exact Below.refl _ _) | (with_reducible assumption) | ((with_reducible refine Below.setCell ?_ ?_ _); rotate_left; (focus (first | omega | (simp; omega) | (simp; done)))) | ((with_reducible refine Below.alloc ?_ ?_ _); rotate_left; (focus (first | omega | (simp; omega) | (simp; done)))) | (with_reducible refine Below.drew ?_)))).mono ?_); rintro e v1 ⟨u2, rfl, o2, h1⟩; have HB1 : Below (W.heap.size + 1) (boxW W q.1) v1 := Below.trans (by repeat (first | (with_reducible exact Below.refl _ _) | (with_reducible assumption) | ((with_reducible refine Below.setCell ?_ ?_ _); rotate_left; (focus (first | omega | (simp; omega) | (simp; done)))) | ((with_reducible refine Below.alloc ?_ ?_ _); rotate_left; (focus (first | omega | (simp; omega) | (simp; done)))) | (with_reducible refine Below.drew ?_))) (h1.mono (by first | omega | (simp; done) | (simp; omega))); obtain ⟨c0, d0, d1, m1⟩ := step_cells HB1 hS2 HC0.out; have HU1 := Lib.hid (own_rd o2); clear h1)
        | (go_at_fn g; (with_reducible refine (CV.out _ ⟨u1.a, q.1.lo.n, u1.c⟩ ⟨u2.a, q.1.hi.n, u2.c⟩ HB2 HU1.out HU2.out).mono ?_); rintro e v3 ⟨rfl, h3⟩; have HB3 : Below (W.heap.size + 1) (boxW W q.1) v3 := Below.trans HB2 (h3.mono (by omega)); obtain ⟨c0, d0, d1, m3⟩ := step_cells HB3 hS2 HC0.out; clear h3)
        | (go_at_fn g; (with_reducible refine (CV.out _ ⟨u1.a, q.1.lo.n, u1.c⟩ ⟨u2.a, q.1.hi.n, u2.c⟩ HB2 HU2.out HU1.out).mono ?_); rintro e v3 ⟨rfl, h3⟩; have HB3 : Below (W.heap.size + 1) (boxW W q.1) v3 := Below.trans HB2 (h3.mono (by omega)); obtain ⟨c0, d0, d1, m3⟩ := step_cells HB3 hS2 HC0.out; clear h3))
    all_goals (go_wp2_with fail; go_meet; exact ⟨rfl, Lib.hid HB3⟩)
  case rest =>
    obtain ⟨rfl, HX⟩ := hcut
    have hX1 := HX.out.size
    try simp at hX1
    have HW : Hid (Below W.heap.size W wc) := Lib.hid (((Below.refl _ _).alloc (Nat.le_refl _) _).trans (HX.out.mono (Nat.le_succ _)))
    have HB : Hid (BoxAt wc W.heap.size (bxL q.1)) := Lib.hid ((BoxAt.new W 44 (bxL q.1) _ rfl).below HX.out (Nat.lt_succ_self _))
    have HG : Hid (SolvG wc base S (.func (.func g) #[] cb) d o qd (q :: st).reverse (qd ++ q :: st)) := Lib.hid (H.out.keep HW.out)
    clear c0 c1 c2 fS x0 x1 x2 fb
    obtain ⟨_, _, c0, c1, c2, fS⟩ := HG.out.sol
    obtain ⟨_, hbx, fbx⟩ := HB.out
    have b0 := hbx 0 _ rfl
    have b1 := hbx 1 _ rfl
    have b2 := hbx 2 _ rfl
    clear hbx
    have nS : ¬ S = W.heap.size := by omega
    have nS2 : ¬ W.heap.size = S := by omega
    have hSw : S < wc.heap.size := by omega
    have CW := Lib.hid (widest57 q.1 q.2.1 q.2.2 wc (HR1.out.up HW.out) (HR2.out.up HW.out) HNM.out (by omega) hsm1 hsm2)
    go_wp2_with fail
    refine CW.out.mono ?_
    rintro e w5 ⟨rfl, h5⟩
    have hz5 := h5.size
    have HW5 : Hid (Below W.heap.size W w5) := Lib.hid (HW.out.trans (h5.mono HW.out.size))
    have HB5 : Hid (BoxAt w5 W.heap.size (bxL q.1)) := Lib.hid (HB.out.call h5)
    have HG5 : Hid (SolvG w5 base S (.func (.func g) #[] cb) d o qd (q :: st).reverse (qd ++ q :: st)) := Lib.hid (HG.out.below h5)
    clear h5 CW c0 c1 c2 fS b0 b1 b2 fbx HG HB HW HX CV
    obtain ⟨_, _, c0, c1, c2, fS⟩ := HG5.out.sol
    obtain ⟨_, hbx, fbx⟩ := HB5.out
    have b0 := hbx 0 _ rfl
    have b1 := hbx 1 _ rfl
    have b2 := hbx 2 _ rfl
    clear hbx
    have hSw5 : S < w5.heap.size := by omega
    go_wp2_with fail
    go_ret
    exact ⟨rfl, HW5.out.mono (by omega)⟩

set_option linter.unusedSimpArgs false in
set_option linter.unusedVariables false in
set_option maxRecDepth 100000 in
set_option maxHeartbeats 6400000 in
theorem step37_full (w0 : World) (base S g : Nat) (cb : Array Value) (v : List Int → List Int → Int) (D : Bx.Dm) (d o : Sl) (qd st : List BxM) (q : BxM) (most : Int) (W : World)
    (eg : ∀ args w, (callFunc g args).run Try.prog w = .ok (.enter g args) w) (hv : VerdAt w0 g cb v D) (hB : Below w0.heap.size w0 W) (hbase : w0.heap.size ≤ base)
    (h : SolvAt W base S (.func (.func g) #[] cb) d o qd (q :: st)) (hq : Bx.Sub D q.2) (hn1 : q.1.lo.n ≤ 1000) (hn2 : q.1.hi.n ≤ 1000) (hlen : qd.length + st.length ≤ 10000) (h1 : v q.2.1 q.2.2 ≠ 1) (h0 : v q.2.1 q.2.2 ≠ 0) (hnm : q.1.lo.n = q.1.hi.n) (hsm1 : Bx.Small q.2.1) (hsm2 : Bx.Small q.2.2) (hw : ¬ Bx.widest q.2.1 q.2.2 < 0) (hm : most ≤ ((qd.length + (st.length + 1) : Nat) : Int)) :
    Calls Try.prog 37 #[.pointer (some ⟨S, 0, none⟩), .int .i64 most] W fun e w' => e = .returned (.int .i64 3) ∧ Below base W w' := by
  obtain ⟨hS1, hS2, c0, c1, c2, fS⟩ := h.sol
  obtain ⟨b, hA, hb1, hb2, hbS, hon, x0, x1, x2, fb⟩ := h.last
  have r1 := own_rd (h.row (q := q) (by simp)).1
  have r2 := own_rd (h.row (q := q) (by simp)).2
  have hsz0 := hB.size
  have C1 := Lib.hid (fun (X : World) (hX : Below (W.heap.size + 1) (boxW W q.1) X) => clone35 q.2.1 q.1.lo.a q.1.lo.n q.1.lo.c X (((r1.below ((Below.refl _ _).alloc (Nat.le_refl _) _) (Nat.le_refl _)).below hX (Nat.le_succ _)).more (by have := hX.size; simp at this; omega)) (by omega))
  have C2 := Lib.hid (fun (X : World) (hX : Below (W.heap.size + 1) (boxW W q.1) X) => clone35 q.2.2 q.1.hi.a q.1.hi.n q.1.hi.c X (((r2.below ((Below.refl _ _).alloc (Nat.le_refl _) _) (Nat.le_refl _)).below hX (Nat.le_succ _)).more (by have := hX.size; simp at this; omega)) (by omega))
  have CV := Lib.hid (fun (X : World) (u1 u2 : Sl) (hX : Below (W.heap.size + 1) (boxW W q.1) X) (hu1 : Rd X X.heap.size 1 u1.a u1.n (ints q.2.1)) (hu2 : Rd X X.heap.size 1 u2.a u2.n (ints q.2.2)) => hv X u1 u2 q.2.1 q.2.2 (Below.trans (Below.trans hB (((Below.refl _ _).alloc (Nat.le_refl _) _ : Below W.heap.size W (boxW W q.1)).mono hsz0)) (hX.mono (by omega))) hq hu1 hu2)
  have H := Lib.hid h
  have HON := Lib.hid hon
  have HA := Lib.hid hA
  have HC0 := Lib.hid c0
  have HR1 := Lib.hid r1
  have HR2 := Lib.hid r2
  have hix : ∀ W : World, Sem.run Try.prog (Instr.indexAt 26 (.slice o.a o.n o.c) (.int .i64 (st.length : Int))) W = .ok (.pointer (some ⟨b, st.length * 3, none⟩)) W := by
    intro W
    rw [hA, hon]
    go_simp
    intro h; omega
  have hl : IntKind.i64.wrap ((o.n : Int) - 1) = (st.length : Int) := by rw [hon, IntWalk.i64_left, IntWalk.wrap64_in _ (by omega)]; omega
  have HNM := Lib.hid hnm
  have HN1 := Lib.hid h1
  have HN0 := Lib.hid h0
  have t1 : (v q.2.1 q.2.2 == 1) = false := by simpa using h1
  have t2 : (v q.2.1 q.2.2 == 0) = false := by simpa using h0
  obtain ⟨T, hT⟩ : ∃ T : Int, T = ((qd.length + (st.length + 1) : Nat) : Int) := ⟨_, rfl⟩
  have hs : IntKind.i64.wrap ((d.n : Int) + (o.n : Int)) = T := by rw [h.dn, hon, IntWalk.i64_left, IntWalk.wrap64_in _ (by omega)]; omega
  have hs2 : wrap64 ((d.n : Int) + (o.n : Int)) = T := by rw [h.dn, hon, IntWalk.wrap64_in _ (by omega)]; omega
  have t3 : decide (Bx.widest q.2.1 q.2.2 < 0) = false := by simpa using hw
  have t4 : decide (most ≤ T) = true := by rw [hT]; simpa using hm
  clear hm hT hw
  clear h1 h0 hnm
  clear h hA r1 r2 hon hv hB hq
  go_enter Try.func37, Try.ntmps37
  go_upto_region 3 with (fail)
  go_cut [33] (fun s33 X => s33 = .int .i64 (v q.2.1 q.2.2) ∧ Hid (Below (W.heap.size + 1) (boxW W q.1) X))
  case first =>
    go_region_held3 (fun X => X.cell? ⟨S, 0, none⟩ = some (.func (.func g) #[] cb) ∧ X.cell? ⟨W.heap.size, 0, none⟩ = some (.slice q.1.lo.a q.1.lo.n q.1.lo.c) ∧ X.cell? ⟨W.heap.size, 1, none⟩ = some (.slice q.1.hi.a q.1.hi.n q.1.hi.c)) (simp [go_sem, *])
      (first
        | (go_at_call 35; (with_reducible refine (C2.out _ HB1).mono ?_); rintro e v2 ⟨u2, rfl, o2, h2⟩; have HB2 : Below (W.heap.size + 1) (boxW W q.1) v2 := Below.trans HB1 (h2.mono (by omega)); obtain ⟨c0, d0, d1, m2⟩ := step_cells HB2 hS2 HC0.out; have HU2 := Lib.hid (own_rd o2); replace HU1 := Lib.hid (HU1.out.up h2); clear h2)
        | (go_at_call 35; (with_reducible refine (C1.out _ HB1).mono ?_); rintro e v2 ⟨u1, rfl, o1, h2⟩; have HB2 : Below (W.heap.size + 1) (boxW W q.1) v2 := Below.trans HB1 (h2.mono (by omega)); obtain ⟨c0, d0, d1, m2⟩ := step_cells HB2 hS2 HC0.out; have HU2 := Lib.hid (own_rd o1); replace HU1 := Lib.hid (HU1.out.up h2); clear h2)
        | (go_at_call 35; (with_reducible refine (C1.out _ (by repeat (first | (with_reducible exact Below.refl _ _) | (with_reducible assumption) | ((with_reducible refine Below.setCell ?_ ?_ _); rotate_left; (focus (first | omega | (simp; omega) | (simp; done)))) | ((with_reducible refine Below.alloc ?_ ?_ _); rotate_left; (focus (first | omega | (simp; omega) | (simp; done)))) | (with_reducible refine Below.drew ?_)))).mono ?_); rintro e v1 ⟨u1, rfl, o1, h1⟩; have HB1 : Below (W.heap.size + 1) (boxW W q.1) v1 := Below.trans (by repeat (first | (with_reducible exact Below.refl _ _) | (with_reducible assumption) | ((with_reducible refine Below.setCell ?_ ?_ _); rotate_left; (focus (first | omega | (simp; omega) | (simp; done)))) | ((with_reducible refine Below.alloc ?_ ?_ _); rotate_left; (focus (first | omega | (simp; omega) | (simp; done)))) | (with_reducible refine Below.drew ?_))) (h1.mono (by first | omega | (simp; done) | (simp; omega))); obtain ⟨c0, d0, d1, m1⟩ := step_cells HB1 hS2 HC0.out; have HU1 := Lib.hid (own_rd o1); clear h1)
        | (go_at_call 35; (with_reducible refine (C2.out _ (by repeat (first | (with_reducible exact Below.refl _ _) | (with_reducible assumption) | ((with_reducible refine Below.setCell ?_ ?_ _); rotate_left; (focus (first | omega | (simp; omega) | (simp; done)))) | ((with_reducible refine Below.alloc ?_ ?_ _); rotate_left; (focus (first | omega | (simp; omega) | (simp; done)))) | (with_reducible refine Below.drew ?_)))).mono ?_); rintro e v1 ⟨u2, rfl, o2, h1⟩; have HB1 : Below (W.heap.size + 1) (boxW W q.1) v1 := Below.trans (by repeat (first | (with_reducible exact Below.refl _ _) | (with_reducible assumption) | ((with_reducible refine Below.setCell ?_ ?_ _); rotate_left; (focus (first | omega | (simp; omega) | (simp; done)))) | ((with_reducible refine Below.alloc ?_ ?_ _); rotate_left; (focus (first | omega | (simp; omega) | (simp; done)))) | (with_reducible refine Below.drew ?_))) (h1.mono (by first | omega | (simp; done) | (simp; omega))); obtain ⟨c0, d0, d1, m1⟩ := step_cells HB1 hS2 HC0.out; have HU1 := Lib.hid (own_rd o2); clear h1)
        | (go_at_fn g; (with_reducible refine (CV.out _ ⟨u1.a, q.1.lo.n, u1.c⟩ ⟨u2.a, q.1.hi.n, u2.c⟩ HB2 HU1.out HU2.out).mono ?_); rintro e v3 ⟨rfl, h3⟩; have HB3 : Below (W.heap.size + 1) (boxW W q.1) v3 := Below.trans HB2 (h3.mono (by omega)); obtain ⟨c0, d0, d1, m3⟩ := step_cells HB3 hS2 HC0.out; clear h3)
        | (go_at_fn g; (with_reducible refine (CV.out _ ⟨u1.a, q.1.lo.n, u1.c⟩ ⟨u2.a, q.1.hi.n, u2.c⟩ HB2 HU2.out HU1.out).mono ?_); rintro e v3 ⟨rfl, h3⟩; have HB3 : Below (W.heap.size + 1) (boxW W q.1) v3 := Below.trans HB2 (h3.mono (by omega)); obtain ⟨c0, d0, d1, m3⟩ := step_cells HB3 hS2 HC0.out; clear h3))
    all_goals (go_wp2_with fail; go_meet; exact ⟨rfl, Lib.hid HB3⟩)
  case rest =>
    obtain ⟨rfl, HX⟩ := hcut
    have hX1 := HX.out.size
    try simp at hX1
    have HW : Hid (Below W.heap.size W wc) := Lib.hid (((Below.refl _ _).alloc (Nat.le_refl _) _).trans (HX.out.mono (Nat.le_succ _)))
    have HB : Hid (BoxAt wc W.heap.size (bxL q.1)) := Lib.hid ((BoxAt.new W 44 (bxL q.1) _ rfl).below HX.out (Nat.lt_succ_self _))
    have HG : Hid (SolvG wc base S (.func (.func g) #[] cb) d o qd (q :: st).reverse (qd ++ q :: st)) := Lib.hid (H.out.keep HW.out)
    clear c0 c1 c2 fS x0 x1 x2 fb
    obtain ⟨_, _, c0, c1, c2, fS⟩ := HG.out.sol
    obtain ⟨_, hbx, fbx⟩ := HB.out
    have b0 := hbx 0 _ rfl
    have b1 := hbx 1 _ rfl
    have b2 := hbx 2 _ rfl
    clear hbx
    have nS : ¬ S = W.heap.size := by omega
    have nS2 : ¬ W.heap.size = S := by omega
    have hSw : S < wc.heap.size := by omega
    have CW := Lib.hid (widest57 q.1 q.2.1 q.2.2 wc (HR1.out.up HW.out) (HR2.out.up HW.out) HNM.out (by omega) hsm1 hsm2)
    go_wp2_with fail
    refine CW.out.mono ?_
    rintro e w5 ⟨rfl, h5⟩
    have hz5 := h5.size
    have HW5 : Hid (Below W.heap.size W w5) := Lib.hid (HW.out.trans (h5.mono HW.out.size))
    have HB5 : Hid (BoxAt w5 W.heap.size (bxL q.1)) := Lib.hid (HB.out.call h5)
    have HG5 : Hid (SolvG w5 base S (.func (.func g) #[] cb) d o qd (q :: st).reverse (qd ++ q :: st)) := Lib.hid (HG.out.below h5)
    clear h5 CW c0 c1 c2 fS b0 b1 b2 fbx HG HB HW HX CV
    obtain ⟨_, _, c0, c1, c2, fS⟩ := HG5.out.sol
    obtain ⟨_, hbx, fbx⟩ := HB5.out
    have b0 := hbx 0 _ rfl
    have b1 := hbx 1 _ rfl
    have b2 := hbx 2 _ rfl
    clear hbx
    have hSw5 : S < w5.heap.size := by omega
    go_wp2_with fail
    go_quiet (fail)
    go_wp2_with fail
    go_ret
    exact ⟨rfl, below_drewN (HW5.out.mono (by omega)) _⟩
end Go.Proofs.Ytcncobhdfflelaa
