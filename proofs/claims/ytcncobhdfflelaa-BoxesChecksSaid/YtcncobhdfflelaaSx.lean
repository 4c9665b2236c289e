/- The contract of the solver's step: it splits. -/
import Derived.Test.YtcncobhdfflelaaSb
import Derived.Test.YtcncobhdfflelaaSd
namespace Go.Proofs.Ytcncobhdfflelaa
open Go.RowKit

set_option linter.unusedSimpArgs false in
set_option linter.unusedVariables false in
set_option maxRecDepth 100000 in
set_option maxHeartbeats 6400000 in
theorem step37_cut (w0 : World) (base S g : Nat) (cb : Array Value) (v : List Int → List Int → Int) (D : Bx.Dm) (d o : Sl) (qd st : List BxM) (q : BxM) (most : Int) (W : World)
    (eg : ∀ args w, (callFunc g args).run Try.prog w = .ok (.enter g args) w) (hv : VerdAt w0 g cb v D) (hB : Below w0.heap.size w0 W) (hbase : w0.heap.size ≤ base)
    (h : SolvAt W base S (.func (.func g) #[] cb) d o qd (q :: st)) (hq : Bx.Sub D q.2) (hn1 : q.1.lo.n ≤ 1000) (hn2 : q.1.hi.n ≤ 1000) (hlen : qd.length + st.length ≤ 10000) (h1 : v q.2.1 q.2.2 ≠ 1) (h0 : v q.2.1 q.2.2 ≠ 0) (hnm : q.1.lo.n = q.1.hi.n) (hsm1 : Bx.Small q.2.1) (hsm2 : Bx.Small q.2.2) (hw : ¬ Bx.widest q.2.1 q.2.2 < 0) (hm : ¬ most ≤ ((qd.length + (st.length + 1) : Nat) : Int)) :
    Calls Try.prog 37 #[.pointer (some ⟨S, 0, none⟩), .int .i64 most] W fun e w' => e = .returned (.int .i64 0) ∧ CutPost W base S (.func (.func g) #[] cb) d qd st q w' := by
  obtain ⟨hS1, hS2, c0, c1, c2, fS⟩ := h.sol
  obtain ⟨b, hA, hb1, hb2, hbS, hon, x0, x1, x2, fb⟩ := h.last
  have r1 := own_rd (h.row (q := q) (by simp)).1
  have r2 := own_rd (h.row (q := q) (by simp)).2
  have hsz0 := hB.size
  have C1 := Lib.hid (fun (X : World) (hX : Below (W.heap.size + 1) (boxW W q.1) X) => clone35 q.2.1 q.1.lo.a q.1.lo.n q.1.lo.c X (((r1.below ((Below.refl _ _).alloc (Nat.le_refl _) _) (Nat.le_refl _)).below hX (Nat.le_succ _)).more (by have := hX.size; simp at this; omega)) (by omega))
  have C2 := Lib.hid (fun (X : World) (hX : Below (W.heap.size + 1) (boxW W q.1) X) => clone35 q.2.2 q.1.hi.a q.1.hi.n q.1.hi.c X (((r2.below ((Below.refl _ _).alloc (Nat.le_refl _) _) (Nat.le_refl _)).below hX (Nat.le_succ _)).more (by have := hX.size; simp at this; omega)) (by omega))
  have CV := Lib.hid (fun (X : World) (u1 u2 : Sl) (hX : Below (W.heap.size + 1) (boxW W q.1) X) (hu1 : Rd X X.heap.size 1 u1.a u1.n (ints q.2.1)) (hu2 : Rd X X.heap.size 1 u2.a u2.n (ints q.2.2)) => hv X u1 u2 q.2.1 q.2.2 (Below.trans (Below.trans hB (((Below.refl _ _).alloc (Nat.le_refl _) _ : Below W.heap.size W (boxW W q.1)).mono hsz0)) (hX.mono (by omega))) hq hu1 hu2)
  have H := Lib.hid h
  have HON := Lib.hid hon
  have HA := Lib.hid hA
  have HC0 := Lib.hid c0
  have HR1 := Lib.hid r1
  have HR2 := Lib.hid r2
  have hix : ∀ W : World, Sem.run Try.prog (Instr.indexAt 26 (.slice o.a o.n o.c) (.int .i64 (st.length : Int))) W = .ok (.pointer (some ⟨b, st.length * 3, none⟩)) W := by
    intro W
    rw [hA, hon]
    go_simp
    intro h; omega
  have hl : IntKind.i64.wrap ((o.n : Int) - 1) = (st.length : Int) := by rw [hon, IntWalk.i64_left, IntWalk.wrap64_in _ (by omega)]; omega
  have HNM := Lib.hid hnm
  have HN1 := Lib.hid h1
  have HN0 := Lib.hid h0
  have t1 : (v q.2.1 q.2.2 == 1) = false := by simpa using h1
  have t2 : (v q.2.1 q.2.2 == 0) = false := by simpa using h0
  obtain ⟨T, hT⟩ : ∃ T : Int, T = ((qd.length + (st.length + 1) : Nat) : Int) := ⟨_, rfl⟩
  have hs : IntKind.i64.wrap ((d.n : Int) + (o.n : Int)) = T := by rw [h.dn, hon, IntWalk.i64_left, IntWalk.wrap64_in _ (by omega)]; omega
  have hs2 : wrap64 ((d.n : Int) + (o.n : Int)) = T := by rw [h.dn, hon, IntWalk.wrap64_in _ (by omega)]; omega
  obtain ⟨x, y, hx, hy, hxy, hwi, hmd⟩ := Bx.widest_pos hw
  obtain ⟨i, hi⟩ : ∃ i, Bx.wI q.2 = i := ⟨_, rfl⟩
  rw [hi] at hx hy hwi hmd
  have hil : i < q.1.lo.n := by have := (List.getElem?_eq_some_iff.1 hx).1; have e := (h.row (q := q) (by simp)).1.1; rw [List.length_map] at e; omega
  have hih : i < q.1.hi.n := by omega
  have bx := hsm1 x (List.mem_of_getElem? hx)
  have by' := hsm2 y (List.mem_of_getElem? hy)
  have HI := Lib.hid hi
  have HWI := Lib.hid hwi
  have HX0 := Lib.hid hx
  have HY0 := Lib.hid hy
  have HMD := Lib.hid hmd
  have HHM := Lib.hid hm
  have HW0 := Lib.hid hw
  have t3 : decide ((i : Int) < 0) = false := by simp
  have t4 : decide (most ≤ T) = false := by rw [hT]; simpa using hm
  clear hm hT hw hi hwi hx hy hmd h1 h0 hnm
  clear h hA r1 r2 hon hv hB hq
  go_enter Try.func37, Try.ntmps37
  go_upto_region 3 with (fail)
  go_cut [33] (fun s33 X => s33 = .int .i64 (v q.2.1 q.2.2) ∧ Hid (Below (W.heap.size + 1) (boxW W q.1) X))
  case first =>
    go_region_held3 (fun X => X.cell? ⟨S, 0, none⟩ = some (.func (.func g) #[] cb) ∧ X.cell? ⟨W.heap.size, 0, none⟩ = some (.slice q.1.lo.a q.1.lo.n q.1.lo.c) ∧ X.cell? ⟨W.heap.size, 1, none⟩ = some (.slice q.1.hi.a q.1.hi.n q.1.hi.c)) (simp [go_sem, *])
      (first
        | (go_at_call 35; (with_reducible refine (C2.out _ HB1).mono ?_); rintro e v2 ⟨u2, rfl, o2, h2⟩; have HB2 : Below (W.heap.size + 1) (boxW W q.1) v2 := Below.trans HB1 (h2.mono (by omega)); obtain ⟨c0, d0, d1, m2⟩ := step_cells HB2 hS2 HC0.out; have HU2 := Lib.hid (own_rd o2); replace HU1 := Lib.hid (HU1.out.up h2); clear h2)
        | (go_at_call 35; (with_reducible refine (C1.out _ HB1).mono ?_); rintro e v2 ⟨u1, rfl, o1, h2⟩; have HB2 : Below (W.heap.size + 1) (boxW W q.1) v2 := Below.trans HB1 (h2.mono (by omega)); obtain ⟨c0, d0, d1, m2⟩ := step_cells HB2 hS2 HC0.out; have HU2 := Lib.hid (own_rd o1); replace HU1 := Lib.hid (HU1.out.up h2); clear h2)
        | (go_at_call 35; (with_reducible refine (C1.out _ (by repeat (first | (with_reducible exact Below.refl _ _) | (with_reducible assumption) | ((with_reducible refine Below.setCell ?_ ?_ _); rotate_left; (focus (first | omega | (simp; omega) | (simp; done)))) | ((with_reducible refine Below.alloc ?_ ?_ _); rotate_left; (focus (first | omega | (simp; omega) | (simp; done)))) | (with_reducible refine Below.drew ?_)))).mono ?_); rintro e v1 ⟨u1, rfl, o1, h1⟩; have HB1 : Below (W.heap.size + 1) (boxW W q.1) v1 := Below.trans (by repeat (first | (with_reducible exact Below.refl _ _) | (with_reducible assumption) | ((with_reducible refine Below.setCell ?_ ?_ _); rotate_left; (focus (first | omega | (simp; omega) | (simp; done)))) | ((with_reducible refine Below.alloc ?_ ?_ _); rotate_left; (focus (first | omega | (simp; omega) | (simp; done)))) | (with_reducible refine Below.drew ?_))) (h1.mono (by first | omega | (simp; done) | (simp; omega))); obtain ⟨c0, d0, d1, m1⟩ := step_cells HB1 hS2 HC0.out; have HU1 := Lib.hid (own_rd o1); clear h1)
        | (go_at_call 35; (with_reducible refine (C2.out _ (by repeat (first | (with_reducible exact Below.refl _ _) | (with_reducible assumption) | ((with_reducible refine Below.setCell ?_ ?_ _); rotate_left; (focus (first | omega | (simp; omega) | (simp; done)))) | ((with_reducible refine Below.alloc ?_ ?_ _); rotate_left; (focus (first | omega | (simp; omega) | (simp; done)))) | (with_reducible refine Below.drew ?_)))).mono ?_); rintro e v1 ⟨u2, rfl, o2, h1⟩; have HB1 : Below (W.heap.size + 1) (boxW W q.1) v1 := Below.trans (by repeat (first | (with_reducible exact Below.refl _ _) | (with_reducible assumption) | ((with_reducible refine Below.setCell ?_ ?_ _); rotate_left; (focus (first | omega | (simp; omega) | (simp; done)))) | ((with_reducible refine Below.alloc ?_ ?_ _); rotate_left; (focus (first | omega | (simp; omega) | (simp; done)))) | (with_reducible refine Below.drew ?_))) (h1.mono (by first | omega | (simp; done) | (simp; omega))); obtain ⟨c0, d0, d1, m1⟩ := step_cells HB1 hS2 HC0.out; have HU1 := Lib.hid (own_rd o2); clear h1)
        | (go_at_fn g; (with_reducible refine (CV.out _ ⟨u1.a, q.1.lo.n, u1.c⟩ ⟨u2.a, q.1.hi.n, u2.c⟩ HB2 HU1.out HU2.out).mono ?_); rintro e v3 ⟨rfl, h3⟩; have HB3 : Below (W.heap.size + 1) (boxW W q.1) v3 := Below.trans HB2 (h3.mono (by omega)); obtain ⟨c0, d0, d1, m3⟩ := step_cells HB3 hS2 HC0.out; clear h3)
        | (go_at_fn g; (with_reducible refine (CV.out _ ⟨u1.a, q.1.lo.n, u1.c⟩ ⟨u2.a, q.1.hi.n, u2.c⟩ HB2 HU2.out HU1.out).mono ?_); rintro e v3 ⟨rfl, h3⟩; have HB3 : Below (W.heap.size + 1) (boxW W q.1) v3 := Below.trans HB2 (h3.mono (by omega)); obtain ⟨c0, d0, d1, m3⟩ := step_cells HB3 hS2 HC0.out; clear h3))
    all_goals (go_wp2_with fail; go_meet; exact ⟨rfl, Lib.hid HB3⟩)
  case rest =>
    obtain ⟨rfl, HX⟩ := hcut
    have hX1 := HX.out.size
    try simp at hX1
    have HW : Hid (Below W.heap.size W wc) := Lib.hid (((Below.refl _ _).alloc (Nat.le_refl _) _).trans (HX.out.mono (Nat.le_succ _)))
    have HB : Hid (BoxAt wc W.heap.size (bxL q.1)) := Lib.hid ((BoxAt.new W 44 (bxL q.1) _ rfl).below HX.out (Nat.lt_succ_self _))
    have HG : Hid (SolvG wc base S (.func (.func g) #[] cb) d o qd (q :: st).reverse (qd ++ q :: st)) := Lib.hid (H.out.keep HW.out)
    clear c0 c1 c2 fS x0 x1 x2 fb
    obtain ⟨_, _, c0, c1, c2, fS⟩ := HG.out.sol
    obtain ⟨_, hbx, fbx⟩ := HB.out
    have b0 := hbx 0 _ rfl
    have b1 := hbx 1 _ rfl
    have b2 := hbx 2 _ rfl
    clear hbx
    have nS : ¬ S = W.heap.size := by omega
    have nS2 : ¬ W.heap.size = S := by omega
    have hSw : S < wc.heap.size := by omega
    have CW := Lib.hid (widest57 q.1 q.2.1 q.2.2 wc (HR1.out.up HW.out) (HR2.out.up HW.out) HNM.out (by omega) hsm1 hsm2)
    go_wp2_with fail
    refine CW.out.mono ?_
    rintro e w5 ⟨rfl, h5⟩
    have hz5 := h5.size
    have HW5 : Hid (Below W.heap.size W w5) := Lib.hid (HW.out.trans (h5.mono HW.out.size))
    have HB5 : Hid (BoxAt w5 W.heap.size (bxL q.1)) := Lib.hid (HB.out.call h5)
    have HG5 : Hid (SolvG w5 base S (.func (.func g) #[] cb) d o qd (q :: st).reverse (qd ++ q :: st)) := Lib.hid (HG.out.below h5)
    rw [HWI.out]
    clear h5 CW c0 c1 c2 fS b0 b1 b2 fbx HG HB HW HX CV
    obtain ⟨_, _, c0, c1, c2, fS⟩ := HG5.out.sol
    obtain ⟨_, hbx, fbx⟩ := HB5.out
    have b0 := hbx 0 _ rfl
    have b1 := hbx 1 _ rfl
    have b2 := hbx 2 _ rfl
    clear hbx
    have hSw5 : S < w5.heap.size := by omega
    obtain ⟨gl, x2, hAl, gl1, gl2, ex, hixl, cxl, fxl⟩ := own_num (HG5.out.row (q := q) (by simp)).1 hil
    obtain rfl : x = x2 := by have e := HX0.out; rw [ex] at e; injection e with e; exact e.symm
    obtain ⟨gh, y2, hAh, gh1, gh2, ey, hixh, cxh, fxh⟩ := own_num (HG5.out.row (q := q) (by simp)).2 hih
    obtain rfl : y = y2 := by have e := HY0.out; rw [ey] at e; injection e with e; exact e.symm
    have HAL := Lib.hid hAl
    have HAH := Lib.hid hAh
    clear hAl hAh ex ey
    obtain ⟨dd, hdd⟩ : ∃ dd, dd = y - x := ⟨_, rfl⟩
    have w1 : IntKind.i64.wrap (y - x) = dd := by rw [IntWalk.i64_left, IntWalk.wrap64_in _ (by omega)]; exact hdd.symm
    have w2 : wrap64 (y - x) = dd := by rw [IntWalk.wrap64_in _ (by omega)]; exact hdd.symm
    go_wp2_with fail
    go_quiet (fail)
    go_wp2_with fail
    go_quiet (fail)
    generalize hw6 : World.drewN (World.drewN w5 _) _ = w6
    have HW6 : Hid (Below W.heap.size W w6) := Lib.hid (by rw [← hw6]; exact below_drewN (below_drewN HW5.out _) _)
    have HB6 : Hid (BoxAt w6 W.heap.size (bxL q.1)) := Lib.hid (by rw [← hw6]; exact HB5.out)
    have HG6 : Hid (SolvG w6 base S (.func (.func g) #[] cb) d o qd (q :: st).reverse (qd ++ q :: st)) := Lib.hid (by rw [← hw6]; exact Rows.drewN (Rows.drewN HG5.out _) _)
    have hz6 : w5.heap.size ≤ w6.heap.size := by rw [← hw6]; exact Nat.le_refl _
    clear hw6 c0 c1 c2 fS b0 b1 b2 fbx HB5 HG5 HW5 cxl cxh fxl fxh
    have hW6 : W.heap.size < w6.heap.size := by omega
    have gl3 : gl < W.heap.size := own_lt (H.out.row (q := q) (by simp)).1 (by rw [HAL.out]; rfl)
    have nlS : ¬ gl = S := fun e => (HG6.out.neS (q := q) (by simp)).1 (by rw [HAL.out, ← e]; rfl)
    obtain ⟨m, hm⟩ : ∃ m, m = x + (y - x) / 2 := ⟨_, rfl⟩
    rw [← hm]
    have HM : Hid (m = Bx.midOf q.2 i) := Lib.hid (by rw [hm, HMD.out]; rfl)
    have hm1 : IntKind.i64.wrap (m + 1) = m + 1 := by rw [IntWalk.i64_left, IntWalk.wrap64_in _ (by omega)]
    have hm2 : wrap64 (m + 1) = m + 1 := by rw [IntWalk.wrap64_in _ (by omega)]
    have D1 := Lib.hid (fun (X : World) (hX : Below w6.heap.size w6 X) => clone35 q.2.1 q.1.lo.a q.1.lo.n q.1.lo.c X (((HR1.out.up HW6.out).up hX)) (by omega))
    have D2 := Lib.hid (fun (X : World) (hX : Below w6.heap.size w6 X) => clone35 q.2.2 q.1.hi.a q.1.hi.n q.1.hi.c X (((HR2.out.up HW6.out).up hX)) (by omega))
    obtain ⟨_, hbx, fbx⟩ := HB6.out
    have b0 := hbx 0 _ rfl
    have b1 := hbx 1 _ rfl
    clear hbx hm w1 w2 hdd dd
    go_upto_region 19 with (fail)
    go_cut [9] (fun s9 X => ∃ (Y : Nat) (u1 u2 : Sl), s9 = .pointer (some ⟨Y, 0, none⟩) ∧ Hid (NewBox w6 X Y q.1.lo.n q.1.hi.n u1 u2 (ints q.2.1) (ints q.2.2) (.slice u1.a q.1.lo.n u1.c) (.slice u2.a q.1.hi.n u2.c) (.bool false)))
    case first =>
      refine wp_region_held_drew (S := (fun X => X.cell? ⟨W.heap.size, 0, none⟩ = some (.slice q.1.lo.a q.1.lo.n q.1.lo.c) ∧ X.cell? ⟨W.heap.size, 1, none⟩ = some (.slice q.1.hi.a q.1.hi.n q.1.hi.c))) (by kernel_rfl) ?_ (fun hHeld => ?_)
      · simp [go_sem, *]
      refine wpAnyH_take (i := 0) (v := ?_) rfl (by kernel_rfl) (by kernel_rfl) (by kernel_rfl) (fun _ _ _ h => h) (Or.inl ⟨by rfl, ?_⟩) (by assumption) ?_
      rotate_left
      · intro w hSw; (try dsimp only at hSw); go_simp; (first | done | (with_reducible rfl))
      try simp only [Act.put, List.getElem_toArray, List.getElem_cons_succ, List.getElem_cons_zero, List.setIfInBounds_toArray, List.set_cons_zero, List.set_cons_succ]
      refine wpAnyH_take (i := 1) (v := ?_) rfl (by kernel_rfl) (by kernel_rfl) (by kernel_rfl) (fun _ _ _ h => h) (Or.inl ⟨by rfl, ?_⟩) (by assumption) ?_
      rotate_left
      · intro w hSw; (try dsimp only at hSw); go_simp; (first | done | (with_reducible rfl))
      try simp only [Act.put, List.getElem_toArray, List.getElem_cons_succ, List.getElem_cons_zero, List.setIfInBounds_toArray, List.set_cons_zero, List.set_cons_succ]
      refine wpAnyH_take (i := 3) (v := ?_) rfl (by kernel_rfl) (by kernel_rfl) (by kernel_rfl) (fun _ _ _ h => h) (Or.inl ⟨by rfl, ?_⟩) (by assumption) ?_
      rotate_left
      · intro w hSw; (try dsimp only at hSw); go_simp; (first | done | (with_reducible rfl))
      try simp only [Act.put, List.getElem_toArray, List.getElem_cons_succ, List.getElem_cons_zero, List.setIfInBounds_toArray, List.set_cons_zero, List.set_cons_succ]
      refine wpAnyH_take (i := 4) (v := ?_) rfl (by kernel_rfl) (by kernel_rfl) (by kernel_rfl) (fun _ _ _ h => h) (Or.inl ⟨by rfl, ?_⟩) (by assumption) ?_
      rotate_left
      · intro w hSw; (try dsimp only at hSw); go_simp; (first | done | (with_reducible rfl))
      try simp only [Act.put, List.getElem_toArray, List.getElem_cons_succ, List.getElem_cons_zero, List.setIfInBounds_toArray, List.set_cons_zero, List.set_cons_succ]
      refine wpAnyH_ready (rs := [2, 7]) (by kernel_rfl) (by simp) ?_
      refine AllReadyH.cons rfl (fun K hK => ?_) (AllReadyH.cons rfl (fun K hK => ?_) AllReadyH.nil)
      · go_simp
        refine (D1.out _ (by repeat (first | (with_reducible exact Below.refl _ _) | (with_reducible assumption) | ((with_reducible refine Below.setCell ?_ ?_ _); rotate_left; (focus (first | omega | (simp; omega) | (simp; done)))) | ((with_reducible refine Below.alloc ?_ ?_ _); rotate_left; (focus (first | omega | (simp; omega) | (simp; done)))) | (with_reducible refine Below.drew ?_)))).mono ?_
        rintro e v1 ⟨u1, rfl, o1, h1⟩
        have k1 := h1.size
        try simp at k1
        have HBv1 : Below w6.heap.size w6 v1 := Below.trans (by repeat (first | (with_reducible exact Below.refl _ _) | (with_reducible assumption) | ((with_reducible refine Below.setCell ?_ ?_ _); rotate_left; (focus (first | omega | (simp; omega) | (simp; done)))) | ((with_reducible refine Below.alloc ?_ ?_ _); rotate_left; (focus (first | omega | (simp; omega) | (simp; done)))) | (with_reducible refine Below.drew ?_))) (h1.mono (by first | omega | (simp; done) | (simp; omega)))
        have g1_0 : v1.cell? ⟨W.heap.size, 0, none⟩ = some (.slice q.1.lo.a q.1.lo.n q.1.lo.c) := (HBv1.cell (p := ⟨W.heap.size, 0, none⟩) hW6).trans b0
        have g1_1 : v1.cell? ⟨W.heap.size, 1, none⟩ = some (.slice q.1.hi.a q.1.hi.n q.1.hi.c) := (HBv1.cell (p := ⟨W.heap.size, 1, none⟩) hW6).trans b1
        have m1 : W.heap.size < v1.heap.size := by omega
        have O1 := Lib.hid o1
        have P1 := Lib.hid h1
        clear o1 h1
        refine hK.out _ _ ?_ (fun hHeld => ?_)
        · simp [go_sem, *]
        clear hK K
        try simp only [Act.put, List.getElem_toArray, List.getElem_cons_succ, List.getElem_cons_zero, List.setIfInBounds_toArray, List.set_cons_zero, List.set_cons_succ]
        refine wpAnyH_ready (rs := [5, 7]) (by kernel_rfl) (by simp) ?_
        refine AllReadyH.cons rfl (fun K hK => ?_) (AllReadyH.cons rfl (fun K hK => ?_) AllReadyH.nil)
        · go_simp
          refine (D2.out _ (by repeat (first | (with_reducible exact Below.refl _ _) | (with_reducible assumption) | ((with_reducible refine Below.setCell ?_ ?_ _); rotate_left; (focus (first | omega | (simp; omega) | (simp; done)))) | ((with_reducible refine Below.alloc ?_ ?_ _); rotate_left; (focus (first | omega | (simp; omega) | (simp; done)))) | (with_reducible refine Below.drew ?_)))).mono ?_
          rintro e v2 ⟨u2, rfl, o2, h2⟩
          have k2 := h2.size
          try simp at k2
          have HBv2 : Below w6.heap.size w6 v2 := Below.trans (by repeat (first | (with_reducible exact Below.refl _ _) | (with_reducible assumption) | ((with_reducible refine Below.setCell ?_ ?_ _); rotate_left; (focus (first | omega | (simp; omega) | (simp; done)))) | ((with_reducible refine Below.alloc ?_ ?_ _); rotate_left; (focus (first | omega | (simp; omega) | (simp; done)))) | (with_reducible refine Below.drew ?_))) (h2.mono (by first | omega | (simp; done) | (simp; omega)))
          have g2_0 : v2.cell? ⟨W.heap.size, 0, none⟩ = some (.slice q.1.lo.a q.1.lo.n q.1.lo.c) := (HBv2.cell (p := ⟨W.heap.size, 0, none⟩) hW6).trans b0
          have g2_1 : v2.cell? ⟨W.heap.size, 1, none⟩ = some (.slice q.1.hi.a q.1.hi.n q.1.hi.c) := (HBv2.cell (p := ⟨W.heap.size, 1, none⟩) hW6).trans b1
          have m2 : W.heap.size < v2.heap.size := by omega
          have O2 := Lib.hid o2
          have P2 := Lib.hid h2
          clear o2 h2
          refine hK.out _ _ ?_ (fun hHeld => ?_)
          · simp [go_sem, *]
          clear hK K
          try simp only [Act.put, List.getElem_toArray, List.getElem_cons_succ, List.getElem_cons_zero, List.setIfInBounds_toArray, List.set_cons_zero, List.set_cons_succ]
          refine wpAnyH_take (i := 6) (v := ?_) rfl (by kernel_rfl) (by kernel_rfl) (by kernel_rfl) (fun _ _ _ h => h) (Or.inl ⟨by rfl, ?_⟩) (by assumption) ?_
          rotate_left
          · intro w hSw; (try dsimp only at hSw); go_simp; (first | done | (with_reducible rfl))
          try simp only [Act.put, List.getElem_toArray, List.getElem_cons_succ, List.getElem_cons_zero, List.setIfInBounds_toArray, List.set_cons_zero, List.set_cons_succ]
          refine wpAnyH_ready (rs := [7]) (by kernel_rfl) (by simp) ?_
          refine AllReadyH.cons rfl (fun K hK => ?_) AllReadyH.nil
          go_simp
          refine hK.out _ _ ?_ (fun hHeld => ?_)
          · simp [go_sem, *]
          clear hK K
          try simp only [Act.put, List.getElem_toArray, List.getElem_cons_succ, List.getElem_cons_zero, List.setIfInBounds_toArray, List.set_cons_zero, List.set_cons_succ]
          refine wpAnyH_ready (rs := [8]) (by kernel_rfl) (by simp) ?_
          refine AllReadyH.cons rfl (fun K hK => ?_) AllReadyH.nil
          go_simp
          refine hK.out _ _ ?_ (fun hHeld => ?_)
          · simp [go_sem, *]
          clear hK K
          try simp only [Act.put, List.getElem_toArray, List.getElem_cons_succ, List.getElem_cons_zero, List.setIfInBounds_toArray, List.set_cons_zero, List.set_cons_succ]
          refine wpAnyH_done (by kernel_rfl) ?_ _
          go_wp2_with fail
          go_meet
          exact ⟨_, u1, u2, rfl, Lib.hid (NewBox.of_drew (new_c O1.out P1.out O2.out P2.out))⟩
        · go_simp
          refine hK.out _ _ ?_ (fun hHeld => ?_)
          · simp [go_sem, *]
          clear hK K
          try simp only [Act.put, List.getElem_toArray, List.getElem_cons_succ, List.getElem_cons_zero, List.setIfInBounds_toArray, List.set_cons_zero, List.set_cons_succ]
          refine wpAnyH_ready (rs := [5]) (by kernel_rfl) (by simp) ?_
          refine AllReadyH.cons rfl (fun K hK => ?_) AllReadyH.nil
          go_simp
          refine (D2.out _ (by repeat (first | (with_reducible exact Below.refl _ _) | (with_reducible assumption) | ((with_reducible refine Below.setCell ?_ ?_ _); rotate_left; (focus (first | omega | (simp; omega) | (simp; done)))) | ((with_reducible refine Below.alloc ?_ ?_ _); rotate_left; (focus (first | omega | (simp; omega) | (simp; done)))) | (with_reducible refine Below.drew ?_)))).mono ?_
          rintro e v2 ⟨u2, rfl, o2, h2⟩
          have k2 := h2.size
          try simp at k2
          have HBv2 : Below w6.heap.size w6 v2 := Below.trans (by repeat (first | (with_reducible exact Below.refl _ _) | (with_reducible assumption) | ((with_reducible refine Below.setCell ?_ ?_ _); rotate_left; (focus (first | omega | (simp; omega) | (simp; done)))) | ((with_reducible refine Below.alloc ?_ ?_ _); rotate_left; (focus (first | omega | (simp; omega) | (simp; done)))) | (with_reducible refine Below.drew ?_))) (h2.mono (by first | omega | (simp; done) | (simp; omega)))
          have g2_0 : v2.cell? ⟨W.heap.size, 0, none⟩ = some (.slice q.1.lo.a q.1.lo.n q.1.lo.c) := (HBv2.cell (p := ⟨W.heap.size, 0, none⟩) hW6).trans b0
          have g2_1 : v2.cell? ⟨W.heap.size, 1, none⟩ = some (.slice q.1.hi.a q.1.hi.n q.1.hi.c) := (HBv2.cell (p := ⟨W.heap.size, 1, none⟩) hW6).trans b1
          have m2 : W.heap.size < v2.heap.size := by omega
          have O2 := Lib.hid o2
          have P2 := Lib.hid h2
          clear o2 h2
          refine hK.out _ _ ?_ (fun hHeld => ?_)
          · simp [go_sem, *]
          clear hK K
          try simp only [Act.put, List.getElem_toArray, List.getElem_cons_succ, List.getElem_cons_zero, List.setIfInBounds_toArray, List.set_cons_zero, List.set_cons_succ]
          refine wpAnyH_take (i := 6) (v := ?_) rfl (by kernel_rfl) (by kernel_rfl) (by kernel_rfl) (fun _ _ _ h => h) (Or.inl ⟨by rfl, ?_⟩) (by assumption) ?_
          rotate_left
          · intro w hSw; (try dsimp only at hSw); go_simp; (first | done | (with_reducible rfl))
          try simp only [Act.put, List.getElem_toArray, List.getElem_cons_succ, List.getElem_cons_zero, List.setIfInBounds_toArray, List.set_cons_zero, List.set_cons_succ]
          obtain ⟨z0, z1, z2, hy⟩ := (pre_b O1.out P1.out O2.out P2.out).bx
          have y0 : v2.cell? ⟨v1.heap.size, 0, none⟩ = some z0 := hy.2.1 0 _ rfl
          have z0_ : v2.frozen? ⟨v1.heap.size, 0, none⟩ = false := hy.2.2 0
          have y1 : v2.cell? ⟨v1.heap.size, 1, none⟩ = some z1 := hy.2.1 1 _ rfl
          have z1_ : v2.frozen? ⟨v1.heap.size, 1, none⟩ = false := hy.2.2 1
          have y2 : v2.cell? ⟨v1.heap.size, 2, none⟩ = some z2 := hy.2.1 2 _ rfl
          have z2_ : v2.frozen? ⟨v1.heap.size, 2, none⟩ = false := hy.2.2 2
          clear hy
          refine wpAnyH_ready (rs := [8]) (by kernel_rfl) (by simp) ?_
          refine AllReadyH.cons rfl (fun K hK => ?_) AllReadyH.nil
          go_simp
          refine hK.out _ _ ?_ (fun hHeld => ?_)
          · simp [go_sem, *]
          clear hK K
          try simp only [Act.put, List.getElem_toArray, List.getElem_cons_succ, List.getElem_cons_zero, List.setIfInBounds_toArray, List.set_cons_zero, List.set_cons_succ]
          refine wpAnyH_done (by kernel_rfl) ?_ _
          go_wp2_with fail
          go_meet
          exact ⟨_, u1, u2, rfl, Lib.hid (NewBox.of_drew (Pre.store (pre_b O1.out P1.out O2.out P2.out) _ _ _))⟩
      · go_simp
        refine hK.out _ _ ?_ (fun hHeld => ?_)
        · simp [go_sem, *]
        clear hK K
        try simp only [Act.put, List.getElem_toArray, List.getElem_cons_succ, List.getElem_cons_zero, List.setIfInBounds_toArray, List.set_cons_zero, List.set_cons_succ]
        refine wpAnyH_ready (rs := [2]) (by kernel_rfl) (by simp) ?_
        refine AllReadyH.cons rfl (fun K hK => ?_) AllReadyH.nil
        go_simp
        refine (D1.out _ (by repeat (first | (with_reducible exact Below.refl _ _) | (with_reducible assumption) | ((with_reducible refine Below.setCell ?_ ?_ _); rotate_left; (focus (first | omega | (simp; omega) | (simp; done)))) | ((with_reducible refine Below.alloc ?_ ?_ _); rotate_left; (focus (first | omega | (simp; omega) | (simp; done)))) | (with_reducible refine Below.drew ?_)))).mono ?_
        rintro e v1 ⟨u1, rfl, o1, h1⟩
        have k1 := h1.size
        try simp at k1
        have HBv1 : Below w6.heap.size w6 v1 := Below.trans (by repeat (first | (with_reducible exact Below.refl _ _) | (with_reducible assumption) | ((with_reducible refine Below.setCell ?_ ?_ _); rotate_left; (focus (first | omega | (simp; omega) | (simp; done)))) | ((with_reducible refine Below.alloc ?_ ?_ _); rotate_left; (focus (first | omega | (simp; omega) | (simp; done)))) | (with_reducible refine Below.drew ?_))) (h1.mono (by first | omega | (simp; done) | (simp; omega)))
        have g1_0 : v1.cell? ⟨W.heap.size, 0, none⟩ = some (.slice q.1.lo.a q.1.lo.n q.1.lo.c) := (HBv1.cell (p := ⟨W.heap.size, 0, none⟩) hW6).trans b0
        have g1_1 : v1.cell? ⟨W.heap.size, 1, none⟩ = some (.slice q.1.hi.a q.1.hi.n q.1.hi.c) := (HBv1.cell (p := ⟨W.heap.size, 1, none⟩) hW6).trans b1
        have m1 : W.heap.size < v1.heap.size := by omega
        have O1 := Lib.hid o1
        have P1 := Lib.hid h1
        clear o1 h1
        refine hK.out _ _ ?_ (fun hHeld => ?_)
        · simp [go_sem, *]
        clear hK K
        try simp only [Act.put, List.getElem_toArray, List.getElem_cons_succ, List.getElem_cons_zero, List.setIfInBounds_toArray, List.set_cons_zero, List.set_cons_succ]
        refine wpAnyH_ready (rs := [5]) (by kernel_rfl) (by simp) ?_
        refine AllReadyH.cons rfl (fun K hK => ?_) AllReadyH.nil
        go_simp
        refine (D2.out _ (by repeat (first | (with_reducible exact Below.refl _ _) | (with_reducible assumption) | ((with_reducible refine Below.setCell ?_ ?_ _); rotate_left; (focus (first | omega | (simp; omega) | (simp; done)))) | ((with_reducible refine Below.alloc ?_ ?_ _); rotate_left; (focus (first | omega | (simp; omega) | (simp; done)))) | (with_reducible refine Below.drew ?_)))).mono ?_
        rintro e v2 ⟨u2, rfl, o2, h2⟩
        have k2 := h2.size
        try simp at k2
        have HBv2 : Below w6.heap.size w6 v2 := Below.trans (by repeat (first | (with_reducible exact Below.refl _ _) | (with_reducible assumption) | ((with_reducible refine Below.setCell ?_ ?_ _); rotate_left; (focus (first | omega | (simp; omega) | (simp; done)))) | ((with_reducible refine Below.alloc ?_ ?_ _); rotate_left; (focus (first | omega | (simp; omega) | (simp; done)))) | (with_reducible refine Below.drew ?_))) (h2.mono (by first | omega | (simp; done) | (simp; omega)))
        have g2_0 : v2.cell? ⟨W.heap.size, 0, none⟩ = some (.slice q.1.lo.a q.1.lo.n q.1.lo.c) := (HBv2.cell (p := ⟨W.heap.size, 0, none⟩) hW6).trans b0
        have g2_1 : v2.cell? ⟨W.heap.size, 1, none⟩ = some (.slice q.1.hi.a q.1.hi.n q.1.hi.c) := (HBv2.cell (p := ⟨W.heap.size, 1, none⟩) hW6).trans b1
        have m2 : W.heap.size < v2.heap.size := by omega
        have O2 := Lib.hid o2
        have P2 := Lib.hid h2
        clear o2 h2
        refine hK.out _ _ ?_ (fun hHeld => ?_)
        · simp [go_sem, *]
        clear hK K
        try simp only [Act.put, List.getElem_toArray, List.getElem_cons_succ, List.getElem_cons_zero, List.setIfInBounds_toArray, List.set_cons_zero, List.set_cons_succ]
        refine wpAnyH_take (i := 6) (v := ?_) rfl (by kernel_rfl) (by kernel_rfl) (by kernel_rfl) (fun _ _ _ h => h) (Or.inl ⟨by rfl, ?_⟩) (by assumption) ?_
        rotate_left
        · intro w hSw; (try dsimp only at hSw); go_simp; (first | done | (with_reducible rfl))
        try simp only [Act.put, List.getElem_toArray, List.getElem_cons_succ, List.getElem_cons_zero, List.setIfInBounds_toArray, List.set_cons_zero, List.set_cons_succ]
        obtain ⟨z0, z1, z2, hy⟩ := (pre_d O1.out P1.out O2.out P2.out).bx
        have y0 : v2.cell? ⟨w6.heap.size, 0, none⟩ = some z0 := hy.2.1 0 _ rfl
        have z0_ : v2.frozen? ⟨w6.heap.size, 0, none⟩ = false := hy.2.2 0
        have y1 : v2.cell? ⟨w6.heap.size, 1, none⟩ = some z1 := hy.2.1 1 _ rfl
        have z1_ : v2.frozen? ⟨w6.heap.size, 1, none⟩ = false := hy.2.2 1
        have y2 : v2.cell? ⟨w6.heap.size, 2, none⟩ = some z2 := hy.2.1 2 _ rfl
        have z2_ : v2.frozen? ⟨w6.heap.size, 2, none⟩ = false := hy.2.2 2
        clear hy
        refine wpAnyH_ready (rs := [8]) (by kernel_rfl) (by simp) ?_
        refine AllReadyH.cons rfl (fun K hK => ?_) AllReadyH.nil
        go_simp
        refine hK.out _ _ ?_ (fun hHeld => ?_)
        · simp [go_sem, *]
        clear hK K
        try simp only [Act.put, List.getElem_toArray, List.getElem_cons_succ, List.getElem_cons_zero, List.setIfInBounds_toArray, List.set_cons_zero, List.set_cons_succ]
        refine wpAnyH_done (by kernel_rfl) ?_ _
        go_wp2_with fail
        go_meet
        exact ⟨_, u1, u2, rfl, Lib.hid (Pre.store (pre_d O1.out P1.out O2.out P2.out) _ _ _)⟩
    case rest =>
      obtain ⟨Y, u1, u2, rfl, HN⟩ := hcut
      have HGf := Lib.hid (HG6.out.fresh (by omega) HN.out)
      have hzN := HN.out.bl.size
      have hYw := HN.out.hY
      have hYx := HN.out.bx.1
      have HBf : Hid (BoxAt wc W.heap.size (bxL q.1)) := Lib.hid (HB6.out.below HN.out.bl hW6)
      obtain ⟨g2, y3, hA2, g21, g22, ey, hix2, cx2, fx2⟩ := own_num HN.out.o2 hih
      obtain rfl : y = y3 := by have e := HY0.out; rw [ey] at e; injection e with e; exact e.symm
      have HA2 := Lib.hid hA2
      have n2Y : ¬ g2 = Y := fun e => HN.out.y2 (by rw [hA2, e]; rfl)
      have cxl : wc.cell? ⟨gl, i, none⟩ = some (.int .i64 x) := by
        obtain ⟨gq, xq, hAq, _, _, exq, _, cxq, _⟩ := own_num (HGf.out.row (q := q) (by simp)).1 hil
        rw [HAL.out] at hAq; injection hAq with hAq; injection hAq with hAq; subst hAq
        have e := HX0.out; rw [exq] at e; injection e with e; rw [← e]; exact cxq
      have fxl : ∀ j, wc.frozen? ⟨gl, j, none⟩ = false := by
        obtain ⟨gq, xq, hAq, _, _, exq, _, _, fxq⟩ := own_num (HGf.out.row (q := q) (by simp)).1 hil
        rw [HAL.out] at hAq; injection hAq with hAq; injection hAq with hAq; subst hAq
        exact fxq
      have e0 := HN.out.bx.2.1 0 _ rfl
      have e1 := HN.out.bx.2.1 1 _ rfl
      have e2 := HN.out.bx.2.1 2 _ rfl
      clear ey hA2 b0 b1 fbx
      obtain ⟨_, hbx, fbx⟩ := HBf.out
      have b0 := hbx 0 _ rfl
      have b1 := hbx 1 _ rfl
      have b2 := hbx 2 _ rfl
      clear hbx
      have q1 : ¬ g2 = W.heap.size := by omega
      have q2 : ¬ W.heap.size = g2 := by omega
      have q3 : ¬ gl = g2 := by omega
      have q4 : ¬ g2 = gl := by omega
      have q5 : ¬ gl = W.heap.size := by omega
      have q6 : ¬ W.heap.size = gl := by omega
      have q7 : ¬ Y = gl := by omega
      have q8 : ¬ gl = Y := by omega
      have q9 : ¬ Y = g2 := fun e => n2Y e.symm
      go_upto_region 22 with (fail)
      obtain ⟨w7, hw7⟩ : ∃ X, X = (wc.setCell ⟨g2, i, none⟩ (.int .i64 m)).setCell ⟨gl, i, none⟩ (.int .i64 (m + 1)) := ⟨_, rfl⟩
      obtain ⟨q1m, hq1m⟩ : ∃ p : BxM, p = (⟨⟨u1.a, q.1.lo.n, u1.c⟩, ⟨u2.a, q.1.hi.n, u2.c⟩, false⟩, q.2.1, q.2.2.set i m) := ⟨_, rfl⟩
      have HG7 : Hid (SolvG w7 base S (.func (.func g) #[] cb) d o qd (q :: st).reverse (qd ++ q1m :: (q.1, q.2.1.set i (m + 1), q.2.2) :: st)) := Lib.hid (by rw [hw7, hq1m]; exact SolvG.setLo (SolvG.setHi HGf.out HA2.out) HAL.out)
      have HB7 : Hid (BoxAt w7 W.heap.size (bxL q.1)) := Lib.hid (by rw [hw7]; exact (HBf.out.setOther _ _ q1).setOther _ _ q5)
      have HY7 : Hid (BoxAt w7 Y [.slice u1.a q.1.lo.n u1.c, .slice u2.a q.1.hi.n u2.c, .bool false]) := Lib.hid (by rw [hw7]; exact (HN.out.bx.setOther _ _ n2Y).setOther _ _ q8)
      have HL7 : Hid (Below base W w7) := Lib.hid (by rw [hw7]; exact ((((HW6.out.trans (HN.out.bl.mono (by omega))).mono (by omega)).setCell (show base ≤ g2 by omega) _).setCell (show base ≤ gl from gl1) _))
      have hz7 : W.heap.size < w7.heap.size ∧ w6.heap.size ≤ w7.heap.size ∧ Y < w7.heap.size := by rw [hw7]; simp; omega
      have HQ1 : Hid (q1m.2 = Bx.cutLo q.2 (Bx.wI q.2) ∧ q1m.1.holds = false ∧ q1m.1.lo.n = q.1.lo.n ∧ q1m.1.hi.n = q.1.hi.n ∧ bxL q1m.1 = [.slice u1.a q.1.lo.n u1.c, .slice u2.a q.1.hi.n u2.c, .bool false]) := Lib.hid (by rw [hq1m, HI.out]; refine ⟨?_, rfl, rfl, rfl, rfl⟩; show _ = (q.2.1, q.2.2.set i (Bx.midOf q.2 i)); rw [← HM.out])
      have HQ2 : Hid ((q.2.1.set i (m + 1), q.2.2) = Bx.cutHi q.2 (Bx.wI q.2)) := Lib.hid (by rw [HI.out]; show _ = (q.2.1.set i (Bx.midOf q.2 i + 1), q.2.2); rw [← HM.out])
      rw [← hw7]
      clear hw7 hq1m HGf HBf HN cxl fxl cx2 fx2 e0 e1 e2 b0 b1 b2 fbx hix2
      obtain ⟨hz71, hz72, hz73⟩ := hz7
      obtain ⟨_, hS7, c0, c1, c2, fS⟩ := HG7.out.sol
      obtain ⟨_, hbx, fbx⟩ := HB7.out
      have b0 := hbx 0 _ rfl
      have b1 := hbx 1 _ rfl
      have b2 := hbx 2 _ rfl
      clear hbx
      have HO7 := HG7.out.opn
      rw [HA.out] at HO7
      have hlc := last_cells q st
      have x0 : w7.cell? ⟨b, st.length * 3, none⟩ = _ := (HO7.cellAt (st.length * 3) (by rw [HON.out]; omega)).trans hlc.1
      have x1 : w7.cell? ⟨b, st.length * 3 + 1, none⟩ = _ := (HO7.cellAt (st.length * 3 + 1) (by rw [HON.out]; omega)).trans hlc.2.1
      have x2 : w7.cell? ⟨b, st.length * 3 + 2, none⟩ = _ := (HO7.cellAt (st.length * 3 + 2) (by rw [HON.out]; omega)).trans hlc.2.2
      have fb : ∀ j, w7.frozen? ⟨b, j, none⟩ = false := fun j => HO7.frozenAt j
      have p1 : ¬ b = W.heap.size := by omega
      have p2 : ¬ W.heap.size = b := by omega
      have p3 : ¬ S = b := fun e => hbS e.symm
      clear HO7 hlc
      refine wp_region_held_drew (S := (fun X => X.cell? ⟨S, 2, none⟩ = some (.slice o.a o.n o.c) ∧ X.cell? ⟨W.heap.size, 0, none⟩ = some (.slice q.1.lo.a q.1.lo.n q.1.lo.c) ∧ X.cell? ⟨W.heap.size, 1, none⟩ = some (.slice q.1.hi.a q.1.hi.n q.1.hi.c) ∧ X.cell? ⟨W.heap.size, 2, none⟩ = some (.bool q.1.holds))) (by kernel_rfl) ?_ (fun hHeld => ?_)
      · simp [go_sem, *]
      refine wpAnyH_take (i := 0) (v := ?_) rfl (by kernel_rfl) (by kernel_rfl) (by kernel_rfl) (fun _ _ _ h => h) (Or.inl ⟨by rfl, ?_⟩) (by assumption) ?_
      rotate_left
      · intro w hSw; (try dsimp only at hSw); go_simp; (first | done | (with_reducible rfl))
      try simp only [Act.put, List.getElem_toArray, List.getElem_cons_succ, List.getElem_cons_zero, List.setIfInBounds_toArray, List.set_cons_zero, List.set_cons_succ]
      refine wpAnyH_take (i := 1) (v := ?_) rfl (by kernel_rfl) (by kernel_rfl) (by kernel_rfl) (fun _ _ _ h => h) (Or.inl ⟨by rfl, ?_⟩) (by assumption) ?_
      rotate_left
      · intro w hSw; (try dsimp only at hSw); go_simp; (first | done | (with_reducible rfl))
      try simp only [Act.put, List.getElem_toArray, List.getElem_cons_succ, List.getElem_cons_zero, List.setIfInBounds_toArray, List.set_cons_zero, List.set_cons_succ]
      refine wpAnyH_take (i := 2) (v := ?_) rfl (by kernel_rfl) (by kernel_rfl) (by kernel_rfl) (fun _ _ _ h => h) (Or.inl ⟨by rfl, ?_⟩) (by assumption) ?_
      rotate_left
      · intro w hSw; (try dsimp only at hSw); go_simp; (first | done | (with_reducible rfl))
      try simp only [Act.put, List.getElem_toArray, List.getElem_cons_succ, List.getElem_cons_zero, List.setIfInBounds_toArray, List.set_cons_zero, List.set_cons_succ]
      refine wpAnyH_take (i := 3) (v := ?_) rfl (by kernel_rfl) (by kernel_rfl) (by kernel_rfl) (fun _ _ _ h => h) (Or.inl ⟨by rfl, ?_⟩) (by assumption) ?_
      rotate_left
      · intro w hSw; (try dsimp only at hSw); go_simp; (first | done | (with_reducible rfl))
      try simp only [Act.put, List.getElem_toArray, List.getElem_cons_succ, List.getElem_cons_zero, List.setIfInBounds_toArray, List.set_cons_zero, List.set_cons_succ]
      refine wpAnyH_take (i := 4) (v := ?_) rfl (by kernel_rfl) (by kernel_rfl) (by kernel_rfl) (fun _ _ _ h => h) (Or.inl ⟨by rfl, ?_⟩) (by assumption) ?_
      rotate_left
      · intro w hSw; (try dsimp only at hSw); go_simp; (first | done | (with_reducible rfl))
      try simp only [Act.put, List.getElem_toArray, List.getElem_cons_succ, List.getElem_cons_zero, List.setIfInBounds_toArray, List.set_cons_zero, List.set_cons_succ]
      refine wpAnyH_take (i := 5) (v := ?_) rfl (by kernel_rfl) (by kernel_rfl) (by kernel_rfl) (fun _ _ _ h => h) (Or.inl ⟨by rfl, ?_⟩) (by assumption) ?_
      rotate_left
      · intro w hSw; (try dsimp only at hSw); go_simp; (first | done | (with_reducible rfl))
      try simp only [Act.put, List.getElem_toArray, List.getElem_cons_succ, List.getElem_cons_zero, List.setIfInBounds_toArray, List.set_cons_zero, List.set_cons_succ]
      refine wpAnyH_take (i := 6) (v := ?_) rfl (by kernel_rfl) (by kernel_rfl) (by kernel_rfl) (fun _ _ _ h => h) (Or.inl ⟨by rfl, ?_⟩) (by assumption) ?_
      rotate_left
      · intro w hSw; (try dsimp only at hSw); go_simp; (first | done | (with_reducible rfl))
      try simp only [Act.put, List.getElem_toArray, List.getElem_cons_succ, List.getElem_cons_zero, List.setIfInBounds_toArray, List.set_cons_zero, List.set_cons_succ]
      refine wpAnyH_ready (rs := [7]) (by kernel_rfl) (by simp) ?_
      refine AllReadyH.cons rfl (fun K hK => ?_) AllReadyH.nil
      go_simp
      refine hK.out _ _ ?_ (fun hHeld => ?_)
      · simp [go_sem, *]
      clear hK K
      try simp only [Act.put, List.getElem_toArray, List.getElem_cons_succ, List.getElem_cons_zero, List.setIfInBounds_toArray, List.set_cons_zero, List.set_cons_succ]
      refine wpAnyH_done (by kernel_rfl) ?_ _
      obtain ⟨w8, hw8⟩ : ∃ X, X = (((w7.setCell ⟨b, st.length * 3, none⟩ (.slice q.1.lo.a q.1.lo.n q.1.lo.c)).setCell ⟨b, st.length * 3 + 1, none⟩ (.slice q.1.hi.a q.1.hi.n q.1.hi.c)).setCell ⟨b, st.length * 3 + 2, none⟩ (.bool q.1.holds)).drew := ⟨_, rfl⟩
      have HG8 : Hid (SolvG w8 base S (.func (.func g) #[] cb) d o qd (q :: st).reverse (qd ++ q1m :: (q.1, q.2.1.set i (m + 1), q.2.2) :: st)) := Lib.hid (by rw [hw8]; exact Rows.drew (SolvG.same (SolvG.same (SolvG.same HG7.out HA.out (last_cells q st).1) HA.out (last_cells q st).2.1) HA.out (last_cells q st).2.2))
      have p4 : ¬ b = Y := by omega
      have HY8 : Hid (BoxAt w8 Y [.slice u1.a q.1.lo.n u1.c, .slice u2.a q.1.hi.n u2.c, .bool false]) := Lib.hid (by rw [hw8]; exact ((HY7.out.setOther _ _ p4).setOther _ _ p4).setOther _ _ p4)
      have HL8 : Hid (Below base W w8) := Lib.hid (by rw [hw8]; exact (((HL7.out.setCell hb1 _).setCell hb1 _).setCell hb1 _).drew)
      have hz8 : w7.heap.size ≤ w8.heap.size := by rw [hw8]; simp
      rw [← hw8]
      clear hw8 hHeld HG7 HY7 HL7 HB7 c0 c1 c2 fS b0 b1 b2 fbx x0 x1 x2 fb
      obtain ⟨_, _, c0, c1, c2, fS⟩ := HG8.out.sol
      obtain ⟨_, hbx, fbx⟩ := HY8.out
      have b0 := hbx 0 _ rfl
      have b1 := hbx 1 _ rfl
      have b2 := hbx 2 _ rfl
      clear hbx
      have hSb : S < w8.heap.size := by omega
      have hYb : Y < w8.heap.size := by omega
      have nYS : ¬ Y = S := by omega
      have nSY : ¬ S = Y := by omega
      obtain ⟨i4, hi4, hz40, hz41, hz42⟩ := info_parts info44
      have nD : (Value.slice o.a o.n o.c).ownBlock ≠ some Y := by rw [HA.out]; simp [Value.ownBlock]; omega
      go_upto_region 23 with (fail)
      refine wp_region_held_drew (S := (fun X => X.cell? ⟨Y, 0, none⟩ = some (.slice u1.a q.1.lo.n u1.c) ∧ X.cell? ⟨Y, 1, none⟩ = some (.slice u2.a q.1.hi.n u2.c) ∧ X.cell? ⟨Y, 2, none⟩ = some (.bool false))) (by kernel_rfl) ?_ (fun hHeld => ?_)
      · simp [go_sem, *]
      refine wpAnyH_take (i := 0) (v := ?_) rfl (by kernel_rfl) (by kernel_rfl) (by kernel_rfl) (fun _ _ _ h => h) (Or.inl ⟨by rfl, ?_⟩) (by assumption) ?_
      rotate_left
      · intro w hSw; (try dsimp only at hSw); go_simp; (first | done | (with_reducible rfl))
      try simp only [Act.put, List.getElem_toArray, List.getElem_cons_succ, List.getElem_cons_zero, List.setIfInBounds_toArray, List.set_cons_zero, List.set_cons_succ]
      refine wpAnyH_take (i := 1) (v := ?_) rfl (by kernel_rfl) (by kernel_rfl) (by kernel_rfl) (fun _ _ _ h => h) (Or.inl ⟨by rfl, ?_⟩) (by assumption) ?_
      rotate_left
      · intro w hSw; (try dsimp only at hSw); go_simp; (first | done | (with_reducible rfl))
      try simp only [Act.put, List.getElem_toArray, List.getElem_cons_succ, List.getElem_cons_zero, List.setIfInBounds_toArray, List.set_cons_zero, List.set_cons_succ]
      refine wpAnyH_take (i := 2) (v := ?_) rfl (by kernel_rfl) (by kernel_rfl) (by kernel_rfl) (fun _ _ _ h => h) (Or.inl ⟨by rfl, ?_⟩) (by assumption) ?_
      rotate_left
      · intro w hSw; (try dsimp only at hSw); go_simp; (first | done | (with_reducible rfl))
      try simp only [Act.put, List.getElem_toArray, List.getElem_cons_succ, List.getElem_cons_zero, List.setIfInBounds_toArray, List.set_cons_zero, List.set_cons_succ]
      refine wpAnyH_take (i := 3) (v := ?_) rfl (by kernel_rfl) (by kernel_rfl) (by kernel_rfl) (fun _ _ _ h => h) (Or.inl ⟨by rfl, ?_⟩) (by assumption) ?_
      rotate_left
      · intro w hSw; (try dsimp only at hSw); go_simp; (first | done | (with_reducible rfl))
      try simp only [Act.put, List.getElem_toArray, List.getElem_cons_succ, List.getElem_cons_zero, List.setIfInBounds_toArray, List.set_cons_zero, List.set_cons_succ]
      refine wpAnyH_take (i := 5) (v := ?_) rfl (by kernel_rfl) (by kernel_rfl) (by kernel_rfl) (fun _ _ _ h => h) (Or.inl ⟨by rfl, ?_⟩) (by assumption) ?_
      rotate_left
      · intro w hSw; (try dsimp only at hSw); go_simp; (first | done | (with_reducible rfl))
      try simp only [Act.put, List.getElem_toArray, List.getElem_cons_succ, List.getElem_cons_zero, List.setIfInBounds_toArray, List.set_cons_zero, List.set_cons_succ]
      refine wpAnyH_ready (rs := [4, 6]) (by kernel_rfl) (by simp) ?_
      refine AllReadyH.cons rfl (fun K hK => ?_) (AllReadyH.cons rfl (fun K hK => ?_) AllReadyH.nil)
      · go_simp
        refine hK.out _ _ ?_ (fun hHeld => ?_)
        · simp [go_sem, *]
        clear hK K
        try simp only [Act.put, List.getElem_toArray, List.getElem_cons_succ, List.getElem_cons_zero, List.setIfInBounds_toArray, List.set_cons_zero, List.set_cons_succ]
        refine wpAnyH_ready (rs := [6]) (by kernel_rfl) (by simp) ?_
        refine AllReadyH.cons rfl (fun K hK => ?_) AllReadyH.nil
        go_simp
        refine hK.out _ _ ?_ (fun hHeld => ?_)
        · simp [go_sem, *]
        clear hK K
        try simp only [Act.put, List.getElem_toArray, List.getElem_cons_succ, List.getElem_cons_zero, List.setIfInBounds_toArray, List.set_cons_zero, List.set_cons_succ]
        refine wpAnyH_ready (rs := [7]) (by kernel_rfl) (by simp) ?_
        refine AllReadyH.cons rfl (fun K hK => ?_) AllReadyH.nil
        have HGa : Hid (SolvG (w8.drew.alloc (.cells #[.slice u1.a q.1.lo.n u1.c, .slice u2.a q.1.hi.n u2.c, .bool false] 44)) base S (.func (.func g) #[] cb) d o qd (q :: st).reverse (qd ++ q1m :: (q.1, q.2.1.set i (m + 1), q.2.2) :: st)) := Lib.hid (HG8.out.below (by repeat (first | (with_reducible exact Below.refl _ _) | (with_reducible assumption) | ((with_reducible refine Below.setCell ?_ ?_ _); rotate_left; (focus (first | omega | (simp; omega) | (simp; done)))) | ((with_reducible refine Below.alloc ?_ ?_ _); rotate_left; (focus (first | omega | (simp; omega) | (simp; done)))) | (with_reducible refine Below.drew ?_))))
        refine step_append_sl rfl (.tmp 141) (.tmp 143) 26 rfl base 44 i4 _ 3 56 Try.underlying26 hi4 hz40 hz41 hz42 rfl (by decide) o.a o.n o.c _ (by simp [Act.eval, Act.put]) HGa.out.opn ⟨w8.heap.size, 0, none⟩ 1 1 (bxL q1m.1) (by simp [Act.eval, Act.put]) rfl (by rw [HQ1.out.2.2.2.2]; exact cells_new0 _ _ _ _ (by simp)) (by simp [Value.oneCell']) ?_ ?_ ?_ ?_
        · have := HON.out; have e : maxLen = 9223372036854775807 := (by unfold maxLen; decide); rw [e]; omega
        · have := HON.out; omega
        · simp; omega
        intro u3 w3 ho3 hg3 hn3
        have HP : Hid (Rows w3 base (solR S (.func (.func g) #[] cb) d o :: bsR d qd :: bsR ⟨u3.a, o.n + 1, u3.c⟩ ((q :: st).reverse ++ [q1m]) :: (qd ++ q1m :: (q.1, q.2.1.set i (m + 1), q.2.2) :: st).flatMap bxR)) := Lib.hid (SolvG.push2 (o' := ⟨u3.a, o.n + 1, u3.c⟩) HGa.out q1m (by rw [List.map_append, List.flatMap_append, List.map_singleton, List.flatMap_singleton]; exact ho3) hg3 hn3)
        have HL3 : Hid (Below base W w3) := Lib.hid (((HL8.out.drew).alloc (by simp; omega) _).grown hg3 (by simp; omega) (fun k hk => (HGa.out.opn.lt k hk).1))
        have s3 := hg3.size
        try simp at s3
        clear c0 c1 c2 fS
        obtain ⟨_, _, c0, c1, c2, fS⟩ := solR_cells HP.out
        have d0 : w3.cell? ⟨Y, 0, none⟩ = some (.slice u1.a q.1.lo.n u1.c) := hg3.cell (by simp [go_sem, *]) (fun e => nD e.symm)
        have d1 : w3.cell? ⟨Y, 1, none⟩ = some (.slice u2.a q.1.hi.n u2.c) := hg3.cell (by simp [go_sem, *]) (fun e => nD e.symm)
        have d2 : w3.cell? ⟨Y, 2, none⟩ = some (.bool false) := hg3.cell (by simp [go_sem, *]) (fun e => nD e.symm)
        clear ho3 hg3 hn3 b0 b1 b2 fbx
        have hS3 : S < w3.heap.size := by omega
        refine hK.out _ _ ?_ (fun hHeld => ?_)
        · simp [go_sem, *]
        clear hK K
        try simp only [Act.put, List.getElem_toArray, List.getElem_cons_succ, List.getElem_cons_zero, List.setIfInBounds_toArray, List.set_cons_zero, List.set_cons_succ]
        refine wpAnyH_take (i := 8) (v := ?_) rfl (by kernel_rfl) (by kernel_rfl) (by kernel_rfl) (fun _ _ _ h => h) (Or.inl ⟨by rfl, ?_⟩) (by assumption) ?_
        rotate_left
        · intro w hSw; (try dsimp only at hSw); go_simp; (first | done | (with_reducible rfl))
        try simp only [Act.put, List.getElem_toArray, List.getElem_cons_succ, List.getElem_cons_zero, List.setIfInBounds_toArray, List.set_cons_zero, List.set_cons_succ]
        refine wpAnyH_take (i := 9) (v := ?_) rfl (by kernel_rfl) (by kernel_rfl) (by kernel_rfl) (fun _ _ _ h => h) (Or.inl ⟨by rfl, ?_⟩) (by assumption) ?_
        rotate_left
        · intro w hSw; (try dsimp only at hSw); go_simp; (first | done | (with_reducible rfl))
        try simp only [Act.put, List.getElem_toArray, List.getElem_cons_succ, List.getElem_cons_zero, List.setIfInBounds_toArray, List.set_cons_zero, List.set_cons_succ]
        refine wpAnyH_ready (rs := [10]) (by kernel_rfl) (by simp) ?_
        refine AllReadyH.cons rfl (fun K hK => ?_) AllReadyH.nil
        go_simp
        refine hK.out _ _ ?_ (fun hHeld => ?_)
        · simp [go_sem, *]
        clear hK K
        try simp only [Act.put, List.getElem_toArray, List.getElem_cons_succ, List.getElem_cons_zero, List.setIfInBounds_toArray, List.set_cons_zero, List.set_cons_succ]
        refine wpAnyH_done (by kernel_rfl) ?_ _
        have HQ := Lib.hid (SolvG.split (A' := (q.2.1.set i (m + 1), q.2.2)) (SolvG.set2 (o' := ⟨u3.a, o.n + 1, u3.c⟩) HP.out))
        have HL4 := Lib.hid (HL3.out.setCell hS1 (.slice u3.a (o.n + 1) u3.c) (p := ⟨S, 2, none⟩))
        clear c0 c1 c2 fS HP HL3 d0 d1 d2
        go_wp2_with fail
        go_ret
        exact ⟨rfl, HL4.out, ⟨u3.a, o.n + 1, u3.c⟩, q1m, (q.1, q.2.1.set i (m + 1), q.2.2), HQ.out, HQ1.out.1, HQ2.out, HQ1.out.2.1, rfl, HQ1.out.2.2.1, HQ1.out.2.2.2.1, rfl, rfl⟩
      · go_simp
        refine hK.out _ _ ?_ (fun hHeld => ?_)
        · simp [go_sem, *]
        clear hK K
        try simp only [Act.put, List.getElem_toArray, List.getElem_cons_succ, List.getElem_cons_zero, List.setIfInBounds_toArray, List.set_cons_zero, List.set_cons_succ]
        refine wpAnyH_ready (rs := [4]) (by kernel_rfl) (by simp) ?_
        refine AllReadyH.cons rfl (fun K hK => ?_) AllReadyH.nil
        go_simp
        refine hK.out _ _ ?_ (fun hHeld => ?_)
        · simp [go_sem, *]
        clear hK K
        try simp only [Act.put, List.getElem_toArray, List.getElem_cons_succ, List.getElem_cons_zero, List.setIfInBounds_toArray, List.set_cons_zero, List.set_cons_succ]
        refine wpAnyH_ready (rs := [7]) (by kernel_rfl) (by simp) ?_
        refine AllReadyH.cons rfl (fun K hK => ?_) AllReadyH.nil
        have HGa : Hid (SolvG (w8.drew.alloc (.cells #[.slice u1.a q.1.lo.n u1.c, .slice u2.a q.1.hi.n u2.c, .bool false] 44)) base S (.func (.func g) #[] cb) d o qd (q :: st).reverse (qd ++ q1m :: (q.1, q.2.1.set i (m + 1), q.2.2) :: st)) := Lib.hid (HG8.out.below (by repeat (first | (with_reducible exact Below.refl _ _) | (with_reducible assumption) | ((with_reducible refine Below.setCell ?_ ?_ _); rotate_left; (focus (first | omega | (simp; omega) | (simp; done)))) | ((with_reducible refine Below.alloc ?_ ?_ _); rotate_left; (focus (first | omega | (simp; omega) | (simp; done)))) | (with_reducible refine Below.drew ?_))))
        refine step_append_sl rfl (.tmp 141) (.tmp 143) 26 rfl base 44 i4 _ 3 56 Try.underlying26 hi4 hz40 hz41 hz42 rfl (by decide) o.a o.n o.c _ (by simp [Act.eval, Act.put]) HGa.out.opn ⟨w8.heap.size, 0, none⟩ 1 1 (bxL q1m.1) (by simp [Act.eval, Act.put]) rfl (by rw [HQ1.out.2.2.2.2]; exact cells_new0 _ _ _ _ (by simp)) (by simp [Value.oneCell']) ?_ ?_ ?_ ?_
        · have := HON.out; have e : maxLen = 9223372036854775807 := (by unfold maxLen; decide); rw [e]; omega
        · have := HON.out; omega
        · simp; omega
        intro u3 w3 ho3 hg3 hn3
        have HP : Hid (Rows w3 base (solR S (.func (.func g) #[] cb) d o :: bsR d qd :: bsR ⟨u3.a, o.n + 1, u3.c⟩ ((q :: st).reverse ++ [q1m]) :: (qd ++ q1m :: (q.1, q.2.1.set i (m + 1), q.2.2) :: st).flatMap bxR)) := Lib.hid (SolvG.push2 (o' := ⟨u3.a, o.n + 1, u3.c⟩) HGa.out q1m (by rw [List.map_append, List.flatMap_append, List.map_singleton, List.flatMap_singleton]; exact ho3) hg3 hn3)
        have HL3 : Hid (Below base W w3) := Lib.hid (((HL8.out.drew).alloc (by simp; omega) _).grown hg3 (by simp; omega) (fun k hk => (HGa.out.opn.lt k hk).1))
        have s3 := hg3.size
        try simp at s3
        clear c0 c1 c2 fS
        obtain ⟨_, _, c0, c1, c2, fS⟩ := solR_cells HP.out
        have d0 : w3.cell? ⟨Y, 0, none⟩ = some (.slice u1.a q.1.lo.n u1.c) := hg3.cell (by simp [go_sem, *]) (fun e => nD e.symm)
        have d1 : w3.cell? ⟨Y, 1, none⟩ = some (.slice u2.a q.1.hi.n u2.c) := hg3.cell (by simp [go_sem, *]) (fun e => nD e.symm)
        have d2 : w3.cell? ⟨Y, 2, none⟩ = some (.bool false) := hg3.cell (by simp [go_sem, *]) (fun e => nD e.symm)
        clear ho3 hg3 hn3 b0 b1 b2 fbx
        have hS3 : S < w3.heap.size := by omega
        refine hK.out _ _ ?_ (fun hHeld => ?_)
        · simp [go_sem, *]
        clear hK K
        try simp only [Act.put, List.getElem_toArray, List.getElem_cons_succ, List.getElem_cons_zero, List.setIfInBounds_toArray, List.set_cons_zero, List.set_cons_succ]
        refine wpAnyH_take (i := 8) (v := ?_) rfl (by kernel_rfl) (by kernel_rfl) (by kernel_rfl) (fun _ _ _ h => h) (Or.inl ⟨by rfl, ?_⟩) (by assumption) ?_
        rotate_left
        · intro w hSw; (try dsimp only at hSw); go_simp; (first | done | (with_reducible rfl))
        try simp only [Act.put, List.getElem_toArray, List.getElem_cons_succ, List.getElem_cons_zero, List.setIfInBounds_toArray, List.set_cons_zero, List.set_cons_succ]
        refine wpAnyH_take (i := 9) (v := ?_) rfl (by kernel_rfl) (by kernel_rfl) (by kernel_rfl) (fun _ _ _ h => h) (Or.inl ⟨by rfl, ?_⟩) (by assumption) ?_
        rotate_left
        · intro w hSw; (try dsimp only at hSw); go_simp; (first | done | (with_reducible rfl))
        try simp only [Act.put, List.getElem_toArray, List.getElem_cons_succ, List.getElem_cons_zero, List.setIfInBounds_toArray, List.set_cons_zero, List.set_cons_succ]
        refine wpAnyH_ready (rs := [10]) (by kernel_rfl) (by simp) ?_
        refine AllReadyH.cons rfl (fun K hK => ?_) AllReadyH.nil
        go_simp
        refine hK.out _ _ ?_ (fun hHeld => ?_)
        · simp [go_sem, *]
        clear hK K
        try simp only [Act.put, List.getElem_toArray, List.getElem_cons_succ, List.getElem_cons_zero, List.setIfInBounds_toArray, List.set_cons_zero, List.set_cons_succ]
        refine wpAnyH_done (by kernel_rfl) ?_ _
        have HQ := Lib.hid (SolvG.split (A' := (q.2.1.set i (m + 1), q.2.2)) (SolvG.set2 (o' := ⟨u3.a, o.n + 1, u3.c⟩) HP.out))
        have HL4 := Lib.hid (HL3.out.setCell hS1 (.slice u3.a (o.n + 1) u3.c) (p := ⟨S, 2, none⟩))
        clear c0 c1 c2 fS HP HL3 d0 d1 d2
        go_wp2_with fail
        go_ret
        exact ⟨rfl, HL4.out, ⟨u3.a, o.n + 1, u3.c⟩, q1m, (q.1, q.2.1.set i (m + 1), q.2.2), HQ.out, HQ1.out.1, HQ2.out, HQ1.out.2.1, rfl, HQ1.out.2.2.1, HQ1.out.2.2.2.1, rfl, rfl⟩
end Go.Proofs.Ytcncobhdfflelaa
