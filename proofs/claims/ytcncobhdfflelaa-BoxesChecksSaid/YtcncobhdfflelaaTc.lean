/- The contract of boxes.Solve. -/
import Derived.Test.YtcncobhdfflelaaTb
namespace Go.Proofs.Ytcncobhdfflelaa
open Go.RowKit

theorem sub_self {lo hi : List Int} (h : Bx.valid lo hi = true) : Bx.Sub (lo, hi) (lo, hi) ∧ hi.length = lo.length ∧ Bx.Small lo ∧ Bx.Small hi := by
  unfold Bx.valid at h
  simp only [Bool.and_eq_true, decide_eq_true_eq, List.all_eq_true] at h
  obtain ⟨⟨hl, _⟩, ha⟩ := h
  have key : ∀ (i : Nat) (x y : Int), lo[i]? = some x → hi[i]? = some y → -9007199254740992 ≤ x ∧ x ≤ y ∧ y ≤ 9007199254740992 := fun i x y h1 h2 => by
    have := ha (x, y) (List.mem_of_getElem? (i := i) (by rw [List.getElem?_zip_eq_some]; exact ⟨h1, h2⟩))
    simp only [Bx.okAt, Bool.and_eq_true, Bool.not_eq_true', decide_eq_false_iff_not] at this
    omega
  refine ⟨⟨rfl, hl.symm, fun i a c x y h1 h2 h3 h4 => ?_⟩, hl.symm, fun x hx => ?_, fun y hy => ?_⟩
  · simp only at h1 h2 h3 h4
    rw [h1] at h3; rw [h2] at h4
    injection h3 with h3; injection h4 with h4
    have := key i a c h1 h2
    omega
  · obtain ⟨i, hi', rfl⟩ := List.getElem_of_mem hx
    have := key i _ _ (List.getElem?_eq_getElem hi') (List.getElem?_eq_getElem (by omega : i < hi.length))
    omega
  · obtain ⟨i, hi', rfl⟩ := List.getElem_of_mem hy
    have := key i _ _ (List.getElem?_eq_getElem (by omega : i < lo.length)) (List.getElem?_eq_getElem hi')
    omega

set_option linter.unusedSimpArgs false in
set_option linter.unusedVariables false in
set_option maxRecDepth 100000 in
set_option maxHeartbeats 3200000 in
theorem solve11_main (A B : Option Addr) (n c d : Nat) (lo hi : List Int) (g : Nat) (cb : Array Value) (v : List Int → List Int → Int) (most : Int) (w : World) (hx : Rd w w.heap.size 1 A n (ints lo)) (hy : Rd w w.heap.size 1 B n (ints hi)) (h16 : n ≤ 16) (hv : Bx.valid lo hi = true)
    (eg : ∀ args w, (callFunc g args).run Try.prog w = .ok (.enter g args) w) (hver : VerdAt w g cb v (lo, hi)) :
    Calls Try.prog 11 #[.slice A n c, .slice B n d, .func (.func g) #[] cb, .int .i64 most] w (SolvePost (Bx.solve v lo hi most) w) := by
  have e1 : lo.length = n := by simpa using hx.1
  have e2 : hi.length = n := by simpa using hy.1
  obtain ⟨sb, _, sm1, sm2⟩ := sub_self hv
  obtain ⟨R, hR⟩ : ∃ R, R = Bx.solve v lo hi most := ⟨_, rfl⟩
  obtain ⟨M, hM⟩ : ∃ M, M = Bx.lim most := ⟨_, rfl⟩
  have HP : Hid (Bx.solveF v M (2 * M + 1) [] [(lo, hi)] = R) := Lib.hid (by rw [hR, hM]; unfold Bx.solve; rw [if_neg (by rw [e1, e2]; omega), if_neg (by rw [hv]; decide)])
  have hML : 1 ≤ M ∧ M ≤ 4096 := by rw [hM]; unfold Bx.lim Bx.clamp; split <;> (try split) <;> omega
  have HMC : Hid (Bx.clamp most 1 4096 = (M : Int)) := Lib.hid (by rw [hM]; unfold Bx.lim; have : 1 ≤ Bx.clamp most 1 4096 := (by unfold Bx.clamp; split <;> (try split) <;> omega); omega)
  rw [← hR]
  have hmf : ∀ (fn : Fn) (first cap : Array Value) (w : World), (Instr.makeFunc fn first cap).run Try.prog w = .ok (.func fn first cap) w := fun _ _ _ _ => rfl
  have CV := Lib.hid (fun (W : World) (hW : Below w.heap.size w W) => valid34 A B n n c d lo hi W (hx.up hW) (hy.up hW))
  rw [hv] at CV
  have C1 := Lib.hid (fun (W : World) (hW : Below w.heap.size w W) => clone35 lo A n c W (hx.up hW) (by omega))
  have C2 := Lib.hid (fun (W : World) (hW : Below w.heap.size w W) => clone35 hi B n d W (hy.up hW) (by omega))
  have CC := Lib.hid (fun (W : World) => clamp36 most 1 4096 W)
  rw [HMC.out] at CC
  have t1 : ((n : Int) != (n : Int)) = false := by simp
  have t2 : decide ((16 : Int) < (n : Int)) = false := by simp; omega
  have HSB := Lib.hid sb
  have HSM1 := Lib.hid sm1
  have HSM2 := Lib.hid sm2
  have HVE := Lib.hid hver
  obtain ⟨hM1, hM2⟩ := hML
  clear e1 e2 hx hy hv hR hM HMC sb sm1 sm2 hver
  go_enter_defers Try.func11, Try.ntmps11
  go_wp2_with fail
  refine (CV.out _ (by repeat (first | (with_reducible exact Below.refl _ _) | (with_reducible assumption) | ((with_reducible refine Below.setCell ?_ ?_ _); rotate_left; (focus (first | omega | (simp; omega) | (simp; done)))) | ((with_reducible refine Below.alloc ?_ ?_ _); rotate_left; (focus (first | omega | (simp; omega) | (simp; done)))) | (with_reducible refine Below.drew ?_)))).mono ?_
  rintro e w1 ⟨rfl, h1⟩
  have s1 := h1.size
  simp at s1
  obtain ⟨k0, kc, kf⟩ := keepB h1 w.heap.size (by simp; omega)
  have c0 : w1.cell? ⟨w.heap.size, 0, none⟩ = some (.slice none 0 0) := (kc 0).trans (by simp [go_sem])
  have f0 : w1.frozen? ⟨w.heap.size, 0, none⟩ = false := (kf 0).trans (by simp [go_sem])
  clear kc kf
  obtain ⟨k1, kc, kf⟩ := keepB h1 (w.heap.size + 1) (by simp)
  have c1 : w1.cell? ⟨w.heap.size + 1, 0, none⟩ = some (.int .i64 0) := (kc 0).trans (by simp [go_sem])
  have f1 : w1.frozen? ⟨w.heap.size + 1, 0, none⟩ = false := (kf 0).trans (by simp [go_sem])
  have HB1 : Hid (Below w.heap.size w w1) := Lib.hid (Below.call (w := w) (by repeat (first | (with_reducible exact Below.refl _ _) | (with_reducible assumption) | ((with_reducible refine Below.setCell ?_ ?_ _); rotate_left; (focus (first | omega | (simp; omega) | (simp; done)))) | ((with_reducible refine Below.alloc ?_ ?_ _); rotate_left; (focus (first | omega | (simp; omega) | (simp; done)))) | (with_reducible refine Below.drew ?_))) h1)
  clear kc kf h1 CV
  go_wp2_with fail
  refine (C1.out _ HB1.out).mono ?_
  rintro e v2 ⟨u1, rfl, o1, h2⟩
  have HB2 : Hid (Below w.heap.size w v2) := Lib.hid (Below.call HB1.out h2)
  have O1 := Lib.hid o1
  have H2 := Lib.hid h2
  have s2 := h2.size
  clear o1 h2
  go_wp2_with fail
  refine (C2.out _ HB2.out).mono ?_
  rintro e v3 ⟨u2, rfl, o2, h3⟩
  have HB3 : Hid (Below w.heap.size w v3) := Lib.hid (Below.call HB2.out h3)
  have O2 := Lib.hid o2
  have H3 := Lib.hid h3
  have s3 := h3.size
  have B13 : Hid (Below w1.heap.size w1 v3) := Lib.hid (Below.call H2.out h3)
  clear o2 h3 C1 C2
  have HS0 := Lib.hid (solv_start (base := w.heap.size + 2) (.func (.func g) #[] cb) s1 O1.out H2.out O2.out H3.out)
  go_wp2_with fail
  refine (CC.out _).mono ?_
  rintro e _ ⟨rfl, rfl⟩
  obtain ⟨W0, hW0⟩ : ∃ W0, W0 = (v3.alloc (.cells #[.slice u1.a n u1.c, .slice u2.a n u2.c, .bool false] 44)).alloc (.cells #[.func (.func g) #[] cb, .slice none 0 0, .slice (some ⟨v3.heap.size, 0, none⟩) 1 1] 56) := ⟨_, rfl⟩
  obtain ⟨S, hS⟩ : ∃ S, S = v3.heap.size + 1 := ⟨_, rfl⟩
  rw [← hW0, ← hS] at HS0
  have B0 : Hid (Below w1.heap.size w1 W0) := Lib.hid (by rw [hW0]; exact (B13.out.alloc (by omega) _).alloc (by simp; omega) _)
  have HBW0 : Hid (Below w.heap.size w W0) := Lib.hid (Below.call HB1.out B0.out)
  have hz0 := B0.out.size
  have d0 : Hid (W0.cell? ⟨w.heap.size, 0, none⟩ = some (.slice none 0 0) ∧ W0.frozen? ⟨w.heap.size, 0, none⟩ = false ∧ W0.cell? ⟨w.heap.size + 1, 0, none⟩ = some (.int .i64 0) ∧ W0.frozen? ⟨w.heap.size + 1, 0, none⟩ = false) :=
    Lib.hid ⟨(B0.out.cell (p := ⟨w.heap.size, 0, none⟩) k0).trans c0, (B0.out.frozen (p := ⟨w.heap.size, 0, none⟩) k0).trans f0, (B0.out.cell (p := ⟨w.heap.size + 1, 0, none⟩) k1).trans c1, (B0.out.frozen (p := ⟨w.heap.size + 1, 0, none⟩) k1).trans f1⟩
  rw [← hW0, ← hS]
  clear hW0 hS c0 c1 f0 f1 B0 B13 HB1 HB2 HB3 O1 O2 H2 H3 CC s1 s2 s3 k0 k1 hz0
  go_wp2_with fail
  go_loopg [11] (2 * M + 1) (fun k e11 W => SolveR w W0 S (.func (.func g) #[] cb) v M n (lo, hi) R k W)
  case atStart =>
    refine ⟨_, _, [], _, HS0.out, Below.refl _ _, ?_, ?_, ?_, ?_⟩
    · unfold Bx.meas; simp; omega
    · exact HP.out
    · intro q hq
      simp at hq
      subst hq
      exact ⟨HSB.out, rfl, rfl, rfl⟩
    · simp; omega
  case round =>
    obtain ⟨ds, os, qd, st, hrel⟩ := hrel
    have HREL := Lib.hid hrel
    have HBW : Hid (Below w.heap.size w wr) := Lib.hid (HBW0.out.trans (hrel.bl.mono (by omega)))
    obtain ⟨_, _, c0, c1, c2, _⟩ := hrel.at_.sol
    have hon := hrel.at_.on
    cases st with
    | nil =>
      clear hrel
      have t3 : decide (0 < os.n) = false := by rw [hon]; simp
      clear hon
      have y0 : wr.cell? ⟨w.heap.size, 0, none⟩ = some (.slice none 0 0) := ((HREL.out.bl).cell (p := ⟨w.heap.size, 0, none⟩) (by show w.heap.size < w.heap.size + 2; omega)).trans d0.out.1
      have y1 : wr.frozen? ⟨w.heap.size, 0, none⟩ = false := ((HREL.out.bl).frozen (p := ⟨w.heap.size, 0, none⟩) (by show w.heap.size < w.heap.size + 2; omega)).trans d0.out.2.1
      have y2 : wr.cell? ⟨w.heap.size + 1, 0, none⟩ = some (.int .i64 0) := ((HREL.out.bl).cell (p := ⟨w.heap.size + 1, 0, none⟩) (by show w.heap.size + 1 < w.heap.size + 2; omega)).trans d0.out.2.2.1
      have y3 : wr.frozen? ⟨w.heap.size + 1, 0, none⟩ = false := ((HREL.out.bl).frozen (p := ⟨w.heap.size + 1, 0, none⟩) (by show w.heap.size + 1 < w.heap.size + 2; omega)).trans d0.out.2.2.2
      go_wp2_with fail
      refine leaves_cons (f := 33) (args := #[.pointer (some ⟨w.heap.size, 0, none⟩), .pointer (some ⟨w.heap.size + 1, 0, none⟩)]) (by simp) (by simp [go_sem]) ?_
      refine (catch33 _ _ _).mono ?_
      rintro e u' w'' ⟨rfl, rfl, rfl⟩
      simp [Leaves, settle, results, Try.results11, go_sem, *]
      have hR := HREL.out.done
      have hrows := Rows.setLow (j := 0) (v := .slice ds.a ds.n ds.c) HREL.out.at_ (show w.heap.size < w.heap.size + 2 by omega)
      have hrow2 : SolvAt _ (w.heap.size + 2) S (.func (.func g) #[] cb) ds os qd [] := Rows.setLow (j := 0) (v := .int .i64 0) hrows (show w.heap.size + 1 < w.heap.size + 2 by omega)
      rw [hR]
      exact ⟨ds, rfl, hrow2.bxs, (HBW.out.setCell (Nat.le_refl _) _).setCell (show w.heap.size ≤ w.heap.size + 1 by omega) _⟩
    | cons q st =>
      have t3 : decide (0 < os.n) = true := by rw [hon, List.length_cons]; simp
      have ok := hrel.ok q List.mem_cons_self
      have hlen := hrel.len
      rw [List.length_cons] at hlen
      obtain ⟨k', hk'⟩ := hrel.pos
      subst hk'
      have sm := ok.sub.small (HSB.out.l2.trans rfl) HSM1.out HSM2.out
      have STEP1 := Lib.hid (step37_one w (w.heap.size + 2) S g cb v (lo, hi) ds os qd st q (M : Int) wr eg HVE.out HBW.out (by omega) hrel.at_ ok.sub (by rw [ok.n1]; omega) (by rw [ok.n2]; omega) (by omega))
      have STEP0 := Lib.hid (step37_zero w (w.heap.size + 2) S g cb v (lo, hi) ds os qd st q (M : Int) wr eg HVE.out HBW.out (by omega) hrel.at_ ok.sub (by rw [ok.n1]; omega) (by rw [ok.n2]; omega) (by omega))
      have STEPS := Lib.hid (fun h1 h0 => step37_stuck w (w.heap.size + 2) S g cb v (lo, hi) ds os qd st q (M : Int) wr eg HVE.out HBW.out (by omega) hrel.at_ ok.sub (by rw [ok.n1]; omega) (by rw [ok.n2]; omega) (by omega) h1 h0 (by rw [ok.n1, ok.n2]) sm.1 sm.2)
      have STEPF := Lib.hid (fun h1 h0 => step37_full w (w.heap.size + 2) S g cb v (lo, hi) ds os qd st q (M : Int) wr eg HVE.out HBW.out (by omega) hrel.at_ ok.sub (by rw [ok.n1]; omega) (by rw [ok.n2]; omega) (by omega) h1 h0 (by rw [ok.n1, ok.n2]) sm.1 sm.2)
      have STEPC := Lib.hid (fun h1 h0 => step37_cut w (w.heap.size + 2) S g cb v (lo, hi) ds os qd st q (M : Int) wr eg HVE.out HBW.out (by omega) hrel.at_ ok.sub (by rw [ok.n1]; omega) (by rw [ok.n2]; omega) (by omega) h1 h0 (by rw [ok.n1, ok.n2]) sm.1 sm.2)
      have OKH := Lib.hid ok.h
      clear hrel hon ok sm hlen
      by_cases h1 : v q.2.1 q.2.2 = 1
      · have H1 := Lib.hid h1
        clear h1
        go_wp2_with fail
        refine (STEP1.out H1.out).mono ?_
        rintro e w5 ⟨rfl, hb5, d', o', ha5⟩
        have HN := Lib.hid (HREL.out.dec true (by simpa using H1.out) ha5 hb5)
        clear hb5 ha5 c0 c1 c2
        go_wp2_with fail
        go_roundg k'
        case measure => omega
        case rel => exact HN.out
      · by_cases h0 : v q.2.1 q.2.2 = 0
        · have H0 := Lib.hid h0
          clear h0 h1
          go_wp2_with fail
          refine (STEP0.out H0.out).mono ?_
          rintro e w5 ⟨rfl, hb5, d', o', ha5⟩
          have HN := Lib.hid (HREL.out.dec false (d' := d') (o' := o') (by simpa using H0.out) (by have e : ({ q.1 with holds := false } : BxC) = q.1 := (by have := OKH.out; cases hq : q.1; rw [hq] at this; simp at this; subst this; rfl); rw [e]; exact ha5) hb5)
          clear hb5 ha5 c0 c1 c2
          go_wp2_with fail
          go_roundg k'
          case measure => omega
          case rel => exact HN.out
        · have H1 := Lib.hid h1
          have H0 := Lib.hid h0
          clear h1 h0
          by_cases hw : Bx.widest q.2.1 q.2.2 < 0
          · have HR := HREL.out.bad H1.out H0.out hw
            have HRH := Lib.hid HR
            have SS := Lib.hid (STEPS.out H1.out H0.out hw)
            clear HR hw
            go_wp2_with fail
            refine SS.out.mono ?_
            rintro e w5 ⟨rfl, hb5⟩
            have y0 : w5.cell? ⟨w.heap.size, 0, none⟩ = some (.slice none 0 0) := ((HREL.out.bl.trans hb5).cell (p := ⟨w.heap.size, 0, none⟩) (by show w.heap.size < w.heap.size + 2; omega)).trans d0.out.1
            have y1 : w5.frozen? ⟨w.heap.size, 0, none⟩ = false := ((HREL.out.bl.trans hb5).frozen (p := ⟨w.heap.size, 0, none⟩) (by show w.heap.size < w.heap.size + 2; omega)).trans d0.out.2.1
            have y2 : w5.cell? ⟨w.heap.size + 1, 0, none⟩ = some (.int .i64 0) := ((HREL.out.bl.trans hb5).cell (p := ⟨w.heap.size + 1, 0, none⟩) (by show w.heap.size + 1 < w.heap.size + 2; omega)).trans d0.out.2.2.1
            have y3 : w5.frozen? ⟨w.heap.size + 1, 0, none⟩ = false := ((HREL.out.bl.trans hb5).frozen (p := ⟨w.heap.size + 1, 0, none⟩) (by show w.heap.size + 1 < w.heap.size + 2; omega)).trans d0.out.2.2.2
            have HB5 : Hid (Below w.heap.size w w5) := Lib.hid (HBW.out.trans (hb5.mono (by omega)))
            clear hb5 c0 c1 c2
            go_wp2_with fail
            refine leaves_cons (f := 33) (args := #[.pointer (some ⟨w.heap.size, 0, none⟩), .pointer (some ⟨w.heap.size + 1, 0, none⟩)]) (by simp) (by simp [go_sem]) ?_
            refine (catch33 _ _ _).mono ?_
            rintro e u' w'' ⟨rfl, rfl, rfl⟩
            simp [Leaves, settle, results, Try.results11, go_sem, *]
            exact solvePost HRH.out ((HB5.out.setCell (Nat.le_refl _) _).setCell (show w.heap.size ≤ w.heap.size + 1 by omega) _)
          · by_cases hm : M ≤ qd.length + (st.length + 1)
            · have HRH := Lib.hid (HREL.out.full H1.out H0.out hw hm)
              have SS := Lib.hid (STEPF.out H1.out H0.out hw (by exact_mod_cast hm))
              clear hw hm
              go_wp2_with fail
              refine SS.out.mono ?_
              rintro e w5 ⟨rfl, hb5⟩
              have y0 : w5.cell? ⟨w.heap.size, 0, none⟩ = some (.slice none 0 0) := ((HREL.out.bl.trans hb5).cell (p := ⟨w.heap.size, 0, none⟩) (by show w.heap.size < w.heap.size + 2; omega)).trans d0.out.1
              have y1 : w5.frozen? ⟨w.heap.size, 0, none⟩ = false := ((HREL.out.bl.trans hb5).frozen (p := ⟨w.heap.size, 0, none⟩) (by show w.heap.size < w.heap.size + 2; omega)).trans d0.out.2.1
              have y2 : w5.cell? ⟨w.heap.size + 1, 0, none⟩ = some (.int .i64 0) := ((HREL.out.bl.trans hb5).cell (p := ⟨w.heap.size + 1, 0, none⟩) (by show w.heap.size + 1 < w.heap.size + 2; omega)).trans d0.out.2.2.1
              have y3 : w5.frozen? ⟨w.heap.size + 1, 0, none⟩ = false := ((HREL.out.bl.trans hb5).frozen (p := ⟨w.heap.size + 1, 0, none⟩) (by show w.heap.size + 1 < w.heap.size + 2; omega)).trans d0.out.2.2.2
              have HB5 : Hid (Below w.heap.size w w5) := Lib.hid (HBW.out.trans (hb5.mono (by omega)))
              clear hb5 c0 c1 c2
              go_wp2_with fail
              refine leaves_cons (f := 33) (args := #[.pointer (some ⟨w.heap.size, 0, none⟩), .pointer (some ⟨w.heap.size + 1, 0, none⟩)]) (by simp) (by simp [go_sem]) ?_
              refine (catch33 _ _ _).mono ?_
              rintro e u' w'' ⟨rfl, rfl, rfl⟩
              simp [Leaves, settle, results, Try.results11, go_sem, *]
              exact solvePost HRH.out ((HB5.out.setCell (Nat.le_refl _) _).setCell (show w.heap.size ≤ w.heap.size + 1 by omega) _)
            · have SS := Lib.hid (STEPC.out H1.out H0.out hw (by exact_mod_cast hm))
              have HNC := Lib.hid (fun W' hp => HREL.out.cut (W' := W') H1.out H0.out hw hm hp)
              clear hw hm
              go_wp2_with fail
              refine SS.out.mono ?_
              rintro e w5 ⟨rfl, hp5⟩
              have HN := Lib.hid (HNC.out _ hp5)
              clear hp5 c0 c1 c2
              go_wp2_with fail
              go_roundg k'
              case measure => omega
              case rel => exact HN.out
end Go.Proofs.Ytcncobhdfflelaa
