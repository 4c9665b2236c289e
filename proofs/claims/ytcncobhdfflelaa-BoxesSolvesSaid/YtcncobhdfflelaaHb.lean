/- The contract of the reference's Solve. -/
import Derived.Test.YtcncobhdfflelaaHa
import Derived.Deep.LoopGhost
namespace Go.Proofs.Ytcncobhdfflelaa
open Go.RowKit

theorem verd_cases (lo hi : List Int) : ∀ (cs : List (List Int × Int)) (v : Int), v = 1 ∨ v = 0 ∨ v = -1 → Bx.verd lo hi cs v = 1 ∨ Bx.verd lo hi cs v = 0 ∨ Bx.verd lo hi cs v = -1
  | [], v, h => by rw [Bx.verd]; exact h
  | c :: cs, v, h => by
    rw [Bx.verd]
    split
    · exact .inr (.inl rfl)
    · exact verd_cases lo hi cs _ (by split <;> simp_all)

set_option linter.unusedSimpArgs false in
set_option linter.unusedVariables false in
set_option maxRecDepth 100000 in
set_option maxHeartbeats 6400000 in
theorem solve14_arg (A B : Option Addr) (n m c d : Nat) (lo hi : List Int) (F : Sl) (v : List Int → List Int → Int) (most : Int) (w : World) (hx : lo.length = n) (hy : hi.length = m) (h : n ≠ m ∨ 16 < n) :
    Calls Try.prog 14 #[.slice A n c, .slice B m d, .slice F.a F.n F.c, .int .i64 most] w (SolvePost (Bx.solve v lo hi most) w) := by
  have HP : Hid (Bx.solve v lo hi most = ([], 1)) := Lib.hid (by unfold Bx.solve; rw [if_pos (by rw [hx, hy]; exact h)])
  clear hx hy
  by_cases hnm : n = m
  · subst hnm
    have t1 : ((n : Int) != (n : Int)) = false := by simp
    have t2 : decide ((16 : Int) < (n : Int)) = true := by simp; omega
    clear h
    go_enter Try.func14, Try.ntmps14
    go_wp2_with fail
    go_ret2
    exact solvePost HP.out (Below.refl _ _)
  · have t1 : ((n : Int) != (m : Int)) = true := by simp; omega
    clear h hnm
    go_enter Try.func14, Try.ntmps14
    go_wp2_with fail
    go_ret2
    exact solvePost HP.out (Below.refl _ _)

set_option linter.unusedSimpArgs false in
set_option linter.unusedVariables false in
set_option maxRecDepth 100000 in
set_option maxHeartbeats 6400000 in
theorem solve14_range (A B : Option Addr) (n c d : Nat) (lo hi : List Int) (F : Sl) (v : List Int → List Int → Int) (most : Int) (w : World) (hx : Rd w w.heap.size 1 A n (ints lo)) (hy : Rd w w.heap.size 1 B n (ints hi)) (h16 : n ≤ 16) (hv : Bx.valid lo hi = false) :
    Calls Try.prog 14 #[.slice A n c, .slice B n d, .slice F.a F.n F.c, .int .i64 most] w (SolvePost (Bx.solve v lo hi most) w) := by
  have e1 : lo.length = n := by simpa using hx.1
  have e2 : hi.length = n := by simpa using hy.1
  have HP : Hid (Bx.solve v lo hi most = ([], 6)) := Lib.hid (by unfold Bx.solve; rw [if_neg (by rw [e1, e2]; omega), if_pos hv])
  have CV := Lib.hid (valid39 A B n n c d lo hi w hx hy)
  rw [hv] at CV
  have t1 : ((n : Int) != (n : Int)) = false := by simp
  have t2 : decide ((16 : Int) < (n : Int)) = false := by simp; omega
  clear e1 e2 hx hy hv h16
  go_enter Try.func14, Try.ntmps14
  go_wp2_with fail
  refine CV.out.mono ?_
  rintro e w1 ⟨rfl, h1⟩
  have H1 := Lib.hid h1
  clear h1
  go_wp2_with fail
  go_ret2
  exact solvePost HP.out H1.out

set_option linter.unusedSimpArgs false in
set_option linter.unusedVariables false in
set_option maxRecDepth 100000 in
set_option maxHeartbeats 6400000 in
theorem solve14_main (A B : Option Addr) (n c d : Nat) (lo hi : List Int) (F : Sl) (cs : List (List Int × Int)) (most : Int) (w : World) (hx : Rd w w.heap.size 1 A n (ints lo)) (hy : Rd w w.heap.size 1 B n (ints hi)) (h16 : n ≤ 16) (hv : Bx.valid lo hi = true)
    (hF : LnsAt w F cs) (hFn : F.n ≤ 1000000) (d1 : Bx.Dom lo) (d2 : Bx.Dom hi) :
    Calls Try.prog 14 #[.slice A n c, .slice B n d, .slice F.a F.n F.c, .int .i64 most] w (SolvePost (Bx.solve (fun a b => Bx.verd a b cs 1) lo hi most) w) := by
  have e1 : lo.length = n := by simpa using hx.1
  have e2 : hi.length = n := by simpa using hy.1
  obtain ⟨sb, hll, sm1, sm2⟩ := Bx.sub_self' hv
  obtain ⟨R, hR⟩ : ∃ R, R = Bx.solve (fun a b => Bx.verd a b cs 1) lo hi most := ⟨_, rfl⟩
  obtain ⟨M, hM⟩ : ∃ M, M = Bx.lim most := ⟨_, rfl⟩
  have HP : Hid (Bx.solveF (fun a b => Bx.verd a b cs 1) M (2 * M + 1) [] [(lo, hi)] = R) := Lib.hid (by rw [hR, hM]; unfold Bx.solve; rw [if_neg (by rw [e1, e2]; omega), if_neg (by rw [hv]; decide)])
  have hML : 1 ≤ M ∧ M ≤ 4096 := by rw [hM]; unfold Bx.lim Bx.clamp; split <;> (try split) <;> omega
  have hlim : min (max most 1) 4096 = (M : Int) := by rw [hM]; unfold Bx.lim Bx.clamp; split <;> (try split) <;> omega
  rw [← hR]
  have CV := Lib.hid (valid39 A B n n c d lo hi w hx hy)
  rw [hv] at CV
  have t1 : ((n : Int) != (n : Int)) = false := by simp
  have t2 : decide ((16 : Int) < (n : Int)) = false := by simp; omega
  have HX := Lib.hid hx
  have HY := Lib.hid hy
  have HSB := Lib.hid sb
  have HLL := Lib.hid hll
  have HSM1 := Lib.hid sm1
  have HSM2 := Lib.hid sm2
  have HF := Lib.hid hF
  have HD1 := Lib.hid d1
  have HD2 := Lib.hid d2
  obtain ⟨hM1, hM2⟩ := hML
  obtain ⟨i3, hi3, hz30, hz31, hz32⟩ := info_parts info3'
  obtain ⟨i4, hi4, hz40, hz41, hz42⟩ := info_parts info44
  clear e1 e2 hx hy hv hR hM sb sm1 sm2 hF d1 d2 hll
  go_enter Try.func14, Try.ntmps14
  go_wp2_with fail
  refine CV.out.mono ?_
  rintro e w1 ⟨rfl, h1⟩
  have HB1 := Lib.hid h1
  have z1 := h1.size
  clear h1 CV
  have HX1 := Lib.hid (HX.out.up HB1.out)
  have HY1 := Lib.hid (HY.out.up HB1.out)
  go_wp2_with (first
    | (at_builtin; refine wpList_append_lit _ 3 rfl (.tmp 35) (.tmp 36) 22 rfl i3 _ 1 8 Try.underlying22 hi3 hz30 hz31 hz32 rfl (by decide) _ rfl (by simp) _ _ _ _ (ints lo) rfl HX1.out (Nat.le_refl _) (int_one lo) (by omega) (by omega) ?_; intro u1 v1 hr1 ho1 h1; have O1 := Lib.hid ho1; have H1 := Lib.hid h1; have z2 := h1.size; have HY2 := Lib.hid (HY1.out.up h1); clear hr1 ho1 h1)
    | (at_builtin; refine wpList_append_lit _ 3 rfl (.tmp 38) (.tmp 39) 22 rfl i3 _ 1 8 Try.underlying22 hi3 hz30 hz31 hz32 rfl (by decide) _ rfl (by simp) _ _ _ _ (ints hi) rfl HY2.out (Nat.le_refl _) (int_one hi) (by omega) (by omega) ?_; intro u2 v2 hr2 ho2 h2; have O2 := Lib.hid ho2; have H2 := Lib.hid h2; have z3 := h2.size; clear hr2 ho2 h2))
  have HR0 : Hid (RefRel w (v2.alloc (.cells #[.slice u1.a n u1.c, .slice u2.a n u2.c, .bool false] 44)) ⟨some ⟨v2.heap.size, 0, none⟩, 1, 1⟩ [(⟨⟨u1.a, n, u1.c⟩, ⟨u2.a, n, u2.c⟩, false⟩, lo, hi)]) := Lib.hid (by
    refine ⟨?_, fun q hq => ?_, ?_⟩
    · exact World.ownsRow_lit (base := w.heap.size) (e := 44) (size := 3) v2 #[.slice u1.a n u1.c, .slice u2.a n u2.c, .bool false] 1 (by omega) (by unfold maxLen; decide) rfl
    · rw [List.mem_singleton] at hq
      subst hq
      exact ⟨(own_lower (own_below O1.out H2.out) (by omega)).alloc _, (own_lower O2.out (by omega)).alloc _⟩
    · exact (Below.call (Below.call HB1.out H1.out) H2.out).alloc (by omega) _)
  generalize hW0 : v2.alloc (.cells #[.slice u1.a n u1.c, .slice u2.a n u2.c, .bool false] 44) = W0 at HR0 ⊢
  generalize hG : v2.heap.size = G at HR0 ⊢
  clear hW0 hG O1 O2 H1 H2 z1 z2 z3 HX1 HY1 HY2
  go_loopg [11, 12] (2 * M + 1) (fun k l i W => ∃ (u : Sl) (a : Nat), l = .slice u.a u.n u.c ∧ i = .int .i64 a ∧ Hid (RefR w (fun a b => Bx.verd a b cs 1) M n (lo, hi) R k u a W))
  case atStart =>
    refine ⟨⟨some ⟨G, 0, none⟩, 1, 1⟩, 0, rfl, rfl, Lib.hid ⟨[], _, HR0.out, ⟨?_, HP.out, ?_, ?_⟩, rfl⟩⟩
    · unfold Bx.meas; simp; omega
    · intro q hq
      rw [List.mem_singleton] at hq
      subst hq
      exact ⟨HSB.out, rfl, rfl, rfl⟩
    · simp; omega
  case round =>
    obtain ⟨u, a, rfl, rfl, hrel⟩ := hrel
    obtain ⟨qd, st, hrl, hrn, ha⟩ := hrel.out
    have HRL := Lib.hid hrl
    have HRN := Lib.hid hrn
    have HA := Lib.hid ha
    have hun := hrl.n
    rw [List.length_append] at hun
    clear hrel
    cases st with
    | nil =>
      have hlt : ¬ a < u.n := by simp at hun; omega
      clear hrl hrn ha hun
      go_wp2_with fail
      go_ret2
      have hR := HRN.out.done
      rw [hR]
      have hp := HRL.out.post
      rw [List.append_nil] at hp
      exact ⟨u, rfl, hp, HRL.out.bl⟩
    | cons q st =>
      rw [List.length_cons] at hun
      have hlt : a < u.n := by omega
      have HUN := Lib.hid hun
      clear hun
      obtain ⟨k', hk'⟩ := hrn.pos
      subst hk'
      have ok := hrn.ok q List.mem_cons_self
      have hlen := hrn.len
      rw [List.length_cons] at hlen
      have ha4 : a ≤ 4096 := by omega
      have hown := hrl.own q (List.mem_append.2 (.inr List.mem_cons_self))
      obtain ⟨g, r, hgA, hg1, hg2, hgr, hgc, hgf⟩ := own_at hrl.row (fun _ => rfl) (by decide) (i := a) hlt
      have hrq : r = q.1 := by
        rw [ha, List.getElem?_map, List.getElem?_append_right (Nat.le_refl _), Nat.sub_self] at hgr
        simpa using hgr.symm
      subst hrq
      have x0 : wr.cell? ⟨g, a * 3, none⟩ = some (.slice q.1.lo.a q.1.lo.n q.1.lo.c) := hgc 0 _ rfl
      have x1 : wr.cell? ⟨g, a * 3 + 1, none⟩ = some (.slice q.1.hi.a q.1.hi.n q.1.hi.c) := hgc 1 _ rfl
      have x2 : wr.cell? ⟨g, a * 3 + 2, none⟩ = some (.bool q.1.holds) := hgc 2 _ rfl
      have HGA := Lib.hid hgA
      have hix : ∀ W, Sem.run Try.prog (Instr.indexAt 26 (.slice u.a u.n u.c) (.int .i64 (a : Int))) W = .ok (.pointer (some ⟨g, a * 3, none⟩)) W := by
        intro W; rw [hgA]; go_simp; intro h; omega
      obtain ⟨dd1, dd2⟩ := ok.sub.dom HLL.out HD1.out HD2.out
      have sm := ok.sub.small HLL.out HSM1.out HSM2.out
      have RL := Lib.hid (own_rd hown.lo)
      have RH := Lib.hid (own_rd hown.hi)
      have OKQ := Lib.hid ok
      have SM := Lib.hid sm
      have hw0 := hrl.bl.size
      have C13 := Lib.hid (fun (X : World) (hX : Below wr.heap.size wr X) => verdict13 F cs q.1.lo.a q.1.hi.a q.1.lo.n q.1.hi.n q.1.lo.c q.1.hi.c q.2.1 q.2.2 X ((HF.out.up hrl.bl).up hX) (RL.out.up hX) (RH.out.up hX) (by rw [ok.n1]; omega) hFn dd1 dd2)
      have C40 := Lib.hid (fun (X : World) (hX : Below wr.heap.size wr X) => widest40 q.1 q.2.1 q.2.2 X (RL.out.up hX) (RH.out.up hX) (by rw [ok.n1, ok.n2]) (by rw [ok.n1]; omega) sm.1 sm.2)
      clear hrl hrn ha ok hown hgc hgr hgA dd1 dd2 sm
      rcases verd_cases q.2.1 q.2.2 cs 1 (.inl rfl) with hv | hv | hv
      · rw [hv] at C13
        have HNX := Lib.hid (HRN.out.dec true (by simpa using hv))
        clear hv
        go_wp2_with fail
        refine (C13.out _ ((Below.refl _ _).alloc (Nat.le_refl _) _)).mono ?_
        rintro e w5 ⟨rfl, h5⟩
        have HB5 : Hid (Below wr.heap.size wr w5) := Lib.hid (Below.call ((Below.refl _ _).alloc (Nat.le_refl _) _) h5)
        have BXB : Hid (BoxAt w5 wr.heap.size (bxL q.1)) := Lib.hid ((BoxAt.new wr 44 (bxL q.1) _ rfl).call h5)
        have hz5 := h5.size
        simp at hz5
        clear h5
        have HRL5 := Lib.hid (HRL.out.below HB5.out)
        have b0 := BXB.out.2.1 0 _ rfl
        have b1 := BXB.out.2.1 1 _ rfl
        have b2 := BXB.out.2.1 2 _ rfl
        have bf := BXB.out.2.2
        have y0 : w5.cell? ⟨g, a * 3, none⟩ = some (.slice q.1.lo.a q.1.lo.n q.1.lo.c) := (HB5.out.cell (p := ⟨g, a * 3, none⟩) hg2).trans x0
        have y1 : w5.cell? ⟨g, a * 3 + 1, none⟩ = some (.slice q.1.hi.a q.1.hi.n q.1.hi.c) := (HB5.out.cell (p := ⟨g, a * 3 + 1, none⟩) hg2).trans x1
        have y2 : w5.cell? ⟨g, a * 3 + 2, none⟩ = some (.bool q.1.holds) := (HB5.out.cell (p := ⟨g, a * 3 + 2, none⟩) hg2).trans x2
        have yf : ∀ j, w5.frozen? ⟨g, j, none⟩ = false := fun j => (HB5.out.frozen (p := ⟨g, j, none⟩) hg2).trans (hgf j)
        have n1 : ¬ g = wr.heap.size := by omega
        have n2 : ¬ wr.heap.size = g := by omega
        have hwa : IntKind.i64.wrap ((a : Int) + 1) = (a : Int) + 1 := by rw [IntWalk.i64_left, IntWalk.wrap64_in _ (by omega)]
        clear x0 x1 x2 hgf
        have HR6 : Hid (RefRel w (w5.setCell ⟨wr.heap.size, 2, none⟩ (.bool true)) u (qd ++ q :: st)) := Lib.hid ⟨own_set_other HRL5.out.row _ _ (by rw [HGA.out]; simp [Value.ownBlock]; omega), fun p hp => ⟨own_set_other (HRL5.out.own p hp).lo _ _ (fun e => by have := own_lt (HRL.out.own p hp).lo e; simp at this), own_set_other (HRL5.out.own p hp).hi _ _ (fun e => by have := own_lt (HRL.out.own p hp).hi e; simp at this)⟩, HRL5.out.bl.setCell hw0 _⟩
        have HR7 := Lib.hid (HR6.out.put (t := true) HGA.out)
        have e0 := HA.out
        subst e0
        go_wp2_with fail
        go_roundg k'
        case measure => omega
        case rel => exact ⟨u, qd.length + 1, rfl, by go_num, Lib.hid ⟨qd ++ [({ q.1 with holds := true }, q.2)], st, HR7.out, HNX.out, by simp⟩⟩
      · rw [hv] at C13
        have HNX := Lib.hid (HRN.out.dec false (by simpa using hv))
        clear hv
        go_wp2_with fail
        refine (C13.out _ ((Below.refl _ _).alloc (Nat.le_refl _) _)).mono ?_
        rintro e w5 ⟨rfl, h5⟩
        have HB5 : Hid (Below wr.heap.size wr w5) := Lib.hid (Below.call ((Below.refl _ _).alloc (Nat.le_refl _) _) h5)
        have BXB : Hid (BoxAt w5 wr.heap.size (bxL q.1)) := Lib.hid ((BoxAt.new wr 44 (bxL q.1) _ rfl).call h5)
        have hz5 := h5.size
        simp at hz5
        clear h5
        have HRL5 := Lib.hid (HRL.out.below HB5.out)
        have b0 := BXB.out.2.1 0 _ rfl
        have b1 := BXB.out.2.1 1 _ rfl
        have b2 := BXB.out.2.1 2 _ rfl
        have bf := BXB.out.2.2
        have y0 : w5.cell? ⟨g, a * 3, none⟩ = some (.slice q.1.lo.a q.1.lo.n q.1.lo.c) := (HB5.out.cell (p := ⟨g, a * 3, none⟩) hg2).trans x0
        have y1 : w5.cell? ⟨g, a * 3 + 1, none⟩ = some (.slice q.1.hi.a q.1.hi.n q.1.hi.c) := (HB5.out.cell (p := ⟨g, a * 3 + 1, none⟩) hg2).trans x1
        have y2 : w5.cell? ⟨g, a * 3 + 2, none⟩ = some (.bool q.1.holds) := (HB5.out.cell (p := ⟨g, a * 3 + 2, none⟩) hg2).trans x2
        have yf : ∀ j, w5.frozen? ⟨g, j, none⟩ = false := fun j => (HB5.out.frozen (p := ⟨g, j, none⟩) hg2).trans (hgf j)
        have n1 : ¬ g = wr.heap.size := by omega
        have n2 : ¬ wr.heap.size = g := by omega
        have hwa : IntKind.i64.wrap ((a : Int) + 1) = (a : Int) + 1 := by rw [IntWalk.i64_left, IntWalk.wrap64_in _ (by omega)]
        clear x0 x1 x2 hgf
        have HR6 : Hid (RefRel w (w5.setCell ⟨wr.heap.size, 2, none⟩ (.bool false)) u (qd ++ q :: st)) := Lib.hid ⟨own_set_other HRL5.out.row _ _ (by rw [HGA.out]; simp [Value.ownBlock]; omega), fun p hp => ⟨own_set_other (HRL5.out.own p hp).lo _ _ (fun e => by have := own_lt (HRL.out.own p hp).lo e; simp at this), own_set_other (HRL5.out.own p hp).hi _ _ (fun e => by have := own_lt (HRL.out.own p hp).hi e; simp at this)⟩, HRL5.out.bl.setCell hw0 _⟩
        have HR7 := Lib.hid (HR6.out.put (t := false) HGA.out)
        have e0 := HA.out
        subst e0
        go_wp2_with fail
        go_roundg k'
        case measure => omega
        case rel => exact ⟨u, qd.length + 1, rfl, by go_num, Lib.hid ⟨qd ++ [({ q.1 with holds := false }, q.2)], st, HR7.out, HNX.out, by simp⟩⟩
      · rw [hv] at C13
        have HV := Lib.hid hv
        clear hv
        go_wp2_with fail
        refine (C13.out _ ((Below.refl _ _).alloc (Nat.le_refl _) _)).mono ?_
        rintro e w5 ⟨rfl, h5⟩
        have BXB : Hid (BoxAt w5 wr.heap.size (bxL q.1)) := Lib.hid ((BoxAt.new wr 44 (bxL q.1) _ rfl).call h5)
        have HB5 : Hid (Below wr.heap.size wr w5) := Lib.hid (Below.call ((Below.refl _ _).alloc (Nat.le_refl _) _) h5)
        clear h5 x0 x1 x2
        have b0 := BXB.out.2.1 0 _ rfl
        have b1 := BXB.out.2.1 1 _ rfl
        have b2 := BXB.out.2.1 2 _ rfl
        go_wp2_with fail
        refine (C40.out _ HB5.out).mono ?_
        rintro e w6 ⟨rfl, h6⟩
        have BX6 : Hid (BoxAt w6 wr.heap.size (bxL q.1)) := Lib.hid (BXB.out.call h6)
        have HB6 : Hid (Below wr.heap.size wr w6) := Lib.hid (Below.call HB5.out h6)
        clear h6 b0 b1 b2 BXB HB5
        have b0 := BX6.out.2.1 0 _ rfl
        have b1 := BX6.out.2.1 1 _ rfl
        have b2 := BX6.out.2.1 2 _ rfl
        by_cases hw : Bx.widest q.2.1 q.2.2 < 0
        · have HRR := Lib.hid (HRN.out.bad (by rw [HV.out]; decide) (by rw [HV.out]; decide) hw)
          go_wp2_with fail
          go_ret2
          exact solvePost HRR.out (Below.call HRL.out.bl HB6.out)
        · have t3 : decide (Bx.widest q.2.1 q.2.2 < 0) = false := by simpa using hw
          have HW := Lib.hid hw
          by_cases hm : M ≤ u.n
          · have HRR := Lib.hid (HRN.out.full (by rw [HV.out]; decide) (by rw [HV.out]; decide) HW.out (by have := HUN.out; omega))
            go_wp2_with fail
            go_ret2
            exact solvePost HRR.out (Below.call HRL.out.bl HB6.out)
          · have HM := Lib.hid hm
            have hx2 := Bx.widest_pos HW.out
            obtain ⟨x, y, hx, hy, hxy, hwi, hmd⟩ := hx2
            obtain ⟨i, hi⟩ : ∃ i, Bx.wI q.2 = i := ⟨_, rfl⟩
            rw [hi] at hx hy hwi hmd
            have hil : i < q.1.lo.n := by have := (List.getElem?_eq_some_iff.1 hx).1; have e := RL.out.1; rw [List.length_map] at e; omega
            have hih : i < q.1.hi.n := by have := (List.getElem?_eq_some_iff.1 hy).1; have e := RH.out.1; rw [List.length_map] at e; omega
            have bx := SM.out.1 x (List.mem_of_getElem? hx)
            have by' := SM.out.2 y (List.mem_of_getElem? hy)
            obtain ⟨p1, o1, x', ex, ixl, cxl, hp1, _⟩ := rd_int (RL.out.up HB6.out) q.1.lo.c hil
            obtain rfl : x = x' := by rw [hx] at ex; injection ex
            obtain ⟨p2, o2, y', ey, ixh, cxh, hp2, _⟩ := rd_int (RH.out.up HB6.out) q.1.hi.c hih
            obtain rfl : y = y' := by rw [hy] at ey; injection ey
            have HI := Lib.hid hi
            have HMD := Lib.hid hmd
            obtain ⟨A', hsl, hrd⟩ := tail26 (own_rd (HRL.out.below HB6.out).row) hlt (own_cap HRL.out.row)
            have hwa : IntKind.i64.wrap ((a : Int) + 1) = (a : Int) + 1 := by rw [IntWalk.i64_left, IntWalk.wrap64_in _ (by omega)]
            obtain ⟨N, hN⟩ : ∃ N, u.n - (a + 1) = N := ⟨_, rfl⟩
            rw [hN] at hsl hrd
            have hNs : N = st.length := by have := HUN.out; have := HA.out; omega
            have HTL : Hid (∀ (X : World), Below w6.heap.size w6 X → Rd X X.heap.size 3 A' N ((st.map (·.1)).flatMap bxL)) := Lib.hid (fun X hX => by
              have h := hrd w6 w6.heap.size (own_rd (HRL.out.below HB6.out).row)
              rw [flatMap_drop bxL 3 (fun _ => rfl), ← List.map_drop, HA.out, List.drop_append, List.drop_eq_nil_of_le (Nat.le_succ _), List.nil_append] at h
              have e : qd.length + 1 - qd.length = 1 := by omega
              rw [e] at h
              exact h.up hX)
            have hst : N ≤ 4096 := by omega
            have HNS := Lib.hid hNs
            clear hNs
            clear hi hmd hx hy ex ey hrd hN
            rw [hwi]
            have t3' : decide ((i : Int) < 0) = false := by simp
            clear hwi t3
            go_wp2_with fail
            go_quiet (fail)
            generalize hw7 : w6.drewN _ = w7
            have HB7 : Hid (Below wr.heap.size wr w7) := Lib.hid (by rw [← hw7]; exact below_drewN HB6.out _)
            have BX7 : Hid (BoxAt w7 wr.heap.size (bxL q.1)) := Lib.hid (by rw [← hw7]; exact BX6.out)
            have HT7 : Hid (Rd w7 w7.heap.size 3 A' N ((st.map (·.1)).flatMap bxL)) := Lib.hid (HTL.out w7 (by rw [← hw7]; exact below_drewN (Below.refl _ _) _))
            clear hw7 BX6 HB6 HTL b0 b1 b2 cxl cxh
            obtain ⟨m, hm'⟩ : ∃ m, m = x + (y - x) / 2 := ⟨_, rfl⟩
            have HMM : Hid (m = Bx.midOf q.2 i) := Lib.hid (by rw [hm', HMD.out]; rfl)
            have hm1 : IntKind.i64.wrap (m + 1) = m + 1 := by rw [IntWalk.i64_left, IntWalk.wrap64_in _ (by omega)]
            have hm2 : wrap64 (m + 1) = m + 1 := by rw [IntWalk.wrap64_in _ (by omega)]
            rw [← hm']
            clear hm' hxy bx by'
            have HRL7 := Lib.hid (HRL.out.below HB7.out)
            have HSW := Lib.hid HRL7.out.bl.size
            go_wp2_with (at_builtin; refine wpList_append_lit _ 44 rfl (.tmp 94) (.tmp 98) 26 rfl i4 _ 3 56 Try.underlying26 hi4 hz40 hz41 hz42 rfl (by decide) _ rfl (by simp) _ _ _ _ ((st.map (·.1)).flatMap bxL) rfl HT7.out (Nat.le_refl _) (flat_one _) (by omega) (by omega) ?_; intro u5 v5 hr5 ho5 h5; have O5 := Lib.hid ho5; have H5 := Lib.hid h5; have z5 := h5.size; clear hr5 ho5 h5)
            have HB8 := Lib.hid (Below.call HB7.out H5.out)
            have BX8 := Lib.hid (BX7.out.call H5.out)
            have HRL8 := Lib.hid (HRL7.out.below H5.out)
            have hs8 : wr.heap.size < v5.heap.size := BX8.out.1
            have b0 := BX8.out.2.1 0 _ rfl
            have b1 := BX8.out.2.1 1 _ rfl
            have hsl2 := head26 HRL.out.row hlt
            have W1 := Lib.hid (fun (X : World) (hX : Below v5.heap.size v5 X) => with41 q.2.2 q.1.hi.a q.1.hi.n q.1.hi.c i m X ((RH.out.up HB8.out).up hX) (by rw [OKQ.out.n2]; omega) hih)
            have W2 := Lib.hid (fun (X : World) (hX : Below v5.heap.size v5 X) => with41 q.2.1 q.1.lo.a q.1.lo.n q.1.lo.c i (m + 1) X ((RL.out.up HB8.out).up hX) (by rw [OKQ.out.n1]; omega) hil)
            refine wp_region_held_drew (S := (fun X => X.cell? ⟨wr.heap.size, 0, none⟩ = some (.slice q.1.lo.a q.1.lo.n q.1.lo.c) ∧ X.cell? ⟨wr.heap.size, 1, none⟩ = some (.slice q.1.hi.a q.1.hi.n q.1.hi.c))) (by kernel_rfl) ?_ (fun hHeld => ?_)
            · simp [go_sem, *]
            refine wpAnyH_take (i := 0) (v := ?_) rfl (by kernel_rfl) (by kernel_rfl) (by kernel_rfl) (fun _ _ _ h => h) (Or.inl ⟨by rfl, ?_⟩) (by assumption) ?_
            rotate_left
            · intro w hSw; (try dsimp only at hSw); go_simp; (first | done | (with_reducible rfl))
            try simp only [Act.put, List.getElem_toArray, List.getElem_cons_succ, List.getElem_cons_zero, List.setIfInBounds_toArray, List.set_cons_zero, List.set_cons_succ]
            refine wpAnyH_take (i := 1) (v := ?_) rfl (by kernel_rfl) (by kernel_rfl) (by kernel_rfl) (fun _ _ _ h => h) (Or.inl ⟨by rfl, ?_⟩) (by assumption) ?_
            rotate_left
            · intro w hSw; (try dsimp only at hSw); go_simp; (first | done | (with_reducible rfl))
            try simp only [Act.put, List.getElem_toArray, List.getElem_cons_succ, List.getElem_cons_zero, List.setIfInBounds_toArray, List.set_cons_zero, List.set_cons_succ]
            refine wpAnyH_take (i := 2) (v := ?_) rfl (by kernel_rfl) (by kernel_rfl) (by kernel_rfl) (fun _ _ _ h => h) (Or.inl ⟨by rfl, ?_⟩) (by assumption) ?_
            rotate_left
            · intro w hSw; (try dsimp only at hSw); go_simp; (first | done | (with_reducible rfl))
            try simp only [Act.put, List.getElem_toArray, List.getElem_cons_succ, List.getElem_cons_zero, List.setIfInBounds_toArray, List.set_cons_zero, List.set_cons_succ]
            refine wpAnyH_take (i := 3) (v := ?_) rfl (by kernel_rfl) (by kernel_rfl) (by kernel_rfl) (fun _ _ _ h => h) (Or.inl ⟨by rfl, ?_⟩) (by assumption) ?_
            rotate_left
            · intro w hSw; (try dsimp only at hSw); go_simp; (first | done | (with_reducible rfl))
            try simp only [Act.put, List.getElem_toArray, List.getElem_cons_succ, List.getElem_cons_zero, List.setIfInBounds_toArray, List.set_cons_zero, List.set_cons_succ]
            refine wpAnyH_take (i := 4) (v := ?_) rfl (by kernel_rfl) (by kernel_rfl) (by kernel_rfl) (fun _ _ _ h => h) (Or.inl ⟨by rfl, ?_⟩) (by assumption) ?_
            rotate_left
            · intro w hSw; (try dsimp only at hSw); go_simp; (first | done | (with_reducible rfl))
            try simp only [Act.put, List.getElem_toArray, List.getElem_cons_succ, List.getElem_cons_zero, List.setIfInBounds_toArray, List.set_cons_zero, List.set_cons_succ]
            refine wpAnyH_take (i := 5) (v := ?_) rfl (by kernel_rfl) (by kernel_rfl) (by kernel_rfl) (fun _ _ _ h => h) (Or.inl ⟨by rfl, ?_⟩) (by assumption) ?_
            rotate_left
            · intro w hSw; (try dsimp only at hSw); go_simp; (first | done | (with_reducible rfl))
            try simp only [Act.put, List.getElem_toArray, List.getElem_cons_succ, List.getElem_cons_zero, List.setIfInBounds_toArray, List.set_cons_zero, List.set_cons_succ]
            refine wpAnyH_take (i := 6) (v := ?_) rfl (by kernel_rfl) (by kernel_rfl) (by kernel_rfl) (fun _ _ _ h => h) (Or.inl ⟨by rfl, ?_⟩) (by assumption) ?_
            rotate_left
            · intro w hSw; (try dsimp only at hSw); go_simp; (first | done | (with_reducible rfl))
            try simp only [Act.put, List.getElem_toArray, List.getElem_cons_succ, List.getElem_cons_zero, List.setIfInBounds_toArray, List.set_cons_zero, List.set_cons_succ]
            refine wpAnyH_take (i := 7) (v := ?_) rfl (by kernel_rfl) (by kernel_rfl) (by kernel_rfl) (fun _ _ _ h => h) (Or.inl ⟨by rfl, ?_⟩) (by assumption) ?_
            rotate_left
            · intro w hSw; (try dsimp only at hSw); go_simp; (first | done | (with_reducible rfl))
            try simp only [Act.put, List.getElem_toArray, List.getElem_cons_succ, List.getElem_cons_zero, List.setIfInBounds_toArray, List.set_cons_zero, List.set_cons_succ]
            refine wpAnyH_take (i := 8) (v := ?_) rfl (by kernel_rfl) (by kernel_rfl) (by kernel_rfl) (fun _ _ _ h => h) (Or.inl ⟨by rfl, ?_⟩) (by assumption) ?_
            rotate_left
            · intro w hSw; (try dsimp only at hSw); go_simp; (first | done | (with_reducible rfl))
            try simp only [Act.put, List.getElem_toArray, List.getElem_cons_succ, List.getElem_cons_zero, List.setIfInBounds_toArray, List.set_cons_zero, List.set_cons_succ]
            refine wpAnyH_take (i := 11) (v := ?_) rfl (by kernel_rfl) (by kernel_rfl) (by kernel_rfl) (fun _ _ _ h => h) (Or.inl ⟨by rfl, ?_⟩) (by assumption) ?_
            rotate_left
            · intro w hSw; (try dsimp only at hSw); go_simp; (first | done | (with_reducible rfl))
            try simp only [Act.put, List.getElem_toArray, List.getElem_cons_succ, List.getElem_cons_zero, List.setIfInBounds_toArray, List.set_cons_zero, List.set_cons_succ]
            refine wpAnyH_take (i := 12) (v := ?_) rfl (by kernel_rfl) (by kernel_rfl) (by kernel_rfl) (fun _ _ _ h => h) (Or.inl ⟨by rfl, ?_⟩) (by assumption) ?_
            rotate_left
            · intro w hSw; (try dsimp only at hSw); go_simp; (first | done | (with_reducible rfl))
            try simp only [Act.put, List.getElem_toArray, List.getElem_cons_succ, List.getElem_cons_zero, List.setIfInBounds_toArray, List.set_cons_zero, List.set_cons_succ]
            refine wpAnyH_take (i := 13) (v := ?_) rfl (by kernel_rfl) (by kernel_rfl) (by kernel_rfl) (fun _ _ _ h => h) (Or.inl ⟨by rfl, ?_⟩) (by assumption) ?_
            rotate_left
            · intro w hSw; (try dsimp only at hSw); go_simp; (first | done | (with_reducible rfl))
            try simp only [Act.put, List.getElem_toArray, List.getElem_cons_succ, List.getElem_cons_zero, List.setIfInBounds_toArray, List.set_cons_zero, List.set_cons_succ]
            refine wpAnyH_take (i := 14) (v := ?_) rfl (by kernel_rfl) (by kernel_rfl) (by kernel_rfl) (fun _ _ _ h => h) (Or.inl ⟨by rfl, ?_⟩) (by assumption) ?_
            rotate_left
            · intro w hSw; (try dsimp only at hSw); go_simp; (first | done | (with_reducible rfl))
            try simp only [Act.put, List.getElem_toArray, List.getElem_cons_succ, List.getElem_cons_zero, List.setIfInBounds_toArray, List.set_cons_zero, List.set_cons_succ]
            refine wpAnyH_take (i := 15) (v := ?_) rfl (by kernel_rfl) (by kernel_rfl) (by kernel_rfl) (fun _ _ _ h => h) (Or.inl ⟨by rfl, ?_⟩) (by assumption) ?_
            rotate_left
            · intro w hSw; (try dsimp only at hSw); go_simp; (first | done | (with_reducible rfl))
            try simp only [Act.put, List.getElem_toArray, List.getElem_cons_succ, List.getElem_cons_zero, List.setIfInBounds_toArray, List.set_cons_zero, List.set_cons_succ]
            refine wpAnyH_take (i := 17) (v := ?_) rfl (by kernel_rfl) (by kernel_rfl) (by kernel_rfl) (fun _ _ _ h => h) (Or.inl ⟨by rfl, ?_⟩) (by assumption) ?_
            rotate_left
            · intro w hSw; (try dsimp only at hSw); go_simp; (first | done | (with_reducible rfl))
            try simp only [Act.put, List.getElem_toArray, List.getElem_cons_succ, List.getElem_cons_zero, List.setIfInBounds_toArray, List.set_cons_zero, List.set_cons_succ]
            refine wpAnyH_take (i := 18) (v := ?_) rfl (by kernel_rfl) (by kernel_rfl) (by kernel_rfl) (fun _ _ _ h => h) (Or.inl ⟨by rfl, ?_⟩) (by assumption) ?_
            rotate_left
            · intro w hSw; (try dsimp only at hSw); go_simp; (first | done | (with_reducible rfl))
            try simp only [Act.put, List.getElem_toArray, List.getElem_cons_succ, List.getElem_cons_zero, List.setIfInBounds_toArray, List.set_cons_zero, List.set_cons_succ]
            refine wpAnyH_ready (rs := [9]) (by kernel_rfl) (by simp) ?_
            refine AllReadyH.cons rfl (fun K hK => ?_) AllReadyH.nil
            go_simp
            refine (W1.out _ (by repeat (first | (with_reducible exact Below.refl _ _) | (with_reducible assumption) | ((with_reducible refine Below.setCell ?_ ?_ _); rotate_left; (focus (first | omega | (simp; omega) | (simp; done)))) | ((with_reducible refine Below.alloc ?_ ?_ _); rotate_left; (focus (first | omega | (simp; omega) | (simp; done)))) | (with_reducible refine Below.drew ?_)))).mono ?_
            rintro e vw1 ⟨sw1, rfl, ow1, hw1⟩
            have OW1 := Lib.hid ow1
            have HW1 : Hid (Below v5.heap.size v5 vw1) := Lib.hid (Below.trans (by repeat (first | (with_reducible exact Below.refl _ _) | (with_reducible assumption) | ((with_reducible refine Below.setCell ?_ ?_ _); rotate_left; (focus (first | omega | (simp; omega) | (simp; done)))) | ((with_reducible refine Below.alloc ?_ ?_ _); rotate_left; (focus (first | omega | (simp; omega) | (simp; done)))) | (with_reducible refine Below.drew ?_))) (hw1.mono (by first | omega | (simp; done) | (simp; omega))))
            have HX21 : Hid (Below vw1.heap.size vw1 vw1) := Lib.hid (Below.refl _ _)
            have q10 : vw1.cell? ⟨wr.heap.size, 0, none⟩ = some (.slice q.1.lo.a q.1.lo.n q.1.lo.c) := (HW1.out.cell (p := ⟨wr.heap.size, 0, none⟩) hs8).trans b0
            have q11 : vw1.cell? ⟨wr.heap.size, 1, none⟩ = some (.slice q.1.hi.a q.1.hi.n q.1.hi.c) := (HW1.out.cell (p := ⟨wr.heap.size, 1, none⟩) hs8).trans b1
            have hsz1 : wr.heap.size < vw1.heap.size := by have := HW1.out.size; omega
            clear ow1 hw1
            refine hK.out _ _ ?_ (fun hHeld => ?_)
            · simp [go_sem, *]
            clear hK K
            try simp only [Act.put, List.getElem_toArray, List.getElem_cons_succ, List.getElem_cons_zero, List.setIfInBounds_toArray, List.set_cons_zero, List.set_cons_succ]
            refine wpAnyH_take (i := 10) (v := ?_) rfl (by kernel_rfl) (by kernel_rfl) (by kernel_rfl) (fun _ _ _ h => h) (Or.inl ⟨by rfl, ?_⟩) (by assumption) ?_
            rotate_left
            · intro w hSw; (try dsimp only at hSw); go_simp; (first | done | (with_reducible rfl))
            try simp only [Act.put, List.getElem_toArray, List.getElem_cons_succ, List.getElem_cons_zero, List.setIfInBounds_toArray, List.set_cons_zero, List.set_cons_succ]
            refine wpAnyH_ready (rs := [16]) (by kernel_rfl) (by simp) ?_
            refine AllReadyH.cons rfl (fun K hK => ?_) AllReadyH.nil
            go_simp
            refine (W2.out _ HW1.out).mono ?_
            rintro e vw2 ⟨sw2, rfl, ow2, hw2⟩
            have OW2 := Lib.hid ow2
            have HW2 : Hid (Below v5.heap.size v5 vw2) := Lib.hid (Below.trans (HW1.out) (hw2.mono HW1.out.size))
            have HX22 : Hid (Below vw2.heap.size vw2 vw2) := Lib.hid (Below.refl _ _)
            have q20 : vw2.cell? ⟨wr.heap.size, 0, none⟩ = some (.slice q.1.lo.a q.1.lo.n q.1.lo.c) := (HW2.out.cell (p := ⟨wr.heap.size, 0, none⟩) hs8).trans b0
            have q21 : vw2.cell? ⟨wr.heap.size, 1, none⟩ = some (.slice q.1.hi.a q.1.hi.n q.1.hi.c) := (HW2.out.cell (p := ⟨wr.heap.size, 1, none⟩) hs8).trans b1
            have hsz2 : wr.heap.size < vw2.heap.size := by have := HW2.out.size; omega
            have HSTEP := Lib.hid hw2
            clear ow2 hw2
            refine hK.out _ _ ?_ (fun hHeld => ?_)
            · simp [go_sem, *]
            clear hK K
            try simp only [Act.put, List.getElem_toArray, List.getElem_cons_succ, List.getElem_cons_zero, List.setIfInBounds_toArray, List.set_cons_zero, List.set_cons_succ]
            refine wpAnyH_take (i := 19) (v := ?_) rfl (by kernel_rfl) (by kernel_rfl) (by kernel_rfl) (fun _ _ _ h => h) (Or.inl ⟨by rfl, ?_⟩) (by assumption) ?_
            rotate_left
            · intro w hSw; (try dsimp only at hSw); go_simp; (first | done | (with_reducible rfl))
            try simp only [Act.put, List.getElem_toArray, List.getElem_cons_succ, List.getElem_cons_zero, List.setIfInBounds_toArray, List.set_cons_zero, List.set_cons_succ]
            refine wpAnyH_ready (rs := [20]) (by kernel_rfl) (by simp) ?_
            refine AllReadyH.cons rfl (fun K hK => ?_) AllReadyH.nil
            go_simp
            refine hK.out _ _ ?_ (fun hHeld => ?_)
            · simp [go_sem, *]
            clear hK K
            try simp only [Act.put, List.getElem_toArray, List.getElem_cons_succ, List.getElem_cons_zero, List.setIfInBounds_toArray, List.set_cons_zero, List.set_cons_succ]
            refine wpAnyH_ready (rs := [21]) (by kernel_rfl) (by simp) ?_
            refine AllReadyH.cons rfl (fun K hK => ?_) AllReadyH.nil
            have HRA : Hid (RefRel w (vw2.alloc (.cells #[.slice q.1.lo.a q.1.lo.n q.1.lo.c, .slice sw1.a q.1.hi.n sw1.c, .bool false, .slice sw2.a q.1.lo.n sw2.c, .slice q.1.hi.a q.1.hi.n q.1.hi.c, .bool false] 44)) u (qd ++ q :: st)) := Lib.hid (((HRL8.out.below HW2.out)).below ((Below.refl _ _).alloc (Nat.le_refl _) _))
            refine step_append_sl rfl (.tmp 102) (.tmp 120) 26 rfl w.heap.size 44 i4 _ 3 56 Try.underlying26 hi4 hz40 hz41 hz42 rfl (by decide) u.a a u.c _ (by simp [Act.eval, Act.put]) (own_take HRA.out.row (Nat.le_of_lt hlt)) ⟨vw2.heap.size, 0, none⟩ 2 2 [.slice q.1.lo.a q.1.lo.n q.1.lo.c, .slice sw1.a q.1.hi.n sw1.c, .bool false, .slice sw2.a q.1.lo.n sw2.c, .slice q.1.hi.a q.1.hi.n q.1.hi.c, .bool false] (by simp [Act.eval, Act.put]) rfl (cells_new0 _ _ _ _ rfl) (by simp [Value.oneCell']) ?_ ?_ ?_ ?_
            · have e : maxLen = 9223372036854775807 := (by unfold maxLen; decide); rw [e]; omega
            · omega
            · have := HRA.out.bl.size; simpa using this
            intro u6 v6 ho6 hg6 hn6
            have HQ1 : Hid (BoxOwn (vw2.alloc (.cells #[.slice q.1.lo.a q.1.lo.n q.1.lo.c, .slice sw1.a q.1.hi.n sw1.c, .bool false, .slice sw2.a q.1.lo.n sw2.c, .slice q.1.hi.a q.1.hi.n q.1.hi.c, .bool false] 44)) w.heap.size (⟨q.1.lo, ⟨sw1.a, q.1.hi.n, sw1.c⟩, false⟩, q.2.1, q.2.2.set i m)) := Lib.hid ⟨(HRA.out.own q (List.mem_append.2 (.inr List.mem_cons_self))).lo, (own_lower (own_below OW1.out HSTEP.out) (by have := HRL8.out.bl.size; first | omega | (simp; omega))).alloc _⟩
            have HQ2 : Hid (BoxOwn (vw2.alloc (.cells #[.slice q.1.lo.a q.1.lo.n q.1.lo.c, .slice sw1.a q.1.hi.n sw1.c, .bool false, .slice sw2.a q.1.lo.n sw2.c, .slice q.1.hi.a q.1.hi.n q.1.hi.c, .bool false] 44)) w.heap.size (⟨⟨sw2.a, q.1.lo.n, sw2.c⟩, q.1.hi, false⟩, q.2.1.set i (m + 1), q.2.2)) := Lib.hid ⟨(own_lower OW2.out (by have := HRL8.out.bl.size; have := HW1.out.size; omega)).alloc _, (HRA.out.own q (List.mem_append.2 (.inr List.mem_cons_self))).hi⟩
            have HR9 : Hid (RefRel w v6 ⟨u6.a, a + 2, u6.c⟩ (qd ++ [((⟨q.1.lo, ⟨sw1.a, q.1.hi.n, sw1.c⟩, false⟩, q.2.1, q.2.2.set i m) : BxM), (⟨⟨sw2.a, q.1.lo.n, sw2.c⟩, q.1.hi, false⟩, q.2.1.set i (m + 1), q.2.2)])) := Lib.hid (RefRel.app HRA.out.bl (own_take HRA.out.row (Nat.le_of_lt hlt)) (by rw [flatMap_take bxL 3 (fun _ => rfl), ← List.map_take, HA.out, List.take_left] at ho6; rw [List.map_append, List.flatMap_append, HA.out]; exact ho6) hg6 (fun p hp => (List.mem_append.1 hp).elim (fun hp => HRA.out.own p (List.mem_append.2 (.inl hp))) (fun hp => (List.mem_cons.1 hp).elim (fun e => by rw [e]; exact HQ1.out) (fun hp => by rw [List.mem_singleton] at hp; rw [hp]; exact HQ2.out))))
            have HS9 : Hid (∀ p ∈ st, BoxOwn v6 w.heap.size p) := Lib.hid (fun p hp => (HRA.out.own p (List.mem_append.2 (.inr (List.mem_cons_of_mem _ hp)))).grown (own_take HRA.out.row (Nat.le_of_lt hlt)) hg6)
            have HO9 : Hid (v6.ownsRow w7.heap.size 44 3 (.slice u5.a N u5.c) N ((st.map (·.1)).flatMap bxL)) := Lib.hid (own_far ((own_below O5.out HW2.out).alloc _) hg6 (fun g' hg' => by have := own_lt (own_take HRL7.out.row (Nat.le_of_lt hlt)) hg'; omega))
            have z6 := hg6.size
            try simp at z6
            have GK : ∀ j, v6.cell? ⟨wr.heap.size, j, none⟩ = vw2.cell? ⟨wr.heap.size, j, none⟩ := fun j => by have h := World.cell?_of_block (a := ⟨wr.heap.size, j, none⟩) (hg6.block wr.heap.size (by simp; omega) (fun e => by have := own_lt (own_take HRL.out.row (Nat.le_of_lt hlt)) e.symm; omega)); rw [h]; exact World.cell?_alloc_past _ _ _ hsz2
            have r0 := (GK 0).trans q20
            have r1 := (GK 1).trans q21
            clear ho6 hg6 hn6 GK
            refine hK.out _ _ ?_ (fun hHeld => ?_)
            · simp [go_sem, *]
            clear hK K
            try simp only [Act.put, List.getElem_toArray, List.getElem_cons_succ, List.getElem_cons_zero, List.setIfInBounds_toArray, List.set_cons_zero, List.set_cons_succ]
            refine wpAnyH_take (i := 22) (v := ?_) rfl (by kernel_rfl) (by kernel_rfl) (by kernel_rfl) (fun _ _ _ h => h) (Or.inl ⟨by rfl, ?_⟩) (by assumption) ?_
            rotate_left
            · intro w hSw; (try dsimp only at hSw); go_simp; (first | done | (with_reducible rfl))
            try simp only [Act.put, List.getElem_toArray, List.getElem_cons_succ, List.getElem_cons_zero, List.setIfInBounds_toArray, List.set_cons_zero, List.set_cons_succ]
            refine wpAnyH_done (by kernel_rfl) ?_ _
            clear hHeld
            have hnn : N + (a + 2) ≤ 10000 := by omega
            go_wp2_with (at_builtin; refine wpList_append_rd _ rfl (.tmp 122) (.tmp 123) 26 rfl w.heap.size 44 i4 _ 3 56 Try.underlying26 hi4 hz40 hz41 hz42 rfl (by decide) (.slice u6.a (a + 2) u6.c) (a + 2) _ rfl HR9.out.row _ u5.a N u5.c ((st.map (·.1)).flatMap bxL) rfl (own_rd HO9.out) (flat_one _) (by have e : maxLen = 9223372036854775807 := (by unfold maxLen; decide); rw [e]; omega) (by omega) (by have := HR9.out.bl.size; omega) ?_; intro v' w' ho' hg'; have O10 := Lib.hid ho'; have G10 := Lib.hid hg'; clear ho' hg')
            obtain ⟨u', hu', rfl, _⟩ := own_sl O10.out
            have HRF : Hid (RefRel w w' u' (qd ++ (((⟨q.1.lo, ⟨sw1.a, q.1.hi.n, sw1.c⟩, false⟩, q.2.1, q.2.2.set i m) : BxM) :: ((⟨⟨sw2.a, q.1.lo.n, sw2.c⟩, q.1.hi, false⟩, q.2.1.set i (m + 1), q.2.2) : BxM) :: st))) := Lib.hid (by
              refine ⟨?_, fun p hp => ?_, HR9.out.bl.grown G10.out HR9.out.bl.size (fun k hk => row_base HR9.out.row k hk)⟩
              · have h := O10.out
                rw [← List.flatMap_append, ← List.map_append, List.append_assoc] at h
                rw [hu']
                exact h
              · rcases List.mem_append.1 hp with hp | hp
                · exact (HR9.out.own p (List.mem_append.2 (.inl hp))).grown HR9.out.row G10.out
                · rcases List.mem_cons.1 hp with rfl | hp
                  · exact (HR9.out.own _ (List.mem_append.2 (.inr List.mem_cons_self))).grown HR9.out.row G10.out
                  · rcases List.mem_cons.1 hp with rfl | hp
                    · exact (HR9.out.own _ (List.mem_append.2 (.inr (List.mem_cons_of_mem _ List.mem_cons_self)))).grown HR9.out.row G10.out
                    · exact (HS9.out p hp).grown HR9.out.row G10.out)
            have HNX := Lib.hid (HRN.out.cut (q1 := ((⟨q.1.lo, ⟨sw1.a, q.1.hi.n, sw1.c⟩, false⟩, q.2.1, q.2.2.set i m) : BxM)) (q2 := ((⟨⟨sw2.a, q.1.lo.n, sw2.c⟩, q.1.hi, false⟩, q.2.1.set i (m + 1), q.2.2) : BxM)) (by rw [HV.out]; decide) (by rw [HV.out]; decide) (by have := HW.out; omega) (by have := HUN.out; have := HM.out; omega)
              (by unfold Bx.cutLo; rw [HI.out, ← HMM.out]) (by unfold Bx.cutHi; rw [HI.out, ← HMM.out]) rfl rfl OKQ.out.n1 OKQ.out.n2 OKQ.out.n1 OKQ.out.n2)
            rw [← hu']
            go_roundg k'
            case measure => omega
            case rel => exact ⟨u', a, rfl, rfl, Lib.hid ⟨qd, _, HRF.out, HNX.out, HA.out⟩⟩
end Go.Proofs.Ytcncobhdfflelaa
