/- The contracts of the reference's Valid, widest, with and ints. -/
import Derived.Test.YtcncobhdfflelaaBb
namespace Go.Proofs.Ytcncobhdfflelaa
open Go.RowKit

set_option linter.unusedSimpArgs false in
set_option linter.unusedVariables false in
set_option maxRecDepth 100000 in
set_option maxHeartbeats 3200000 in
theorem valid39 (A B : Option Addr) (n m c d : Nat) (lo hi : List Int) (w : World) (hx : Rd w w.heap.size 1 A n (lo.map (Value.int .i64))) (hy : Rd w w.heap.size 1 B m (hi.map (Value.int .i64))) :
    Calls Try.prog 39 #[.slice A n c, .slice B m d] w fun e w' => e = .returned (.bool (Bx.valid lo hi)) ∧ Below w.heap.size w w' := by
  have HX := Lib.hid hx
  have HY := Lib.hid hy
  have HL := Lib.hid (show lo.length = n by simpa using hx.1)
  have HM := Lib.hid (show hi.length = m by simpa using hy.1)
  clear hx hy
  by_cases hnm : n = m
  · subst hnm
    have t1 : ((n : Int) != (n : Int)) = false := by simp
    by_cases h16 : n ≤ 16
    · have t2 : decide ((16 : Int) < (n : Int)) = false := by simp; omega
      have HV : Hid (Bx.valid lo hi = (lo.zip hi).all fun p => Bx.okAt p.1 p.2) := Lib.hid (by unfold Bx.valid; rw [HL.out, HM.out]; simp [h16])
      go_enter Try.func39, Try.ntmps39
      go_wp2_with fail
      go_loopw [5] (fun i W => ∃ k : Nat, k ≤ n ∧ i = .int .i64 k ∧ Hid ((lo.zip hi).all (fun p => Bx.okAt p.1 p.2) = ((lo.zip hi).drop k).all fun p => Bx.okAt p.1 p.2) ∧ Hid (Below w.heap.size w W)) (fun i _ => n - (intOf i).toNat)
      case atStart => exact ⟨0, Nat.zero_le _, rfl, Lib.hid rfl, Lib.hid (Below.refl _ _)⟩
      case round =>
        obtain ⟨k, hk, rfl, HK, HB⟩ := hrel
        by_cases hlt : k < n
        · obtain ⟨b1, o1, a, ha, hix, hcx, _, _⟩ := rd_int (HX.out.below HB.out (Nat.le_refl _)) c hlt
          obtain ⟨b2, o2, b, hb, hiy, hcy, _, _⟩ := rd_int (HY.out.below HB.out (Nat.le_refl _)) d hlt
          have HZ := Lib.hid (Bx.zip_at ha hb)
          clear ha hb
          by_cases g1 : a < -9007199254740992
          · have HF : Hid (Bx.valid lo hi = false) := Lib.hid (by rw [HV.out, HK.out, HZ.out]; simp [Bx.okAt, g1])
            go_wp2_with fail
            go_quiet (fail)
            go_wp2_with fail
            go_ret
            exact ⟨ret_bool HF.out.symm, below_drewN HB.out _⟩
          · by_cases g2 : b < a
            · have HF : Hid (Bx.valid lo hi = false) := Lib.hid (by rw [HV.out, HK.out, HZ.out]; simp [Bx.okAt, g2])
              have t3 : decide (a < -9007199254740992) = false := by simpa using g1
              go_wp2_with fail
              go_quiet (fail)
              go_wp2_with fail
              go_ret
              exact ⟨ret_bool HF.out.symm, below_drewN HB.out _⟩
            · by_cases g3 : 9007199254740992 < b
              · have HF : Hid (Bx.valid lo hi = false) := Lib.hid (by rw [HV.out, HK.out, HZ.out]; simp [Bx.okAt, g3])
                have t3 : decide (a < -9007199254740992) = false := by simpa using g1
                have t4 : decide (b < a) = false := by simpa using g2
                go_wp2_with fail
                go_quiet (fail)
                go_wp2_with fail
                go_ret
                exact ⟨ret_bool HF.out.symm, below_drewN HB.out _⟩
              · have HF : Hid ((lo.zip hi).all (fun p => Bx.okAt p.1 p.2) = ((lo.zip hi).drop (k + 1)).all fun p => Bx.okAt p.1 p.2) := Lib.hid (by rw [HK.out, HZ.out]; simp [Bx.okAt, g1, g2, g3])
                have t3 : decide (a < -9007199254740992) = false := by simpa using g1
                have t4 : decide (b < a) = false := by simpa using g2
                have t5 : decide (9007199254740992 < b) = false := by simpa using g3
                go_wp2_with fail
                go_quiet (fail)
                go_wp2_with fail
                go_roundw
                case rel => exact ⟨k + 1, by omega, by go_num, HF, Lib.hid (below_drewN HB.out _)⟩
                case measure => simp [intOf]; omega
        · have HF : Hid (Bx.valid lo hi = true) := Lib.hid (by rw [HV.out, HK.out, List.drop_eq_nil_of_le (by rw [List.length_zip, HL.out, HM.out]; omega)]; rfl)
          go_wp2_with fail
          go_ret
          exact ⟨ret_bool HF.out.symm, HB.out⟩
    · have t2 : decide ((16 : Int) < (n : Int)) = true := by simp; omega
      have HF : Hid (Bx.valid lo hi = false) := Lib.hid (by unfold Bx.valid; rw [HL.out]; simp [h16])
      go_enter Try.func39, Try.ntmps39
      go_wp2_with fail
      go_ret
      exact ⟨ret_bool HF.out.symm, Below.refl _ _⟩
  · have t1 : ((n : Int) != (m : Int)) = true := by simp; omega
    have HF : Hid (Bx.valid lo hi = false) := Lib.hid (by unfold Bx.valid; rw [HL.out, HM.out]; simp [hnm])
    clear hnm
    go_enter Try.func39, Try.ntmps39
    go_wp2_with fail
    go_ret
    exact ⟨ret_bool HF.out.symm, Below.refl _ _⟩

set_option linter.unusedSimpArgs false in
set_option linter.unusedVariables false in
set_option maxRecDepth 100000 in
set_option maxHeartbeats 3200000 in
theorem widest40 (b : BxC) (lo hi : List Int) (w : World) (hx : Rd w w.heap.size 1 b.lo.a b.lo.n (lo.map (Value.int .i64))) (hy : Rd w w.heap.size 1 b.hi.a b.hi.n (hi.map (Value.int .i64))) (hnm : b.lo.n = b.hi.n) (hn : b.lo.n ≤ 1000000) (h1 : Bx.Small lo) (h2 : Bx.Small hi) :
    Calls Try.prog 40 #[bxV b] w fun e w' => e = .returned (.int .i64 (Bx.widest lo hi)) ∧ Below w.heap.size w w' := by
  have HX := Lib.hid hx
  have HY := Lib.hid hy
  have HL := Lib.hid (show lo.length = b.lo.n by simpa using hx.1)
  have HM := Lib.hid (show hi.length = b.lo.n by rw [hnm]; simpa using hy.1)
  have H1 := Lib.hid h1
  have H2 := Lib.hid h2
  have hlm : b.lo.n ≤ b.hi.n := by omega
  clear hx hy h1 h2 hnm
  go_enter Try.func40, Try.ntmps40
  go_wp2_with fail
  go_loopw [3, 4, 5] (fun r v i W => ∃ (k : Nat) (q : Int × Int), k ≤ b.lo.n ∧ i = .int .i64 k ∧ r = .int .i64 q.1 ∧ v = .int .i64 q.2 ∧ 0 ≤ q.2 ∧ q.2 ≤ 18014398509481984 ∧ Hid (Bx.wide ((lo.zip hi).drop k) k q = Bx.wide (lo.zip hi) 0 (-1, 0)) ∧ Hid (Below w.heap.size w W) ∧ W.cell? ⟨w.heap.size, 0, none⟩ = some (.slice b.lo.a b.lo.n b.lo.c) ∧ W.cell? ⟨w.heap.size, 1, none⟩ = some (.slice b.hi.a b.hi.n b.hi.c)) (fun _ _ i _ => b.lo.n - (intOf i).toNat)
  case atStart => exact ⟨0, (-1, 0), Nat.zero_le _, rfl, rfl, rfl, by decide, by decide, Lib.hid rfl, Lib.hid ((Below.refl _ _).alloc (Nat.le_refl _) _), by simp [go_sem], by simp [go_sem]⟩
  case round =>
    obtain ⟨k, ⟨q1, q2⟩, hk, rfl, rfl, rfl, hq1, hq2, HK, HB, c0, c1⟩ := hrel
    dsimp only at hq1 hq2
    by_cases hlt : k < b.lo.n
    · obtain ⟨b1, o1, x, ha, hix, hcx, _, _⟩ := rd_int (HX.out.below HB.out (Nat.le_refl _)) b.lo.c hlt
      obtain ⟨b2, o2, y, hb, hiy, hcy, _, _⟩ := rd_int (HY.out.below HB.out (Nat.le_refl _)) b.hi.c (show k < b.hi.n by omega)
      have HZ := Lib.hid (Bx.zip_at ha hb)
      have bx := H1.out x (List.mem_of_getElem? ha)
      have by' := H2.out y (List.mem_of_getElem? hb)
      clear ha hb
      obtain ⟨d, hd⟩ : ∃ d, d = y - x := ⟨_, rfl⟩
      have hw : IntKind.i64.wrap (y - x) = d := by rw [IntWalk.i64_left, IntWalk.wrap64_in _ (by omega)]; exact hd.symm
      have hw2 : wrap64 (y - x) = d := by rw [IntWalk.wrap64_in _ (by omega)]; exact hd.symm
      have hd2 : d ≤ 18014398509481984 := by omega
      have HD := Lib.hid hd
      clear hd
      by_cases g : q2 < d
      · have HF : Hid (Bx.wide ((lo.zip hi).drop (k + 1)) (k + 1) ((k : Int), d) = Bx.wide (lo.zip hi) 0 (-1, 0)) := Lib.hid (by rw [← HK.out, HZ.out, Bx.wide, ← HD.out, if_pos g])
        go_wp2_with fail
        go_quiet (fail)
        go_wp2_with fail
        go_quiet (fail)
        go_wp2_with fail
        go_roundw
        case rel => exact ⟨k + 1, ((k : Int), d), by omega, by go_num, rfl, rfl, by show 0 ≤ d; omega, hd2, HF, Lib.hid (below_drewN HB.out _), c0, c1⟩
        case measure => simp [intOf]; omega
      · have HF : Hid (Bx.wide ((lo.zip hi).drop (k + 1)) (k + 1) (q1, q2) = Bx.wide (lo.zip hi) 0 (-1, 0)) := Lib.hid (by rw [← HK.out, HZ.out, Bx.wide, ← HD.out, if_neg g])
        go_wp2_with fail
        go_quiet (fail)
        go_wp2_with fail
        go_roundw
        case rel => exact ⟨k + 1, (q1, q2), by omega, by go_num, rfl, rfl, hq1, hq2, HF, Lib.hid (below_drewN HB.out _), c0, c1⟩
        case measure => simp [intOf]; omega
    · have HF : Hid (Bx.widest lo hi = q1) := Lib.hid (by
        unfold Bx.widest
        rw [← HK.out, List.drop_eq_nil_of_le (by rw [List.length_zip, HL.out, HM.out]; omega)]
        rfl)
      go_wp2_with fail
      go_ret
      exact ⟨ret_int HF.out.symm, HB.out⟩

theorem own_set1 {w : World} {base n c g i : Nat} {xs : List Int} (h : w.ownsRow base 3 1 (.slice (some ⟨g, 0, none⟩) n c) n (xs.map (Value.int .i64))) (x : Int) :
    (w.setCell ⟨g, i, none⟩ (.int .i64 x)).ownsRow base 3 1 (.slice (some ⟨g, 0, none⟩) n c) n ((xs.set i x).map (Value.int .i64)) := by
  have := (h.stored i (.int .i64 x)).1
  rwa [← List.map_set] at this
theorem own_int {w : World} {base n c k : Nat} {A : Option Addr} {xs : List Int} (h : w.ownsRow base 3 1 (.slice A n c) n (xs.map (Value.int .i64))) (hk : k < n) :
    ∃ g, A = some ⟨g, 0, none⟩ ∧ base ≤ g ∧ g < w.heap.size ∧ (∃ x, w.cell? ⟨g, k, none⟩ = some (.int .i64 x)) ∧ w.frozen? ⟨g, k, none⟩ = false := by
  rcases h.2 with ⟨_, h'⟩ | ⟨g, cap, cur, hv, hb, hg, _⟩
  · omega
  · injection hv with hA _ hc
    subst hA hc
    obtain ⟨b1, o1, x, _, hix, hcx, hb1, _⟩ := rd_int (own_rd h) c hk
    refine ⟨g, rfl, hb, (Array.getElem?_eq_some_iff.1 hg).1, ?_, h.frozenAt k⟩
    obtain ⟨hl, h2⟩ := own_rd h
    obtain ⟨b, off, hA, _, hc⟩ := h2 (by omega)
    simp only [Option.some.injEq, Addr.mk.injEq] at hA
    obtain ⟨rfl, rfl, _⟩ := hA
    have hkl : k < xs.length := by have : xs.length = n := by simpa using hl
                                   omega
    have := hc k (.int .i64 xs[k]) (by rw [List.getElem?_map, List.getElem?_eq_getElem hkl]; rfl)
    exact ⟨xs[k], by simpa using this⟩

set_option linter.unusedSimpArgs false in
set_option linter.unusedVariables false in
set_option maxRecDepth 100000 in
set_option maxHeartbeats 1600000 in
theorem with41 (xs : List Int) (A : Option Addr) (n c k : Nat) (x : Int) (w : World) (h : Rd w w.heap.size 1 A n (xs.map (Value.int .i64))) (hn : n ≤ 1000000) (hk : k < n) :
    Calls Try.prog 41 #[.slice A n c, .int .i64 (k : Int), .int .i64 x] w (OwnPost 3 1 n ((xs.set k x).map (Value.int .i64)) w) := by
  have H := Lib.hid h
  clear h
  obtain ⟨i3, hi3, hz30, hz31, hz32⟩ := info_parts info3'
  go_enter Try.func41, Try.ntmps41
  go_wp2_with (at_builtin; refine wpList_append_lit _ 3 rfl (.tmp 8) (.tmp 9) 22 rfl i3 _ 1 8 Try.underlying22 hi3 hz30 hz31 hz32 rfl (by decide) _ rfl (by simp) _ _ _ _ (xs.map (Value.int .i64)) rfl H.out (Nat.le_refl _) (int_one xs) (by omega) (by omega) ?_; intro u1 v1 hr1 ho1 h1; have HO := Lib.hid ho1; have HB := Lib.hid h1; obtain ⟨g, hA, hg1, hg2, ⟨z, hc⟩, hf⟩ := own_int ho1 hk; have hix : ∀ W, Sem.run Try.prog (Instr.indexAt 22 (.slice u1.a n u1.c) (.int .i64 (k : Int))) W = .ok (.pointer (some ⟨g, k, none⟩)) W := (by intro W; rw [hA]; go_simp); have HA := Lib.hid hA; clear hr1 ho1 h1 hA)
  go_ret
  refine ⟨u1, rfl, ?_, HB.out.setCell hg1 _⟩
  have ho := HO.out
  rw [HA.out] at ho ⊢
  exact own_set1 ho x

namespace Bx
theorem ints_at {xs ys : List Int} {k : Nat} {a b : Int} (ha : xs[k]? = some a) (hb : ys[k]? = some b) : decide (xs.drop k = ys.drop k) = (decide (a = b) && decide (xs.drop (k + 1) = ys.drop (k + 1))) := by
  obtain ⟨h1, rfl⟩ := List.getElem?_eq_some_iff.1 ha
  obtain ⟨h2, rfl⟩ := List.getElem?_eq_some_iff.1 hb
  rw [List.drop_eq_getElem_cons h1, List.drop_eq_getElem_cons h2, ← Bool.decide_and]
  exact decide_eq_decide.2 List.cons_eq_cons
end Bx
set_option linter.unusedSimpArgs false in
set_option linter.unusedVariables false in
set_option maxRecDepth 100000 in
set_option maxHeartbeats 1600000 in
theorem ints42 (A B : Option Addr) (n m c d : Nat) (xs ys : List Int) (w : World) (hx : Rd w w.heap.size 1 A n (xs.map (Value.int .i64))) (hy : Rd w w.heap.size 1 B m (ys.map (Value.int .i64))) (hn : n ≤ 1000000) :
    Calls Try.prog 42 #[.slice A n c, .slice B m d] w fun e w' => e = .returned (.bool (decide (xs = ys))) ∧ Below w.heap.size w w' := by
  have HX := Lib.hid hx
  have HY := Lib.hid hy
  have HL := Lib.hid (show xs.length = n by simpa using hx.1)
  have HM := Lib.hid (show ys.length = m by simpa using hy.1)
  clear hx hy
  by_cases hnm : n = m
  · subst hnm
    have t1 : ((n : Int) != (n : Int)) = false := by simp
    go_enter Try.func42, Try.ntmps42
    go_wp2_with fail
    go_loopw [5] (fun i W => ∃ k : Nat, k ≤ n ∧ i = .int .i64 k ∧ Hid (decide (xs = ys) = decide (xs.drop k = ys.drop k)) ∧ Hid (Below w.heap.size w W)) (fun i _ => n - (intOf i).toNat)
    case atStart => exact ⟨0, Nat.zero_le _, rfl, Lib.hid rfl, Lib.hid (Below.refl _ _)⟩
    case round =>
      obtain ⟨k, hk, rfl, HK, HB⟩ := hrel
      by_cases hlt : k < n
      · obtain ⟨b1, o1, a, ha, hix, hcx, _, _⟩ := rd_int (HX.out.below HB.out (Nat.le_refl _)) c hlt
        obtain ⟨b2, o2, b, hb, hiy, hcy, _, _⟩ := rd_int (HY.out.below HB.out (Nat.le_refl _)) d hlt
        have HZ := Lib.hid (Bx.ints_at ha hb)
        clear ha hb
        by_cases g : a = b
        · have t2 : (a != b) = false := by simp [g]
          have HF : Hid (decide (xs = ys) = decide (xs.drop (k + 1) = ys.drop (k + 1))) := Lib.hid (by rw [HK.out, HZ.out]; simp [g])
          clear g
          go_wp2_with fail
          go_quiet (fail)
          go_wp2_with fail
          go_roundw
          case rel => exact ⟨k + 1, by omega, by go_num, HF, Lib.hid (below_drewN HB.out _)⟩
          case measure => simp [intOf]; omega
        · have t2 : (a != b) = true := by simp [g]
          have HF : Hid (decide (xs = ys) = false) := Lib.hid (by rw [HK.out, HZ.out]; simp [g])
          clear g
          go_wp2_with fail
          go_quiet (fail)
          go_wp2_with fail
          go_ret
          exact ⟨ret_bool HF.out.symm, below_drewN HB.out _⟩
      · have HF : Hid (decide (xs = ys) = true) := Lib.hid (by rw [HK.out, List.drop_eq_nil_of_le (by rw [HL.out]; omega), List.drop_eq_nil_of_le (by rw [HM.out]; omega)]; simp)
        go_wp2_with fail
        go_ret
        exact ⟨ret_bool HF.out.symm, HB.out⟩
  · have t1 : ((n : Int) != (m : Int)) = true := by simp; omega
    have HF : Hid (decide (xs = ys) = false) := Lib.hid (by
      have : ¬ xs = ys := fun e => hnm (by rw [← HL.out, ← HM.out, e])
      simp [this])
    clear hnm
    go_enter Try.func42, Try.ntmps42
    go_wp2_with fail
    go_ret
    exact ⟨ret_bool HF.out.symm, Below.refl _ _⟩
end Go.Proofs.Ytcncobhdfflelaa
