/- The walk of BoxesCounts. -/
import Derived.Test.YtcncobhdfflelaaJb
namespace Go.Proofs.Ytcncobhdfflelaa
open Go.RowKit

/-- the length of a slice -/
def lenV : Value → Nat
  | .slice _ n _ => n
  | _ => 0

set_option linter.unusedSimpArgs false in
set_option linter.unusedVariables false in
set_option maxRecDepth 100000 in
set_option maxHeartbeats 6400000 in
theorem counts7 (A D : Option Addr) (n m c d : Nat) (lo hi : List Int) (u : Sl) (qs : List LnM) (w : World) (hx : Rd w w.heap.size 1 A n (ints lo)) (hy : Rd w w.heap.size 1 D m (ints hi)) (hu : LnsRd w u qs) :
    Calls Try.prog 7 #[.slice A n c, .slice D m d, .slice u.a u.n u.c] w fun e w' => e = .returned (.bool true) ∧ Below w.heap.size w w' := by
  have hmf : ∀ (fn : Fn) (first cap : Array Value) (w : World), (Instr.makeFunc fn first cap).run Try.prog w = .ok (.func fn first cap) w := fun _ _ _ _ => rfl
  have HL := Lib.hid (show lo.length = n by simpa using hx.1)
  have HM := Lib.hid (show hi.length = m by simpa using hy.1)
  have HX := Lib.hid hx
  have HY := Lib.hid hy
  have HU := Lib.hid hu
  clear hx hy hu
  obtain ⟨i3, hi3, hz30, hz31, hz32⟩ := info_parts info3'
  go_enter Try.func7, Try.ntmps7
  go_wp2_with fail
  refine (small9 _).mono ?_
  rintro e v1 ⟨rfl, h1⟩
  have hB1 : Below w.heap.size w v1 := Below.call (w := w) (by repeat (first | (with_reducible exact Below.refl _ _) | (with_reducible assumption) | ((with_reducible refine Below.setCell ?_ ?_ _); rotate_left; (focus (first | omega | (simp; omega) | (simp; done)))) | ((with_reducible refine Below.alloc ?_ ?_ _); rotate_left; (focus (first | omega | (simp; omega) | (simp; done)))) | (with_reducible refine Below.drew ?_))) h1
  have hz1 := h1.size
  simp at hz1
  have k1 : v1.cell? ⟨w.heap.size, 0, none⟩ = some (.slice u.a u.n u.c) := (h1.cell (p := ⟨w.heap.size, 0, none⟩) (by simp)).trans (by simp [go_sem])
  have HB1 := Lib.hid hB1
  clear h1 hB1
  have CP := Lib.hid (plain10 A D n m c d lo hi u qs v1 (HX.out.up HB1.out) (HY.out.up HB1.out) (HU.out.up HB1.out))
  obtain ⟨pl, hpl⟩ : ∃ pl, Bx.plainB lo hi (qs.map lnP) = pl := ⟨_, rfl⟩
  rw [hpl] at CP
  have HPL := Lib.hid hpl
  clear hpl
  go_wp2_with fail
  refine CP.out.mono ?_
  rintro e v2 ⟨rfl, h2⟩
  have k2 : v2.cell? ⟨w.heap.size, 0, none⟩ = some (.slice u.a u.n u.c) := (h2.cell (p := ⟨w.heap.size, 0, none⟩) (by show w.heap.size < v1.heap.size; omega)).trans k1
  have hz2 : w.heap.size < v2.heap.size := by have := h2.size; omega
  have HB2 := Lib.hid (Below.call HB1.out h2)
  clear h2 CP k1
  cases pl with
  | false =>
    go_wp2_with fail
    go_ret
    exact ⟨rfl, HB2.out⟩
  | true =>
    by_cases g1 : 2 < n
    · have t1 : decide ((2 : Int) < (n : Int)) = true := by simp; omega
      go_wp2_with fail
      go_ret
      exact ⟨rfl, HB2.out⟩
    · have t1 : decide ((2 : Int) < (n : Int)) = false := by simp; omega
      by_cases g2 : m = n
      · subst g2
        have t2 : ((m : Int) != (m : Int)) = false := by simp
        have hn2 : m ≤ 2 := by omega
        obtain ⟨p1, p2, p3, p4, p5, p6⟩ := Bx.plainB_spec HPL.out
        have hun : u.n ≤ 4 := by rw [List.length_map, HU.out.len] at p3; exact p3
        have HP6 := Lib.hid p6
        have HP4 := Lib.hid p4
        have HP5 := Lib.hid p5
        clear g1 p1 p2 p3 p4 p5 p6
        go_wp2_with fail
        go_loop [8] (fun i => ∃ k : Nat, k ≤ m ∧ i = .int .i64 k ∧ Hid (∀ (j : Nat) (x y : Int), j < k → lo[j]? = some x → hi[j]? = some y → -40 ≤ x ∧ y ≤ 40)) (fun i => m - (intOf i).toNat)
        case atStart => exact ⟨0, Nat.zero_le _, rfl, Lib.hid (fun j x y hj => absurd hj (Nat.not_lt_zero _))⟩
        case round =>
          obtain ⟨k, hk, rfl, HK⟩ := hrel
          by_cases hlt : k < m
          · obtain ⟨b1, o1, x, e1, ix1, c1, hb1, _⟩ := rd_int (HX.out.up HB2.out) c hlt
            obtain ⟨b2, o2, y, e2, ix2, c2, hb2, _⟩ := rd_int (HY.out.up HB2.out) d hlt
            have E1 := Lib.hid e1
            have E2 := Lib.hid e2
            clear e1 e2
            by_cases q1 : x < -40
            · have t5 : decide (x < -40) = true := by simpa using q1
              go_wp2_with fail
              go_ret
              exact ⟨rfl, HB2.out⟩
            · have t5 : decide (x < -40) = false := by simpa using q1
              by_cases q2 : 40 < y
              · have t6 : decide (40 < y) = true := by simpa using q2
                go_wp2_with fail
                go_ret
                exact ⟨rfl, HB2.out⟩
              · have t6 : decide (40 < y) = false := by simpa using q2
                have HF : Hid (∀ (j : Nat) (x y : Int), j < k + 1 → lo[j]? = some x → hi[j]? = some y → -40 ≤ x ∧ y ≤ 40) := Lib.hid (fun j x' y' hj hx' hy' => by
                  by_cases e : j = k
                  · subst e
                    rw [E1.out] at hx'
                    rw [E2.out] at hy'
                    injection hx' with hx'
                    injection hy' with hy'
                    omega
                  · exact HK.out j x' y' (by omega) hx' hy')
                go_wp2_with fail
                go_round
                case rel => exact ⟨k + 1, by omega, by go_num, HF⟩
                case measure => simp [intOf]; omega
          · have HO : Hid (∀ (j : Nat) (x y : Int), lo[j]? = some x → hi[j]? = some y → -40 ≤ x ∧ y ≤ 40) := Lib.hid (fun j x y h1 h2 => HK.out j x y (by have := (List.getElem?_eq_some_iff.1 h1).1; have := HL.out; omega) h1 h2)
            clear HK
            have LA := Lib.hid ((HU.out.up HB2.out).at_ (fun c hc => (HP6.out c hc).2))
            have CS : Hid (∀ (X : World), Below v2.heap.size v2 X → Calls Try.prog 11 #[.slice A m c, .slice D m d, .func (.func 26) #[] #[.pointer (some ⟨w.heap.size, 0, none⟩)], .int .i64 4096] X (SolvePost (Bx.solve (fun a b => Bx.verd a b (qs.map lnP) 1) lo hi 4096) X)) := Lib.hid (fun X hX =>
              solve11 A D m m c d lo hi 26 _ _ 4096 X ((HX.out.up HB2.out).up hX) ((HY.out.up HB2.out).up hX) eg26 (fun hv => verd26 (D := (lo, hi)) (Nat.lt_of_lt_of_le hz2 hX.size) ((hX.cell (p := ⟨w.heap.size, 0, none⟩) hz2).trans k2) (LA.out.up hX) (by omega) ((Bx.sub_self' hv).2.1) (by show lo.length ≤ 1000; have := HL.out; omega) HP4.out HP5.out))
            have LAW := Lib.hid (Bx.solve_cases lo hi (qs.map lnP) 4096)
            go_wp2_with fail
            clear hlt hk
            rcases LAW.out with r1 | r1 | r1 | ⟨r, r1, hv, hp, hrl⟩
            · rw [r1] at CS
              clear r1 LAW HO
              refine (CS.out _ (by repeat (first | (with_reducible exact Below.refl _ _) | (with_reducible assumption) | ((with_reducible refine Below.setCell ?_ ?_ _); rotate_left; (focus (first | omega | (simp; omega) | (simp; done)))) | ((with_reducible refine Below.alloc ?_ ?_ _); rotate_left; (focus (first | omega | (simp; omega) | (simp; done)))) | (with_reducible refine Below.drew ?_)))).mono ?_
              rintro e v3 ⟨u3, rfl, hx3, h3⟩
              have s3 : Below v2.heap.size v2 v3 := Below.call (w := v2) (by repeat (first | (with_reducible exact Below.refl _ _) | (with_reducible assumption) | ((with_reducible refine Below.setCell ?_ ?_ _); rotate_left; (focus (first | omega | (simp; omega) | (simp; done)))) | ((with_reducible refine Below.alloc ?_ ?_ _); rotate_left; (focus (first | omega | (simp; omega) | (simp; done)))) | (with_reducible refine Below.drew ?_))) h3
              have HB3 := Lib.hid (Below.call HB2.out s3)
              clear h3 hx3 CS s3
              go_wp2_with fail
              go_ret
              exact ⟨rfl, HB3.out⟩
            · rw [r1] at CS
              clear r1 LAW HO
              refine (CS.out _ (by repeat (first | (with_reducible exact Below.refl _ _) | (with_reducible assumption) | ((with_reducible refine Below.setCell ?_ ?_ _); rotate_left; (focus (first | omega | (simp; omega) | (simp; done)))) | ((with_reducible refine Below.alloc ?_ ?_ _); rotate_left; (focus (first | omega | (simp; omega) | (simp; done)))) | (with_reducible refine Below.drew ?_)))).mono ?_
              rintro e v3 ⟨u3, rfl, hx3, h3⟩
              have s3 : Below v2.heap.size v2 v3 := Below.call (w := v2) (by repeat (first | (with_reducible exact Below.refl _ _) | (with_reducible assumption) | ((with_reducible refine Below.setCell ?_ ?_ _); rotate_left; (focus (first | omega | (simp; omega) | (simp; done)))) | ((with_reducible refine Below.alloc ?_ ?_ _); rotate_left; (focus (first | omega | (simp; omega) | (simp; done)))) | (with_reducible refine Below.drew ?_))) h3
              have HB3 := Lib.hid (Below.call HB2.out s3)
              clear h3 hx3 CS s3
              go_wp2_with fail
              go_ret
              exact ⟨rfl, HB3.out⟩
            · rw [r1] at CS
              clear r1 LAW HO
              refine (CS.out _ (by repeat (first | (with_reducible exact Below.refl _ _) | (with_reducible assumption) | ((with_reducible refine Below.setCell ?_ ?_ _); rotate_left; (focus (first | omega | (simp; omega) | (simp; done)))) | ((with_reducible refine Below.alloc ?_ ?_ _); rotate_left; (focus (first | omega | (simp; omega) | (simp; done)))) | (with_reducible refine Below.drew ?_)))).mono ?_
              rintro e v3 ⟨u3, rfl, hx3, h3⟩
              have s3 : Below v2.heap.size v2 v3 := Below.call (w := v2) (by repeat (first | (with_reducible exact Below.refl _ _) | (with_reducible assumption) | ((with_reducible refine Below.setCell ?_ ?_ _); rotate_left; (focus (first | omega | (simp; omega) | (simp; done)))) | ((with_reducible refine Below.alloc ?_ ?_ _); rotate_left; (focus (first | omega | (simp; omega) | (simp; done)))) | (with_reducible refine Below.drew ?_))) h3
              have HB3 := Lib.hid (Below.call HB2.out s3)
              clear h3 hx3 CS s3
              go_wp2_with fail
              go_ret
              exact ⟨rfl, HB3.out⟩
            · rw [r1] at CS
              have HP := Lib.hid hp
              have HRL : Hid (r.length ≤ 4096) := Lib.hid (by have := (Bx.lim_any 4096).2; omega)
              have hle : ∀ (i : Nat) (x y : Int), lo[i]? = some x → hi[i]? = some y → -40 ≤ x ∧ x ≤ y ∧ y ≤ 40 := fun i x y h1 h2 => by
                have a := HO.out i x y h1 h2
                have b := ((Bx.sub_self' hv).1.in_ i x y x y h1 h2 h1 h2).2.1
                omega
              obtain ⟨a0, a1, b0, b1, hF, hT, q1, q2, q3, q4, q5, q6, hcnt⟩ := Bx.cnt_two (qs.map lnP) HL.out HM.out hn2 hle
              have HFF := Lib.hid hF
              have HTT := Lib.hid hT
              have HCN := Lib.hid hcnt
              have HHL := Lib.hid ((Bx.sub_self' hv).2.1)
              clear r1 hv hp hrl LAW hle hF hT hcnt HO
              refine (CS.out _ (by repeat (first | (with_reducible exact Below.refl _ _) | (with_reducible assumption) | ((with_reducible refine Below.setCell ?_ ?_ _); rotate_left; (focus (first | omega | (simp; omega) | (simp; done)))) | ((with_reducible refine Below.alloc ?_ ?_ _); rotate_left; (focus (first | omega | (simp; omega) | (simp; done)))) | (with_reducible refine Below.drew ?_)))).mono ?_
              rintro e v3 ⟨u3, rfl, hx3, h3⟩
              have s3 : Below v2.heap.size v2 v3 := Below.call (w := v2) (by repeat (first | (with_reducible exact Below.refl _ _) | (with_reducible assumption) | ((with_reducible refine Below.setCell ?_ ?_ _); rotate_left; (focus (first | omega | (simp; omega) | (simp; done)))) | ((with_reducible refine Below.alloc ?_ ?_ _); rotate_left; (focus (first | omega | (simp; omega) | (simp; done)))) | (with_reducible refine Below.drew ?_))) h3
              have HB3 := Lib.hid (Below.call HB2.out s3)
              have HR3 := Lib.hid hx3.full
              have k3 : v3.cell? ⟨w.heap.size, 0, none⟩ = some (.slice u.a u.n u.c) := (s3.cell (p := ⟨w.heap.size, 0, none⟩) hz2).trans k2
              have hz3 : w.heap.size < v3.heap.size := by have := s3.size; omega
              have HX3 := Lib.hid ((HX.out.up HB3.out))
              have HY3 := Lib.hid ((HY.out.up HB3.out))
              have HU3 := Lib.hid ((HU.out.up HB3.out))
              clear h3 hx3 CS s3 k2 hz2
              go_wp2_with (first
                | (at_builtin; refine wpList_append_lit _ 3 rfl (.tmp 71) (.tmp 72) 22 rfl i3 _ 1 8 Try.underlying22 hi3 hz30 hz31 hz32 rfl (by decide) _ rfl (by simp) _ _ _ _ (ints lo) rfl HX3.out (Nat.le_refl _) (int_one lo) (by omega) (by omega) ?_; intro u4 v4 hr4 ho4 h4; have O4 := Lib.hid ho4; have H4 := Lib.hid h4; have z4 := h4.size; have HY4 := Lib.hid (HY3.out.up h4); clear hr4 ho4 h4)
                | (at_builtin; refine wpList_append_lit _ 3 rfl (.tmp 74) (.tmp 75) 22 rfl i3 _ 1 8 Try.underlying22 hi3 hz30 hz31 hz32 rfl (by decide) _ rfl (by simp) _ _ _ _ (ints hi) rfl HY4.out (Nat.le_refl _) (int_one hi) (by omega) (by omega) ?_; intro u5 v5 hr5 ho5 h5; have O5 := Lib.hid ho5; have H5 := Lib.hid h5; have z5 := h5.size; clear hr5 ho5 h5))
              have HB5 : Hid (Below v3.heap.size v3 v5) := Lib.hid (Below.call H4.out H5.out)
              have HW0 : Hid (Rows v5 v3.heap.size [⟨3, 1, ⟨u4.a, m, u4.c⟩, ints lo⟩, ⟨3, 1, ⟨u5.a, m, u5.c⟩, ints hi⟩]) := Lib.hid (by
                have hr1 : Rows v4 v3.heap.size ([(⟨3, 1, ⟨u4.a, m, u4.c⟩, ints lo⟩ : Row)] ++ []) := ⟨fun q hq => by rw [List.append_nil, List.mem_singleton] at hq; subst hq; exact O4.out, by simp⟩
                exact hr1.ins (r := ⟨3, 1, ⟨u5.a, m, u5.c⟩, ints hi⟩) H5.out (own_lower O5.out H4.out.size) (fun g hg => row_base O5.out g hg))
              clear O4 O5 H4 H5 z4 z5 HY4 HX3 HY3
              go_loopw [11, 12] (fun f t W => ∃ (N : Nat) (x y : Sl), m ≤ N ∧ N ≤ 2 ∧ f = .slice x.a N x.c ∧ t = .slice y.a N y.c ∧ Hid (Rows W v3.heap.size [⟨3, 1, ⟨x.a, N, x.c⟩, ints (lo ++ List.replicate (N - m) 0)⟩, ⟨3, 1, ⟨y.a, N, y.c⟩, ints (hi ++ List.replicate (N - m) 0)⟩]) ∧ Hid (Below v3.heap.size v3 W)) (fun f _ _ => 2 - lenV f)
              case atStart => exact ⟨m, u4, u5, Nat.le_refl _, hn2, rfl, rfl, Lib.hid (by rw [Nat.sub_self]; simpa using HW0.out), HB5⟩
              case round =>
                obtain ⟨N, x, y, hN1, hN2, rfl, rfl, HW, HB⟩ := hrel
                by_cases hlt : N < 2
                · have HWa : Hid (Rows (wr.alloc (.cells #[.int .i64 0] 3)) v3.heap.size [⟨3, 1, ⟨x.a, N, x.c⟩, ints (lo ++ List.replicate (N - m) 0)⟩, ⟨3, 1, ⟨y.a, N, y.c⟩, ints (hi ++ List.replicate (N - m) 0)⟩]) := Lib.hid (HW.out.keep ((Below.refl _ _).alloc (Nat.le_refl _) _))
                  have hw0 := HB.out.size
                  have hrep : List.replicate (N + 1 - m) (0 : Int) = List.replicate (N - m) 0 ++ [0] := by rw [show N + 1 - m = (N - m) + 1 by omega, List.replicate_succ']
                  have HREP := Lib.hid hrep
                  clear hrep
                  have hN3 : Hid (N + 1 ≤ 2) := Lib.hid hlt
                  go_wp2_with (first
                    | (at_builtin; refine wpList_append_sl rfl (.tmp 80) (.tmp 81) 22 rfl v3.heap.size 3 i3 _ 1 8 Try.underlying22 hi3 hz30 hz31 hz32 rfl (by decide) x.a N x.c (ints (lo ++ List.replicate (N - m) 0)) rfl (HWa.out.own _ List.mem_cons_self) ⟨wr.heap.size, 0, none⟩ 1 1 [.int .i64 0] rfl rfl (cells_new0 _ _ _ _ rfl) (by simp [Value.oneCell']) (by have e : maxLen = 9223372036854775807 := (by unfold maxLen; decide); rw [e]; omega) (by omega) (by simp; omega) ?_; intro u6 v6 ho6 hg6 hn6; have HG6 := Lib.hid hg6; have z6 := hg6.size; have HW6 : Hid (Rows v6 v3.heap.size [⟨3, 1, ⟨u6.a, N + 1, u6.c⟩, ints (lo ++ List.replicate (N + 1 - m) 0)⟩, ⟨3, 1, ⟨y.a, N, y.c⟩, ints (hi ++ List.replicate (N - m) 0)⟩]) := Lib.hid (Rows.upd (A := []) (r' := ⟨3, 1, ⟨u6.a, N + 1, u6.c⟩, ints (lo ++ List.replicate (N + 1 - m) 0)⟩) HWa.out hg6 (by show v6.ownsRow _ 3 1 _ _ (ints _); rw [HREP.out, ← List.append_assoc, ints, List.map_append]; exact ho6) hn6); have HB6 : Hid (Below v3.heap.size v3 v6) := Lib.hid ((HB.out.alloc hw0 _).grown hg6 (by simp; omega) (fun g hg => row_base (HWa.out.own _ List.mem_cons_self) g hg)); have HW7 : Hid (Rows (v6.alloc (.cells #[.int .i64 0] 3)) v3.heap.size [⟨3, 1, ⟨u6.a, N + 1, u6.c⟩, ints (lo ++ List.replicate (N + 1 - m) 0)⟩, ⟨3, 1, ⟨y.a, N, y.c⟩, ints (hi ++ List.replicate (N - m) 0)⟩]) := Lib.hid (HW6.out.keep ((Below.refl _ _).alloc (Nat.le_refl _) _)); (try simp at z6); clear ho6 hg6 hn6)
                    | (at_builtin; refine wpList_append_sl rfl (.tmp 83) (.tmp 84) 22 rfl v3.heap.size 3 i3 _ 1 8 Try.underlying22 hi3 hz30 hz31 hz32 rfl (by decide) y.a N y.c (ints (hi ++ List.replicate (N - m) 0)) rfl (HW7.out.own _ (List.mem_cons_of_mem _ List.mem_cons_self)) ⟨v6.heap.size, 0, none⟩ 1 1 [.int .i64 0] rfl rfl (cells_new0 _ _ _ _ rfl) (by simp [Value.oneCell']) (by have e : maxLen = 9223372036854775807 := (by unfold maxLen; decide); rw [e]; omega) (by omega) (by simp; omega) ?_; intro u7 v7 ho7 hg7 hn7; have HW8 : Hid (Rows v7 v3.heap.size [⟨3, 1, ⟨u6.a, N + 1, u6.c⟩, ints (lo ++ List.replicate (N + 1 - m) 0)⟩, ⟨3, 1, ⟨u7.a, N + 1, u7.c⟩, ints (hi ++ List.replicate (N + 1 - m) 0)⟩]) := Lib.hid (Rows.upd (A := [⟨3, 1, ⟨u6.a, N + 1, u6.c⟩, ints (lo ++ List.replicate (N + 1 - m) 0)⟩]) (r' := ⟨3, 1, ⟨u7.a, N + 1, u7.c⟩, ints (hi ++ List.replicate (N + 1 - m) 0)⟩) HW7.out hg7 (by show v7.ownsRow _ 3 1 _ _ (ints _); rw [HREP.out, ← List.append_assoc, ints, List.map_append]; exact ho7) hn7); have HB8 : Hid (Below v3.heap.size v3 v7) := Lib.hid ((HB6.out.alloc (by omega) _).grown hg7 (by simp; omega) (fun g hg => row_base (HW7.out.own _ (List.mem_cons_of_mem _ List.mem_cons_self)) g hg)); clear ho7 hg7 hn7))
                  go_roundw
                  case rel => exact ⟨N + 1, u6, u7, by omega, hN3.out, rfl, rfl, HW8, HB8⟩
                  case measure => simp [lenV]; omega
                · obtain rfl : N = 2 := by omega
                  obtain ⟨ws, rfl⟩ : ∃ W, W = wr := ⟨wr, rfl⟩
                  have hRF : Rd ws ws.heap.size 1 x.a 2 (ints [a0, a1]) := by have h := own_rd (HW.out.own _ List.mem_cons_self); rw [← HFF.out]; exact h
                  have hRT : Rd ws ws.heap.size 1 y.a 2 (ints [b0, b1]) := by have h := own_rd (HW.out.own _ (List.mem_cons_of_mem _ List.mem_cons_self)); rw [← HTT.out]; exact h
                  obtain ⟨fb0, fo0, z, e, jf0, cf0, hfb0, _⟩ := rd_int hRF x.c (k := 0) (by decide)
                  obtain rfl : a0 = z := by simpa using e
                  clear e
                  obtain ⟨fb1, fo1, z, e, jf1, cf1, hfb1, _⟩ := rd_int hRF x.c (k := 1) (by decide)
                  obtain rfl : a1 = z := by simpa using e
                  clear e
                  obtain ⟨tb0, to0, z, e, jt0, ct0, htb0, _⟩ := rd_int hRT y.c (k := 0) (by decide)
                  obtain rfl : b0 = z := by simpa using e
                  clear e
                  obtain ⟨tb1, to1, z, e, jt1, ct1, htb1, _⟩ := rd_int hRT y.c (k := 1) (by decide)
                  obtain rfl : b1 = z := by simpa using e
                  clear e
                  have if0 : ∀ W, Sem.run Try.prog (Instr.indexAt 22 (.slice x.a 2 x.c) (.int .i64 0)) W = .ok (.pointer (some ⟨fb0, fo0, none⟩)) W := jf0
                  have if1 : ∀ W, Sem.run Try.prog (Instr.indexAt 22 (.slice x.a 2 x.c) (.int .i64 1)) W = .ok (.pointer (some ⟨fb1, fo1, none⟩)) W := jf1
                  have it0 : ∀ W, Sem.run Try.prog (Instr.indexAt 22 (.slice y.a 2 y.c) (.int .i64 0)) W = .ok (.pointer (some ⟨tb0, to0, none⟩)) W := jt0
                  have it1 : ∀ W, Sem.run Try.prog (Instr.indexAt 22 (.slice y.a 2 y.c) (.int .i64 1)) W = .ok (.pointer (some ⟨tb1, to1, none⟩)) W := jt1
                  have HCF1 := Lib.hid cf1
                  have HCT0 := Lib.hid ct0
                  have HCT1 := Lib.hid ct1
                  have HU5 := Lib.hid (HU3.out.up HB.out)
                  have HR5 := Lib.hid (HR3.out.up HB.out)
                  have ck : ws.cell? ⟨w.heap.size, 0, none⟩ = some (.slice u.a u.n u.c) := (HB.out.cell (p := ⟨w.heap.size, 0, none⟩) hz3).trans k3
                  have HCK := Lib.hid ck
                  have hzs : w.heap.size < ws.heap.size := by have := HB.out.size; omega
                  have HBS := Lib.hid (Below.call HB3.out HB.out)
                  clear hRF hRT jf0 jf1 jt0 jt1 HW HFF HTT HB hz3 k3 HU3 HR3 HW0 HB5
                  go_wp2_with fail
                  clear cf0 cf1 ct0 ct1 ck if0
                  go_loopw [13, 14] (fun cn px W => ∃ (C : Nat) (X : Int), cn = .int .i64 C ∧ px = .int .i64 X ∧ a0 ≤ X ∧ X ≤ b0 + 1 ∧ (C : Int) ≤ 100 * (X - a0) ∧ Hid (C = Bx.sumI (Bx.rowC (qs.map lnP) m a1 b1) a0 (X - a0).toNat) ∧ Hid (Below ws.heap.size ws W)) (fun _ px _ => (b0 + 1 - intOf px).toNat)
                  case atStart => exact ⟨0, a0, rfl, rfl, Int.le_refl _, by omega, by omega, Lib.hid (by rw [Int.sub_self]; rfl), Lib.hid (Below.refl _ _)⟩
                  case round =>
                    obtain ⟨C, X, rfl, rfl, x1, x2, x3, HC, HB⟩ := hrel
                    obtain ⟨wo, rfl⟩ : ∃ W, W = wr := ⟨wr, rfl⟩
                    have ct0 : wo.cell? ⟨tb0, to0, none⟩ = some (.int .i64 b0) := (HB.out.cell (p := ⟨tb0, to0, none⟩) htb0).trans HCT0.out
                    have cf1 : wo.cell? ⟨fb1, fo1, none⟩ = some (.int .i64 a1) := (HB.out.cell (p := ⟨fb1, fo1, none⟩) hfb1).trans HCF1.out
                    have hwo := HB.out.size
                    by_cases hxx : X ≤ b0
                    · go_wp2_with fail
                      go_loopw [13, 15] (fun cn py W => ∃ (C : Nat) (Y : Int), cn = .int .i64 C ∧ py = .int .i64 Y ∧ a1 ≤ Y ∧ Y ≤ b1 + 1 ∧ (C : Int) ≤ 100 * (X - a0) + (Y - a1) ∧ Hid (C = Bx.sumI (Bx.rowC (qs.map lnP) m a1 b1) a0 (X - a0).toNat + Bx.sumI (Bx.ind (qs.map lnP) m X) a1 (Y - a1).toNat) ∧ Hid (Below ws.heap.size ws W)) (fun _ py _ => (b1 + 1 - intOf py).toNat)
                      case atStart => exact ⟨C, a1, rfl, rfl, Int.le_refl _, by omega, by omega, Lib.hid (by rw [Int.sub_self, HC.out]; rfl), HB⟩
                      case round =>
                        clear HC HB ct0 cf1 hwo x3
                        obtain ⟨C, Y, rfl, rfl, y1, y2, y3, HC, HB⟩ := hrel
                        obtain ⟨wi, rfl⟩ : ∃ W, W = wr := ⟨wr, rfl⟩
                        have ct1 : wi.cell? ⟨tb1, to1, none⟩ = some (.int .i64 b1) := (HB.out.cell (p := ⟨tb1, to1, none⟩) htb1).trans HCT1.out
                        have hwi := HB.out.size
                        by_cases hyy : Y ≤ b1
                        · obtain ⟨wa, hwa⟩ : ∃ wa, wa = wi.alloc (.cells #[.int .i64 X, .int .i64 Y] 3) := ⟨_, rfl⟩
                          have HBA : Hid (Below ws.heap.size ws wa) := Lib.hid (by rw [hwa]; exact HB.out.alloc hwi _)
                          obtain ⟨B, hB⟩ : ∃ B, B = wi.heap.size := ⟨_, rfl⟩
                          have HPT : Hid (Rd wa wa.heap.size 1 (some ⟨B, 0, none⟩) m (ints ([X, Y].take m))) := Lib.hid (by
                            have h : Rd wa wa.heap.size 1 (some ⟨B, 0, none⟩) 2 (ints [X, Y]) := by
                              rw [hwa, hB]
                              exact own_rd (World.ownsRow_lit (base := wi.heap.size) (e := 3) (size := 1) wi #[.int .i64 X, .int .i64 Y] 2 (Nat.le_refl _) (by unfold maxLen; decide) rfl)
                            have h' := h.take_ (m := m) hn2
                            rw [Nat.mul_one] at h'
                            rw [ints, List.map_take]
                            exact h')
                          have hsl : ∀ W, Sem.run Try.prog (Instr.sliceAt 22 (.slice (some ⟨B, 0, none⟩) 2 2) none (some (.int .i64 (m : Int))) none) W = .ok (.slice (some ⟨B, 0, none⟩) m 2) W := by
                            intro W
                            have h1 : m ≤ 2 := hn2
                            go_simp
                            intro h
                            omega
                          have HDP : Hid (Bx.Dom ([X, Y].take m)) := Lib.hid (fun z hz => by
                            have hz' := List.mem_of_mem_take hz
                            simp at hz'
                            omega)
                          clear HB
                          go_wp2_with fail
                          rw [← hB, ← hwa]
                          clear hB hwa ct1
                          go_loopw [17, 18] (fun h i W => ∃ (k : Nat) (bb : Bool), k ≤ u.n ∧ h = .bool bb ∧ i = .int .i64 k ∧ Hid ((bb && Bx.allAt ((qs.map lnP).drop k) ([X, Y].take m)) = Bx.allAt (qs.map lnP) ([X, Y].take m)) ∧ Hid (Below wa.heap.size wa W)) (fun _ i _ => u.n - (intOf i).toNat)
                          case atStart => exact ⟨0, true, Nat.zero_le _, rfl, rfl, Lib.hid rfl, Lib.hid (Below.refl _ _)⟩
                          case round =>
                            obtain ⟨k, bb, hk, rfl, rfl, HK, HI⟩ := hrel
                            obtain ⟨wk, rfl⟩ : ∃ W, W = wr := ⟨wr, rfl⟩
                            have HIS := Lib.hid (Below.call HBA.out HI.out)
                            have ck : wk.cell? ⟨w.heap.size, 0, none⟩ = some (.slice u.a u.n u.c) := (HIS.out.cell (p := ⟨w.heap.size, 0, none⟩) hzs).trans HCK.out
                            have hzk : w.heap.size < wk.heap.size := by have := HIS.out.size; omega
                            by_cases hlk : k < u.n
                            · obtain ⟨lb, lf, q, hq, hlb, ix, cx, cy⟩ := line_at (HU5.out.up HIS.out) hlk
                              have hqk : (qs.map lnP).drop k = (q.2, q.1.bd) :: (qs.map lnP).drop (k + 1) := by
                                have h1 : (qs.map lnP)[k]? = some (q.2, q.1.bd) := by rw [List.getElem?_map, hq]; rfl
                                obtain ⟨h2, h3⟩ := List.getElem?_eq_some_iff.1 h1
                                rw [List.drop_eq_getElem_cons h2, h3]
                              have HST : Hid ((bb && (decide (Bx.valF q.2 ([X, Y].take m) 0 ≤ q.1.bd) && Bx.allAt ((qs.map lnP).drop (k + 1)) ([X, Y].take m))) = Bx.allAt (qs.map lnP) ([X, Y].take m)) := Lib.hid (by rw [← HK.out, hqk]; rfl)
                              have CV := Lib.hid (fun (Z : World) (hZ : Below wk.heap.size wk Z) => value27 q.1 (some ⟨B, 0, none⟩) m 2 ([X, Y].take m) q.2 Z ((HPT.out.up HI.out).up hZ) (((HU5.out.up HIS.out).el q (List.mem_of_getElem? hq)).up hZ) (by omega) HDP.out (HP6.out (lnP q) (List.mem_map.2 ⟨q, List.mem_of_getElem? hq, rfl⟩)).2)
                              clear hqk hq
                              cases bb with
                              | false =>
                                have HNX : Hid ((false && Bx.allAt ((qs.map lnP).drop (k + 1)) ([X, Y].take m)) = Bx.allAt (qs.map lnP) ([X, Y].take m)) := Lib.hid (by rw [← HST.out]; rfl)
                                go_wp2_with fail
                                go_quiet (fail)
                                go_wp2_with fail
                                go_roundw
                                case rel => exact ⟨k + 1, false, hlk, rfl, by go_num, HNX, Lib.hid (below_drewN HI.out _)⟩
                                case measure => simp [intOf]; omega
                              | true =>
                                go_wp2_with fail
                                go_region_held3 (fun Z => Z.cell? ⟨w.heap.size, 0, none⟩ = some (.slice u.a u.n u.c) ∧ Z.cell? ⟨lb, lf, none⟩ = some (.slice q.1.cf.a q.1.cf.n q.1.cf.c) ∧ Z.cell? ⟨lb, lf + 1, none⟩ = some (.int .i64 q.1.bd)) (simp [go_sem, *])
                                  (first
                                    | (go_at_call 27; (with_reducible refine (CV.out _ (by repeat (first | (with_reducible exact Below.refl _ _) | (with_reducible assumption) | ((with_reducible refine Below.setCell ?_ ?_ _); rotate_left; (focus (first | omega | (simp; omega) | (simp; done)))) | ((with_reducible refine Below.alloc ?_ ?_ _); rotate_left; (focus (first | omega | (simp; omega) | (simp; done)))) | (with_reducible refine Below.drew ?_)))).mono ?_); rintro e w9 ⟨rfl, h9⟩; have H9 : Hid (Below wk.heap.size wk w9) := Lib.hid (Below.call (by repeat (first | (with_reducible exact Below.refl _ _) | (with_reducible assumption) | ((with_reducible refine Below.setCell ?_ ?_ _); rotate_left; (focus (first | omega | (simp; omega) | (simp; done)))) | ((with_reducible refine Below.alloc ?_ ?_ _); rotate_left; (focus (first | omega | (simp; omega) | (simp; done)))) | (with_reducible refine Below.drew ?_))) h9); have z9 := h9.size; (try simp at z9); obtain ⟨k1, k2, k3⟩ := keepB h9 w.heap.size (by first | omega | (simp; omega)); obtain ⟨l1, l2, l3⟩ := keepB h9 lb (by first | omega | (simp; omega)); clear h9))
                                have HNX : Hid ((decide (Bx.valF q.2 ([X, Y].take m) 0 ≤ q.1.bd) && Bx.allAt ((qs.map lnP).drop (k + 1)) ([X, Y].take m)) = Bx.allAt (qs.map lnP) ([X, Y].take m)) := Lib.hid (by rw [← HST.out, Bool.true_and])
                                go_wp2_with fail
                                go_roundw
                                case rel => exact ⟨k + 1, _, hlk, rfl, by go_num, HNX, Lib.hid (Below.call HI.out H9.out)⟩
                                case measure => simp [intOf]; omega
                            · have HBB : Hid (bb = Bx.allAt (qs.map lnP) ([X, Y].take m)) := Lib.hid (by rw [← HK.out, List.drop_eq_nil_of_le (by rw [List.length_map, HU5.out.len]; omega)]; simp [Bx.allAt])
                              clear HK
                              have hyn : (Y + 1 - a1).toNat = (Y - a1).toNat + 1 := by omega
                              have hya : a1 + ((Y - a1).toNat : Int) = Y := by omega
                              have HLS : Hid (Bx.sumI (Bx.ind (qs.map lnP) m X) a1 (Y + 1 - a1).toNat = Bx.sumI (Bx.ind (qs.map lnP) m X) a1 (Y - a1).toNat + (if bb = true then 1 else 0)) := Lib.hid (by rw [hyn, Bx.sumI_last, hya, HBB.out]; rfl)
                              clear hyn hya
                              have hyw : IntKind.i64.wrap (Y + 1) = Y + 1 := by rw [IntWalk.i64_left, IntWalk.wrap64_in _ (by omega)]
                              have hcw : IntKind.i64.wrap ((C : Int) + 1) = ((C + 1 : Nat) : Int) := by rw [IntWalk.i64_left, IntWalk.wrap64_in _ (by omega)]; omega
                              cases bb with
                              | true =>
                                go_wp2_with fail
                                go_roundw
                                case rel => exact ⟨C + 1, Y + 1, by first | rfl | go_num, by first | rfl | go_num, by omega, by omega, by omega, Lib.hid (by rw [HLS.out, HC.out]; simp; omega), HIS⟩
                                case measure => simp [intOf]; omega
                              | false =>
                                go_wp2_with fail
                                go_roundw
                                case rel => exact ⟨C, Y + 1, rfl, by first | rfl | go_num, by omega, by omega, by omega, Lib.hid (by rw [HLS.out, HC.out]; simp), HIS⟩
                                case measure => simp [intOf]; omega
                        · obtain rfl : Y = b1 + 1 := by omega
                          have hxn : (X + 1 - a0).toNat = (X - a0).toNat + 1 := by omega
                          have hxa : a0 + ((X - a0).toNat : Int) = X := by omega
                          have HLS : Hid (C = Bx.sumI (Bx.rowC (qs.map lnP) m a1 b1) a0 (X + 1 - a0).toNat) := Lib.hid (by rw [HC.out, hxn, Bx.sumI_last, hxa, Bx.rowC, Bx.sumR, show b1 - a1 + 1 = b1 + 1 - a1 by omega])
                          clear hxn hxa
                          have hxw : IntKind.i64.wrap (X + 1) = X + 1 := by rw [IntWalk.i64_left, IntWalk.wrap64_in _ (by omega)]
                          go_wp2_with fail
                          go_roundw
                          case rel => exact ⟨C, X + 1, rfl, by first | rfl | go_num, by omega, by omega, by omega, HLS, HB⟩
                          case measure => simp [intOf]; omega
                    · obtain rfl : X = b0 + 1 := by omega
                      have HCC : Hid (C = Bx.cnt (lo, hi) (Bx.allAt (qs.map lnP))) := Lib.hid (by rw [HC.out, HCN.out, Bx.sumR, show b0 - a0 + 1 = b0 + 1 - a0 by omega])
                      have CE := Lib.hid (full_countv (HR5.out.up HB.out) (fun b hb => by
                        have hs := HP.out.len b hb
                        have e1 := hs.l1
                        obtain ⟨d1, d2⟩ := hs.dom HHL.out HP4.out HP5.out
                        simp only at e1 d1 d2
                        have := HL.out
                        exact ⟨by omega, fun z hz => by have := d1 z hz; omega, fun z hz => by have := d2 z hz; omega⟩) (by have := HRL.out; omega) (C : Int) (by rw [HP.out.count HHL.out (by rw [← HCC.out]; omega), ← HCC.out]))
                      go_wp2_with fail
                      refine CE.out.mono ?_
                      rintro e w9 ⟨rfl, h9⟩
                      have HB9 := Lib.hid (Below.call HBS.out (Below.call HB.out h9))
                      clear h9
                      go_wp2_with fail
                      go_ret
                      exact ⟨rfl, HB9.out⟩
      · have t2 : ((m : Int) != (n : Int)) = true := by simp; omega
        go_wp2_with fail
        go_ret
        exact ⟨rfl, HB2.out⟩
end Go.Proofs.Ytcncobhdfflelaa
