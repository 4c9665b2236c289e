/- The contract of words.times. -/
import Derived.Test.YtcncobhdfflelaaWa
namespace Go.Proofs.Ytcncobhdfflelaa
open Go.RowKit

abbrev u64V (n : Nat) : Value := .int .u64 (n : Int)
/-- words as a value -/
def wV (l : List Nat) : Value := .agg (l.map u64V).toArray
theorem list15 {α : Type} {l : List α} (h : l.length = 15) : ∃ a0 a1 a2 a3 a4 a5 a6 a7 a8 a9 a10 a11 a12 a13 a14, l = [a0, a1, a2, a3, a4, a5, a6, a7, a8, a9, a10, a11, a12, a13, a14] := by
  match l, h with
  | [a0, a1, a2, a3, a4, a5, a6, a7, a8, a9, a10, a11, a12, a13, a14], _ => exact ⟨_, _, _, _, _, _, _, _, _, _, _, _, _, _, _, rfl⟩
theorem wd_set {l : List Nat} (h : Bx.Wd l) {k x : Nat} (hx : x < 18446744073709551616) : Bx.Wd (l.set k x) := fun a ha => by
  rcases List.mem_or_eq_of_mem_set ha with h1 | rfl
  · exact h a h1
  · exact hx

/-- words that spell a number are handed back -/
def WordsPost (N : Nat) (w : World) (e : Ending) (w' : World) : Prop := ∃ us, e = .returned (wV us) ∧ us.length = 15 ∧ Bx.Wd us ∧ Bx.val us = N ∧ Below w.heap.size w w'
abbrev put15 (W : World) (X b0 b1 b2 b3 b4 b5 b6 b7 b8 b9 b10 b11 b12 b13 b14 : Nat) : World := (((((((((((((((W.setCell ⟨X, 0, none⟩ (u64V b0)).setCell ⟨X, 1, none⟩ (u64V b1)).setCell ⟨X, 2, none⟩ (u64V b2)).setCell ⟨X, 3, none⟩ (u64V b3)).setCell ⟨X, 4, none⟩ (u64V b4)).setCell ⟨X, 5, none⟩ (u64V b5)).setCell ⟨X, 6, none⟩ (u64V b6)).setCell ⟨X, 7, none⟩ (u64V b7)).setCell ⟨X, 8, none⟩ (u64V b8)).setCell ⟨X, 9, none⟩ (u64V b9)).setCell ⟨X, 10, none⟩ (u64V b10)).setCell ⟨X, 11, none⟩ (u64V b11)).setCell ⟨X, 12, none⟩ (u64V b12)).setCell ⟨X, 13, none⟩ (u64V b13)).setCell ⟨X, 14, none⟩ (u64V b14))
theorem put15_box {W : World} {X : Nat} {vs : List Value} (b0 b1 b2 b3 b4 b5 b6 b7 b8 b9 b10 b11 b12 b13 b14 : Nat) (h : BoxAt W X vs) (hl : vs.length = 15) : BoxAt (put15 W X b0 b1 b2 b3 b4 b5 b6 b7 b8 b9 b10 b11 b12 b13 b14) X [u64V b0, u64V b1, u64V b2, u64V b3, u64V b4, u64V b5, u64V b6, u64V b7, u64V b8, u64V b9, u64V b10, u64V b11, u64V b12, u64V b13, u64V b14] := by
  obtain ⟨v0, v1, v2, v3, v4, v5, v6, v7, v8, v9, v10, v11, v12, v13, v14, rfl⟩ := list15 hl
  exact ((((((((((((((h.set 0 (u64V b0) (by simp)).set 1 (u64V b1) (by simp)).set 2 (u64V b2) (by simp)).set 3 (u64V b3) (by simp)).set 4 (u64V b4) (by simp)).set 5 (u64V b5) (by simp)).set 6 (u64V b6) (by simp)).set 7 (u64V b7) (by simp)).set 8 (u64V b8) (by simp)).set 9 (u64V b9) (by simp)).set 10 (u64V b10) (by simp)).set 11 (u64V b11) (by simp)).set 12 (u64V b12) (by simp)).set 13 (u64V b13) (by simp)).set 14 (u64V b14) (by simp)
theorem put15_below {W w : World} {X C : Nat} (b0 b1 b2 b3 b4 b5 b6 b7 b8 b9 b10 b11 b12 b13 b14 : Nat) (h : Below C w W) (hX : C ≤ X) : Below C w (put15 W X b0 b1 b2 b3 b4 b5 b6 b7 b8 b9 b10 b11 b12 b13 b14) := ((((((((((((((h.setCell hX _).setCell hX _).setCell hX _).setCell hX _).setCell hX _).setCell hX _).setCell hX _).setCell hX _).setCell hX _).setCell hX _).setCell hX _).setCell hX _).setCell hX _).setCell hX _).setCell hX _

/-- between two rounds of times -/
structure TimesRel (w wr : World) (ws : List Nat) (n : Nat) (k : Nat) (c : Nat) (us : List Nat) : Prop where
  len : us.length = 15
  wd : Bx.Wd us
  hc : c < 18446744073709551616
  dr : us.drop k = ws.drop k
  vl : Bx.val (us.take k) + 18446744073709551616 ^ k * c = Bx.val (ws.take k) * n
  bx : BoxAt wr w.heap.size (us.map u64V)
  rs : BoxAt wr (w.heap.size + 1) (List.replicate 15 (u64V 0))
  bl : Below w.heap.size w wr

theorem drop_get {α : Type} {us ws : List α} {k : Nat} (h : us.drop k = ws.drop k) (hk : k < ws.length) (hu : k < us.length) : us[k] = ws[k] := by
  have h1 := List.drop_eq_getElem_cons hk
  have h2 := List.drop_eq_getElem_cons hu
  rw [h2, h1] at h
  injection h
theorem TimesRel.step {w wr : World} {ws us : List Nat} {n k c x s q H lo : Nat} (h : TimesRel w wr ws n k c us) (hk : k < 15) (hwl : ws.length = 15) (hx : us[k]? = some x) (hlo : lo = x * n % 18446744073709551616) (hH : H = x * n / 18446744073709551616)
    (hs : s = (lo + c) % 18446744073709551616) (hq : q = (lo + c) / 18446744073709551616) (hc' : H + q < 18446744073709551616) : TimesRel w (wr.setCell ⟨w.heap.size, k, none⟩ (u64V s)) ws n (k + 1) (H + q) (us.set k s) := by
  have hku : k < us.length := by rw [h.len]; exact hk
  have hkw : k < ws.length := by omega
  have ex : us[k] = x := by rw [List.getElem?_eq_getElem hku] at hx; injection hx
  have ew : ws[k] = x := by rw [← ex]; exact (drop_get h.dr hkw hku).symm
  have hd : us.drop (k + 1) = ws.drop (k + 1) := by
    have h1 := List.drop_eq_getElem_cons hkw
    have h2 := List.drop_eq_getElem_cons hku
    have := h.dr
    rw [h1, h2] at this
    injection this
  refine ⟨by simpa using h.len, wd_set h.wd (by omega), hc', by rw [List.drop_set_of_lt (by omega)]; exact hd, ?_, ?_, h.rs.setOther _ _ (by show w.heap.size ≠ w.heap.size + 1; omega), h.bl.setCell (Nat.le_refl _) _⟩
  · rw [Bx.val_set hku, Bx.val_take hkw, ew, Nat.add_mul, ← h.vl, Nat.pow_succ]
    have e1 : s + 18446744073709551616 * (H + q) = c + x * n := by omega
    generalize 18446744073709551616 ^ k = P
    have e2 : P * s + P * 18446744073709551616 * (H + q) = P * c + P * x * n := by
      rw [Nat.mul_assoc, Nat.mul_assoc, ← Nat.mul_add, e1, Nat.mul_add]
    omega
  · rw [List.map_set]
    exact h.bx.set k _ (by simpa using hku)
theorem TimesRel.done {w wr : World} {ws us : List Nat} {n c : Nat} (h : TimesRel w wr ws n 15 c us) (hwl : ws.length = 15) : Bx.val us = Bx.val ws * n % 18446744073709551616 ^ 15 := by
  have h1 := h.vl
  rw [List.take_of_length_le (by rw [h.len]; exact Nat.le_refl _), List.take_of_length_le (by rw [hwl]; exact Nat.le_refl _)] at h1
  have h2 := Bx.val_lt h.wd
  rw [h.len] at h2
  rw [← h1, Nat.add_mul_mod_self_left, Nat.mod_eq_of_lt h2]

set_option linter.unusedSimpArgs false in
set_option linter.unusedVariables false in
set_option maxRecDepth 100000 in
set_option maxHeartbeats 3200000 in
theorem times59 (ws : List Nat) (n N : Nat) (w : World) (hl : ws.length = 15) (hw : Bx.Wd ws) (hn : n < 18446744073709551616) (hN : Bx.val ws * n % 18446744073709551616 ^ 15 = N) :
    Calls Try.prog 59 #[wV ws, .int .u64 (n : Int)] w (WordsPost N w) := by
  obtain ⟨a0, a1, a2, a3, a4, a5, a6, a7, a8, a9, a10, a11, a12, a13, a14, hws⟩ := list15 hl
  have HWS := Lib.hid hws
  have HNN := Lib.hid hN
  have HL := Lib.hid hl
  have HW := Lib.hid hw
  have e0 : wV ws = .agg #[u64V a0, u64V a1, u64V a2, u64V a3, u64V a4, u64V a5, u64V a6, u64V a7, u64V a8, u64V a9, u64V a10, u64V a11, u64V a12, u64V a13, u64V a14] := by rw [hws]; rfl
  rw [e0]
  clear e0 hws hl hw hN
  go_enter Try.func59, Try.ntmps59
  go_wp2_with fail
  go_loopw [5, 10] (fun r i W => ∃ (k c : Nat) (us : List Nat), k ≤ 15 ∧ i = .int .i64 k ∧ r = .int .u64 c ∧ Hid (TimesRel w W ws n k c us)) (fun _ i _ => 15 - (intOf i).toNat)
  case atStart =>
    refine ⟨0, 0, ws, by omega, rfl, rfl, Lib.hid ⟨HL.out, HW.out, by omega, rfl, by simp [Bx.val], ?_, ?_, ((Below.refl _ _).alloc (Nat.le_refl _) _).alloc (by simp) _⟩⟩
    · rw [HWS.out]
      exact (BoxAt.new w 65 _ _ rfl).alloc _
    · exact BoxAt.new _ 65 (List.replicate 15 (u64V 0)) _ (by simp)
  case round =>
    obtain ⟨k, c, us, hk, rfl, rfl, HR⟩ := hrel
    by_cases hlt : k < 15
    · have hlt' : (k : Int) < 15 := by omega
      have hku : k < us.length := by rw [HR.out.len]; exact hlt
      have hkw : k < ws.length := by rw [HL.out]; exact hlt
      obtain ⟨x, hx⟩ : ∃ x, us[k]? = some x := ⟨_, List.getElem?_eq_getElem hku⟩
      have hx2 : x < 18446744073709551616 := HR.out.wd x (List.mem_of_getElem? hx)
      have c0 : wr.cell? ⟨w.heap.size, k, none⟩ = some (.int .u64 (x : Int)) := HR.out.bx.2.1 k _ (by rw [List.getElem?_map, hx]; rfl)
      have f0 : wr.frozen? ⟨w.heap.size, k, none⟩ = false := HR.out.bx.2.2 k
      have hix : ∀ W, Sem.run Try.prog (Instr.indexAt 65 (.pointer (some ⟨w.heap.size, 0, none⟩)) (.int .i64 (k : Int))) W = .ok (.pointer (some ⟨w.heap.size, k, none⟩)) W := by
        intro W
        go_simp
      obtain ⟨lo, hlo⟩ : ∃ lo, lo = x * n % 18446744073709551616 := ⟨_, rfl⟩
      obtain ⟨H, hH⟩ : ∃ H, H = x * n / 18446744073709551616 := ⟨_, rfl⟩
      have hc := HR.out.hc
      have hHn : H + 2 ≤ 18446744073709551616 := by
        have : x * n ≤ 18446744073709551615 * 18446744073709551615 := Nat.mul_le_mul (by omega) (by omega)
        omega
      have hlo2 : lo < 18446744073709551616 := by omega
      have CM := Lib.hid (mul65 x n hx2 hn wr)
      rw [← hlo, ← hH] at CM
      obtain ⟨s, hs⟩ : ∃ s, s = (lo + c) % 18446744073709551616 := ⟨_, rfl⟩
      obtain ⟨q, hq⟩ : ∃ q, q = (lo + c) / 18446744073709551616 := ⟨_, rfl⟩
      have hadd : ∀ W, Sem.run Try.prog (callFunc 58 #[.int .u64 (lo : Int), .int .u64 (c : Int), .int .u64 0]) W = .ok (.value (.tuple #[.int .u64 (s : Int), .int .u64 (q : Int)])) W := fun W => by
        have := add58 lo c 0 (by omega) W
        rw [Nat.add_zero, ← hs, ← hq] at this
        exact this
      have hwr : IntKind.u64.wrap ((H : Int) + (q : Int)) = ((H + q : Nat) : Int) := by rw [IntKind.wrap_u64]; omega
      have HN := Lib.hid (HR.out.step hlt HL.out hx hlo hH hs hq (by omega))
      clear hlo hH hs hq hx hc hHn hlo2 hx2
      go_wp2_with fail
      refine CM.out.mono ?_
      rintro e _ ⟨rfl, rfl⟩
      go_wp2_with fail
      go_roundw
      case rel => exact ⟨k + 1, H + q, us.set k s, by omega, by go_num, by go_num, HN⟩
      case measure => simp [intOf]; omega
    · have hk15 : k = 15 := by omega
      subst hk15
      have hlt' : ¬ ((15 : Int) < 15) := by omega
      obtain ⟨b0, b1, b2, b3, b4, b5, b6, b7, b8, b9, b10, b11, b12, b13, b14, hus⟩ := list15 HR.out.len
      have HD := Lib.hid (HR.out.done HL.out)
      have BX : Hid (BoxAt wr w.heap.size [u64V b0, u64V b1, u64V b2, u64V b3, u64V b4, u64V b5, u64V b6, u64V b7, u64V b8, u64V b9, u64V b10, u64V b11, u64V b12, u64V b13, u64V b14]) := Lib.hid (by have := HR.out.bx; rw [hus] at this; exact this)
      have HUS := Lib.hid hus
      have RS := Lib.hid HR.out.rs
      clear hus
      have x0 : wr.cell? ⟨w.heap.size, 0, none⟩ = some (u64V b0) := BX.out.2.1 0 _ rfl
      have z0 : wr.cell? ⟨w.heap.size + 1, 0, none⟩ = some (u64V 0) := RS.out.2.1 0 _ rfl
      have y0 : wr.frozen? ⟨w.heap.size + 1, 0, none⟩ = false := RS.out.2.2 0
      have x1 : wr.cell? ⟨w.heap.size, 1, none⟩ = some (u64V b1) := BX.out.2.1 1 _ rfl
      have z1 : wr.cell? ⟨w.heap.size + 1, 1, none⟩ = some (u64V 0) := RS.out.2.1 1 _ rfl
      have y1 : wr.frozen? ⟨w.heap.size + 1, 1, none⟩ = false := RS.out.2.2 1
      have x2 : wr.cell? ⟨w.heap.size, 2, none⟩ = some (u64V b2) := BX.out.2.1 2 _ rfl
      have z2 : wr.cell? ⟨w.heap.size + 1, 2, none⟩ = some (u64V 0) := RS.out.2.1 2 _ rfl
      have y2 : wr.frozen? ⟨w.heap.size + 1, 2, none⟩ = false := RS.out.2.2 2
      have x3 : wr.cell? ⟨w.heap.size, 3, none⟩ = some (u64V b3) := BX.out.2.1 3 _ rfl
      have z3 : wr.cell? ⟨w.heap.size + 1, 3, none⟩ = some (u64V 0) := RS.out.2.1 3 _ rfl
      have y3 : wr.frozen? ⟨w.heap.size + 1, 3, none⟩ = false := RS.out.2.2 3
      have x4 : wr.cell? ⟨w.heap.size, 4, none⟩ = some (u64V b4) := BX.out.2.1 4 _ rfl
      have z4 : wr.cell? ⟨w.heap.size + 1, 4, none⟩ = some (u64V 0) := RS.out.2.1 4 _ rfl
      have y4 : wr.frozen? ⟨w.heap.size + 1, 4, none⟩ = false := RS.out.2.2 4
      have x5 : wr.cell? ⟨w.heap.size, 5, none⟩ = some (u64V b5) := BX.out.2.1 5 _ rfl
      have z5 : wr.cell? ⟨w.heap.size + 1, 5, none⟩ = some (u64V 0) := RS.out.2.1 5 _ rfl
      have y5 : wr.frozen? ⟨w.heap.size + 1, 5, none⟩ = false := RS.out.2.2 5
      have x6 : wr.cell? ⟨w.heap.size, 6, none⟩ = some (u64V b6) := BX.out.2.1 6 _ rfl
      have z6 : wr.cell? ⟨w.heap.size + 1, 6, none⟩ = some (u64V 0) := RS.out.2.1 6 _ rfl
      have y6 : wr.frozen? ⟨w.heap.size + 1, 6, none⟩ = false := RS.out.2.2 6
      have x7 : wr.cell? ⟨w.heap.size, 7, none⟩ = some (u64V b7) := BX.out.2.1 7 _ rfl
      have z7 : wr.cell? ⟨w.heap.size + 1, 7, none⟩ = some (u64V 0) := RS.out.2.1 7 _ rfl
      have y7 : wr.frozen? ⟨w.heap.size + 1, 7, none⟩ = false := RS.out.2.2 7
      have x8 : wr.cell? ⟨w.heap.size, 8, none⟩ = some (u64V b8) := BX.out.2.1 8 _ rfl
      have z8 : wr.cell? ⟨w.heap.size + 1, 8, none⟩ = some (u64V 0) := RS.out.2.1 8 _ rfl
      have y8 : wr.frozen? ⟨w.heap.size + 1, 8, none⟩ = false := RS.out.2.2 8
      have x9 : wr.cell? ⟨w.heap.size, 9, none⟩ = some (u64V b9) := BX.out.2.1 9 _ rfl
      have z9 : wr.cell? ⟨w.heap.size + 1, 9, none⟩ = some (u64V 0) := RS.out.2.1 9 _ rfl
      have y9 : wr.frozen? ⟨w.heap.size + 1, 9, none⟩ = false := RS.out.2.2 9
      have x10 : wr.cell? ⟨w.heap.size, 10, none⟩ = some (u64V b10) := BX.out.2.1 10 _ rfl
      have z10 : wr.cell? ⟨w.heap.size + 1, 10, none⟩ = some (u64V 0) := RS.out.2.1 10 _ rfl
      have y10 : wr.frozen? ⟨w.heap.size + 1, 10, none⟩ = false := RS.out.2.2 10
      have x11 : wr.cell? ⟨w.heap.size, 11, none⟩ = some (u64V b11) := BX.out.2.1 11 _ rfl
      have z11 : wr.cell? ⟨w.heap.size + 1, 11, none⟩ = some (u64V 0) := RS.out.2.1 11 _ rfl
      have y11 : wr.frozen? ⟨w.heap.size + 1, 11, none⟩ = false := RS.out.2.2 11
      have x12 : wr.cell? ⟨w.heap.size, 12, none⟩ = some (u64V b12) := BX.out.2.1 12 _ rfl
      have z12 : wr.cell? ⟨w.heap.size + 1, 12, none⟩ = some (u64V 0) := RS.out.2.1 12 _ rfl
      have y12 : wr.frozen? ⟨w.heap.size + 1, 12, none⟩ = false := RS.out.2.2 12
      have x13 : wr.cell? ⟨w.heap.size, 13, none⟩ = some (u64V b13) := BX.out.2.1 13 _ rfl
      have z13 : wr.cell? ⟨w.heap.size + 1, 13, none⟩ = some (u64V 0) := RS.out.2.1 13 _ rfl
      have y13 : wr.frozen? ⟨w.heap.size + 1, 13, none⟩ = false := RS.out.2.2 13
      have x14 : wr.cell? ⟨w.heap.size, 14, none⟩ = some (u64V b14) := BX.out.2.1 14 _ rfl
      have z14 : wr.cell? ⟨w.heap.size + 1, 14, none⟩ = some (u64V 0) := RS.out.2.1 14 _ rfl
      have y14 : wr.frozen? ⟨w.heap.size + 1, 14, none⟩ = false := RS.out.2.2 14
      go_wp2_with fail
      have BF := put15_box b0 b1 b2 b3 b4 b5 b6 b7 b8 b9 b10 b11 b12 b13 b14 RS.out (by simp)
      have HBF := Lib.hid (put15_below b0 b1 b2 b3 b4 b5 b6 b7 b8 b9 b10 b11 b12 b13 b14 HR.out.bl (Nat.le_succ _))
      obtain ⟨wf, hwf⟩ : ∃ W, W = put15 wr (w.heap.size + 1) b0 b1 b2 b3 b4 b5 b6 b7 b8 b9 b10 b11 b12 b13 b14 := ⟨_, rfl⟩
      rw [← hwf] at BF HBF
      clear x0 z0 y0 x1 z1 y1 x2 z2 y2 x3 z3 y3 x4 z4 y4 x5 z5 y5 x6 z6 y6 x7 z7 y7 x8 z8 y8 x9 z9 y9 x10 z10 y10 x11 z11 y11 x12 z12 y12 x13 z13 y13 x14 z14 y14
      have y0 : wf.cell? ⟨w.heap.size + 1, 0, none⟩ = some (u64V b0) := BF.2.1 0 _ rfl
      have y1 : wf.cell? ⟨w.heap.size + 1, 1, none⟩ = some (u64V b1) := BF.2.1 1 _ rfl
      have y2 : wf.cell? ⟨w.heap.size + 1, 2, none⟩ = some (u64V b2) := BF.2.1 2 _ rfl
      have y3 : wf.cell? ⟨w.heap.size + 1, 3, none⟩ = some (u64V b3) := BF.2.1 3 _ rfl
      have y4 : wf.cell? ⟨w.heap.size + 1, 4, none⟩ = some (u64V b4) := BF.2.1 4 _ rfl
      have y5 : wf.cell? ⟨w.heap.size + 1, 5, none⟩ = some (u64V b5) := BF.2.1 5 _ rfl
      have y6 : wf.cell? ⟨w.heap.size + 1, 6, none⟩ = some (u64V b6) := BF.2.1 6 _ rfl
      have y7 : wf.cell? ⟨w.heap.size + 1, 7, none⟩ = some (u64V b7) := BF.2.1 7 _ rfl
      have y8 : wf.cell? ⟨w.heap.size + 1, 8, none⟩ = some (u64V b8) := BF.2.1 8 _ rfl
      have y9 : wf.cell? ⟨w.heap.size + 1, 9, none⟩ = some (u64V b9) := BF.2.1 9 _ rfl
      have y10 : wf.cell? ⟨w.heap.size + 1, 10, none⟩ = some (u64V b10) := BF.2.1 10 _ rfl
      have y11 : wf.cell? ⟨w.heap.size + 1, 11, none⟩ = some (u64V b11) := BF.2.1 11 _ rfl
      have y12 : wf.cell? ⟨w.heap.size + 1, 12, none⟩ = some (u64V b12) := BF.2.1 12 _ rfl
      have y13 : wf.cell? ⟨w.heap.size + 1, 13, none⟩ = some (u64V b13) := BF.2.1 13 _ rfl
      have y14 : wf.cell? ⟨w.heap.size + 1, 14, none⟩ = some (u64V b14) := BF.2.1 14 _ rfl
      have HBFX := Lib.hid BF
      clear BF
      rw [show (((((((((((((((wr.setCell ⟨w.heap.size + 1, 0, none⟩ (.int .u64 (b0 : Int))).setCell ⟨w.heap.size + 1, 1, none⟩ (.int .u64 (b1 : Int))).setCell ⟨w.heap.size + 1, 2, none⟩ (.int .u64 (b2 : Int))).setCell ⟨w.heap.size + 1, 3, none⟩ (.int .u64 (b3 : Int))).setCell ⟨w.heap.size + 1, 4, none⟩ (.int .u64 (b4 : Int))).setCell ⟨w.heap.size + 1, 5, none⟩ (.int .u64 (b5 : Int))).setCell ⟨w.heap.size + 1, 6, none⟩ (.int .u64 (b6 : Int))).setCell ⟨w.heap.size + 1, 7, none⟩ (.int .u64 (b7 : Int))).setCell ⟨w.heap.size + 1, 8, none⟩ (.int .u64 (b8 : Int))).setCell ⟨w.heap.size + 1, 9, none⟩ (.int .u64 (b9 : Int))).setCell ⟨w.heap.size + 1, 10, none⟩ (.int .u64 (b10 : Int))).setCell ⟨w.heap.size + 1, 11, none⟩ (.int .u64 (b11 : Int))).setCell ⟨w.heap.size + 1, 12, none⟩ (.int .u64 (b12 : Int))).setCell ⟨w.heap.size + 1, 13, none⟩ (.int .u64 (b13 : Int))).setCell ⟨w.heap.size + 1, 14, none⟩ (.int .u64 (b14 : Int))) = wf from hwf.symm]
      clear hwf
      refine bodyPost_ret (v := wV us) ?_ rfl ⟨us, rfl, HR.out.len, HR.out.wd, HD.out.trans HNN.out, HBF.out⟩
      rw [HUS.out]
      simp [results, Try.results59, go_sem, wV, *]
end Go.Proofs.Ytcncobhdfflelaa
