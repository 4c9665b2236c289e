/- The plain law of BoxesFull; the verdicts' closures. -/
import Derived.Test.YtcncobhdfflelaaGa
namespace Go.Proofs.Ytcncobhdfflelaa
open Go.RowKit

namespace Bx
theorem bounds_same : ∀ (l cs : List Int) (r : Int), ∃ s, bounds l l cs (r, r) = (s, s)
  | a :: l, k :: cs, r => by
    rw [bounds]
    simp only [Int.min_self, Int.max_self]
    exact bounds_same l cs _
  | [], _, r => ⟨r, rfl⟩
  | _ :: _, [], r => ⟨r, rfl⟩
theorem verd_same (l : List Int) : ∀ (cs : List (List Int × Int)) (v : Int), v = 0 ∨ v = 1 → verd l l cs v = 0 ∨ verd l l cs v = 1
  | [], v, h => by rw [verd]; exact h
  | c :: cs, v, h => by
    obtain ⟨s, hs⟩ := bounds_same l c.1 0
    rw [verd, hs]
    by_cases h1 : c.2 < s
    · rw [if_pos h1]; exact .inl rfl
    · rw [if_neg h1, if_neg h1]; exact verd_same l cs v h
theorem Sub.point {D b : Dm} (h : Sub D b) (hl : D.2.length = D.1.length) (hw : widest b.1 b.2 < 0) : b.1 = b.2 := by
  refine List.ext_getElem (by rw [h.l1, h.l2]) fun i h1 h2 => ?_
  have e1 := h.l1
  have e2 := h.l2
  have q1 : D.1[i]? = some (D.1[i]'(by omega)) := List.getElem?_eq_getElem _
  have q2 : D.2[i]? = some (D.2[i]'(by omega)) := List.getElem?_eq_getElem _
  have q3 : b.1[i]? = some b.1[i] := List.getElem?_eq_getElem _
  have q4 : b.2[i]? = some b.2[i] := List.getElem?_eq_getElem _
  have a := h.in_ i _ _ _ _ q1 q2 q3 q4
  have c := widest_neg hw (b.1[i], b.2[i]) (List.mem_of_getElem? (i := i) (by rw [List.getElem?_zip_eq_some]; exact ⟨q3, q4⟩))
  simp only at c
  omega
theorem solveF_sub {cs : List (List Int × Int)} {D : Dm} (hl : D.2.length = D.1.length) (most : Nat) (h1 : 1 ≤ most) (hs : Sub D D) (n : Nat) (hn : 2 * most + 1 ≤ n) :
    (∃ r, solveF (fun lo hi => verd lo hi cs 1) most n [] [D] = (r, 0) ∧ ∀ b ∈ r, Sub D (b.1, b.2.1)) ∨ solveF (fun lo hi => verd lo hi cs 1) most n [] [D] = ([], 3) := by
  have key := solveF_inv (v := fun lo hi => verd lo hi cs 1) (most := most) (fun ds st => (∀ b ∈ ds, Sub D (b.1, b.2.1)) ∧ ∀ b ∈ st, Sub D b)
    (fun ds b st t h _ => ⟨fun c hc => by
        rcases List.mem_append.1 hc with hc | hc
        · exact h.1 c hc
        · rw [List.mem_singleton] at hc; subst hc; exact h.2 b List.mem_cons_self, fun c hc => h.2 c (List.mem_cons_of_mem _ hc)⟩)
    (fun ds b st h _ _ hw _ => ⟨h.1, fun c hc => by
        have hb := h.2 b List.mem_cons_self
        rcases List.mem_cons.1 hc with rfl | hc
        · exact hb.cutLo hw
        · rcases List.mem_cons.1 hc with rfl | hc
          · exact hb.cutHi hw
          · exact h.2 c (List.mem_cons_of_mem _ hc)⟩)
    n [] [D] (by unfold meas; simp; omega) ⟨fun b hb => (List.not_mem_nil hb).elim, fun b hb => by rw [List.mem_singleton] at hb; subst hb; exact hs⟩
  rcases key with ⟨r, e, h, _⟩ | e | ⟨_, ds, b, st, h, n1, n0, hw⟩
  · exact .inl ⟨r, e, h⟩
  · exact .inr e
  · exfalso
    have hb := (h.2 b List.mem_cons_self).point hl hw
    rw [hb] at n1 n0
    rcases verd_same b.2 cs 1 (.inr rfl) with h | h
    · exact n0 h
    · exact n1 h
theorem lim_of {m : Int} (h1 : 1 ≤ m) (h2 : m ≤ 4096) : ((lim m : Nat) : Int) = m ∧ 1 ≤ lim m := by
  have e : lim m = m.toNat := by
    unfold lim clamp
    rw [if_neg (by omega), if_neg (by omega)]
  rw [e]
  omega
/-- a lesser limit succeeds just where the result fits -/
theorem full_law {lo hi : List Int} {cs : List (List Int × Int)} {most more : Int} (h1 : 1 ≤ most) (h2 : most ≤ more) (h3 : more ≤ 300) (hl : lo.length ≤ 4) :
    (solve (fun a b => verd a b cs 1) lo hi most = ([], 1) ∧ solve (fun a b => verd a b cs 1) lo hi more = ([], 1)) ∨ (solve (fun a b => verd a b cs 1) lo hi most = ([], 6) ∧ solve (fun a b => verd a b cs 1) lo hi more = ([], 6)) ∨
    (∃ m, solve (fun a b => verd a b cs 1) lo hi more = (m, 0) ∧ (m.length : Int) ≤ most ∧ solve (fun a b => verd a b cs 1) lo hi most = (m, 0) ∧ ∀ b ∈ m, b.1.length ≤ 1000 ∧ b.2.1.length ≤ 1000) ∨
    (∃ m, solve (fun a b => verd a b cs 1) lo hi more = (m, 0) ∧ most < (m.length : Int) ∧ solve (fun a b => verd a b cs 1) lo hi most = ([], 3)) ∨
    (solve (fun a b => verd a b cs 1) lo hi more = ([], 3) ∧ solve (fun a b => verd a b cs 1) lo hi most = ([], 3)) := by
  unfold solve
  by_cases g1 : lo.length ≠ hi.length ∨ 16 < lo.length
  · simp only [if_pos g1]
    exact .inl ⟨trivial, trivial⟩
  · simp only [if_neg g1]
    by_cases g2 : valid lo hi = false
    · simp only [if_pos g2]
      exact .inr (.inl ⟨trivial, trivial⟩)
    · simp only [if_neg g2]
      have hv : valid lo hi = true := by simpa using g2
      obtain ⟨sb, hll, _, _⟩ := sub_self' hv
      obtain ⟨p1, p2⟩ := lim_of h1 (by omega : most ≤ 4096)
      obtain ⟨q1, q2⟩ := lim_of (by omega : 1 ≤ more) (by omega : more ≤ 4096)
      have hle : lim most ≤ lim more := by omega
      have hf : solveF (fun a b => verd a b cs 1) (lim most) (2 * lim most + 1) [] [(lo, hi)] = solveF (fun a b => verd a b cs 1) (lim most) (2 * lim more + 1) [] [(lo, hi)] :=
        solveF_fuel _ _ _ _ (by unfold meas; simp; omega) (by unfold meas; simp; omega)
      rw [hf]
      have hsub := solveF_sub (cs := cs) (D := (lo, hi)) hll (lim more) q2 sb (2 * lim more + 1) (Nat.le_refl _)
      rcases solveF_less (v := fun a b => verd a b cs 1) hle (2 * lim more + 1) [] [(lo, hi)] (by simp; omega) (by unfold meas; simp; omega) with ⟨m, a, b, c⟩ | ⟨m, a, b, c⟩ | ⟨a, b⟩ | a
      · refine .inr (.inr (.inl ⟨m, a, by omega, c, fun x hx => ?_⟩))
        rcases hsub with ⟨r, e, hr⟩ | e
        · rw [a] at e
          injection e with e _
          subst e
          have := hr x hx
          have e1 := this.l1
          have e2 := this.l2
          simp only at e1 e2
          omega
        · rw [a] at e
          simp at e
      · exact .inr (.inr (.inr (.inl ⟨m, a, by omega, c⟩)))
      · exact .inr (.inr (.inr (.inr ⟨a, b⟩)))
      · exfalso
        rcases hsub with ⟨r, e, _⟩ | e
        · rw [a] at e; simp at e
        · rw [a] at e; simp at e
theorem Sub.dom {D b : Dm} (h : Sub D b) (hl : D.2.length = D.1.length) (h1 : Dom D.1) (h2 : Dom D.2) : Dom b.1 ∧ Dom b.2 := by
  have key : ∀ i : Nat, i < b.1.length → ∃ a c x y : Int, b.1[i]? = some x ∧ b.2[i]? = some y ∧ -1000000 ≤ a ∧ c ≤ 1000000 ∧ a ≤ x ∧ x ≤ y ∧ y ≤ c := fun i hi => by
    have e1 := h.l1
    have e2 := h.l2
    have q1 : D.1[i]? = some (D.1[i]'(by omega)) := List.getElem?_eq_getElem _
    have q2 : D.2[i]? = some (D.2[i]'(by omega)) := List.getElem?_eq_getElem _
    have q3 : b.1[i]? = some (b.1[i]'(by omega)) := List.getElem?_eq_getElem _
    have q4 : b.2[i]? = some (b.2[i]'(by omega)) := List.getElem?_eq_getElem _
    have := h.in_ i _ _ _ _ q1 q2 q3 q4
    exact ⟨_, _, _, _, q3, q4, (h1 _ (List.mem_of_getElem? q1)).1, (h2 _ (List.mem_of_getElem? q2)).2, this⟩
  refine ⟨fun x hx => ?_, fun y hy => ?_⟩
  · obtain ⟨i, hi, rfl⟩ := List.getElem_of_mem hx
    obtain ⟨a, c, x', y', r1, r2, r3⟩ := key i hi
    rw [List.getElem?_eq_getElem hi] at r1
    injection r1 with r1
    omega
  · obtain ⟨i, hi, rfl⟩ := List.getElem_of_mem hy
    obtain ⟨a, c, x', y', r1, r2, r3⟩ := key i (by rw [h.l1, ← h.l2]; exact hi)
    rw [List.getElem?_eq_getElem hi] at r2
    injection r2 with r2
    omega
end Bx
theorem LnsRd.at_ {w : World} {u : Sl} {qs : List LnM} (h : LnsRd w u qs) (hc : ∀ c ∈ qs.map lnP, Bx.Cof c.1) : LnsAt w u (qs.map lnP) :=
  ⟨⟨qs, h.rd, fun q hq => ⟨h.el q hq, hc (lnP q) (List.mem_map.2 ⟨q, hq, rfl⟩)⟩, rfl⟩⟩

set_option maxRecDepth 100000 in
set_option maxHeartbeats 1600000 in
theorem clos12 (u1 u2 : Sl) (lo hi : List Int) (u : Sl) (cs : List (List Int × Int)) (N : Nat) (w : World) (hc : w.cell? ⟨N, 0, none⟩ = some (.slice u.a u.n u.c)) (hu : LnsAt w u cs) (hx : Rd w w.heap.size 1 u1.a u1.n (ints lo)) (hy : Rd w w.heap.size 1 u2.a u2.n (ints hi)) (hn : u1.n ≤ 1000) (hun : u.n ≤ 1000000) (h1 : Bx.Dom lo) (h2 : Bx.Dom hi) :
    Calls Try.prog 12 #[.slice u1.a u1.n u1.c, .slice u2.a u2.n u2.c, .pointer (some ⟨N, 0, none⟩)] w fun e w' => e = .returned (.int .i64 (Bx.verd lo hi cs 1)) ∧ Below w.heap.size w w' := by
  have C := Lib.hid (verdict13 u cs u1.a u2.a u1.n u2.n u1.c u2.c lo hi w hu hx hy hn hun h1 h2)
  clear hu hx hy hn h1 h2
  go_enter Try.func12, Try.ntmps12
  go_wp2_with fail
  refine C.out.mono ?_
  rintro e w1 ⟨rfl, h1⟩
  have H1 := Lib.hid h1
  clear h1
  go_wp2_with fail
  go_ret
  exact ⟨rfl, H1.out⟩
theorem verd12 {w : World} {N : Nat} {u : Sl} {cs : List (List Int × Int)} {D : Bx.Dm} (hN : N < w.heap.size) (hc : w.cell? ⟨N, 0, none⟩ = some (.slice u.a u.n u.c)) (hu : LnsAt w u cs) (hun : u.n ≤ 1000000) (hl : D.2.length = D.1.length) (hn : D.1.length ≤ 1000) (h1 : Bx.Dom D.1) (h2 : Bx.Dom D.2) :
    VerdAt w 12 #[.pointer (some ⟨N, 0, none⟩)] (fun lo hi => Bx.verd lo hi cs 1) D := by
  intro W u1 u2 lo hi hW hs hx hy
  obtain ⟨d1, d2⟩ := hs.dom hl h1 h2
  have e1 : u1.n = D.1.length := by have a := hx.1; rw [List.length_map] at a; have b := hs.l1; simp only at b; omega
  exact clos12 u1 u2 lo hi u cs N W ((hW.cell (p := ⟨N, 0, none⟩) hN).trans hc) (hu.up hW) hx hy (by omega) hun d1 d2
theorem eg12 : ∀ args w, (callFunc 12 args).run Try.prog w = .ok (.enter 12 args) w := enters_of Try.func12 (by kernel_rfl) rfl

set_option maxRecDepth 100000 in
set_option maxHeartbeats 1600000 in
theorem clos23 (u1 u2 : Sl) (lo hi : List Int) (u : Sl) (cs : List (List Int × Int)) (N : Nat) (w : World) (hc : w.cell? ⟨N, 0, none⟩ = some (.slice u.a u.n u.c)) (hu : LnsAt w u cs) (hx : Rd w w.heap.size 1 u1.a u1.n (ints lo)) (hy : Rd w w.heap.size 1 u2.a u2.n (ints hi)) (hn : u1.n ≤ 1000) (hun : u.n ≤ 1000000) (h1 : Bx.Dom lo) (h2 : Bx.Dom hi) :
    Calls Try.prog 23 #[.slice u1.a u1.n u1.c, .slice u2.a u2.n u2.c, .pointer (some ⟨N, 0, none⟩)] w fun e w' => e = .returned (.int .i64 (Bx.verd lo hi cs 1)) ∧ Below w.heap.size w w' := by
  have C := Lib.hid (verdict13 u cs u1.a u2.a u1.n u2.n u1.c u2.c lo hi w hu hx hy hn hun h1 h2)
  clear hu hx hy hn h1 h2
  go_enter Try.func23, Try.ntmps23
  go_wp2_with fail
  refine C.out.mono ?_
  rintro e w1 ⟨rfl, h1⟩
  have H1 := Lib.hid h1
  clear h1
  go_wp2_with fail
  go_ret
  exact ⟨rfl, H1.out⟩
theorem verd23 {w : World} {N : Nat} {u : Sl} {cs : List (List Int × Int)} {D : Bx.Dm} (hN : N < w.heap.size) (hc : w.cell? ⟨N, 0, none⟩ = some (.slice u.a u.n u.c)) (hu : LnsAt w u cs) (hun : u.n ≤ 1000000) (hl : D.2.length = D.1.length) (hn : D.1.length ≤ 1000) (h1 : Bx.Dom D.1) (h2 : Bx.Dom D.2) :
    VerdAt w 23 #[.pointer (some ⟨N, 0, none⟩)] (fun lo hi => Bx.verd lo hi cs 1) D := by
  intro W u1 u2 lo hi hW hs hx hy
  obtain ⟨d1, d2⟩ := hs.dom hl h1 h2
  have e1 : u1.n = D.1.length := by have a := hx.1; rw [List.length_map] at a; have b := hs.l1; simp only at b; omega
  exact clos23 u1 u2 lo hi u cs N W ((hW.cell (p := ⟨N, 0, none⟩) hN).trans hc) (hu.up hW) hx hy (by omega) hun d1 d2
theorem eg23 : ∀ args w, (callFunc 23 args).run Try.prog w = .ok (.enter 23 args) w := enters_of Try.func23 (by kernel_rfl) rfl

set_option maxRecDepth 100000 in
set_option maxHeartbeats 1600000 in
theorem clos24 (u1 u2 : Sl) (lo hi : List Int) (u : Sl) (cs : List (List Int × Int)) (N : Nat) (w : World) (hc : w.cell? ⟨N, 0, none⟩ = some (.slice u.a u.n u.c)) (hu : LnsAt w u cs) (hx : Rd w w.heap.size 1 u1.a u1.n (ints lo)) (hy : Rd w w.heap.size 1 u2.a u2.n (ints hi)) (hn : u1.n ≤ 1000) (hun : u.n ≤ 1000000) (h1 : Bx.Dom lo) (h2 : Bx.Dom hi) :
    Calls Try.prog 24 #[.slice u1.a u1.n u1.c, .slice u2.a u2.n u2.c, .pointer (some ⟨N, 0, none⟩)] w fun e w' => e = .returned (.int .i64 (Bx.verd lo hi cs 1)) ∧ Below w.heap.size w w' := by
  have C := Lib.hid (verdict13 u cs u1.a u2.a u1.n u2.n u1.c u2.c lo hi w hu hx hy hn hun h1 h2)
  clear hu hx hy hn h1 h2
  go_enter Try.func24, Try.ntmps24
  go_wp2_with fail
  refine C.out.mono ?_
  rintro e w1 ⟨rfl, h1⟩
  have H1 := Lib.hid h1
  clear h1
  go_wp2_with fail
  go_ret
  exact ⟨rfl, H1.out⟩
theorem verd24 {w : World} {N : Nat} {u : Sl} {cs : List (List Int × Int)} {D : Bx.Dm} (hN : N < w.heap.size) (hc : w.cell? ⟨N, 0, none⟩ = some (.slice u.a u.n u.c)) (hu : LnsAt w u cs) (hun : u.n ≤ 1000000) (hl : D.2.length = D.1.length) (hn : D.1.length ≤ 1000) (h1 : Bx.Dom D.1) (h2 : Bx.Dom D.2) :
    VerdAt w 24 #[.pointer (some ⟨N, 0, none⟩)] (fun lo hi => Bx.verd lo hi cs 1) D := by
  intro W u1 u2 lo hi hW hs hx hy
  obtain ⟨d1, d2⟩ := hs.dom hl h1 h2
  have e1 : u1.n = D.1.length := by have a := hx.1; rw [List.length_map] at a; have b := hs.l1; simp only at b; omega
  exact clos24 u1 u2 lo hi u cs N W ((hW.cell (p := ⟨N, 0, none⟩) hN).trans hc) (hu.up hW) hx hy (by omega) hun d1 d2
theorem eg24 : ∀ args w, (callFunc 24 args).run Try.prog w = .ok (.enter 24 args) w := enters_of Try.func24 (by kernel_rfl) rfl

set_option maxRecDepth 100000 in
set_option maxHeartbeats 1600000 in
theorem clos26 (u1 u2 : Sl) (lo hi : List Int) (u : Sl) (cs : List (List Int × Int)) (N : Nat) (w : World) (hc : w.cell? ⟨N, 0, none⟩ = some (.slice u.a u.n u.c)) (hu : LnsAt w u cs) (hx : Rd w w.heap.size 1 u1.a u1.n (ints lo)) (hy : Rd w w.heap.size 1 u2.a u2.n (ints hi)) (hn : u1.n ≤ 1000) (hun : u.n ≤ 1000000) (h1 : Bx.Dom lo) (h2 : Bx.Dom hi) :
    Calls Try.prog 26 #[.slice u1.a u1.n u1.c, .slice u2.a u2.n u2.c, .pointer (some ⟨N, 0, none⟩)] w fun e w' => e = .returned (.int .i64 (Bx.verd lo hi cs 1)) ∧ Below w.heap.size w w' := by
  have C := Lib.hid (verdict13 u cs u1.a u2.a u1.n u2.n u1.c u2.c lo hi w hu hx hy hn hun h1 h2)
  clear hu hx hy hn h1 h2
  go_enter Try.func26, Try.ntmps26
  go_wp2_with fail
  refine C.out.mono ?_
  rintro e w1 ⟨rfl, h1⟩
  have H1 := Lib.hid h1
  clear h1
  go_wp2_with fail
  go_ret
  exact ⟨rfl, H1.out⟩
theorem verd26 {w : World} {N : Nat} {u : Sl} {cs : List (List Int × Int)} {D : Bx.Dm} (hN : N < w.heap.size) (hc : w.cell? ⟨N, 0, none⟩ = some (.slice u.a u.n u.c)) (hu : LnsAt w u cs) (hun : u.n ≤ 1000000) (hl : D.2.length = D.1.length) (hn : D.1.length ≤ 1000) (h1 : Bx.Dom D.1) (h2 : Bx.Dom D.2) :
    VerdAt w 26 #[.pointer (some ⟨N, 0, none⟩)] (fun lo hi => Bx.verd lo hi cs 1) D := by
  intro W u1 u2 lo hi hW hs hx hy
  obtain ⟨d1, d2⟩ := hs.dom hl h1 h2
  have e1 : u1.n = D.1.length := by have a := hx.1; rw [List.length_map] at a; have b := hs.l1; simp only at b; omega
  exact clos26 u1 u2 lo hi u cs N W ((hW.cell (p := ⟨N, 0, none⟩) hN).trans hc) (hu.up hW) hx hy (by omega) hun d1 d2
theorem eg26 : ∀ args w, (callFunc 26 args).run Try.prog w = .ok (.enter 26 args) w := enters_of Try.func26 (by kernel_rfl) rfl

end Go.Proofs.Ytcncobhdfflelaa
