/- Verdicts of the sanity example: above, and the constants. -/
import Derived.Test.YtcncobhdfflelaaEc
namespace Go.Proofs.Ytcncobhdfflelaa
open Go.RowKit

namespace Bx
/-- the verdict of 'the first integer is greater than k' -/
def abv (k : Int) (lo hi : List Int) : Int := if at0 hi 0 ≤ k then 0 else if k < at0 lo 0 then 1 else -1
def want : List Box := [([0], [2], false), ([3], [3], false), ([4], [4], true), ([5], [9], true)]
end Bx
theorem above30 (k : Int) (w : World) : Calls Try.prog 30 #[.int .i64 k] w fun e w' => e = .returned (.func (.func 56) #[] #[.pointer (some ⟨w.heap.size, 0, none⟩)]) ∧ w' = w.alloc (.cells #[.int .i64 k] 3) := by
  have hmf : ∀ (fn : Fn) (first cap : Array Value) (w : World), (Instr.makeFunc fn first cap).run Try.prog w = .ok (.func fn first cap) w := fun _ _ _ _ => rfl
  go_enter Try.func30, Try.ntmps30
  go_wp2
  go_ret
  exact ⟨rfl, rfl⟩
theorem two31 (a b : Value) (w : World) : Calls Try.prog 31 #[a, b] w fun e w' => e = .returned (.int .i64 2) ∧ Below w.heap.size w w' := by
  go_enter Try.func31, Try.ntmps31
  go_wp2
  go_ret
  exact ⟨rfl, Below.refl _ _⟩
theorem one32 (a b : Value) (w : World) : Calls Try.prog 32 #[a, b] w fun e w' => e = .returned (.int .i64 1) ∧ Below w.heap.size w w' := by
  go_enter Try.func32, Try.ntmps32
  go_wp2
  go_ret
  exact ⟨rfl, Below.refl _ _⟩

set_option linter.unusedSimpArgs false in
set_option linter.unusedVariables false in
set_option maxRecDepth 100000 in
set_option maxHeartbeats 3200000 in
theorem above56 (A B : Option Addr) (c d N : Nat) (k x y : Int) (w : World) (hx : Rd w w.heap.size 1 A 1 (ints [x])) (hy : Rd w w.heap.size 1 B 1 (ints [y])) (hN : w.cell? ⟨N, 0, none⟩ = some (.int .i64 k)) :
    Calls Try.prog 56 #[.slice A 1 c, .slice B 1 d, .pointer (some ⟨N, 0, none⟩)] w fun e w' => e = .returned (.int .i64 (Bx.abv k [x] [y])) ∧ Below w.heap.size w w' := by
  obtain ⟨b1, o1, x', e1, ix1, c1, _, _⟩ := rd_int hx c (show 0 < 1 by decide)
  obtain ⟨b2, o2, y', e2, ix2, c2, _, _⟩ := rd_int hy d (show 0 < 1 by decide)
  obtain rfl : x = x' := by simpa using e1
  obtain rfl : y = y' := by simpa using e2
  have ix1' : ∀ W, Sem.run Try.prog (Instr.indexAt 22 (.slice A 1 c) (.int .i64 0)) W = .ok (.pointer (some ⟨b1, o1, none⟩)) W := ix1
  have ix2' : ∀ W, Sem.run Try.prog (Instr.indexAt 22 (.slice B 1 d) (.int .i64 0)) W = .ok (.pointer (some ⟨b2, o2, none⟩)) W := ix2
  clear e1 e2 ix1 ix2 hx hy
  by_cases q1 : y ≤ k
  · have HF : Hid (Bx.abv k [x] [y] = 0) := Lib.hid (by simp [Bx.abv, Bx.at0, q1])
    go_enter Try.func56, Try.ntmps56
    go_wp2_with fail
    go_quiet (fail)
    go_wp2_with fail
    go_ret
    exact ⟨ret_int HF.out.symm, below_drewN (Below.refl _ _) _⟩
  · have t1 : decide (y ≤ k) = false := by simpa using q1
    by_cases q2 : k < x
    · have HF : Hid (Bx.abv k [x] [y] = 1) := Lib.hid (by simp [Bx.abv, Bx.at0, q1, q2])
      go_enter Try.func56, Try.ntmps56
      go_wp2_with fail
      go_quiet (fail)
      go_wp2_with fail
      go_quiet (fail)
      go_wp2_with fail
      go_ret
      exact ⟨ret_int HF.out.symm, below_drewN (below_drewN (Below.refl _ _) _) _⟩
    · have t2 : decide (k < x) = false := by simpa using q2
      have HF : Hid (Bx.abv k [x] [y] = -1) := Lib.hid (by simp [Bx.abv, Bx.at0, q1, q2])
      go_enter Try.func56, Try.ntmps56
      go_wp2_with fail
      go_quiet (fail)
      go_wp2_with fail
      go_quiet (fail)
      go_wp2_with fail
      go_ret
      exact ⟨ret_int HF.out.symm, below_drewN (below_drewN (Below.refl _ _) _) _⟩
theorem one_elem {l : List Int} (h : l.length = 1) : ∃ x, l = [x] := by
  match l, h with
  | [x], _ => exact ⟨x, rfl⟩
theorem verd_above {w : World} {N : Nat} {k a b : Int} (hc : w.cell? ⟨N, 0, none⟩ = some (.int .i64 k)) (hN : N < w.heap.size) : VerdAt w 56 #[.pointer (some ⟨N, 0, none⟩)] (Bx.abv k) ([a], [b]) := by
  intro W u1 u2 lo hi hW hs h1 h2
  obtain ⟨x, rfl⟩ := one_elem (show lo.length = 1 from hs.l1)
  obtain ⟨y, rfl⟩ := one_elem (show hi.length = 1 from hs.l2)
  have e1 : u1.n = 1 := by have := h1.1; simpa using this.symm
  have e2 : u2.n = 1 := by have := h2.1; simpa using this.symm
  rw [e1] at h1 ⊢
  rw [e2] at h2 ⊢
  exact above56 u1.a u2.a u1.c u2.c N k x y W h1 h2 ((hW.cell (p := ⟨N, 0, none⟩) hN).trans hc)
theorem verd_two {w : World} {D : Bx.Dm} : VerdAt w 31 #[] (fun _ _ => 2) D := fun W _ _ _ _ _ _ _ _ => two31 _ _ W
theorem verd_one {w : World} {D : Bx.Dm} : VerdAt w 32 #[] (fun _ _ => 1) D := fun W _ _ _ _ _ _ _ _ => one32 _ _ W
theorem eg56 : ∀ args w, (callFunc 56 args).run Try.prog w = .ok (.enter 56 args) w := enters_of Try.func56 (by kernel_rfl) rfl
theorem eg31 : ∀ args w, (callFunc 31 args).run Try.prog w = .ok (.enter 31 args) w := enters_of Try.func31 (by kernel_rfl) rfl
theorem eg32 : ∀ args w, (callFunc 32 args).run Try.prog w = .ok (.enter 32 args) w := enters_of Try.func32 (by kernel_rfl) rfl
theorem rd_one {W : World} {B : Nat} {x : Int} (h : W.cell? ⟨B, 0, none⟩ = some (.int .i64 x)) (hB : B < W.heap.size) : Rd W W.heap.size 1 (some ⟨B, 0, none⟩) 1 (ints [x]) := by
  refine ⟨rfl, fun _ => ⟨B, 0, rfl, hB, fun j u hu => ?_⟩⟩
  match j, hu with
  | 0, hu => simp at hu; subst hu; exact h
  | j + 1, hu => simp at hu
/-- a row of boxes with all that is asked of it -/
structure FullAt (W : World) (u : Sl) (bs : List Bx.Box) : Prop where
  ex : ∃ qs : List BxM, Rd W W.heap.size 3 u.a u.n ((qs.map (·.1)).flatMap bxL) ∧ (∀ q ∈ qs, BoxRd W q) ∧ qs.map plD = bs
theorem FullAt.up {w W : World} {u : Sl} {bs : List Bx.Box} (h : FullAt w u bs) (hb : Below w.heap.size w W) : FullAt W u bs := by
  obtain ⟨qs, h1, h2, h3⟩ := h.ex
  exact ⟨qs, h1.up hb, fun q hq => (h2 q hq).up hb, h3⟩
theorem BxsAt.full {W : World} {u : Sl} {bs : List Bx.Box} (h : BxsAt W u bs) : FullAt W u bs := by
  obtain ⟨qs, h1, h2, h3⟩ := h.ex
  exact ⟨qs, h1, fun q hq => ⟨(h2 q hq).1, (h2 q hq).2⟩, h3⟩
theorem FullAt.bxs {W : World} {u : Sl} {bs : List Bx.Box} (h : FullAt W u bs) : BxsAt W u bs := by
  obtain ⟨qs, h1, h2, h3⟩ := h.ex
  exact ⟨qs, h1, fun q hq => ⟨(h2 q hq).lo, (h2 q hq).hi⟩, h3⟩
theorem FullAt.n {W : World} {u : Sl} {bs : List Bx.Box} (h : FullAt W u bs) : bs.length = u.n := by
  obtain ⟨qs, h1, h2, h3⟩ := h.ex
  have := h1.len (fun _ => rfl) (by omega)
  rw [← h3, ← this]; simp
section
variable {W : World} {u v : Sl} {bs cs : List Bx.Box}
theorem full_check (h : FullAt W u bs) (A D : Option Addr) (n m c d : Nat) (lo hi : List Int) (hx : Rd W W.heap.size 1 A n (ints lo)) (hy : Rd W W.heap.size 1 D m (ints hi)) (hl : bs.length ≤ 900000) :
    Calls Try.prog 19 #[.slice A n c, .slice D m d, .slice u.a u.n u.c] W fun e w' => e = .returned (.bool (Bx.check lo hi (bs.map fun b => (b.1, b.2.1)))) ∧ Below W.heap.size W w' := by
  have hn := h.n
  obtain ⟨qs, h1, h2, rfl⟩ := h.ex
  have := check19 A D n m c d lo hi u qs W hx hy h1 h2 (by omega)
  rw [List.map_map]
  exact this
theorem full_same (h : FullAt W u bs) (k : FullAt W v cs) (hs : ∀ b ∈ bs, b.1.length ≤ 1000 ∧ b.2.1.length ≤ 1000) (hl : bs.length ≤ 1000000) :
    Calls Try.prog 15 #[.slice u.a u.n u.c, .slice v.a v.n v.c] W fun e w' => e = .returned (.bool (decide (bs = cs))) ∧ Below W.heap.size W w' := by
  have hn := h.n
  obtain ⟨qs, h1, h2, rfl⟩ := h.ex
  obtain ⟨rs, k1, k2, rfl⟩ := k.ex
  refine same15 u v qs rs W h1 (fun q hq => ⟨h2 q hq, ?_, ?_⟩) k1 k2 (by omega)
  · have a := (hs _ (List.mem_map.2 ⟨q, hq, rfl⟩)).1
    have b := (h2 q hq).lo.1
    rw [List.length_map] at b
    simp only [plD] at a
    omega
  · have a := (hs _ (List.mem_map.2 ⟨q, hq, rfl⟩)).2
    have b := (h2 q hq).hi.1
    rw [List.length_map] at b
    simp only [plD] at a
    omega
theorem full_count (h : FullAt W u bs) (hs : ∀ b ∈ bs, b.1.length ≤ 1000 ∧ Bx.I64 b.1 ∧ Bx.I64 b.2.1) (hl : bs.length ≤ 1000000) :
    Calls Try.prog 21 #[.slice u.a u.n u.c] W fun e w' => e = .returned (.int .i64 (Bx.countF bs 0)) ∧ Below W.heap.size W w' := by
  have hn := h.n
  obtain ⟨qs, h1, h2, rfl⟩ := h.ex
  refine count21 u qs W h1 (fun q hq => ?_) (by omega)
  have a := hs _ (List.mem_map.2 ⟨q, hq, rfl⟩)
  simp only [plD] at a
  have b := (h2 q hq).lo.1
  rw [List.length_map] at b
  exact ⟨h2 q hq, by omega, a.2.1, a.2.2⟩
theorem full_holds (h : FullAt W u bs) (A : Option Addr) (n c : Nat) (p : List Int) (hz : Rd W W.heap.size 1 A n (ints p)) (hn : n ≤ 1000000) (hl : bs.length ≤ 1000000) (r : Bool × Bool) (hr : Bx.holds p bs = r) :
    Calls Try.prog 17 #[.slice u.a u.n u.c, .slice A n c] W fun e w' => e = .returned (.tuple #[.bool r.1, .bool r.2]) ∧ Below W.heap.size W w' := by
  subst hr
  exact holds17 u bs A n c p W h.bxs hz hn (by rw [← h.n]; exact hl)
theorem full_checkv (h : FullAt W u bs) (A D : Option Addr) (n m c d : Nat) (lo hi : List Int) (hx : Rd W W.heap.size 1 A n (ints lo)) (hy : Rd W W.heap.size 1 D m (ints hi)) (hl : bs.length ≤ 900000) (r : Bool) (hr : Bx.check lo hi (bs.map fun b => (b.1, b.2.1)) = r) :
    Calls Try.prog 19 #[.slice A n c, .slice D m d, .slice u.a u.n u.c] W fun e w' => e = .returned (.bool r) ∧ Below W.heap.size W w' := by
  subst hr
  exact full_check h A D n m c d lo hi hx hy hl
theorem full_samev (h : FullAt W u bs) (k : FullAt W v cs) (hs : ∀ b ∈ bs, b.1.length ≤ 1000 ∧ b.2.1.length ≤ 1000) (hl : bs.length ≤ 1000000) (r : Bool) (hr : decide (bs = cs) = r) :
    Calls Try.prog 15 #[.slice u.a u.n u.c, .slice v.a v.n v.c] W fun e w' => e = .returned (.bool r) ∧ Below W.heap.size W w' := by
  subst hr
  exact full_same h k hs hl
theorem full_countv (h : FullAt W u bs) (hs : ∀ b ∈ bs, b.1.length ≤ 1000 ∧ Bx.I64 b.1 ∧ Bx.I64 b.2.1) (hl : bs.length ≤ 1000000) (r : Int) (hr : Bx.countF bs 0 = r) :
    Calls Try.prog 21 #[.slice u.a u.n u.c] W fun e w' => e = .returned (.int .i64 r) ∧ Below W.heap.size W w' := by
  subst hr
  exact full_count h hs hl
theorem full_first {b : Bx.Box} (h : FullAt W u (b :: bs)) : ∃ b0 o0, (∀ W, Sem.run Try.prog (Instr.indexAt 26 (.slice u.a u.n u.c) (.int .i64 0)) W = .ok (.pointer (some ⟨b0, o0, none⟩)) W) ∧ b0 < W.heap.size ∧ W.cell? ⟨b0, o0 + 2, none⟩ = some (.bool b.2.2) := by
  have hn := h.n
  rw [List.length_cons] at hn
  obtain ⟨qs, h1, h2, h3⟩ := h.ex
  obtain ⟨b0, o0, q, hq, hb, hix, _, _, c2⟩ := box_at h1 u.c (show 0 < u.n by omega)
  refine ⟨b0, o0, hix, hb, ?_⟩
  match qs, h3, hq with
  | p :: qs, h3, hq =>
    simp at hq
    subst hq
    rw [List.map_cons] at h3
    injection h3 with h4 h5
    rw [← h4]
    exact c2
end
end Go.Proofs.Ytcncobhdfflelaa
