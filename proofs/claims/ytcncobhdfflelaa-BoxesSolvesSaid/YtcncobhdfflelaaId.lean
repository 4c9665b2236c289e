/- Plain laws: how Solve ends with the verdicts of linear conditions; the reference's Solve on every domain. -/
import Derived.Test.YtcncobhdfflelaaIc
import Derived.Test.YtcncobhdfflelaaHb
namespace Go.Proofs.Ytcncobhdfflelaa
open Go.RowKit
namespace Bx
theorem lim_any (m : Int) : 1 ≤ lim m ∧ lim m ≤ 4096 := by
  unfold lim clamp
  split
  · decide
  · split <;> omega
/-- the run with the verdicts of linear conditions: an error, or a partition -/
theorem solve_cases (lo hi : List Int) (cs : List (List Int × Int)) (most : Int) :
    solve (fun a b => verd a b cs 1) lo hi most = ([], 1) ∨ solve (fun a b => verd a b cs 1) lo hi most = ([], 6) ∨ solve (fun a b => verd a b cs 1) lo hi most = ([], 3) ∨
    ∃ m, solve (fun a b => verd a b cs 1) lo hi most = (m, 0) ∧ valid lo hi = true ∧ Part (fun a b => verd a b cs 1) (lo, hi) m [] ∧ m.length ≤ lim most := by
  unfold solve
  by_cases g1 : lo.length ≠ hi.length ∨ 16 < lo.length
  · simp only [if_pos g1]
    exact .inl trivial
  · simp only [if_neg g1]
    by_cases g2 : valid lo hi = false
    · simp only [if_pos g2]
      exact .inr (.inl trivial)
    · simp only [if_neg g2]
      have hv : valid lo hi = true := by simpa using g2
      obtain ⟨sb, hll, _, _⟩ := sub_self' hv
      obtain ⟨p1, p2⟩ := lim_any most
      rcases solveF_part (v := fun a b => verd a b cs 1) (D := (lo, hi)) hll sb (lim most) p1 (2 * lim most + 1) (Nat.le_refl _) with ⟨r, h1, h2, h3⟩ | h | ⟨_, b, hb, n1, n0, hw⟩
      · exact .inr (.inr (.inr ⟨r, h1, hv, h2, h3⟩))
      · exact .inr (.inr (.inl h))
      · exfalso
        have e := hb.point hll hw
        rw [e] at n1 n0
        rcases verd_same b.2 cs 1 (.inr rfl) with h | h
        · exact n0 h
        · exact n1 h
/-- the boxes of a partition -/
theorem Part.len {v : List Int → List Int → Int} {lo hi : List Int} {r : List Box} (h : Part v (lo, hi) r []) : ∀ b ∈ r, Sub (lo, hi) (b.1, b.2.1) := fun b hb => h.sub (dm b) (List.mem_append.2 (.inl (List.mem_map.2 ⟨b, hb, rfl⟩)))
end Bx
theorem solve14 (A B : Option Addr) (n m c d : Nat) (lo hi : List Int) (F : Sl) (cs : List (List Int × Int)) (most : Int) (w : World) (hx : Rd w w.heap.size 1 A n (ints lo)) (hy : Rd w w.heap.size 1 B m (ints hi))
    (hF : LnsAt w F cs) (hFn : F.n ≤ 1000000) (d1 : Bx.Dom lo) (d2 : Bx.Dom hi) :
    Calls Try.prog 14 #[.slice A n c, .slice B m d, .slice F.a F.n F.c, .int .i64 most] w (SolvePost (Bx.solve (fun a b => Bx.verd a b cs 1) lo hi most) w) := by
  have e1 : lo.length = n := by simpa using hx.1
  have e2 : hi.length = m := by simpa using hy.1
  by_cases h : n ≠ m ∨ 16 < n
  · exact solve14_arg A B n m c d lo hi F _ most w e1 e2 h
  · have hnm : n = m := by omega
    subst hnm
    cases hv : Bx.valid lo hi with
    | true => exact solve14_main A B n c d lo hi F cs most w hx hy (by omega) hv hF hFn d1 d2
    | false => exact solve14_range A B n c d lo hi F _ most w hx hy (by omega) hv
end Go.Proofs.Ytcncobhdfflelaa
