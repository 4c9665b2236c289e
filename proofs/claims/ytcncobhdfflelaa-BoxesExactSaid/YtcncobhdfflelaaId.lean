/- Plain laws: how Solve ends with the verdicts of linear conditions. -/
import Derived.Test.YtcncobhdfflelaaIc
namespace Go.Proofs.Ytcncobhdfflelaa
namespace Bx
theorem lim_any (m : Int) : 1 ≤ lim m ∧ lim m ≤ 4096 := by
  unfold lim clamp
  split
  · decide
  · split <;> omega
/-- the run with the verdicts of linear conditions: an error, or a partition -/
theorem solve_cases (lo hi : List Int) (cs : List (List Int × Int)) (most : Int) :
    solve (fun a b => verd a b cs 1) lo hi most = ([], 1) ∨ solve (fun a b => verd a b cs 1) lo hi most = ([], 6) ∨ solve (fun a b => verd a b cs 1) lo hi most = ([], 3) ∨
    ∃ m, solve (fun a b => verd a b cs 1) lo hi most = (m, 0) ∧ valid lo hi = true ∧ Part (fun a b => verd a b cs 1) (lo, hi) m [] ∧ m.length ≤ lim most := by
  unfold solve
  by_cases g1 : lo.length ≠ hi.length ∨ 16 < lo.length
  · simp only [if_pos g1]
    exact .inl trivial
  · simp only [if_neg g1]
    by_cases g2 : valid lo hi = false
    · simp only [if_pos g2]
      exact .inr (.inl trivial)
    · simp only [if_neg g2]
      have hv : valid lo hi = true := by simpa using g2
      obtain ⟨sb, hll, _, _⟩ := sub_self' hv
      obtain ⟨p1, p2⟩ := lim_any most
      rcases solveF_part (v := fun a b => verd a b cs 1) (D := (lo, hi)) hll sb (lim most) p1 (2 * lim most + 1) (Nat.le_refl _) with ⟨r, h1, h2, h3⟩ | h | ⟨_, b, hb, n1, n0, hw⟩
      · exact .inr (.inr (.inr ⟨r, h1, hv, h2, h3⟩))
      · exact .inr (.inr (.inl h))
      · exfalso
        have e := hb.point hll hw
        rw [e] at n1 n0
        rcases verd_same b.2 cs 1 (.inr rfl) with h | h
        · exact n0 h
        · exact n1 h
/-- the boxes of a partition -/
theorem Part.len {v : List Int → List Int → Int} {lo hi : List Int} {r : List Box} (h : Part v (lo, hi) r []) : ∀ b ∈ r, Sub (lo, hi) (b.1, b.2.1) := fun b hb => h.sub (dm b) (List.mem_append.2 (.inl (List.mem_map.2 ⟨b, hb, rfl⟩)))
end Bx
end Go.Proofs.Ytcncobhdfflelaa
