/- law17.few. -/
import Derived.Test.YtjdjfjokniingaaUj
namespace Go.Proofs.Ytjdjfjokniingaa
open Go.RowKit

/-- what few asks -/
structure Few17 (s : SysC) (n : Nat) : Prop where
  n : n ≤ 60
  al : s.alarms.n ≤ 100
  c1 : -1099511627776 ≤ s.clock
  c2 : s.clock ≤ 1099511627776
  s1 : -1099511627776 ≤ s.seq
  s2 : s.seq ≤ 1099511627776
theorem few_no {s : SysC} {n : Nat} : false = true → Few17 s n := fun h => by cases h
set_option linter.unusedSimpArgs false in
set_option linter.unusedVariables false in
set_option maxRecDepth 100000 in
set_option maxHeartbeats 3200000 in
theorem few18 (s : SysC) (l : Sl) (w : World) :
    Calls Try.prog 18 #[sysV s, .slice l.a l.n l.c] w fun e w' => ∃ y : Bool, e = .returned (.bool y) ∧ (y = true → Few17 s l.n) ∧ Below w.heap.size w w' := by
  go_enter Try.func18, Try.ntmps18
  cases t0 : decide ((-1099511627776 : Int) ≤ s.clock) with
  | false =>
    cases u0 : decide ((l.n : Int) ≤ 60) with
    | false =>
      go_wp2_with fail
      go_ret
      exact ⟨false, rfl, few_no, (Below.refl _ _).alloc (Nat.le_refl _) _⟩
    | true =>
      cases u1 : decide ((s.alarms.n : Int) ≤ 100) with
      | false =>
        go_wp2_with fail
        go_ret
        exact ⟨false, rfl, few_no, (Below.refl _ _).alloc (Nat.le_refl _) _⟩
      | true =>
        cases u2 : decide ((s.actors.n : Int) ≤ 50) with
        | false =>
          go_wp2_with fail
          go_ret
          exact ⟨false, rfl, few_no, (Below.refl _ _).alloc (Nat.le_refl _) _⟩
        | true =>
          cases u3 : decide ((s.flights.n : Int) ≤ 100) with
          | false =>
            go_wp2_with fail
            go_ret
            exact ⟨false, rfl, few_no, (Below.refl _ _).alloc (Nat.le_refl _) _⟩
          | true =>
            go_wp2_with fail
            go_ret
            exact ⟨false, rfl, few_no, (Below.refl _ _).alloc (Nat.le_refl _) _⟩
  | true =>
    cases t1 : decide (s.clock ≤ (1099511627776 : Int)) with
    | false =>
      cases u0 : decide ((l.n : Int) ≤ 60) with
      | false =>
        go_wp2_with fail
        go_ret
        exact ⟨false, rfl, few_no, (Below.refl _ _).alloc (Nat.le_refl _) _⟩
      | true =>
        cases u1 : decide ((s.alarms.n : Int) ≤ 100) with
        | false =>
          go_wp2_with fail
          go_ret
          exact ⟨false, rfl, few_no, (Below.refl _ _).alloc (Nat.le_refl _) _⟩
        | true =>
          cases u2 : decide ((s.actors.n : Int) ≤ 50) with
          | false =>
            go_wp2_with fail
            go_ret
            exact ⟨false, rfl, few_no, (Below.refl _ _).alloc (Nat.le_refl _) _⟩
          | true =>
            cases u3 : decide ((s.flights.n : Int) ≤ 100) with
            | false =>
              go_wp2_with fail
              go_ret
              exact ⟨false, rfl, few_no, (Below.refl _ _).alloc (Nat.le_refl _) _⟩
            | true =>
              go_wp2_with fail
              go_ret
              exact ⟨false, rfl, few_no, (Below.refl _ _).alloc (Nat.le_refl _) _⟩
    | true =>
      cases t2 : decide ((-1099511627776 : Int) ≤ s.seq) with
      | false =>
        cases u0 : decide ((l.n : Int) ≤ 60) with
        | false =>
          go_wp2_with fail
          go_ret
          exact ⟨false, rfl, few_no, (Below.refl _ _).alloc (Nat.le_refl _) _⟩
        | true =>
          cases u1 : decide ((s.alarms.n : Int) ≤ 100) with
          | false =>
            go_wp2_with fail
            go_ret
            exact ⟨false, rfl, few_no, (Below.refl _ _).alloc (Nat.le_refl _) _⟩
          | true =>
            cases u2 : decide ((s.actors.n : Int) ≤ 50) with
            | false =>
              go_wp2_with fail
              go_ret
              exact ⟨false, rfl, few_no, (Below.refl _ _).alloc (Nat.le_refl _) _⟩
            | true =>
              cases u3 : decide ((s.flights.n : Int) ≤ 100) with
              | false =>
                go_wp2_with fail
                go_ret
                exact ⟨false, rfl, few_no, (Below.refl _ _).alloc (Nat.le_refl _) _⟩
              | true =>
                go_wp2_with fail
                go_ret
                exact ⟨false, rfl, few_no, (Below.refl _ _).alloc (Nat.le_refl _) _⟩
      | true =>
        cases t3 : decide (s.seq ≤ (1099511627776 : Int)) with
        | false =>
          cases u0 : decide ((l.n : Int) ≤ 60) with
          | false =>
            go_wp2_with fail
            go_ret
            exact ⟨false, rfl, few_no, (Below.refl _ _).alloc (Nat.le_refl _) _⟩
          | true =>
            cases u1 : decide ((s.alarms.n : Int) ≤ 100) with
            | false =>
              go_wp2_with fail
              go_ret
              exact ⟨false, rfl, few_no, (Below.refl _ _).alloc (Nat.le_refl _) _⟩
            | true =>
              cases u2 : decide ((s.actors.n : Int) ≤ 50) with
              | false =>
                go_wp2_with fail
                go_ret
                exact ⟨false, rfl, few_no, (Below.refl _ _).alloc (Nat.le_refl _) _⟩
              | true =>
                cases u3 : decide ((s.flights.n : Int) ≤ 100) with
                | false =>
                  go_wp2_with fail
                  go_ret
                  exact ⟨false, rfl, few_no, (Below.refl _ _).alloc (Nat.le_refl _) _⟩
                | true =>
                  go_wp2_with fail
                  go_ret
                  exact ⟨false, rfl, few_no, (Below.refl _ _).alloc (Nat.le_refl _) _⟩
        | true =>
          cases u0 : decide ((l.n : Int) ≤ 60) with
          | false =>
            go_wp2_with fail
            go_ret
            exact ⟨false, rfl, few_no, (Below.refl _ _).alloc (Nat.le_refl _) _⟩
          | true =>
            cases u1 : decide ((s.alarms.n : Int) ≤ 100) with
            | false =>
              go_wp2_with fail
              go_ret
              exact ⟨false, rfl, few_no, (Below.refl _ _).alloc (Nat.le_refl _) _⟩
            | true =>
              cases u2 : decide ((s.actors.n : Int) ≤ 50) with
              | false =>
                go_wp2_with fail
                go_ret
                exact ⟨false, rfl, few_no, (Below.refl _ _).alloc (Nat.le_refl _) _⟩
              | true =>
                cases u3 : decide ((s.flights.n : Int) ≤ 100) with
                | false =>
                  go_wp2_with fail
                  go_ret
                  exact ⟨false, rfl, few_no, (Below.refl _ _).alloc (Nat.le_refl _) _⟩
                | true =>
                  go_wp2_with fail
                  go_ret
                  exact ⟨true, rfl, fun _ => ⟨by simp at u0; omega, by simp at u1; omega, by simpa using t0, by simpa using t1, by simpa using t2, by simpa using t3⟩, (Below.refl _ _).alloc (Nat.le_refl _) _⟩
end Go.Proofs.Ytjdjfjokniingaa
