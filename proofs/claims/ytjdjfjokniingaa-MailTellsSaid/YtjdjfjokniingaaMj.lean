/- The tail and the head of a slice. -/
import Derived.Test.YtjdjfjokniingaaMi
namespace Go.Proofs.Ytjdjfjokniingaa
open Go.RowKit

theorem tail_rd {w : World} {B k n c b off : Nat} {xs : List Value} (j : Nat) (h : Rd w B k (some ⟨b, off, none⟩) n xs) (hj : j ≤ n) : Rd w B k (if c = j then some ⟨b, off, none⟩ else some ⟨b, off + j * k, none⟩) (n - j) (xs.drop (j * k)) ∨ c = j := by
  by_cases e : c = j
  · exact .inr e
  · left
    rw [if_neg e]
    exact h.drop_ hj
/-- s[j:] of letters -/
theorem tail74 {w : World} {B n c : Nat} {A : Option Addr} {xs : List Value} (h : Rd w B 4 A n xs) (h0 : 0 < n) (hc : n ≤ c) :
    ∃ A' : Option Addr, (∀ W, Sem.run Try.prog (Instr.sliceAt 74 (.slice A n c) (some (.int .i64 1)) none none) W = .ok (.slice A' (n - 1) (c - 1)) W) ∧ (∀ (W : World) (C : Nat), Rd W C 4 A n xs → Rd W C 4 A' (n - 1) (xs.drop 4)) ∧ (∀ q, A' = some q → q.block < B) ∧ ∀ q, A' = some q → ∃ q0, A = some q0 ∧ q.block = q0.block := by
  obtain ⟨b, off, rfl, hb, _⟩ := h.2 h0
  have h1 : (1 : Int) ≤ (n : Int) := by omega
  refine ⟨if c = 1 then some ⟨b, off, none⟩ else some ⟨b, off + 4, none⟩, fun W => by go_simp, fun W C hr => ?_, fun q hq => ?_, fun q hq => ?_⟩
  · by_cases e : c = 1
    · have hn : n = 1 := by omega
      subst hn
      have hl : xs.drop 4 = [] := List.drop_eq_nil_of_le (by have := hr.1; omega)
      rw [hl]
      exact Rd.none_
    · rw [if_neg e]
      have := hr.drop_ (m := 1) (by omega)
      simpa using this
  · split at hq <;> (injection hq with hq; subst hq; exact hb)
  · split at hq <;> (injection hq with hq; subst hq; exact ⟨_, rfl, rfl⟩)
/-- s[i+1:] of flights -/
theorem tail24 {w : World} {B n c i : Nat} {A : Option Addr} {xs : List Value} (h : Rd w B 7 A n xs) (h0 : i < n) (hc : n ≤ c) :
    ∃ A' : Option Addr, (∀ W, Sem.run Try.prog (Instr.sliceAt 24 (.slice A n c) (some (.int .i64 ((i : Int) + 1))) none none) W = .ok (.slice A' (n - (i + 1)) (c - (i + 1))) W) ∧ (∀ (W : World) (C : Nat), Rd W C 7 A n xs → Rd W C 7 A' (n - (i + 1)) (xs.drop ((i + 1) * 7))) := by
  obtain ⟨b, off, rfl, hb, _⟩ := h.2 (by omega)
  have h1 : (0 : Int) ≤ (i : Int) + 1 := by omega
  have h2 : (i : Int) + 1 ≤ (n : Int) := by omega
  refine ⟨if c = i + 1 then some ⟨b, off, none⟩ else some ⟨b, off + (i + 1) * 7, none⟩, fun W => by go_simp, fun W C hr => ?_⟩
  · by_cases e : c = i + 1
    · have hn : n = i + 1 := by omega
      subst hn
      have hl : xs.drop ((i + 1) * 7) = [] := List.drop_eq_nil_of_le (by have := hr.1; omega)
      rw [hl, Nat.sub_self]
      exact Rd.none_
    · rw [if_neg e]
      exact hr.drop_ h0
/-- s[:i] of flights -/
theorem head24 {w : World} {B n c i : Nat} {A : Option Addr} {xs : List Value} (h : Rd w B 7 A n xs) (h0 : i < n) (hc : n ≤ c) :
    ∀ W, Sem.run Try.prog (Instr.sliceAt 24 (.slice A n c) none (some (.int .i64 (i : Int))) none) W = .ok (.slice A i c) W := by
  obtain ⟨b, off, rfl, hb, _⟩ := h.2 (by omega)
  have h1 : i ≤ c := by omega
  intro W
  go_simp
end Go.Proofs.Ytjdjfjokniingaa
