/- The plain laws of the timer. -/
import Derived.Test.YtjdjfjokniingaaUl
namespace Go.Proofs.Ytjdjfjokniingaa
open Go.RowKit
namespace Tm
theorem clear_le (σ : TS) (p : ByteArray) : (clear σ p).als.length ≤ σ.als.length := List.length_filter_le _ _
theorem tick_le (σ : TS) : (tickS σ).als.length ≤ σ.als.length := by
  unfold tickS
  split
  · exact Nat.le_refl _
  · exact List.length_filter_le _ _
theorem tickD_le (σ : TS) : (tickD σ).length ≤ σ.als.length := by
  unfold tickD
  split
  · exact Nat.zero_le _
  · rw [St.isort_len]; exact List.length_filter_le _ _
theorem leT_ok : St.LeOk leT := ⟨fun a b => by simp only [leT, decide_eq_true_eq]; omega, fun a b c => by simp only [leT, decide_eq_true_eq]; omega⟩
theorem clear_clear (σ : TS) (a b : ByteArray) : clear (clear σ a) b = clear (clear σ b) a := by
  simp only [clear, List.filter_filter, Bool.and_comm]
theorem clear_idem (σ : TS) (a : ByteArray) : clear (clear σ a) a = clear σ a := by
  simp only [clear, List.filter_filter, Bool.and_self]
theorem tickS_clear (σ : TS) (a : ByteArray) : tickS (clear σ a) = clear (tickS σ) a := by
  unfold tickS
  by_cases h : σ.clock ≥ 1073741824
  · rw [if_pos h, if_pos (by exact h)]
  · rw [if_neg h, if_neg (by exact h)]
    simp only [clear, List.filter_filter, Bool.and_comm]
    rfl
theorem tickD_clear (σ : TS) (a : ByteArray) : tickD (clear σ a) = (tickD σ).filter fun x => decide (x.src ≠ a) := by
  unfold tickD
  by_cases h : σ.clock ≥ 1073741824
  · rw [if_pos h, if_pos (by exact h)]
    rfl
  · rw [if_neg h, if_neg (by exact h), ← St.isort_filter leT_ok _ _ _ rfl]
    simp only [clear, List.filter_filter, Bool.and_comm]
    rfl
end Tm
theorem nth_filter {α : Type} (p : α → Bool) : ∀ (l : List α) (i : Nat) (x : α), l[i]? = some x → p x = true → (l.filter p)[((l.take i).filter p).length]? = some x
  | [], i, x, h, _ => by simp at h
  | y :: l, 0, x, h, hp => by
    simp at h
    subst h
    simp [hp]
  | y :: l, i + 1, x, h, hp => by
    have ih := nth_filter p l i x (by simpa using h) hp
    rw [List.take_succ_cons]
    cases hy : p y with
    | true => rw [List.filter_cons_of_pos hy, List.filter_cons_of_pos hy, List.length_cons, List.getElem?_cons_succ]; exact ih
    | false => rw [List.filter_cons_of_neg (by simp [hy]), List.filter_cons_of_neg (by simp [hy])]; exact ih

namespace Tm
/-- what holds of a state that k operations have made of the empty one -/
structure Inv (σ : TS) (k : Nat) : Prop where
  c0 : 0 ≤ σ.clock
  c1 : σ.clock ≤ k
  s0 : 0 ≤ σ.seq
  s1 : σ.seq ≤ k
  late : ∀ a ∈ σ.als, σ.clock < a.x
  nums : ∀ a ∈ σ.als, a.y < σ.seq
  asc : σ.als.Pairwise fun a b => a.y < b.y
  len : σ.als.length ≤ k
theorem Inv.zero : Inv ⟨0, 0, []⟩ 0 := ⟨by simp, by simp, by simp, by simp, by simp, by simp, by simp, by simp⟩
theorem span_pos (n : Int) : 1 ≤ span n ∧ span n ≤ 1048576 := by unfold span; omega
theorem Inv.x_eq {σ : TS} {k : Nat} (h : Inv σ k) (hk : k ≤ 60) (n : Int) : wrap64 (σ.clock + span n) = σ.clock + span n := by
  have := span_pos n
  have := h.c0
  have := h.c1
  exact IntWalk.wrap64_in _ (by omega)
theorem Inv.set {σ : TS} {k : Nat} (h : Inv σ k) (hk : k ≤ 60) (n : Int) (p a b : ByteArray) (ts : List Tr) (x : Int) : Inv (set σ n p a b ts x) (k + 1) := by
  have hs0 := h.s0
  have hs1 := h.s1
  have e1 : wrap64 (σ.seq + 1) = σ.seq + 1 := IntWalk.wrap64_in _ (by omega)
  have e2 := h.x_eq hk n
  have hsp := span_pos n
  refine ⟨h.c0, by have := h.c1; show σ.clock ≤ _; omega, ?_, ?_, ?_, ?_, ?_, ?_⟩
  · show 0 ≤ wrap64 (σ.seq + 1); omega
  · show wrap64 (σ.seq + 1) ≤ _; omega
  · intro y hy
    rcases List.mem_append.1 hy with hy | hy
    · exact h.late y hy
    · rw [List.mem_singleton] at hy
      subst hy
      show σ.clock < wrap64 (σ.clock + span n)
      omega
  · intro y hy
    show y.y < wrap64 (σ.seq + 1)
    rcases List.mem_append.1 hy with hy | hy
    · have := h.nums y hy; omega
    · rw [List.mem_singleton] at hy
      subst hy
      show σ.seq < _
      omega
  · refine List.pairwise_append.2 ⟨h.asc, by simp, fun y hy z hz => ?_⟩
    rw [List.mem_singleton] at hz
    subst hz
    exact h.nums y hy
  · have := h.len
    simp [Tm.set]; omega
theorem Inv.clear {σ : TS} {k : Nat} (h : Inv σ k) (p : ByteArray) : Inv (clear σ p) (k + 1) :=
  ⟨h.c0, by have := h.c1; show σ.clock ≤ _; omega, h.s0, by have := h.s1; show σ.seq ≤ _; omega, fun a ha => h.late a (List.mem_filter.1 ha).1, fun a ha => h.nums a (List.mem_filter.1 ha).1, h.asc.filter _, Nat.le_trans (List.length_filter_le _ _) (Nat.le_trans h.len (Nat.le_succ _))⟩
theorem Inv.tickS {σ : TS} {k : Nat} (h : Inv σ k) (hk : k ≤ 60) : tickS σ = ⟨σ.clock + 1, σ.seq, σ.als.filter fun a => !decide (a.x = σ.clock + 1)⟩ := by
  have h0 := h.c0
  have h1 := h.c1
  have e : wrap64 (σ.clock + 1) = σ.clock + 1 := IntWalk.wrap64_in _ (by omega)
  unfold Tm.tickS
  rw [if_neg (by omega), e]
  congr 1
  refine List.filter_congr fun a ha => ?_
  have := h.late a ha
  simp only [Bool.not_eq_eq_eq_not, Bool.not_not, decide_eq_decide]
  omega
theorem Inv.tickD {σ : TS} {k : Nat} (h : Inv σ k) (hk : k ≤ 60) : tickD σ = σ.als.filter fun a => decide (a.x = σ.clock + 1) := by
  have h0 := h.c0
  have h1 := h.c1
  have e : wrap64 (σ.clock + 1) = σ.clock + 1 := IntWalk.wrap64_in _ (by omega)
  unfold Tm.tickD
  rw [if_neg (by omega), e]
  have ef : (σ.als.filter fun a => decide (a.x ≤ σ.clock + 1)) = σ.als.filter fun a => decide (a.x = σ.clock + 1) := by
    refine List.filter_congr fun a ha => ?_
    have := h.late a ha
    simp only [decide_eq_decide]
    omega
  rw [ef]
  refine St.isort_id _ _ rfl ?_
  have hp := h.asc.filter (fun a => decide (a.x = σ.clock + 1))
  have hx : ∀ a ∈ σ.als.filter (fun a => decide (a.x = σ.clock + 1)), a.x = σ.clock + 1 := fun a ha => by simpa using (List.mem_filter.1 ha).2
  refine List.Pairwise.imp_of_mem (fun {a b} ha hb hab => ?_) hp
  simp only [leT, decide_eq_true_eq]
  have := hx a ha
  have := hx b hb
  omega
theorem Inv.tick {σ : TS} {k : Nat} (h : Inv σ k) (hk : k ≤ 60) : Inv (Tm.tickS σ) (k + 1) := by
  rw [h.tickS hk]
  refine ⟨by have := h.c0; show 0 ≤ σ.clock + 1; omega, by have := h.c1; show σ.clock + 1 ≤ _; omega, h.s0, by have := h.s1; show σ.seq ≤ _; omega, fun a ha => ?_, fun a ha => h.nums a (List.mem_filter.1 ha).1, h.asc.filter _, Nat.le_trans (List.length_filter_le _ _) (Nat.le_trans h.len (Nat.le_succ _))⟩
  have h1 := h.late a (List.mem_filter.1 ha).1
  have h2 := (List.mem_filter.1 ha).2
  simp at h2
  show σ.clock + 1 < a.x
  omega
end Tm
end Go.Proofs.Ytjdjfjokniingaa
