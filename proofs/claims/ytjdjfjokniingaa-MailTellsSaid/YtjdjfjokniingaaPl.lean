/- Plain lists: the channels of a list of flights, each once, in the order in which they come up. -/
namespace Go.Proofs.Ytjdjfjokniingaa
namespace Sy
def ddStep (acc : List (Int × Int)) (c : Int × Int) : List (Int × Int) := if c ∈ acc then acc else acc ++ [c]
def dd (l : List (Int × Int)) : List (Int × Int) := l.foldl ddStep []
theorem dd_snoc (l : List (Int × Int)) (c : Int × Int) : dd (l ++ [c]) = ddStep (dd l) c := by simp [dd]
theorem dd_len (l : List (Int × Int)) : (dd l).length ≤ l.length := by
  have h : ∀ (l acc : List (Int × Int)), (l.foldl ddStep acc).length ≤ acc.length + l.length := by
    intro l
    induction l with
    | nil => intro acc; simp
    | cons c r ih =>
      intro acc
      have := ih (ddStep acc c)
      simp only [List.foldl_cons, List.length_cons]
      unfold ddStep at this ⊢
      split at this <;> simp_all <;> omega
  simpa [dd] using h l []
theorem dd_sub (l : List (Int × Int)) : ∀ c, c ∈ dd l → c ∈ l := by
  have h : ∀ (l acc : List (Int × Int)) c, c ∈ l.foldl ddStep acc → c ∈ acc ∨ c ∈ l := by
    intro l
    induction l with
    | nil => intro acc c h; exact .inl h
    | cons x r ih =>
      intro acc c h
      rcases ih (ddStep acc x) c h with h | h
      · unfold ddStep at h
        split at h
        · exact .inl h
        · rcases List.mem_append.1 h with h | h
          · exact .inl h
          · exact .inr (by simp at h; simp [h])
      · exact .inr (List.mem_cons_of_mem _ h)
  intro c hc
  rcases h l [] c hc with h | h
  · simp at h
  · exact h
end Sy
theorem take_snoc' {α : Type} (l : List α) (k : Nat) (x : α) (h : l[k]? = some x) : l.take (k + 1) = l.take k ++ [x] := by
  obtain ⟨hk, rfl⟩ := List.getElem?_eq_some_iff.1 h
  exact List.take_succ_eq_append_getElem hk
end Go.Proofs.Ytjdjfjokniingaa
