/- The plain law of the reference's parts: it splits as mail.split. -/
import Derived.Test.YtjdjfjokniingaaPf
namespace Go.Proofs.Ytjdjfjokniingaa
open Go.RowKit
namespace Ml
theorem splitD_nodot : ∀ (l : List UInt8), (∀ c ∈ l, c ≠ 46) → splitD l = [l]
  | [], _ => rfl
  | c :: l, h => by
    rw [splitD, if_neg (h c List.mem_cons_self), splitD_nodot l (fun x hx => h x (List.mem_cons_of_mem _ hx))]
theorem splitD_dot (r : List UInt8) : ∀ (l : List UInt8), (∀ c ∈ l, c ≠ 46) → splitD (l ++ 46 :: r) = l :: splitD r
  | [], _ => by rw [List.nil_append, splitD, if_pos rfl]
  | c :: l, h => by
    rw [List.cons_append, splitD, if_neg (h c List.mem_cons_self), splitD_dot r l (fun x hx => h x (List.mem_cons_of_mem _ hx))]
/-- what the loop of the reference's parts keeps: k bytes are read, the piece begins at f -/
def PartsI (s : ByteArray) (k f : Nat) (acc : List Int) : Prop :=
  (k ≤ s.size ∧ (∀ j, f ≤ j → j < k → s.data.toList[j]? ≠ some 46) ∧ accP ((splitD (s.data.toList.drop f)).map pnm) acc = accP (comps s) []) ∨ (k = s.size + 1 ∧ accP (comps s) [] = some acc)
theorem partsI_start (s : ByteArray) : PartsI s 0 0 [] := .inl ⟨Nat.zero_le _, fun j _ h => by omega, rfl⟩
theorem partsI_skip {s : ByteArray} {k f : Nat} {acc : List Int} (h : PartsI s k f acc) (hk : k < s.size) (hc : (s[k]'hk).toNat ≠ 46) : PartsI s (k + 1) f acc := by
  rcases h with ⟨h1, h2, h3⟩ | ⟨h1, _⟩
  · refine .inl ⟨hk, fun j hf hj => ?_, h3⟩
    by_cases hjk : j < k
    · exact h2 j hf hjk
    · obtain rfl : j = k := by omega
      intro e
      apply hc
      rw [Array.getElem?_toList] at e
      have e2 := (Array.getElem?_eq_some_iff.1 e).2
      have e3 : s[j]'hk = 46 := by simpa [ByteArray.getElem_eq_getElem_data] using e2
      rw [e3]
      rfl
  · omega
theorem partsI_piece {s : ByteArray} {k f : Nat} {acc : List Int} (h : PartsI s k f acc) (hf : f ≤ k) (hk : k ≤ s.size) (hc : ∀ h : k < s.size, (s[k]'h).toNat = 46) (n : Int) (ok : Bool) (hp : pnm (s.extract f k).data.toList = (n, ok)) :
    if ok = false ∨ (acc = [] ∧ n ≠ 0) then accP (comps s) [] = none else PartsI s (k + 1) (k + 1) (acc ++ [n]) := by
  rcases h with ⟨h1, h2, h3⟩ | ⟨h1, _⟩
  · have hl : s.data.toList.length = s.size := Array.length_toList
    have he : (s.extract f k).data.toList = (s.data.toList.drop f).take (k - f) := by
      rw [ByteArray.data_extract, Array.toList_extract, List.extract_eq_take_drop]
    have hno : ∀ c ∈ (s.data.toList.drop f).take (k - f), c ≠ 46 := by
      intro c hc e
      obtain ⟨j, hj, e2⟩ := List.getElem_of_mem hc
      have hj2 : j < k - f := by rw [List.length_take] at hj; omega
      rw [List.getElem_take, List.getElem_drop] at e2
      refine h2 (f + j) (by omega) (by omega) ?_
      rw [List.getElem?_eq_getElem (by omega), e2, e]
    by_cases hlt : k < s.size
    · have hd : s.data.toList.drop f = (s.data.toList.drop f).take (k - f) ++ 46 :: s.data.toList.drop (k + 1) := by
        have e1 : (s.data.toList.drop f).drop (k - f) = 46 :: s.data.toList.drop (k + 1) := by
          rw [List.drop_drop, show f + (k - f) = k by omega, List.drop_eq_getElem_cons (by omega)]
          congr 1
          have := hc hlt
          apply UInt8.toNat_inj.1
          rw [show (46 : UInt8).toNat = 46 from rfl, ← this]
          simp [ByteArray.getElem_eq_getElem_data]
        rw [← e1, List.take_append_drop]
      rw [hd, splitD_dot _ _ hno, List.map_cons, ← he, hp, accP] at h3
      split
      · rename_i hb
        rw [if_pos hb] at h3
        exact h3.symm
      · rename_i hb
        rw [if_neg hb] at h3
        exact .inl ⟨hlt, fun j a b => by omega, h3⟩
    · obtain rfl : k = s.size := by omega
      have hd : s.data.toList.drop f = (s.data.toList.drop f).take (s.size - f) := by
        rw [List.take_of_length_le (by rw [List.length_drop]; omega)]
      rw [hd, splitD_nodot _ hno, List.map_cons, ← he, hp, List.map_nil, accP] at h3
      split
      · rename_i hb
        rw [if_pos hb] at h3
        exact h3.symm
      · rename_i hb
        rw [if_neg hb] at h3
        exact .inr ⟨rfl, h3.symm⟩
  · omega
theorem partsI_done {s : ByteArray} {k f : Nat} {acc : List Int} (h : PartsI s k f acc) (hk : s.size < k) : accP (comps s) [] = some acc := by
  rcases h with ⟨h1, _⟩ | ⟨_, h2⟩
  · omega
  · exact h2
end Ml
end Go.Proofs.Ytjdjfjokniingaa
