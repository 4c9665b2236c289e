/- Rows sorted block by block. -/
import Derived.Test.YtjdjfjokniingaaTa
namespace Go.Proofs.Ytjdjfjokniingaa
namespace St
variable {α : Type} {le : α → α → Bool}
/-- the first k blocks of bs elements, each sorted -/
def pb (le : α → α → Bool) (bs : Nat) : Nat → List α → List α
  | 0, _ => []
  | k + 1, X => isort le (X.take bs) ++ pb le bs k (X.drop bs)
theorem pb_nil (bs : Nat) : ∀ k, pb le bs k [] = []
  | 0 => rfl
  | k + 1 => by rw [pb, List.take_nil, List.drop_nil, pb_nil bs k]; rfl
theorem pb_split (bs : Nat) : ∀ (q r : Nat) (X : List α), pb le bs (q + r) X = pb le bs q X ++ pb le bs r (X.drop (q * bs))
  | 0, r, X => by simp [pb]
  | q + 1, r, X => by
    rw [show q + 1 + r = (q + r) + 1 by omega, pb, pb, pb_split bs q r, List.append_assoc, List.drop_drop, Nat.succ_mul, Nat.add_comm bs]
theorem pb_snoc (bs k : Nat) (X : List α) : pb le bs (k + 1) X = pb le bs k X ++ isort le ((X.drop (k * bs)).take bs) := by
  rw [pb_split bs k 1, pb, pb, List.append_nil]
theorem pb_len (bs : Nat) : ∀ (k : Nat) (X : List α), k * bs ≤ X.length → (pb le bs k X).length = k * bs
  | 0, X, _ => by simp [pb]
  | k + 1, X, h => by
    rw [Nat.succ_mul] at h ⊢
    rw [pb, List.length_append, isort_len, List.length_take, pb_len bs k _ (by rw [List.length_drop]; omega)]
    omega
/-- one block more -/
theorem pb_ins (bs k : Nat) (X C : List α) : pb le bs k X ++ isort le ((X.drop (k * bs)).take bs) ++ C = pb le bs (k + 1) X ++ C := by rw [pb_snoc]
theorem cut_at (X : List α) (p bs : Nat) : X.drop p = (X.drop p).take bs ++ X.drop (p + bs) := by
  rw [← List.drop_drop, List.take_append_drop]
/-- two blocks that are merged are a block of twice the size -/
theorem pb_two (bs r : Nat) (D : List α) : pb le bs (r + 2) D = isort le (D.take bs) ++ isort le ((D.drop bs).take bs) ++ pb le bs r (D.drop (2 * bs)) := by
  rw [show r + 2 = (r + 1) + 1 by omega, pb, pb, List.drop_drop, List.append_assoc, show bs + bs = 2 * bs by omega]
theorem mg_two (ok : LeOk le) (bs : Nat) (D : List α) : mg le (isort le (D.take bs)) (isort le ((D.drop bs).take bs)) = isort le (D.take (2 * bs)) := by
  rw [← isort_append ok _ _ _ rfl]
  congr 1
  rw [show 2 * bs = bs + bs by omega, List.take_add]
theorem pb_rest (bs r : Nat) (D : List α) (hD : D.length ≤ bs) (hr : D.length ≤ r * bs) : pb le bs r D = isort le (D.take (2 * bs)) := by
  cases r with
  | zero =>
    have : D = [] := List.eq_nil_of_length_eq_zero (by omega)
    subst this
    rw [List.take_nil]; rfl
  | succ r =>
    rw [pb, List.take_of_length_le (by omega), List.take_of_length_le (by omega), List.drop_eq_nil_of_le hD, pb_nil, List.append_nil]
theorem pb_full (bs t : Nat) (X : List α) (h : X.length ≤ bs) (ht : X.length ≤ t * bs) : pb le bs t X = isort le X := by
  rw [pb_rest bs t X h ht, List.take_of_length_le (by omega)]
end St
end Go.Proofs.Ytjdjfjokniingaa
