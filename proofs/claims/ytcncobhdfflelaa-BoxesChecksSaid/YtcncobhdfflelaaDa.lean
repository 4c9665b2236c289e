/- The plain model of boxes.Check, and the size of its sums. -/
import Derived.Test.YtcncobhdfflelaaCf
import Derived.Test.YtcncobhdfflelaaWd
import Derived.Test.YtcncobhdfflelaaWx
namespace Go.Proofs.Ytcncobhdfflelaa
open Go.RowKit

namespace Bx
/-- a box lies within a domain and contains points, dimension by dimension -/
def inD : List Int → List Int → List Int → List Int → Bool
  | a :: lo, b :: hi, x :: bl, y :: bh => !(decide (x < a)) && !(decide (y < x)) && !(decide (b < y)) && inD lo hi bl bh
  | _, _, _, _ => true
def within (lo hi : List Int) (b : Dm) : Bool := decide (b.1.length = lo.length) && decide (b.2.length = lo.length) && inD lo hi b.1 b.2
/-- the sum of the volumes, as long as the boxes lie within the domain -/
def chkF (lo hi : List Int) : Nat → List Dm → Option Nat
  | t, [] => some t
  | t, b :: l => if within lo hi b then chkF lo hi (t + vol b.1 b.2) l else none
def check (lo hi : List Int) (bs : List Dm) : Bool :=
  valid lo hi && (match chkF lo hi 0 bs with | some t => decide (t = vol lo hi) && disj bs | none => false)
theorem inD_at {lo hi bl bh : List Int} {k : Nat} {a b x y : Int} (h1 : lo[k]? = some a) (h2 : hi[k]? = some b) (h3 : bl[k]? = some x) (h4 : bh[k]? = some y) :
    inD (lo.drop k) (hi.drop k) (bl.drop k) (bh.drop k) = (!(decide (x < a)) && !(decide (y < x)) && !(decide (b < y)) && inD (lo.drop (k + 1)) (hi.drop (k + 1)) (bl.drop (k + 1)) (bh.drop (k + 1))) := by
  obtain ⟨e1, rfl⟩ := List.getElem?_eq_some_iff.1 h1
  obtain ⟨e2, rfl⟩ := List.getElem?_eq_some_iff.1 h2
  obtain ⟨e3, rfl⟩ := List.getElem?_eq_some_iff.1 h3
  obtain ⟨e4, rfl⟩ := List.getElem?_eq_some_iff.1 h4
  rw [List.drop_eq_getElem_cons e1, List.drop_eq_getElem_cons e2, List.drop_eq_getElem_cons e3, List.drop_eq_getElem_cons e4, inD]
theorem inD_end {lo hi bl bh : List Int} {k : Nat} (h : lo.length ≤ k) : inD (lo.drop k) (hi.drop k) (bl.drop k) (bh.drop k) = true := by
  rw [List.drop_eq_nil_of_le h]
  rfl
theorem inD_get : ∀ {lo hi bl bh : List Int} (i : Nat) {a b x y : Int}, inD lo hi bl bh = true → lo[i]? = some a → hi[i]? = some b → bl[i]? = some x → bh[i]? = some y → a ≤ x ∧ x ≤ y ∧ y ≤ b
  | a :: lo, b :: hi, x :: bl, y :: bh, 0, _, _, _, _, h, h1, h2, h3, h4 => by
    simp at h1 h2 h3 h4
    subst h1 h2 h3 h4
    simp [inD] at h
    omega
  | a :: lo, b :: hi, x :: bl, y :: bh, i + 1, _, _, _, _, h, h1, h2, h3, h4 => by
    simp only [inD, Bool.and_eq_true] at h
    exact inD_get i h.2 (by simpa using h1) (by simpa using h2) (by simpa using h3) (by simpa using h4)
  | [], _, _, _, _, _, _, _, _, _, h1, _, _, _ => by simp at h1
  | _ :: _, [], _, _, _, _, _, _, _, _, _, h2, _, _ => by simp at h2
  | _ :: _, _ :: _, [], _, _, _, _, _, _, _, _, _, h3, _ => by simp at h3
  | _ :: _, _ :: _, _ :: _, [], _, _, _, _, _, _, _, _, _, h4 => by simp at h4
/-- the bounds that keep a volume small -/
def Fit (b : Dm) : Prop := b.1.length ≤ 16 ∧ b.2.length = b.1.length ∧ ∀ (i : Nat) (x y : Int), b.1[i]? = some x → b.2[i]? = some y → -9007199254740992 ≤ x ∧ x ≤ y ∧ y ≤ 9007199254740992
theorem volF_le : ∀ l : List (Int × Int), (∀ p ∈ l, -9007199254740992 ≤ p.1 ∧ p.1 ≤ p.2 ∧ p.2 ≤ 9007199254740992) → 1 ≤ volF l ∧ volF l ≤ 36028797018963968 ^ l.length
  | [], _ => by simp [volF]
  | p :: l, h => by
    obtain ⟨h1, h2⟩ := volF_le l (fun q hq => h q (List.mem_cons_of_mem _ hq))
    have hp := h p List.mem_cons_self
    rw [volF, List.length_cons, Nat.pow_succ]
    have h3 : (p.2 - p.1 + 1).toNat ≤ 36028797018963968 := by omega
    have h4 : 1 ≤ (p.2 - p.1 + 1).toNat := by omega
    exact ⟨Nat.mul_le_mul h4 h1, by rw [Nat.mul_comm]; exact Nat.mul_le_mul h2 h3⟩
theorem Fit.zip {b : Dm} (h : Fit b) : ∀ p ∈ b.1.zip b.2, -9007199254740992 ≤ p.1 ∧ p.1 ≤ p.2 ∧ p.2 ≤ 9007199254740992 := fun p hp => by
  obtain ⟨i, hi, he⟩ := List.getElem_of_mem hp
  have h1 : (b.1.zip b.2)[i]? = some p := by rw [List.getElem?_eq_getElem hi, he]
  rw [List.getElem?_zip_eq_some] at h1
  exact h.2.2 i _ _ h1.1 h1.2
theorem Fit.vol {b : Dm} (h : Fit b) : 1 ≤ vol b.1 b.2 ∧ vol b.1 b.2 ≤ 36028797018963968 ^ 16 := by
  obtain ⟨h1, h2⟩ := volF_le _ h.zip
  refine ⟨h1, Nat.le_trans h2 (Nat.pow_le_pow_right (by decide) ?_)⟩
  rw [List.length_zip, h.2.1, Nat.min_self]
  exact h.1
theorem sub_self' {lo hi : List Int} (h : Bx.valid lo hi = true) : Bx.Sub (lo, hi) (lo, hi) ∧ hi.length = lo.length ∧ Bx.Small lo ∧ Bx.Small hi := by
  unfold Bx.valid at h
  simp only [Bool.and_eq_true, decide_eq_true_eq, List.all_eq_true] at h
  obtain ⟨⟨hl, _⟩, ha⟩ := h
  have key : ∀ (i : Nat) (x y : Int), lo[i]? = some x → hi[i]? = some y → -9007199254740992 ≤ x ∧ x ≤ y ∧ y ≤ 9007199254740992 := fun i x y h1 h2 => by
    have := ha (x, y) (List.mem_of_getElem? (i := i) (by rw [List.getElem?_zip_eq_some]; exact ⟨h1, h2⟩))
    simp only [Bx.okAt, Bool.and_eq_true, Bool.not_eq_true', decide_eq_false_iff_not] at this
    omega
  refine ⟨⟨rfl, hl.symm, fun i a c x y h1 h2 h3 h4 => ?_⟩, hl.symm, fun x hx => ?_, fun y hy => ?_⟩
  · simp only at h1 h2 h3 h4
    rw [h1] at h3; rw [h2] at h4
    injection h3 with h3; injection h4 with h4
    have := key i a c h1 h2
    omega
  · obtain ⟨i, hi', rfl⟩ := List.getElem_of_mem hx
    have := key i _ _ (List.getElem?_eq_getElem hi') (List.getElem?_eq_getElem (by omega : i < hi.length))
    omega
  · obtain ⟨i, hi', rfl⟩ := List.getElem_of_mem hy
    have := key i _ _ (List.getElem?_eq_getElem (by omega : i < lo.length)) (List.getElem?_eq_getElem hi')
    omega
theorem valid_fit {lo hi : List Int} (h : valid lo hi = true) : Fit (lo, hi) := by
  obtain ⟨sb, hl, s1, s2⟩ := sub_self' h
  exact ⟨by unfold valid at h; simp only [Bool.and_eq_true, decide_eq_true_eq] at h; exact h.1.2, hl, fun i x y h1 h2 => by
    have := sb.in_ i x y x y h1 h2 h1 h2
    have a := s1 x (List.mem_of_getElem? h1)
    have b := s2 y (List.mem_of_getElem? h2)
    omega⟩
theorem within_fit {lo hi : List Int} {b : Dm} (h : Fit (lo, hi)) (hw : within lo hi b = true) : Fit b := by
  unfold within at hw
  simp only [Bool.and_eq_true, decide_eq_true_eq] at hw
  obtain ⟨⟨h1, h2⟩, h3⟩ := hw
  refine ⟨by rw [h1]; exact h.1, by rw [h1, h2], fun i x y hx hy => ?_⟩
  have hi' := (List.getElem?_eq_some_iff.1 hx).1
  have q1 : lo[i]? = some (lo[i]'(by omega)) := List.getElem?_eq_getElem _
  have hl : hi.length = lo.length := h.2.1
  have q2 : hi[i]? = some (hi[i]'(by omega)) := List.getElem?_eq_getElem _
  have := h.2.2 i _ _ q1 q2
  have := inD_get i h3 q1 q2 hx hy
  omega
theorem chkF_within {lo hi : List Int} : ∀ {l : List Dm} {t s : Nat}, chkF lo hi t l = some s → ∀ b ∈ l, within lo hi b = true
  | [], _, _, _, b, hb => (List.not_mem_nil hb).elim
  | c :: l, t, s, h, b, hb => by
    unfold chkF at h
    by_cases hw : within lo hi c = true
    · rw [if_pos hw] at h
      rcases List.mem_cons.1 hb with rfl | hb
      · exact hw
      · exact chkF_within h b hb
    · rw [if_neg hw] at h
      cases h
end Bx
end Go.Proofs.Ytcncobhdfflelaa
