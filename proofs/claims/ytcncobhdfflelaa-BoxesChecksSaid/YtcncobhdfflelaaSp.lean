/- The plain model of Solve: the run over a stack of open boxes, and its laws. -/
import Derived.Test.YtcncobhdfflelaaBb
namespace Go.Proofs.Ytcncobhdfflelaa
namespace Bx
abbrev Box := List Int × List Int × Bool
abbrev Dm := List Int × List Int
def at0 (l : List Int) (i : Nat) : Int := (l[i]?).getD 0
def mid (a b : Int) : Int := a + (b - a) / 2
def midOf (b : Dm) (i : Nat) : Int := mid (at0 b.1 i) (at0 b.2 i)
def cutLo (b : Dm) (i : Nat) : Dm := (b.1, b.2.set i (midOf b i))
def cutHi (b : Dm) (i : Nat) : Dm := (b.1.set i (midOf b i + 1), b.2)
def wI (b : Dm) : Nat := (widest b.1 b.2).toNat
/-- the run: decided boxes, and a stack of open ones -/
def solveF (v : List Int → List Int → Int) (most : Nat) : Nat → List Box → List Dm → List Box × Int
  | 0, ds, _ => (ds, 0)
  | _ + 1, ds, [] => (ds, 0)
  | n + 1, ds, b :: st =>
    if v b.1 b.2 = 1 then solveF v most n (ds ++ [(b.1, b.2, true)]) st
    else if v b.1 b.2 = 0 then solveF v most n (ds ++ [(b.1, b.2, false)]) st
    else if widest b.1 b.2 < 0 then ([], 16)
    else if most ≤ ds.length + (st.length + 1) then ([], 3)
    else solveF v most n ds (cutLo b (wI b) :: cutHi b (wI b) :: st)
def lim (most : Int) : Nat := (clamp most 1 4096).toNat
def solve (v : List Int → List Int → Int) (lo hi : List Int) (most : Int) : List Box × Int :=
  if lo.length ≠ hi.length ∨ 16 < lo.length then ([], 1) else if valid lo hi = false then ([], 6) else solveF v (lim most) (2 * lim most + 1) [] [(lo, hi)]
def meas (most : Nat) (ds : List Box) (st : List Dm) : Nat := 2 * (most - (ds.length + st.length)) + st.length

theorem wide_spec : ∀ (l : List (Int × Int)) (k : Nat) (r : Int × Int), 0 ≤ r.2 →
    (wide l k r = r ∧ ∀ p ∈ l, p.2 - p.1 ≤ r.2) ∨ ∃ i p, l[i]? = some p ∧ r.2 < p.2 - p.1 ∧ wide l k r = (((k + i : Nat) : Int), p.2 - p.1)
  | [], k, r, _ => .inl ⟨rfl, fun p h => by cases h⟩
  | q :: l, k, r, h0 => by
    unfold wide
    by_cases h : r.2 < q.2 - q.1
    · rw [if_pos h]
      rcases wide_spec l (k + 1) ((k : Int), q.2 - q.1) (by show 0 ≤ q.2 - q.1; omega) with ⟨h1, h2⟩ | ⟨i, p, h1, h2, h3⟩
      · exact .inr ⟨0, q, rfl, h, by rw [h1]; simp⟩
      · exact .inr ⟨i + 1, p, by simpa using h1, by simp only at h2; omega, by rw [h3]; congr 2; omega⟩
    · rw [if_neg h]
      rcases wide_spec l (k + 1) r h0 with ⟨h1, h2⟩ | ⟨i, p, h1, h2, h3⟩
      · refine .inl ⟨h1, fun p hp => ?_⟩
        rcases List.mem_cons.1 hp with rfl | hp
        · omega
        · exact h2 p hp
      · exact .inr ⟨i + 1, p, by simpa using h1, h2, by rw [h3]; congr 2; omega⟩

theorem widest_spec (lo hi : List Int) : (widest lo hi = -1 ∧ ∀ p ∈ lo.zip hi, p.2 ≤ p.1) ∨ ∃ (i : Nat) (a b : Int), lo[i]? = some a ∧ hi[i]? = some b ∧ a < b ∧ widest lo hi = (i : Int) := by
  rcases wide_spec (lo.zip hi) 0 (-1, 0) (by decide) with ⟨h1, h2⟩ | ⟨i, p, h1, h2, h3⟩
  · refine .inl ⟨by unfold widest; rw [h1], fun p hp => ?_⟩
    have := h2 p hp
    simp only at this
    omega
  · rw [List.getElem?_zip_eq_some] at h1
    refine .inr ⟨i, p.1, p.2, h1.1, h1.2, by simp only at h2; omega, by unfold widest; rw [h3]; simp⟩
theorem widest_neg {lo hi : List Int} (h : widest lo hi < 0) : ∀ p ∈ lo.zip hi, p.2 ≤ p.1 := by
  rcases widest_spec lo hi with ⟨_, h2⟩ | ⟨i, a, b, _, _, _, h4⟩
  · exact h2
  · omega
theorem widest_pos {b : Dm} (h : ¬ widest b.1 b.2 < 0) : ∃ x y : Int, b.1[wI b]? = some x ∧ b.2[wI b]? = some y ∧ x < y ∧ widest b.1 b.2 = ((wI b : Nat) : Int) ∧ midOf b (wI b) = mid x y := by
  rcases widest_spec b.1 b.2 with ⟨h1, _⟩ | ⟨i, x, y, h1, h2, h3, h4⟩
  · omega
  · have e : wI b = i := by unfold wI; rw [h4]; rfl
    refine ⟨x, y, by rw [e]; exact h1, by rw [e]; exact h2, h3, by rw [e]; exact h4, ?_⟩
    unfold midOf at0
    rw [e, h1, h2]
    rfl
theorem mid_in {x y : Int} (h : x < y) : x ≤ mid x y ∧ mid x y < y := by unfold mid; omega

section
variable {v : List Int → List Int → Int} {most : Nat}
/-- the rule of the run: what each step keeps holds at the end -/
theorem solveF_inv (I : List Box → List Dm → Prop)
    (hdec : ∀ ds b st t, I ds (b :: st) → v b.1 b.2 = (if t then 1 else 0) → I (ds ++ [(b.1, b.2, t)]) st)
    (hcut : ∀ ds b st, I ds (b :: st) → v b.1 b.2 ≠ 1 → v b.1 b.2 ≠ 0 → ¬ widest b.1 b.2 < 0 → ds.length + (st.length + 1) < most → I ds (cutLo b (wI b) :: cutHi b (wI b) :: st)) :
    ∀ (n : Nat) (ds : List Box) (st : List Dm), meas most ds st ≤ n → I ds st →
      (∃ r, solveF v most n ds st = (r, 0) ∧ I r []) ∨ solveF v most n ds st = ([], 3) ∨ (solveF v most n ds st = ([], 16) ∧ ∃ ds' b st', I ds' (b :: st') ∧ v b.1 b.2 ≠ 1 ∧ v b.1 b.2 ≠ 0 ∧ widest b.1 b.2 < 0)
  | 0, ds, st, hm, h => by
    have hs : st = [] := by
      unfold meas at hm
      exact List.eq_nil_of_length_eq_zero (by omega)
    subst hs
    exact .inl ⟨ds, rfl, h⟩
  | n + 1, ds, [], hm, h => .inl ⟨ds, rfl, h⟩
  | n + 1, ds, b :: st, hm, h => by
    unfold meas at hm
    rw [List.length_cons] at hm
    unfold solveF
    by_cases h1 : v b.1 b.2 = 1
    · rw [if_pos h1]
      exact solveF_inv I hdec hcut n _ _ (by unfold meas; rw [List.length_append, List.length_singleton]; omega) (hdec ds b st true h (by simpa using h1))
    · rw [if_neg h1]
      by_cases h2 : v b.1 b.2 = 0
      · rw [if_pos h2]
        exact solveF_inv I hdec hcut n _ _ (by unfold meas; rw [List.length_append, List.length_singleton]; omega) (hdec ds b st false h (by simpa using h2))
      · rw [if_neg h2]
        by_cases h3 : widest b.1 b.2 < 0
        · rw [if_pos h3]
          exact .inr (.inr ⟨rfl, ds, b, st, h, h1, h2, h3⟩)
        · rw [if_neg h3]
          by_cases h4 : most ≤ ds.length + (st.length + 1)
          · rw [if_pos h4]
            exact .inr (.inl rfl)
          · rw [if_neg h4]
            exact solveF_inv I hdec hcut n _ _ (by unfold meas; simp only [List.length_cons]; omega) (hcut ds b st h h1 h2 h3 (by omega))
/-- enough fuel is enough -/
theorem solveF_fuel : ∀ (n m : Nat) (ds : List Box) (st : List Dm), meas most ds st ≤ n → meas most ds st ≤ m → solveF v most n ds st = solveF v most m ds st
  | n, m, ds, [], _, _ => by cases n <;> cases m <;> rfl
  | 0, m, ds, b :: st, h, _ => by unfold meas at h; simp at h
  | n + 1, 0, ds, b :: st, _, h => by unfold meas at h; simp at h
  | n + 1, m + 1, ds, b :: st, h, h' => by
    unfold meas at h h'
    rw [List.length_cons] at h h'
    unfold solveF
    rw [solveF_fuel n m _ _ (by unfold meas; rw [List.length_append, List.length_singleton]; omega) (by unfold meas; rw [List.length_append, List.length_singleton]; omega)]
    rw [solveF_fuel n m (ds ++ [(b.1, b.2, false)]) _ (by unfold meas; rw [List.length_append, List.length_singleton]; omega) (by unfold meas; rw [List.length_append, List.length_singleton]; omega)]
    by_cases h4 : most ≤ ds.length + (st.length + 1)
    · simp only [if_pos h4]
    · rw [solveF_fuel n m ds (_ :: _ :: st) (by unfold meas; simp only [List.length_cons]; omega) (by unfold meas; simp only [List.length_cons]; omega)]
end

/-- a lesser limit: the same run until that limit is met -/
theorem solveF_less {v : List Int → List Int → Int} {p q : Nat} (hpq : p ≤ q) : ∀ (n : Nat) (ds : List Box) (st : List Dm), ds.length + st.length ≤ p → meas q ds st ≤ n →
    (∃ m, solveF v q n ds st = (m, 0) ∧ m.length ≤ p ∧ solveF v p n ds st = (m, 0)) ∨ (∃ m, solveF v q n ds st = (m, 0) ∧ p < m.length ∧ solveF v p n ds st = ([], 3)) ∨
    (solveF v q n ds st = ([], 3) ∧ solveF v p n ds st = ([], 3)) ∨ solveF v q n ds st = ([], 16)
  | 0, ds, st, hl, hm => by
    have hs : st = [] := List.eq_nil_of_length_eq_zero (by unfold meas at hm; omega)
    subst hs
    exact .inl ⟨ds, rfl, by simpa using hl, rfl⟩
  | n + 1, ds, [], hl, hm => .inl ⟨ds, rfl, by simpa using hl, rfl⟩
  | n + 1, ds, b :: st, hl, hm => by
    unfold meas at hm
    rw [List.length_cons] at hm hl
    unfold solveF
    by_cases h1 : v b.1 b.2 = 1
    · simp only [if_pos h1]
      exact solveF_less hpq n _ _ (by rw [List.length_append, List.length_singleton]; omega) (by unfold meas; rw [List.length_append, List.length_singleton]; omega)
    · simp only [if_neg h1]
      by_cases h2 : v b.1 b.2 = 0
      · simp only [if_pos h2]
        exact solveF_less hpq n _ _ (by rw [List.length_append, List.length_singleton]; omega) (by unfold meas; rw [List.length_append, List.length_singleton]; omega)
      · simp only [if_neg h2]
        by_cases h3 : widest b.1 b.2 < 0
        · simp only [if_pos h3]
          exact .inr (.inr (.inr trivial))
        · simp only [if_neg h3]
          by_cases h4 : q ≤ ds.length + (st.length + 1)
          · rw [if_pos h4, if_pos (by omega)]
            exact .inr (.inr (.inl ⟨rfl, rfl⟩))
          · rw [if_neg h4]
            by_cases h5 : p ≤ ds.length + (st.length + 1)
            · rw [if_pos h5]
              have key := solveF_inv (v := v) (most := q) (fun ds' st' => p < ds'.length + st'.length) (fun ds b st t h _ => by simp only [List.length_append, List.length_cons, List.length_nil] at h ⊢; omega)
                (fun ds b st h _ _ _ _ => by simp only [List.length_cons] at h ⊢; omega) n ds (cutLo b (wI b) :: cutHi b (wI b) :: st) (by unfold meas; simp only [List.length_cons]; omega) (by simp only [List.length_cons]; omega)
              rcases key with ⟨r, h6, h7⟩ | h6 | ⟨h6, _⟩
              · exact .inr (.inl ⟨r, h6, by simpa using h7, rfl⟩)
              · exact .inr (.inr (.inl ⟨h6, rfl⟩))
              · exact .inr (.inr (.inr h6))
            · rw [if_neg h5]
              exact solveF_less hpq n _ _ (by simp only [List.length_cons]; omega) (by unfold meas; simp only [List.length_cons]; omega)
end Bx
end Go.Proofs.Ytcncobhdfflelaa
