/- The plain law of the reference's Parse: it answers as num.Parse. -/
import Derived.Test.YtjdjfjokniingaaPb
namespace Go.Proofs.Ytjdjfjokniingaa
open Go.RowKit
namespace Ml
/-- the number of some digits, behind the number a -/
def tval : List UInt8 → Nat → Nat
  | [], a => a
  | c :: l, a => tval l (10 * a + (c.toNat - 48))
theorem tval_snoc (c : UInt8) : ∀ (l : List UInt8) (a : Nat), tval (l ++ [c]) a = 10 * tval l a + (c.toNat - 48)
  | [], a => rfl
  | x :: l, a => by rw [List.cons_append, tval, tval, tval_snoc c l]
def Dig (l : List UInt8) : Prop := ∀ c ∈ l, 48 ≤ c.toNat ∧ c.toNat ≤ 57
theorem pfold_val : ∀ (l : List UInt8) (n r : Int), n ≤ 0 → pfold l n = some r → Dig l ∧ r = -(tval l (-n).toNat : Int)
  | [], n, r, hn, h => by
    simp only [pfold, Option.some.injEq] at h
    subst h
    refine ⟨fun c hc => by simp at hc, ?_⟩
    simp only [tval]
    omega
  | c :: l, n, r, hn, h => by
    rw [pfold] at h
    by_cases hc : 48 ≤ (c.toNat : Int) ∧ (c.toNat : Int) ≤ 57 ∧ Int.tdiv (-9223372036854775808 + ((c.toNat : Int) - 48)) 10 ≤ n
    · rw [if_pos hc] at h
      obtain ⟨h1, h2⟩ := pfold_val l _ r (by omega) h
      refine ⟨fun x hx => ?_, ?_⟩
      · rcases List.mem_cons.1 hx with rfl | hx
        · omega
        · exact h1 x hx
      · rw [h2, tval]
        congr 3
        omega
    · rw [if_neg hc] at h
      cases h
/-- the digits of a number -/
def digs (m : Nat) : List UInt8 := if h : m < 10 then [UInt8.ofNat (48 + m)] else digs (m / 10) ++ [UInt8.ofNat (48 + m % 10)]
termination_by m
decreasing_by omega
theorem digs_lt {m : Nat} (h : m < 10) : digs m = [UInt8.ofNat (48 + m)] := by rw [digs, dif_pos h]
theorem digs_ge {m : Nat} (h : ¬ m < 10) : digs m = digs (m / 10) ++ [UInt8.ofNat (48 + m % 10)] := by rw [digs, dif_neg h]
theorem digs_pos : ∀ (m : Nat), 0 < m → ∃ c l, digs m = c :: l ∧ c ≠ 48 := by
  intro m
  induction m using Nat.strongRecOn with
  | _ m ih =>
  intro h
  by_cases h1 : m < 10
  · rw [digs_lt h1]
    refine ⟨_, [], rfl, fun e => ?_⟩
    have := congrArg UInt8.toNat e
    simp at this
    omega
  · obtain ⟨c, l, e, hc⟩ := ih (m / 10) (by omega) (by omega)
    rw [digs_ge h1, e]
    exact ⟨c, _, rfl, hc⟩
theorem digit_eq {c : UInt8} (h : 48 ≤ c.toNat ∧ c.toNat ≤ 57) : UInt8.ofNat (48 + (c.toNat - 48)) = c := by
  apply UInt8.toNat_inj.1
  simp
  omega
theorem tval_pos : ∀ (l : List UInt8) (a : Nat), Dig l → 0 < a → 0 < tval l a
  | [], a, _, h => h
  | c :: l, a, hd, h => tval_pos l _ (fun x hx => hd x (List.mem_cons_of_mem _ hx)) (by omega)
theorem tval_head {c : UInt8} {l : List UInt8} (hd : Dig (c :: l)) (hc : c ≠ 48) : 0 < tval (c :: l) 0 := by
  have h1 := hd c List.mem_cons_self
  have h2 : c.toNat ≠ 48 := fun e => hc (UInt8.toNat_inj.1 (by simpa using e))
  rw [tval]
  exact tval_pos l _ (fun x hx => hd x (List.mem_cons_of_mem _ hx)) (by omega)
/-- digits that do not begin with 0 are the digits of their number -/
theorem digs_tval : ∀ (n : Nat) (c : UInt8) (l : List UInt8), l.length = n → Dig (c :: l) → c ≠ 48 → digs (tval (c :: l) 0) = c :: l := by
  intro n
  induction n with
  | zero =>
    intro c l hl hd hc
    have : l = [] := List.eq_nil_of_length_eq_zero hl
    subst this
    have h1 := hd c List.mem_cons_self
    simp only [tval]
    rw [digs_lt (by omega)]
    simp only [Nat.mul_zero, Nat.zero_add]
    rw [digit_eq h1]
  | succ n ih =>
    intro c l hl hd hc
    obtain ⟨l', d, rfl⟩ : ∃ l' d, l = l' ++ [d] := by
      rcases List.eq_nil_or_concat l with rfl | ⟨l', d, h⟩
      · simp at hl
      · exact ⟨l', d, by simpa using h⟩
    have hd' : Dig (c :: l') := fun x hx => hd x (by rcases List.mem_cons.1 hx with rfl | hx; exact List.mem_cons_self; exact List.mem_cons_of_mem _ (List.mem_append_left _ hx))
    have h1 := hd d (by simp)
    have ih' := ih c l' (by simpa using hl) hd' hc
    have hp := tval_head hd' hc
    rw [← List.cons_append, tval_snoc, digs_ge (by omega)]
    rw [show (10 * tval (c :: l') 0 + (d.toNat - 48)) / 10 = tval (c :: l') 0 by omega, show (10 * tval (c :: l') 0 + (d.toNat - 48)) % 10 = d.toNat - 48 by omega, ih', digit_eq h1]
/-- the text of a number -/
def txt (n : Int) : List UInt8 := if n < 0 then 45 :: digs n.natAbs else digs n.natAbs
/-- the reference's Parse -/
def rtail (neg : Bool) (s D : List UInt8) (low high : Int) : Int × Bool :=
  match pfold D 0 with
  | none => (0, false)
  | some n => if neg = false ∧ n = -9223372036854775808 then (0, false) else if txt (if neg then n else -n) ≠ s ∨ (if neg then n else -n) < low ∨ high < (if neg then n else -n) then (0, false) else ((if neg then n else -n), true)
def rnum (s : List UInt8) (low high : Int) : Int × Bool :=
  match s with
  | [] => rtail false [] [] low high
  | c :: l => if c = 45 then rtail true (c :: l) l low high else rtail false (c :: l) (c :: l) low high
theorem txt_zero : txt 0 = [48] := by simp [txt, digs_lt]
theorem txt_neg {m : Nat} (h : 0 < m) : txt (-(m : Int)) = 45 :: digs m := by
  unfold txt
  rw [if_pos (by omega)]
  simp
theorem txt_nat (m : Nat) : txt (m : Int) = digs m := by
  unfold txt
  rw [if_neg (by omega)]
  simp
theorem rtail_bad {neg : Bool} {s D : List UInt8} {low high : Int} (h : ∀ n, pfold D 0 = some n → txt (if neg then n else -n) ≠ s) : rtail neg s D low high = (0, false) := by
  unfold rtail
  cases hf : pfold D 0 with
  | none => rfl
  | some n =>
    simp only
    split
    · rfl
    · rw [if_pos (.inl (h n hf))]
theorem rtail_good {neg : Bool} {s D : List UInt8} {low high : Int} (h : ∀ n, pfold D 0 = some n → txt (if neg then n else -n) = s) : rtail neg s D low high = ptail neg D low high := by
  unfold rtail ptail
  cases hf : pfold D 0 with
  | none => rfl
  | some n =>
    simp only
    have ht := h n hf
    cases neg with
    | true =>
      simp only [if_true] at ht ⊢
      rw [if_neg (by simp)]
      unfold pfin
      by_cases hr : n < low ∨ high < n
      · rw [if_pos (.inr hr), if_pos hr]
      · rw [if_neg (by intro h; rcases h with h | h; exact h ht; exact hr h), if_neg hr]
    | false =>
      simp only [Bool.false_eq_true, if_false] at ht ⊢
      by_cases hm : n = -9223372036854775808
      · rw [if_pos (by simp [hm]), if_pos hm]
      · rw [if_neg (by simp [hm]), if_neg hm]
        unfold pfin
        by_cases hr : -n < low ∨ high < -n
        · rw [if_pos (.inr hr), if_pos hr]
        · rw [if_neg (by intro h; rcases h with h | h; exact h ht; exact hr h), if_neg hr]
theorem rnum_eq (s : List UInt8) (low high : Int) : rnum s low high = pnum s low high := by
  match s with
  | [] =>
    show rtail false [] [] low high = (0, false)
    refine rtail_bad fun n hn => ?_
    simp only [pfold, Option.some.injEq] at hn
    subst hn
    simp [txt_zero]
  | c :: l =>
    show (if c = 45 then rtail true (c :: l) l low high else rtail false (c :: l) (c :: l) low high) = (if c = 45 then (match l with | [] => (0, false) | d :: _ => if d = 48 then (0, false) else ptail true l low high) else if c = 48 ∧ l ≠ [] then (0, false) else ptail false (c :: l) low high)
    by_cases hc : c = 45
    · rw [if_pos hc, if_pos hc]
      cases l with
      | nil =>
        refine rtail_bad fun n hn => ?_
        simp only [pfold, Option.some.injEq] at hn
        subst hn
        simp [txt_zero, hc]
      | cons d l =>
        simp only
        by_cases hd : d = 48
        · rw [if_pos hd]
          refine rtail_bad fun n hn => ?_
          obtain ⟨_, e⟩ := pfold_val _ _ _ (Int.le_refl 0) hn
          simp only [if_true]
          rw [e]
          rcases Nat.eq_zero_or_pos (tval (d :: l) (-(0 : Int)).toNat) with h0 | h0
          · rw [h0]
            show txt 0 ≠ _
            rw [txt_zero, hc]
            simp
          · obtain ⟨x, y, e2, hx⟩ := digs_pos _ h0
            rw [txt_neg h0, e2, hc, hd]
            simp [hx]
        · rw [if_neg hd]
          refine rtail_good fun n hn => ?_
          obtain ⟨hdg, e⟩ := pfold_val _ _ _ (Int.le_refl 0) hn
          simp only [if_true]
          rw [e]
          show txt (-(tval (d :: l) 0 : Int)) = _
          rw [txt_neg (tval_head hdg hd), digs_tval _ d l rfl hdg hd, hc]
    · rw [if_neg hc, if_neg hc]
      by_cases hz : c = 48 ∧ l ≠ []
      · rw [if_pos hz]
        refine rtail_bad fun n hn => ?_
        obtain ⟨_, e⟩ := pfold_val _ _ _ (Int.le_refl 0) hn
        simp only [Bool.false_eq_true, if_false]
        rw [e, Int.neg_neg]
        show txt ((tval (c :: l) 0 : Nat) : Int) ≠ _
        rw [txt_nat]
        rcases Nat.eq_zero_or_pos (tval (c :: l) 0) with h0 | h0
        · rw [h0, digs_lt (by omega), hz.1]
          intro h
          injection h with _ h
          exact hz.2 h.symm
        · obtain ⟨x, y, e2, hx⟩ := digs_pos _ h0
          rw [e2, hz.1]
          simp [hx]
      · rw [if_neg hz]
        refine rtail_good fun n hn => ?_
        obtain ⟨hdg, e⟩ := pfold_val _ _ _ (Int.le_refl 0) hn
        simp only [Bool.false_eq_true, if_false]
        rw [e, Int.neg_neg]
        show txt ((tval (c :: l) 0 : Nat) : Int) = _
        rw [txt_nat]
        by_cases h48 : c = 48
        · have hl : l = [] := by
            cases l with
            | nil => rfl
            | cons x y => exact absurd ⟨h48, by simp⟩ hz
          subst h48 hl
          simp [tval, digs_lt]
        · exact digs_tval _ c l rfl hdg h48
end Ml
end Go.Proofs.Ytjdjfjokniingaa
