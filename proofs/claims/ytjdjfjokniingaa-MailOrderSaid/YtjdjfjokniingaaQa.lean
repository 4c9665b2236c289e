/- The plain law of mail.Less: a strict total order on paths, in which a path precedes its extensions. -/
import Derived.Test.YtjdjfjokniingaaPf
namespace Go.Proofs.Ytjdjfjokniingaa
open Go.RowKit

namespace Ml
theorem cmpI_val (x y : Int) : Sy.cmpI x y = if x < y then -1 else if y < x then 1 else 0 := by
  unfold Sy.cmpI
  split <;> (try split) <;> (try split) <;> simp_all <;> omega
theorem cmpL_refl : ∀ x : List Int, cmpL x x = 0
  | [] => rfl
  | x :: xs => by rw [cmpL, cmpL_refl xs]; simp [cmpI_val]
theorem cmpL_swap : ∀ x y : List Int, cmpL y x = - cmpL x y
  | [], [] => rfl
  | [], _ :: _ => rfl
  | _ :: _, [] => rfl
  | x :: xs, y :: ys => by
    rw [cmpL, cmpL, cmpL_swap xs ys, cmpI_val, cmpI_val]
    rcases Int.lt_trichotomy x y with h | h | h
    · have h2 : ¬ y < x := by omega
      simp [h, h2]
    · subst h; simp
    · have h2 : ¬ x < y := by omega
      simp [h, h2]
theorem cmpL_eq : ∀ {x y : List Int}, cmpL x y = 0 → x = y
  | [], [], _ => rfl
  | [], _ :: _, h => by simp [cmpL] at h
  | _ :: _, [], h => by simp [cmpL] at h
  | x :: xs, y :: ys, h => by
    rw [cmpL, cmpI_val] at h
    rcases Int.lt_trichotomy x y with h1 | h1 | h1
    · simp [h1] at h
    · subst h1; simp at h; rw [cmpL_eq h]
    · have h2 : ¬ x < y := by omega
      simp [h1, h2] at h
theorem cmpL_trans : ∀ {x y z : List Int}, cmpL x y < 0 → cmpL y z < 0 → cmpL x z < 0
  | [], [], _, h, _ => by simp [cmpL] at h
  | _ :: _, [], _, h, _ => by simp [cmpL] at h
  | _, _ :: _, [], _, h => by simp [cmpL] at h
  | [], _ :: _, _ :: _, _, _ => by simp [cmpL]
  | x :: xs, y :: ys, z :: zs, h1, h2 => by
    rw [cmpL, cmpI_val] at h1 h2 ⊢
    rcases Int.lt_trichotomy x y with a | a | a
    · rcases Int.lt_trichotomy y z with b | b | b
      · have : x < z := by omega
        simp [this]
      · have : x < z := by omega
        simp [this]
      · have b2 : ¬ y < z := by omega
        simp [b, b2] at h2
    · subst a
      rcases Int.lt_trichotomy x z with b | b | b
      · simp [b]
      · subst b
        simp at h1 h2 ⊢
        exact cmpL_trans h1 h2
      · have b2 : ¬ x < z := by omega
        simp [b, b2] at h2
    · have a2 : ¬ x < y := by omega
      simp [a, a2] at h1
theorem cmpL_app : ∀ (x : List Int) {y : List Int}, y ≠ [] → cmpL x (x ++ y) = -1
  | [], [], h => absurd rfl h
  | [], _ :: _, _ => rfl
  | x :: xs, y, h => by
    rw [List.cons_append, cmpL, cmpL_app xs h]
    simp [cmpI_val]

theorem accP_some : ∀ (cs : List (Int × Bool)) (l r : List Int), accP cs l = some r → r = l ++ cs.map (·.1) ∧ ∀ c ∈ cs, c.2 = true
  | [], l, r, h => by simp [accP] at h; simp [h]
  | c :: cs, l, r, h => by
    rw [accP] at h
    split at h
    · cases h
    · rename_i hc
      obtain ⟨h1, h2⟩ := accP_some cs _ _ h
      refine ⟨by rw [h1]; simp, fun d hd => ?_⟩
      rcases List.mem_cons.1 hd with rfl | hd
      · cases hv : d.2 with
        | true => rfl
        | false => exact absurd (.inl hv) hc
      · exact h2 d hd

/-- The dots put back. -/
def joinD : List (List UInt8) → List UInt8
  | [] => []
  | [p] => p
  | p :: q :: r => p ++ 46 :: joinD (q :: r)
theorem joinD_cons (c : UInt8) (p : List UInt8) : ∀ r, joinD ((c :: p) :: r) = c :: joinD (p :: r)
  | [] => rfl
  | _ :: _ => rfl
theorem join_split : ∀ l : List UInt8, joinD (splitD l) = l
  | [] => rfl
  | c :: l => by
    have ih := join_split l
    rw [splitD]
    cases h : splitD l with
    | nil => exact absurd h (splitD_ne l)
    | cons p r =>
      rw [h] at ih
      split
      · rename_i hc
        show 46 :: joinD (p :: r) = c :: l
        rw [ih, hc]
      · show joinD ((c :: p) :: r) = c :: l
        rw [joinD_cons, ih]
theorem split_app : ∀ (l r : List UInt8), splitD (l ++ 46 :: r) = splitD l ++ splitD r
  | [], r => by simp [splitD]
  | c :: l, r => by
    rw [List.cons_append, splitD, splitD, split_app l r]
    split
    · rfl
    · cases h : splitD l with
      | nil => exact absurd h (splitD_ne l)
      | cons p t => rfl

/-- One digit more. -/
def pstep (c : UInt8) (n : Int) : Option Int := if 48 ≤ (c.toNat : Int) ∧ (c.toNat : Int) ≤ 57 ∧ Int.tdiv (-9223372036854775808 + ((c.toNat : Int) - 48)) 10 ≤ n then some (n * 10 - ((c.toNat : Int) - 48)) else none
theorem pfold_snoc (c : UInt8) : ∀ (l : List UInt8) (n : Int), pfold (l ++ [c]) n = (pfold l n).bind (pstep c)
  | [], n => by
    simp only [List.nil_append, pfold, Option.bind_some, pstep]
  | d :: l, n => by
    rw [List.cons_append, pfold, pfold]
    split
    · exact pfold_snoc c l _
    · rfl
theorem pstep_some {c : UInt8} {n m : Int} (h : pstep c n = some m) : m = n * 10 - ((c.toNat : Int) - 48) ∧ 48 ≤ (c.toNat : Int) ∧ (c.toNat : Int) ≤ 57 := by
  unfold pstep at h
  split at h
  · rename_i hc
    injection h with h
    exact ⟨h.symm, hc.1, hc.2.1⟩
  · cases h
theorem pfold_le : ∀ (l : List UInt8) (n m : Int), n ≤ 0 → pfold l n = some m → m ≤ n
  | [], n, m, _, h => by simp [pfold] at h; omega
  | c :: l, n, m, hn, h => by
    rw [pfold] at h
    split at h
    · rename_i hc
      have := pfold_le l _ m (by omega) h
      omega
    · cases h
/-- The first digit is not a zero. -/
def Lead (l : List UInt8) : Prop := ∀ c ∈ l.head?, c ≠ 48
theorem pfold_neg {c : UInt8} {l : List UInt8} {m : Int} (hc : c ≠ 48) (h : pfold (c :: l) 0 = some m) : m < 0 := by
  rw [pfold] at h
  split at h
  · rename_i hd
    have := pfold_le l _ m (by omega) h
    have hne : (c.toNat : Int) ≠ 48 := fun e => hc (UInt8.toNat_inj.1 (show c.toNat = (48 : UInt8).toNat by have : (48 : UInt8).toNat = 48 := rfl; omega))
    omega
  · cases h
theorem Lead.front {l : List UInt8} {c : UInt8} (h : Lead (l ++ [c])) : Lead l := by
  cases l with
  | nil => intro c hc; simp at hc
  | cons d l => exact h
theorem pfold_inj : ∀ (n : Nat) (l r : List UInt8) (m : Int), l.length ≤ n → Lead l → Lead r → pfold l 0 = some m → pfold r 0 = some m → l = r := by
  intro n
  induction n with
  | zero =>
    intro l r m hl _ hr h1 h2
    obtain rfl : l = [] := List.eq_nil_of_length_eq_zero (by omega)
    simp [pfold] at h1
    subst h1
    cases r with
    | nil => rfl
    | cons c r => have := pfold_neg (hr c rfl) h2; omega
  | succ n ih =>
    intro l r m hl hl' hr h1 h2
    rcases List.eq_nil_or_concat l with rfl | ⟨l', c, rfl⟩
    · simp [pfold] at h1
      subst h1
      cases r with
      | nil => rfl
      | cons c r => have := pfold_neg (hr c rfl) h2; omega
    · rw [List.concat_eq_append] at hl hl' h1 ⊢
      rcases List.eq_nil_or_concat r with rfl | ⟨r', d, rfl⟩
      · simp [pfold] at h2
        subst h2
        exfalso
        cases l' with
        | nil => have := pfold_neg (hl' c rfl) h1; omega
        | cons e l' => have := pfold_neg (hl' e rfl) h1; omega
      · rw [List.concat_eq_append] at hr h2 ⊢
        rw [pfold_snoc] at h1 h2
        cases ha : pfold l' 0 with
        | none => rw [ha] at h1; cases h1
        | some a =>
          cases hb : pfold r' 0 with
          | none => rw [hb] at h2; cases h2
          | some b =>
            rw [ha] at h1
            rw [hb] at h2
            obtain ⟨e1, c1, c2⟩ := pstep_some h1
            obtain ⟨e2, d1, d2⟩ := pstep_some h2
            have hcd : (c.toNat : Int) = d.toNat ∧ a = b := by omega
            have hc : c = d := UInt8.toNat_inj.1 (by omega)
            rw [hc, ih l' r' a (by simp at hl; omega) hl'.front hr.front ha (by rw [hb, hcd.2])]
theorem pnm_ok {p : List UInt8} {n : Int} (h : pnm p = (n, true)) : p ≠ [] ∧ pfold p 0 = some (-n) ∧ (p = [48] ∨ Lead p) := by
  unfold pnm pnum at h
  split at h
  · simp at h
  · rename_i c l
    split at h
    · split at h
      · simp at h
      · rename_i d t
        split at h
        · simp at h
        · rename_i hd
          exfalso
          unfold ptail at h
          cases hp : pfold (d :: t) 0 with
          | none => rw [hp] at h; simp at h
          | some m =>
            rw [hp] at h
            have hm := pfold_neg hd hp
            simp only [if_true, pfin] at h
            rw [if_pos (.inl hm)] at h
            simp at h
    · split at h
      · simp at h
      · rename_i hc
        refine ⟨by simp, ?_, ?_⟩
        · unfold ptail at h
          cases hp : pfold (c :: l) 0 with
          | none => rw [hp] at h; simp at h
          | some m =>
            rw [hp] at h
            simp only [Bool.false_eq_true, if_false] at h
            split at h
            · simp at h
            · simp only [pfin] at h
              split at h
              · simp at h
              · simp at h; rw [← h]; simp
        · by_cases hc48 : c = 48
          · left
            cases l with
            | nil => rw [hc48]
            | cons d t => exact absurd ⟨hc48, by simp⟩ hc
          · right
            intro d hd
            simp at hd
            rw [← hd]; exact hc48
theorem pnm_inj {p q : List UInt8} {n : Int} (h1 : pnm p = (n, true)) (h2 : pnm q = (n, true)) : p = q := by
  obtain ⟨a1, a2, a3⟩ := pnm_ok h1
  obtain ⟨b1, b2, b3⟩ := pnm_ok h2
  have zero : ∀ {r : List UInt8} {m : Int}, r ≠ [] → Lead r → pfold r 0 = some m → m < 0 := by
    intro r m hr hl hp
    cases r with
    | nil => exact absurd rfl hr
    | cons c r => exact pfold_neg (hl c rfl) hp
  have z48 : pfold [48] 0 = some 0 := by decide
  rcases a3 with rfl | a3
  · rcases b3 with rfl | b3
    · rfl
    · rw [z48] at a2
      injection a2 with a2
      have := zero b1 b3 b2
      omega
  · rcases b3 with rfl | b3
    · rw [z48] at b2
      injection b2 with b2
      have := zero a1 a3 a2
      omega
    · exact pfold_inj _ p q _ (Nat.le_refl _) a3 b3 a2 b2
theorem map_pnm_inj : ∀ {ps qs : List (List UInt8)}, (∀ p ∈ ps, (pnm p).2 = true) → (∀ p ∈ qs, (pnm p).2 = true) → ps.map (fun p => (pnm p).1) = qs.map (fun p => (pnm p).1) → ps = qs
  | [], [], _, _, _ => rfl
  | [], _ :: _, _, _, h => by simp at h
  | _ :: _, [], _, _, h => by simp at h
  | p :: ps, q :: qs, h1, h2, h => by
    simp only [List.map_cons, List.cons.injEq] at h
    have e : p = q := pnm_inj (n := (pnm p).1) (by rw [← h1 p List.mem_cons_self]) (by rw [h.1, ← h2 q List.mem_cons_self])
    rw [e, map_pnm_inj (fun x hx => h1 x (List.mem_cons_of_mem _ hx)) (fun x hx => h2 x (List.mem_cons_of_mem _ hx)) h.2]
theorem splitP_some {a : ByteArray} {x : List Int} (h : splitP a = some x) : x = (splitD a.data.toList).map (fun p => (pnm p).1) ∧ ∀ p ∈ splitD a.data.toList, (pnm p).2 = true := by
  unfold splitP at h
  split at h
  · cases h
  · obtain ⟨h1, h2⟩ := accP_some _ _ _ h
    unfold comps at h1 h2
    refine ⟨by rw [h1]; simp, fun p hp => h2 _ (List.mem_map_of_mem hp)⟩
theorem splitP_inj {a b : ByteArray} {x : List Int} (h1 : splitP a = some x) (h2 : splitP b = some x) : a = b := by
  obtain ⟨e1, k1⟩ := splitP_some h1
  obtain ⟨e2, k2⟩ := splitP_some h2
  have := map_pnm_inj k1 k2 (e1.symm.trans e2)
  have hl := congrArg joinD this
  rw [join_split, join_split] at hl
  exact ByteArray.ext (Array.toList_inj.1 hl)

theorem less_irr {a : ByteArray} (h : (splitP a).isSome = true) : lessP a a = false := by
  obtain ⟨x, hx⟩ := Option.isSome_iff_exists.1 h
  simp [lessP, hx, cmpL_refl]
theorem less_tot {a b : ByteArray} (ha : (splitP a).isSome = true) (hb : (splitP b).isSome = true) (h : a ≠ b) : (lessP a b == lessP b a) = false := by
  obtain ⟨x, hx⟩ := Option.isSome_iff_exists.1 ha
  obtain ⟨y, hy⟩ := Option.isSome_iff_exists.1 hb
  have hne : cmpL x y ≠ 0 := fun e => h (splitP_inj hx (by rw [hy, cmpL_eq e]))
  simp only [lessP, hx, hy, cmpL_swap x y]
  by_cases hl : cmpL x y < 0
  · rw [decide_eq_true hl, decide_eq_false (show ¬ -cmpL x y < 0 by omega)]
    rfl
  · rw [decide_eq_false hl, decide_eq_true (show -cmpL x y < 0 by omega)]
    rfl
theorem less_trans {a b c : ByteArray} (ha : (splitP a).isSome = true) (hb : (splitP b).isSome = true) (hc : (splitP c).isSome = true) (h1 : lessP a b = true) (h2 : lessP b c = true) : lessP a c = true := by
  obtain ⟨x, hx⟩ := Option.isSome_iff_exists.1 ha
  obtain ⟨y, hy⟩ := Option.isSome_iff_exists.1 hb
  obtain ⟨z, hz⟩ := Option.isSome_iff_exists.1 hc
  simp only [lessP, hx, hy, hz, decide_eq_true_eq] at h1 h2 ⊢
  exact cmpL_trans h1 h2
theorem less_ext {a b : ByteArray} (ha : (splitP a).isSome = true) (hb : (splitP b).isSome = true) (r : List UInt8) (h : b.data.toList = a.data.toList ++ 46 :: r) : lessP a b = true := by
  obtain ⟨x, hx⟩ := Option.isSome_iff_exists.1 ha
  obtain ⟨y, hy⟩ := Option.isSome_iff_exists.1 hb
  obtain ⟨e1, _⟩ := splitP_some hx
  obtain ⟨e2, _⟩ := splitP_some hy
  rw [h, split_app, List.map_append, ← e1] at e2
  simp only [lessP, hx, hy, e2]
  rw [cmpL_app x (by simpa using splitD_ne r)]
  rfl
end Ml
end Go.Proofs.Ytjdjfjokniingaa
