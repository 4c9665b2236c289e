/- The plain law of boxes.disjoint; the tail of a row of boxes. -/
import Derived.Test.YtcncobhdfflelaaCc
namespace Go.Proofs.Ytcncobhdfflelaa
open Go.RowKit

namespace Bx
def meetD (b c : Dm) : Bool := meet b.1 b.2 c.1 c.2
/-- no two boxes meet -/
def disj : List Dm → Bool
  | [] => true
  | b :: l => (l.all fun c => !meetD b c) && disj l
theorem meet_swap : ∀ (al ah bl bh : List Int), al.length = ah.length → bl.length = bh.length → al.length = bl.length → meet al ah bl bh = meet bl bh al ah
  | [], [], [], [], _, _, _ => rfl
  | a :: al, b :: ah, c :: bl, d :: bh, h1, h2, h3 => by
    rw [meet, meet, meet_swap al ah bl bh (by simpa using h1) (by simpa using h2) (by simpa using h3)]
    cases decide (b < c) <;> cases decide (d < a) <;> rfl
  | [], _ :: _, _, _, h1, _, _ => by simp at h1
  | _ :: _, [], _, _, h1, _, _ => by simp at h1
  | [], [], [], _ :: _, _, h2, _ => by simp at h2
  | [], [], _ :: _, _, _, _, h3 => by simp at h3
  | _ :: _, _ :: _, [], _, _, _, h3 => by simp at h3
  | _ :: _, _ :: _, _ :: _, [], _, h2, _ => by simp at h2
/-- both bounds have n dimensions -/
def Dims (n : Nat) (b : Dm) : Prop := b.1.length = n ∧ b.2.length = n
theorem meetD_swap {n : Nat} {b c : Dm} (hb : Dims n b) (hc : Dims n c) : meetD b c = meetD c b := meet_swap _ _ _ _ (by rw [hb.1, hb.2]) (by rw [hc.1, hc.2]) (by rw [hb.1, hc.1])
theorem disj_iff : ∀ l : List Dm, disj l = true ↔ l.Pairwise fun b c => meetD b c = false
  | [] => by simp [disj]
  | b :: l => by
    rw [disj, List.pairwise_cons, Bool.and_eq_true, disj_iff l, List.all_eq_true]
    simp only [Bool.not_eq_true']
theorem disj_perm {n : Nat} {l m : List Dm} (h : l.Perm m) (hl : ∀ b ∈ l, Dims n b) : disj l = disj m := by
  have key : ∀ {l m : List Dm}, l.Perm m → (∀ b ∈ l, Dims n b) → disj l = true → disj m = true := by
    intro l m h
    induction h with
    | nil => intro _ h; exact h
    | cons x h ih =>
      intro hd hx
      rw [disj, Bool.and_eq_true] at hx ⊢
      refine ⟨?_, ih (fun b hb => hd b (List.mem_cons_of_mem _ hb)) hx.2⟩
      rw [List.all_eq_true] at hx ⊢
      exact fun c hc => hx.1 c (h.mem_iff.2 hc)
    | swap x y l =>
      intro hd hx
      simp only [disj, List.all_cons, Bool.and_eq_true] at hx ⊢
      have hs := meetD_swap (hd x (List.mem_cons_of_mem _ List.mem_cons_self)) (hd y List.mem_cons_self)
      obtain ⟨⟨a, b⟩, c, d⟩ := hx
      exact ⟨⟨by rw [hs]; exact a, c⟩, b, d⟩
    | trans h1 h2 ih1 ih2 =>
      intro hd hx
      exact ih2 (fun b hb => hd b (h1.mem_iff.2 hb)) (ih1 hd hx)
  cases h1 : disj l with
  | true => rw [key h hl h1]
  | false =>
    cases h2 : disj m with
    | false => rfl
    | true => rw [key h.symm (fun b hb => hl b (h.mem_iff.2 hb)) h2] at h1; cases h1
/-- the inner loop of disjoint: it stops at a box that begins behind the end -/
def scan (a : Dm) : List Dm → Bool
  | [] => true
  | c :: l => if at0 a.2 0 < at0 c.1 0 then true else if meetD a c then false else scan a l
theorem meet_far {a c : Dm} {n : Nat} (ha : Dims (n + 1) a) (hc : Dims (n + 1) c) (h : at0 a.2 0 < at0 c.1 0) : meetD a c = false := by
  obtain ⟨a1, a2⟩ := a
  obtain ⟨c1, c2⟩ := c
  obtain ⟨h1, h2⟩ := ha
  obtain ⟨h3, h4⟩ := hc
  match a1, a2, c1, c2, h1, h2, h3, h4 with
  | x :: a1, y :: a2, z :: c1, t :: c2, _, _, _, _ =>
    have h' : y < z := by simpa [at0] using h
    simp [meetD, meet, h']
theorem cmpL_head {x y : Int} {l m : List Int} (h : ¬ cmpL (y :: m) (x :: l) < 0) : x ≤ y := by
  rw [cmpL, cmpI_val] at h
  by_cases h1 : y < x
  · simp [h1] at h
  · omega
theorem scan_all {n : Nat} {a : Dm} : ∀ {l : List Dm}, Dims (n + 1) a → (∀ b ∈ l, Dims (n + 1) b) → l.Pairwise (fun b c => ¬ cmpL c.1 b.1 < 0) → scan a l = l.all fun c => !meetD a c
  | [], _, _, _ => rfl
  | c :: l, ha, hl, hp => by
    rw [List.pairwise_cons] at hp
    unfold scan
    have hc := hl c List.mem_cons_self
    by_cases h : at0 a.2 0 < at0 c.1 0
    · rw [if_pos h]
      symm
      rw [List.all_eq_true]
      intro d hd
      rw [Bool.not_eq_true']
      rcases List.mem_cons.1 hd with rfl | hd
      · exact meet_far ha hc h
      · have hdd := hl d (List.mem_cons_of_mem _ hd)
        refine meet_far ha hdd (Int.lt_of_lt_of_le h ?_)
        have := hp.1 d hd
        obtain ⟨c1, c2⟩ := c
        obtain ⟨d1, d2⟩ := d
        obtain ⟨h3, _⟩ := hc
        obtain ⟨h4, _⟩ := hdd
        match c1, d1, h3, h4 with
        | x :: c1, y :: d1, _, _ => simpa [at0] using cmpL_head this
    · rw [if_neg h, scan_all ha (fun b hb => hl b (List.mem_cons_of_mem _ hb)) hp.2, List.all_cons]
      cases meetD a c <;> rfl
theorem disj_step {n : Nat} {a : Dm} {l : List Dm} (ha : Dims (n + 1) a) (hl : ∀ b ∈ l, Dims (n + 1) b) (hp : l.Pairwise (fun b c => ¬ cmpL c.1 b.1 < 0)) : disj (a :: l) = (scan a l && disj l) := by
  rw [disj, scan_all ha hl hp]
theorem disj_zero {a b : Dm} {l : List Dm} (ha : Dims 0 a) : disj (a :: b :: l) = false := by
  obtain ⟨a1, a2⟩ := a
  have h1 : a1 = [] := List.eq_nil_of_length_eq_zero ha.1
  subst h1
  simp [disj, meetD, meet]
end Bx
/-- s[i+1:] of boxes -/
theorem tail26 {w : World} {B n c i : Nat} {A : Option Addr} {xs : List Value} (h : Rd w B 3 A n xs) (h0 : i < n) (hc : n ≤ c) :
    ∃ A' : Option Addr, (∀ W, Sem.run Try.prog (Instr.sliceAt 26 (.slice A n c) (some (.int .i64 ((i : Int) + 1))) none none) W = .ok (.slice A' (n - (i + 1)) (c - (i + 1))) W) ∧ (∀ (W : World) (C : Nat), Rd W C 3 A n xs → Rd W C 3 A' (n - (i + 1)) (xs.drop ((i + 1) * 3))) := by
  obtain ⟨b, off, rfl, hb, _⟩ := h.2 (by omega)
  have h1 : (0 : Int) ≤ (i : Int) + 1 := by omega
  have h2 : (i : Int) + 1 ≤ (n : Int) := by omega
  refine ⟨if c = i + 1 then some ⟨b, off, none⟩ else some ⟨b, off + (i + 1) * 3, none⟩, fun W => by go_simp, fun W C hr => ?_⟩
  · by_cases e : c = i + 1
    · have hn : n = i + 1 := by omega
      subst hn
      have hl : xs.drop ((i + 1) * 3) = [] := List.drop_eq_nil_of_le (by have := hr.1; omega)
      rw [hl, Nat.sub_self]
      exact Rd.none_
    · rw [if_neg e]
      exact hr.drop_ h0
end Go.Proofs.Ytcncobhdfflelaa
