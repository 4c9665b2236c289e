/- The plain law of MailCounts; a box that holds a state. -/
import Derived.Test.YtjdjfjokniingaaRa
namespace Go.Proofs.Ytjdjfjokniingaa
open Go.RowKit

abbrev sysL (s : SysC) : List Value := [.slice s.up.a s.up.n s.up.c, .int .i64 s.moment, .int .i64 s.clock, .int .i64 s.seq, .slice s.actors.a s.actors.n s.actors.c, .slice s.flights.a s.flights.n s.flights.c, .slice s.alarms.a s.alarms.n s.alarms.c, .slice s.asked.a s.asked.n s.asked.c, .int .i64 s.dead]
theorem sbox_cells {W : World} {B : Nat} {s : SysC} (h : BoxAt W B (sysL s)) : W.cell? ⟨B, 0, none⟩ = some (.slice s.up.a s.up.n s.up.c) ∧ W.cell? ⟨B, 1, none⟩ = some (.int .i64 s.moment) ∧ W.cell? ⟨B, 2, none⟩ = some (.int .i64 s.clock) ∧ W.cell? ⟨B, 3, none⟩ = some (.int .i64 s.seq) ∧ W.cell? ⟨B, 4, none⟩ = some (.slice s.actors.a s.actors.n s.actors.c) ∧ W.cell? ⟨B, 5, none⟩ = some (.slice s.flights.a s.flights.n s.flights.c) ∧ W.cell? ⟨B, 6, none⟩ = some (.slice s.alarms.a s.alarms.n s.alarms.c) ∧ W.cell? ⟨B, 7, none⟩ = some (.slice s.asked.a s.asked.n s.asked.c) ∧ W.cell? ⟨B, 8, none⟩ = some (.int .i64 s.dead) :=
  ⟨h.2.1 0 _ rfl, h.2.1 1 _ rfl, h.2.1 2 _ rfl, h.2.1 3 _ rfl, h.2.1 4 _ rfl, h.2.1 5 _ rfl, h.2.1 6 _ rfl, h.2.1 7 _ rfl, h.2.1 8 _ rfl⟩
theorem sbox_free {W : World} {B : Nat} {s : SysC} (h : BoxAt W B (sysL s)) : W.frozen? ⟨B, 0, none⟩ = false ∧ W.frozen? ⟨B, 1, none⟩ = false ∧ W.frozen? ⟨B, 2, none⟩ = false ∧ W.frozen? ⟨B, 3, none⟩ = false ∧ W.frozen? ⟨B, 4, none⟩ = false ∧ W.frozen? ⟨B, 5, none⟩ = false ∧ W.frozen? ⟨B, 6, none⟩ = false ∧ W.frozen? ⟨B, 7, none⟩ = false ∧ W.frozen? ⟨B, 8, none⟩ = false :=
  ⟨h.2.2 0, h.2.2 1, h.2.2 2, h.2.2 3, h.2.2 4, h.2.2 5, h.2.2 6, h.2.2 7, h.2.2 8⟩
/-- a state stored into a box -/
abbrev putSys (W : World) (X : Nat) (s : SysC) : World := ((((((((W.setCell ⟨X, 0, none⟩ (.slice s.up.a s.up.n s.up.c)).setCell ⟨X, 1, none⟩ (.int .i64 s.moment)).setCell ⟨X, 2, none⟩ (.int .i64 s.clock)).setCell ⟨X, 3, none⟩ (.int .i64 s.seq)).setCell ⟨X, 4, none⟩ (.slice s.actors.a s.actors.n s.actors.c)).setCell ⟨X, 5, none⟩ (.slice s.flights.a s.flights.n s.flights.c)).setCell ⟨X, 6, none⟩ (.slice s.alarms.a s.alarms.n s.alarms.c)).setCell ⟨X, 7, none⟩ (.slice s.asked.a s.asked.n s.asked.c)).setCell ⟨X, 8, none⟩ (.int .i64 s.dead)
theorem putSys_off (W : World) (X : Nat) (s : SysC) : Off X W (putSys W X s) := (((((((((Off.refl X W).set 0 _).set 1 _).set 2 _).set 3 _).set 4 _).set 5 _).set 6 _).set 7 _).set 8 _
theorem putSys_box {W : World} {X : Nat} {s t : SysC} (h : BoxAt W X (sysL t)) : BoxAt (putSys W X s) X (sysL s) :=
  ((((((((h.set 0 (.slice s.up.a s.up.n s.up.c) (by simp)).set 1 (.int .i64 s.moment) (by simp)).set 2 (.int .i64 s.clock) (by simp)).set 3 (.int .i64 s.seq) (by simp)).set 4 (.slice s.actors.a s.actors.n s.actors.c) (by simp)).set 5 (.slice s.flights.a s.flights.n s.flights.c) (by simp)).set 6 (.slice s.alarms.a s.alarms.n s.alarms.c) (by simp)).set 7 (.slice s.asked.a s.asked.n s.asked.c) (by simp)).set 8 (.int .i64 s.dead) (by simp)
theorem putSys_other {W : World} {X B : Nat} {s : SysC} {vs : List Value} (h : BoxAt W B vs) (hn : X ≠ B) : BoxAt (putSys W X s) B vs :=
  ((((((((h.setOther _ _ hn).setOther _ _ hn).setOther _ _ hn).setOther _ _ hn).setOther _ _ hn).setOther _ _ hn).setOther _ _ hn).setOther _ _ hn).setOther _ _ hn
theorem putSys_below {W w : World} {X C : Nat} {s : SysC} (h : Below C w W) (hX : C ≤ X) : Below C w (putSys W X s) :=
  ((((((((h.setCell hX _).setCell hX _).setCell hX _).setCell hX _).setCell hX _).setCell hX _).setCell hX _).setCell hX _).setCell hX _
theorem putSys_R {W : World} {X : Nat} {s t : SysC} {σ : PS} (h : SysR (fun b => b ≠ X) W t σ) : SysR (fun b => b ≠ X) (putSys W X s) t σ :=
  h.stay (fun b o hb => (putSys_off W X s).2 b o hb) (Nat.le_of_eq (putSys_off W X s).1.symm)

namespace Ml
theorem mails_modify (g : PL → PL) : ∀ (l : List PL) (i : Nat) (a : PL), l[i]? = some a → mails (l.modify i g) + a.mail.length = mails l + (g a).mail.length
  | [], i, a, h => by simp at h
  | x :: l, 0, a, h => by
    simp at h
    subst h
    simp only [List.modify_zero_cons, mails, List.map_cons, List.sum_cons]
    omega
  | x :: l, i + 1, a, h => by
    have := mails_modify g l i a (by simpa using h)
    simp only [List.modify_succ_cons, mails, List.map_cons, List.sum_cons] at this ⊢
    omega
/-- held and dead letters, as Go adds them up -/
def cnt (σ : PS) : Int := wrap64 ((held σ : Int) + σ.dead)
structure Grows (σ τ : PS) (d : Int) : Prop where
  cnt : cnt τ = wrap64 (cnt σ + d)
  ac : τ.acts.length = σ.acts.length
  al : τ.als.length = σ.als.length
  up : τ.ups = σ.ups
  le : held τ ≤ held σ + 1
theorem find_lt {ps : List PL} {p : ByteArray} {i : Nat} (h : find (ps.map (·.path)) p = some i) : ∃ a, ps[i]? = some a := by
  have := (find_spec h).1
  rw [List.getElem?_map] at this
  cases hq : ps[i]? with
  | none => rw [hq] at this; cases this
  | some a => exact ⟨a, rfl⟩
theorem reachP_find {σ : PS} {p : ByteArray} {i : Nat} (h : reachP σ p = some i) : find (σ.acts.map (·.path)) p = some i := (Option.filter_eq_some_iff.1 h).1
theorem cnt_lost (σ : PS) : cnt (lost σ) = wrap64 (cnt σ + 1) := by
  simp only [cnt, lost, held]
  simp only [wrap64]
  omega
theorem lost_grows (σ : PS) : Grows σ (lost σ) 1 := ⟨cnt_lost σ, rfl, rfl, rfl, by simp [lost, held]⟩
theorem cnt_more {σ τ : PS} (hd : τ.dead = σ.dead) (h : held τ = held σ + 1) : cnt τ = wrap64 (cnt σ + 1) := by
  simp only [cnt, hd, h]
  push_cast
  simp only [wrap64]
  omega
theorem post_grows (σ : PS) (p : ByteArray) (l : LetC) : Grows σ (post σ p l).1 1 := by
  unfold post
  split
  · rename_i i hi
    split
    · obtain ⟨a, ha⟩ := find_lt (reachP_find hi)
      have hm := mails_modify (fun a => { a with mail := a.mail ++ [l] }) σ.acts i a ha
      simp only [List.length_append, List.length_cons, List.length_nil] at hm
      have hh : held (mailed σ i (· ++ [l])) = held σ + 1 := by
        simp only [held, mailed]
        omega
      exact ⟨cnt_more rfl hh, by simp [mailed], rfl, rfl, Nat.le_of_eq hh⟩
    · exact lost_grows σ
  · exact lost_grows σ
theorem send_grows (σ : PS) (x : Int) (p : ByteArray) (l : LetC) : Grows σ (send σ x p l).1 1 := by
  unfold send
  split
  · split
    · exact post_grows σ p l
    · split
      · refine ⟨cnt_more rfl ?_, rfl, rfl, rfl, ?_⟩ <;> simp [held] <;> omega
      · exact lost_grows σ
  · exact lost_grows σ
theorem cnt_less {σ τ : PS} (hd : τ.dead = σ.dead) (h : held τ + 1 = held σ) : cnt τ = wrap64 (cnt σ - 1) := by
  have h2 : (held τ : Int) = (held σ : Int) - 1 := by omega
  simp only [cnt, hd, h2]
  simp only [wrap64]
  omega
theorem take_yes {σ : PS} {p : ByteArray} (h : (take σ p).2.2 = true) : Grows σ (take σ p).1 (-1) := by
  unfold take at h ⊢
  split at h
  · rename_i i hi
    obtain ⟨a, ha⟩ := find_lt hi
    simp only [ha, Option.map_some, Option.getD_some] at h ⊢
    cases hm : a.mail with
    | nil => rw [hm] at h; cases h
    | cons m r =>
      have hmm := mails_modify (fun a => { a with mail := a.mail.tail }) σ.acts i a ha
      simp only [hm, List.tail_cons, List.length_cons] at hmm
      have hh : held (mailed σ i List.tail) + 1 = held σ := by
        simp only [held, mailed]
        omega
      exact ⟨cnt_less rfl hh, by simp [mailed], rfl, rfl, by simp only; omega⟩
  · cases h
theorem take_no {σ : PS} {p : ByteArray} (h : (take σ p).2.2 = false) : (take σ p).1 = σ := by
  unfold take at h ⊢
  split at h
  · rename_i i hi
    obtain ⟨a, ha⟩ := find_lt hi
    simp only [ha, Option.map_some, Option.getD_some] at h ⊢
    cases hm : a.mail with
    | nil => rfl
    | cons m r => rw [hm] at h; cases h
  · rfl
theorem cnt_wf (σ : PS) : wrap64 (cnt σ) = cnt σ := by
  simp only [cnt]
  simp only [wrap64]
  omega
theorem arrive_grows (σ : PS) (x y : Int) : cnt (arrive σ x y).1 = cnt σ ∧ (arrive σ x y).1.acts.length = σ.acts.length ∧ (arrive σ x y).1.als.length = σ.als.length ∧ (arrive σ x y).1.ups = σ.ups ∧ held (arrive σ x y).1 ≤ held σ := by
  unfold arrive
  split
  · rename_i i hi
    have hil : i < σ.fls.length := by
      unfold idx at hi
      rw [List.findIdx?_eq_some_iff_getElem] at hi
      exact hi.1
    simp only
    generalize hτ : ({ σ with fls := σ.fls.take i ++ σ.fls.drop (i + 1) } : PS) = τ
    have h1 : held τ + 1 = held σ := by
      rw [← hτ]
      simp only [held, List.length_append, List.length_take, List.length_drop]
      omega
    have hg := post_grows τ ((σ.fls[i]?).getD flyZ).path ((σ.fls[i]?).getD flyZ).l
    have hd : τ.dead = σ.dead := by rw [← hτ]
    refine ⟨?_, by rw [hg.ac, ← hτ], by rw [hg.al, ← hτ], by rw [hg.up, ← hτ], by have := hg.le; omega⟩
    rw [hg.cnt]
    have h2 : (held σ : Int) = held τ + 1 := by omega
    simp only [cnt, hd, h2, wrap64]
    omega
  · exact ⟨rfl, rfl, rfl, rfl, Nat.le_refl _⟩
end Ml
end Go.Proofs.Ytjdjfjokniingaa
