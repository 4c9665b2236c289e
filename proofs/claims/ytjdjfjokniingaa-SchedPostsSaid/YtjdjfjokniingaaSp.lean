/- The contracts of retroactlaw20.named (at the empty path) and mod. -/
import Derived.Test.YtjdjfjokniingaaSo
namespace Go.Proofs.Ytjdjfjokniingaa
open Go.RowKit

def NamedPost (ls : List LiveC) (w : World) (e : Ending) (w' : World) : Prop := ∃ x : Bool, e = .returned (.bool x) ∧ (x = false → ∀ a ∈ ls, a.path.toList.isEmpty = false) ∧ Below w.heap.size w w'

set_option maxRecDepth 100000 in
set_option maxHeartbeats 800000 in
theorem named_any (s : SysC) (ls : List LiveC) (w : World) (hac : Rd w w.heap.size 9 s.actors.a s.actors.n (ls.flatMap liveL)) (hb100 : s.actors.n ≤ 100) :
    Calls Try.prog 55 #[sysV s, .string ⟨#[]⟩] w (NamedPost ls w) := by
  have HA := Lib.hid hac
  have HL := Lib.hid (hac.len (fun _ => rfl) (by omega))
  clear hac
  go_enter Try.func55, Try.ntmps55
  go_wp2
  go_loop [5] (fun i => ∃ k : Nat, k ≤ s.actors.n ∧ i = .int .i64 k ∧ Hid (∀ j a, j < k → ls[j]? = some a → a.path.toList.isEmpty = false)) (fun i => s.actors.n - (intOf i).toNat)
  case atStart => exact ⟨0, Nat.zero_le _, rfl, fun j a hj => absurd hj (by omega)⟩
  case round =>
    obtain ⟨k, hk, rfl, HJ⟩ := hrel
    by_cases hlt : k < s.actors.n
    · obtain ⟨b, off, a, hA, hb, hak, hc⟩ := HA.out.at_ (fun _ => rfl) (by omega) hlt
      have c0 : w.cell? ⟨b, off + k * 9, none⟩ = some (.string a.path) := hc 0 _ rfl
      have hix : ∀ W : World, Sem.run Try.prog (Instr.indexAt 23 (.slice s.actors.a s.actors.n s.actors.c) (.int .i64 (k : Int))) W = .ok (.pointer (some ⟨b, off + k * 9, none⟩)) W := by intro W; rw [hA]; go_simp
      have HAK := Lib.hid hak
      clear hA hak hc
      have n1 : ¬ b = w.heap.size := by omega
      cases te : a.path.toList.isEmpty
      · have HN := Lib.hid (show ∀ j x, j < k + 1 → ls[j]? = some x → x.path.toList.isEmpty = false from fun j x hj hx => by
          by_cases h : j < k
          · exact HJ.out j x h hx
          · have : j = k := by omega
            subst this
            rw [HAK.out] at hx
            injection hx with hx
            rw [← hx]; exact te)
        go_wp2_with fail
        go_round
        case rel => exact ⟨k + 1, by omega, by go_num, HN⟩
        case measure => simp [intOf]; omega
      · go_wp2_with fail
        go_ret
        exact ⟨true, rfl, by simp, (Below.refl _ _).alloc (Nat.le_refl _) _⟩
    · go_wp2_with fail
      go_ret
      refine ⟨false, rfl, fun _ a ha => ?_, (Below.refl _ _).alloc (Nat.le_refl _) _⟩
      obtain ⟨j, hj⟩ := List.getElem?_of_mem ha
      have hjl := (List.getElem?_eq_some_iff.1 hj).1
      exact HJ.out j a (by have := HL.out; omega) hj
set_option maxHeartbeats 400000 in
theorem mod_any (n : Int) (L : Nat) (i : Nat) (w : World) (hL : 0 < L) (hb : L ≤ 281474976710656) (h : (0 ≤ n.tmod L ∧ n.tmod L = i) ∨ (n.tmod L < 0 ∧ n.tmod L + L = i)) :
    Calls Try.prog 56 #[.int .i64 n, .int .i64 (L : Int)] w fun e w' => e = .returned (.int .i64 (i : Int)) ∧ w = w' := by
  have hti := Int.tmod_lt_of_pos n (show (0 : Int) < L by omega)
  have htl := Int.lt_tmod_of_pos n (show (0 : Int) < L by omega)
  have z0 : ((L : Int) == 0) = false := beq_eq_false_iff_ne.2 (by omega)
  have z1 : (L == 0) = false := beq_eq_false_iff_ne.2 (by omega)
  rcases h with ⟨s1, hm⟩ | ⟨s1, hm⟩
  · rw [← hm]
    clear hm
    have s2 : decide (n.tmod (L : Int) < 0) = false := by simp; exact s1
    go_enter Try.func56, Try.ntmps56
    go_wp2
    go_ret
    exact ⟨rfl, rfl⟩
  · rw [← hm]
    clear hm
    have s2 : decide (n.tmod (L : Int) < 0) = true := by simp; exact s1
    go_enter Try.func56, Try.ntmps56
    go_wp2
    go_ret
    exact ⟨rfl, rfl⟩
end Go.Proofs.Ytjdjfjokniingaa
