/- The contract of retroactref20.Same on equal lists, and of few. -/
import Derived.Test.YtjdjfjokniingaaSh
namespace Go.Proofs.Ytjdjfjokniingaa
open Go.RowKit

set_option maxRecDepth 100000 in
set_option maxHeartbeats 800000 in
theorem sameA_true (A B : Option Addr) (c d : Nat) (l : List ActnC) (w : World) (ha : Rd w w.heap.size 3 A l.length (l.flatMap actnL)) (hb : Rd w w.heap.size 3 B l.length (l.flatMap actnL)) (hl : l.length ≤ 281474976710656) :
    Calls Try.prog 52 #[.slice A l.length c, .slice B l.length d] w fun e w' => e = .returned (.bool true) ∧ Below w.heap.size w w' := by
  have HA := Lib.hid ha
  have HB := Lib.hid hb
  clear ha hb
  go_enter Try.func52, Try.ntmps52
  go_wp2
  go_loopw [5] (fun i wr => ∃ k : Nat, k ≤ l.length ∧ i = .int .i64 k ∧ ∃ n, wr = w.drewN n) (fun i _ => l.length - (intOf i).toNat)
  case atStart => exact ⟨0, Nat.zero_le _, rfl, 0, rfl⟩
  case round =>
    obtain ⟨k, hk, rfl, n, rfl⟩ := hrel
    by_cases hlt : k < l.length
    · obtain ⟨b1, o1, a, hA, hb1, hak, hc1⟩ := HA.out.at_ (fun _ => rfl) (by omega) hlt
      obtain ⟨b2, o2, a', hB, hb2, hak', hc2⟩ := HB.out.at_ (fun _ => rfl) (by omega) hlt
      have ea : a = a' := by rw [hak] at hak'; injection hak'
      subst ea
      have x0 : w.cell? ⟨b1, o1 + k * 3, none⟩ = some (.string a.path) := hc1 0 _ rfl
      have x1 : w.cell? ⟨b1, o1 + k * 3 + 1, none⟩ = some (.int .i64 a.x) := hc1 1 _ rfl
      have x2 : w.cell? ⟨b1, o1 + k * 3 + 2, none⟩ = some (.int .i64 a.y) := hc1 2 _ rfl
      have y0 : w.cell? ⟨b2, o2 + k * 3, none⟩ = some (.string a.path) := hc2 0 _ rfl
      have y1 : w.cell? ⟨b2, o2 + k * 3 + 1, none⟩ = some (.int .i64 a.x) := hc2 1 _ rfl
      have y2 : w.cell? ⟨b2, o2 + k * 3 + 2, none⟩ = some (.int .i64 a.y) := hc2 2 _ rfl
      have hixA : ∀ W : World, Sem.run Try.prog (Instr.indexAt 85 (.slice A l.length c) (.int .i64 (k : Int))) W = .ok (.pointer (some ⟨b1, o1 + k * 3, none⟩)) W := by intro W; rw [hA]; go_simp
      have hixB : ∀ W : World, Sem.run Try.prog (Instr.indexAt 85 (.slice B l.length d) (.int .i64 (k : Int))) W = .ok (.pointer (some ⟨b2, o2 + k * 3, none⟩)) W := by intro W; rw [hB]; go_simp
      clear hA hB hak hc1 hc2 hak'
      go_wp2_with fail
      go_quiet (fail)
      go_wp2_with fail
      go_roundw
      case rel => exact ⟨k + 1, by omega, by go_num, n + nq, rfl⟩
      case measure => simp [intOf]; omega
    · go_wp2_with fail
      go_ret
      exact ⟨rfl, below_drewN (Below.refl _ _) _⟩

def FewPost (s : SysC) (w : World) (e : Ending) (w' : World) : Prop := ∃ x : Bool, e = .returned (.bool x) ∧ (x = true → s.actors.n ≤ 100 ∧ s.flights.n ≤ 100 ∧ s.alarms.n ≤ 100) ∧ Below w.heap.size w w'
set_option maxRecDepth 100000 in
set_option maxHeartbeats 800000 in
theorem few_any (s : SysC) (ls : List LiveC) (w : World) (hac : Rd w w.heap.size 9 s.actors.a s.actors.n (ls.flatMap liveL)) :
    Calls Try.prog 49 #[sysV s] w (FewPost s w) := by
  have HA := Lib.hid hac
  clear hac
  go_enter Try.func49, Try.ntmps49
  go_wp2
  go_loop [3] (fun i => ∃ k : Nat, k ≤ 101 ∧ i = .int .i64 k) (fun i => 101 - (intOf i).toNat)
  case atStart => exact ⟨0, Nat.zero_le _, rfl⟩
  case round =>
    obtain ⟨k, hk, rfl⟩ := hrel
    by_cases hlt : k < s.actors.n ∧ k < 101
    · obtain ⟨h1, h2⟩ := hlt
      obtain ⟨b, off, a, hA, hb, hak, hc⟩ := HA.out.at_ (fun _ => rfl) (by omega) h1
      have c8 : w.cell? ⟨b, off + k * 9 + 8, none⟩ = some (.slice a.mail.a a.mail.n a.mail.c) := hc 8 _ rfl
      have hix : ∀ W : World, Sem.run Try.prog (Instr.indexAt 23 (.slice s.actors.a s.actors.n s.actors.c) (.int .i64 (k : Int))) W = .ok (.pointer (some ⟨b, off + k * 9, none⟩)) W := by intro W; rw [hA]; go_simp
      clear hA hak hc
      have n1 : ¬ b = w.heap.size := by omega
      have k1 : decide ((k : Int) < 101) = true := by simp; omega
      cases t1 : decide ((100 : Int) < (a.mail.n : Int))
      · go_wp2_with fail
        go_round
        case rel => exact ⟨k + 1, by omega, by go_num⟩
        case measure => simp [intOf]; omega
      · go_wp2_with fail
        go_ret
        exact ⟨false, rfl, by simp, (Below.refl _ _).alloc (Nat.le_refl _) _⟩
    · cases t1 : decide ((s.actors.n : Int) ≤ 100) <;> cases t2 : decide ((s.flights.n : Int) ≤ 100) <;> cases t3 : decide ((s.alarms.n : Int) ≤ 100) <;> cases t4 : decide (k < s.actors.n) <;> cases t5 : decide ((k : Int) < 101)
      all_goals (try (exfalso; simp at t1 t4 t5; omega))
      all_goals
        go_wp2_with fail
        go_ret
        refine ⟨_, rfl, ?_, (Below.refl _ _).alloc (Nat.le_refl _) _⟩
        simp at t1 t2 t3
        simp
        try omega
end Go.Proofs.Ytjdjfjokniingaa
