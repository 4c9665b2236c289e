/- retroactlaw16.few and held. -/
import Derived.Test.YtjdjfjokniingaaOz
import Derived.Test.YtjdjfjokniingaaPh
namespace Go.Proofs.Ytjdjfjokniingaa
open Go.RowKit

def sumN (ls : List LiveC) : Nat := (ls.map (·.mail.n)).sum
theorem sumN_snoc (ls : List LiveC) (k : Nat) (a : LiveC) (h : ls[k]? = some a) : sumN (ls.take (k + 1)) = sumN (ls.take k) + a.mail.n := by
  rw [take_snoc' ls k a h]
  simp [sumN]
def F16Post (t : Nat) (w : World) (e : Ending) (w' : World) : Prop := ∃ x : Bool, e = .returned (.bool x) ∧ (x = true → t ≤ 60) ∧ Below w.heap.size w w'

set_option linter.unusedSimpArgs false in
set_option maxRecDepth 100000 in
set_option maxHeartbeats 1600000 in
theorem few32 (s : SysC) (ls : List LiveC) (w : World) (hac : Rd w w.heap.size 9 s.actors.a s.actors.n (ls.flatMap liveL)) (b1 : s.up.n ≤ 140737488355328) (b2 : s.actors.n ≤ 140737488355328) (b3 : s.flights.n ≤ 140737488355328) (b4 : s.alarms.n ≤ 140737488355328) (b5 : s.asked.n ≤ 140737488355328) (hm : ∀ a ∈ ls, a.mail.n ≤ 140737488355328) :
    Calls Try.prog 32 #[sysV s] w (F16Post (s.actors.n + s.flights.n + s.alarms.n + s.asked.n + s.up.n + sumN ls) w) := by
  have HA := Lib.hid hac
  have HL := Lib.hid (hac.len (fun _ => rfl) (by omega))
  have HM := Lib.hid hm
  clear hac hm
  go_enter Try.func32, Try.ntmps32
  go_wp2
  go_loop [3, 4] (fun n i => ∃ k m : Nat, k ≤ s.actors.n ∧ k ≤ 60 ∧ i = .int .i64 k ∧ n = .int .i64 m ∧ m ≤ 5 * 140737488355328 + k * 140737488355328 ∧ Hid (m = s.actors.n + s.flights.n + s.alarms.n + s.asked.n + s.up.n + sumN (ls.take k))) (fun _ i => s.actors.n - (intOf i).toNat)
  case atStart => exact ⟨0, s.actors.n + s.flights.n + s.alarms.n + s.asked.n + s.up.n, Nat.zero_le _, by omega, rfl, by first | rfl | (congr 1; omega) | (simp; omega), by omega, Lib.hid (by simp [sumN])⟩
  case round =>
    obtain ⟨k, m, hk, h60, rfl, rfl, hmb, HS⟩ := hrel
    by_cases hlt : k < s.actors.n
    · by_cases hl6 : k < 60
      · obtain ⟨b, off, a, hA, hb, hak, hc⟩ := HA.out.at_ (fun _ => rfl) (by omega) hlt
        have c8 : w.cell? ⟨b, off + k * 9 + 8, none⟩ = some (.slice a.mail.a a.mail.n a.mail.c) := hc 8 _ rfl
        have hix : ∀ W : World, Sem.run Try.prog (Instr.indexAt 23 (.slice s.actors.a s.actors.n s.actors.c) (.int .i64 (k : Int))) W = .ok (.pointer (some ⟨b, off + k * 9, none⟩)) W := by intro W; rw [hA]; go_simp
        have HAK := Lib.hid (sumN_snoc ls k a hak)
        have hmn := HM.out a (List.mem_of_getElem? hak)
        clear hA hak hc
        have n1 : ¬ b = w.heap.size := by omega
        go_wp2_with fail
        go_round
        case rel => exact ⟨k + 1, m + a.mail.n, by omega, by omega, by go_num, by go_num, by omega, Lib.hid (by rw [HAK.out, HS.out]; omega)⟩
        case measure => simp [intOf]; omega
      · have HF : Hid ((m ≤ 60) → s.actors.n + s.flights.n + s.alarms.n + s.asked.n + s.up.n + sumN ls ≤ 60) := Lib.hid (fun h => by
          have h1 := HS.out
          have h2 := HL.out
          rw [List.take_of_length_le (by omega)] at h1
          omega)
        cases hx : decide ((m : Int) ≤ 60) with
        | true =>
          have h6 : m ≤ 60 := by simp at hx; omega
          go_wp2_with fail
          go_ret
          exact ⟨true, rfl, fun _ => HF.out h6, (Below.refl _ _).alloc (Nat.le_refl _) _⟩
        | false =>
          go_wp2_with fail
          go_ret
          exact ⟨false, rfl, fun h => Bool.noConfusion h, (Below.refl _ _).alloc (Nat.le_refl _) _⟩
    · have HF : Hid ((m ≤ 60) → s.actors.n + s.flights.n + s.alarms.n + s.asked.n + s.up.n + sumN ls ≤ 60) := Lib.hid (fun h => by
          have h1 := HS.out
          have h2 := HL.out
          rw [List.take_of_length_le (by omega)] at h1
          omega)
      cases hx : decide ((m : Int) ≤ 60) with
      | true =>
        have h6 : m ≤ 60 := by simp at hx; omega
        go_wp2_with fail
        go_ret
        exact ⟨true, rfl, fun _ => HF.out h6, (Below.refl _ _).alloc (Nat.le_refl _) _⟩
      | false =>
        go_wp2_with fail
        go_ret
        exact ⟨false, rfl, fun h => Bool.noConfusion h, (Below.refl _ _).alloc (Nat.le_refl _) _⟩

set_option linter.unusedSimpArgs false in
set_option maxRecDepth 100000 in
set_option maxHeartbeats 1600000 in
theorem held46 (s : SysC) (ls : List LiveC) (w : World) (hac : Rd w w.heap.size 9 s.actors.a s.actors.n (ls.flatMap liveL)) (b2 : s.actors.n ≤ 140737488355328) (hh : s.flights.n + sumN ls ≤ 140737488355328) :
    Calls Try.prog 46 #[sysV s] w fun e w' => e = .returned (.int .i64 ((s.flights.n + sumN ls : Nat) : Int)) ∧ Below w.heap.size w w' := by
  have HA := Lib.hid hac
  have HL := Lib.hid (hac.len (fun _ => rfl) (by omega))
  have hle : ∀ k, sumN (ls.take k) ≤ sumN ls := fun k => by
    have e : sumN ls = sumN (ls.take k) + sumN (ls.drop k) := by
      conv => lhs; rw [← List.take_append_drop k ls]
      unfold sumN
      rw [List.map_append, List.sum_append]
    omega
  have HE := Lib.hid hle
  clear hac hle
  go_enter Try.func46, Try.ntmps46
  go_wp2
  go_loop [3, 4] (fun n i => ∃ k m : Nat, k ≤ s.actors.n ∧ i = .int .i64 k ∧ n = .int .i64 m ∧ Hid (m = s.flights.n + sumN (ls.take k))) (fun _ i => s.actors.n - (intOf i).toNat)
  case atStart => exact ⟨0, s.flights.n, Nat.zero_le _, rfl, rfl, Lib.hid (by simp [sumN])⟩
  case round =>
    obtain ⟨k, m, hk, rfl, rfl, HS⟩ := hrel
    by_cases hlt : k < s.actors.n
    · obtain ⟨b, off, a, hA, hb, hak, hc⟩ := HA.out.at_ (fun _ => rfl) (by omega) hlt
      have c8 : w.cell? ⟨b, off + k * 9 + 8, none⟩ = some (.slice a.mail.a a.mail.n a.mail.c) := hc 8 _ rfl
      have hix : ∀ W : World, Sem.run Try.prog (Instr.indexAt 23 (.slice s.actors.a s.actors.n s.actors.c) (.int .i64 (k : Int))) W = .ok (.pointer (some ⟨b, off + k * 9, none⟩)) W := by intro W; rw [hA]; go_simp
      have HAK := Lib.hid (sumN_snoc ls k a hak)
      have hmn : m + a.mail.n ≤ 140737488355328 := by
        have h1 := HAK.out
        have h2 := HE.out (k + 1)
        have h3 := HS.out
        omega
      clear hA hak hc
      have n1 : ¬ b = w.heap.size := by omega
      go_wp2_with fail
      go_round
      case rel => exact ⟨k + 1, m + a.mail.n, by omega, by go_num, by go_num, Lib.hid (by rw [HAK.out, HS.out]; omega)⟩
      case measure => simp [intOf]; omega
    · have HF : Hid (m = s.flights.n + sumN ls) := Lib.hid (by
          have h1 := HS.out
          have h2 := HL.out
          rw [List.take_of_length_le (by omega)] at h1
          exact h1)
      go_wp2_with fail
      go_ret
      exact ⟨by rw [HF.out]; rfl, (Below.refl _ _).alloc (Nat.le_refl _) _⟩

namespace Ml
def mails (l : List PL) : Nat := (l.map (·.mail.length)).sum
/-- the letters in mailboxes and channels -/
def held (σ : PS) : Nat := σ.fls.length + mails σ.acts
def total (σ : PS) : Nat := σ.acts.length + σ.fls.length + σ.als.length + σ.rs.length + σ.ups.length + mails σ.acts
end Ml
theorem sum_mails {P : Nat → Prop} {w : World} : ∀ {qs : List (LiveC × List LetC)}, (∀ q ∈ qs, MailAt P w q.1 q.2) → sumN (qs.map (·.1)) = Ml.mails (qs.map plOf)
  | [], _ => rfl
  | q :: qs, h => by
    have h1 := (h q List.mem_cons_self).rd.len (fun _ => rfl) (by omega)
    have h2 := sum_mails (fun x hx => h x (List.mem_cons_of_mem _ hx))
    simp only [sumN, Ml.mails, List.map_cons, List.sum_cons] at h2 ⊢
    rw [h2, ← h1]
    rfl
theorem few_R {P : Nat → Prop} (s : SysC) (σ : PS) (w : World) (h : SysR P w s σ) (hz : PSZ 140737488355328 σ) : Calls Try.prog 32 #[sysV s] w (F16Post (Ml.total σ) w) := by
  obtain ⟨qs, h1, h2, h3⟩ := h.ac
  have hr := h.rq.len (fun _ => rfl) (by omega)
  have := few32 s (qs.map (·.1)) w h1 (by rw [← h.nu]; exact hz.up) (by rw [h.na]; exact hz.ac) (by rw [← h.nfl]; exact hz.fl) (by rw [← h.nal]; exact hz.al) (by rw [← hr]; exact hz.rq) (fun a ha => by
    obtain ⟨q, hq, rfl⟩ := List.mem_map.1 ha
    have h4 := (h2 q hq).rd.len (fun _ => rfl) (by omega)
    have h5 := hz.ml (plOf q) (by rw [← h3]; exact List.mem_map_of_mem hq)
    have h6 : q.2.length ≤ 140737488355328 := h5
    omega)
  rw [sum_mails h2, h3, h.na, ← h.nfl, ← h.nal, ← hr, ← h.nu] at this
  exact this
theorem held_R {P : Nat → Prop} (s : SysC) (σ : PS) (w : World) (h : SysR P w s σ) (h1 : σ.acts.length ≤ 140737488355328) (h2 : Ml.held σ ≤ 140737488355328) :
    Calls Try.prog 46 #[sysV s] w fun e w' => e = .returned (.int .i64 (Ml.held σ : Nat)) ∧ Below w.heap.size w w' := by
  obtain ⟨qs, q1, q2, q3⟩ := h.ac
  have hs := sum_mails q2
  rw [q3] at hs
  have := held46 s (qs.map (·.1)) w q1 (by rw [h.na]; exact h1) (by rw [hs, ← h.nfl]; exact h2)
  rw [hs, ← h.nfl] at this
  exact this
end Go.Proofs.Ytjdjfjokniingaa
