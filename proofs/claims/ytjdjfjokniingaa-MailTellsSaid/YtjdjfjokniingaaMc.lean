/- The contract of mail.Post. -/
import Derived.Test.YtjdjfjokniingaaMb
import Derived.Deep.RegionLawGrows
namespace Go.Proofs.Ytjdjfjokniingaa
open Go.RowKit

/-- a state and a bool are handed back -/
def SysPost (P : Nat → Prop) (r : PS × Bool) (w : World) (e : Ending) (w' : World) : Prop := ∃ s : SysC, e = .returned (.tuple #[sysV s, .bool r.2]) ∧ SysR (fun b => P b ∨ w.heap.size ≤ b) w' s r.1 ∧ Below w.heap.size w w'
theorem sysPost {P : Nat → Prop} {r : PS × Bool} {w w' : World} {s : SysC} {σ : PS} {b : Bool} (hr : r = (σ, b)) (h : SysR (fun b => P b ∨ w.heap.size ≤ b) w' s σ) (hb : Below w.heap.size w w') : SysPost P r w (.returned (.tuple #[sysV s, .bool b])) w' := by subst hr; exact ⟨s, rfl, h, hb⟩
theorem SysR.lost {P : Nat → Prop} {w : World} {s : SysC} {σ : PS} (h : SysR P w s σ) : SysR P w { s with dead := wrap64 (s.dead + 1) } (Ml.lost σ) := { h with dd := by show wrap64 (s.dead + 1) = wrap64 (σ.dead + 1); rw [h.dd] }

set_option maxRecDepth 100000 in
set_option maxHeartbeats 4000000 in
theorem post_none {P : Nat → Prop} (s : SysC) (σ : PS) (p : ByteArray) (l : LetC) (w : World) (h : SysR P w s σ) (hna : s.actors.n ≤ 1000000) (hnu : s.up.n ≤ 9223372036854775807) (hr : Ml.reachP σ p = none) :
    Calls Try.prog 33 #[sysV s, .string p, letV l] w (SysPost P (Ml.post σ p l) w) := by
  have HP : Hid (Ml.post σ p l = (Ml.lost σ, false)) := Lib.hid (by unfold Ml.post; rw [hr])
  obtain ⟨qs, hq1, hq2, hq3⟩ := h.ac
  have C := Lib.hid (fun (W : World) (hW : Below w.heap.size w W) => reach_any s (qs.map (·.1)) σ.ups p W (h.up.up hW) (hq1.up hW) (by omega) hnu)
  rw [Ml.reach_eq σ.ups qs σ hq3 rfl p, hr] at C
  have H := Lib.hid h
  clear h hr hq1 hq2 hq3
  go_enter Try.func33, Try.ntmps33
  go_wp2_with fail
  refine (C.out _ (by repeat (first | (with_reducible exact Below.refl _ _) | (with_reducible assumption) | ((with_reducible refine Below.setCell ?_ ?_ _); rotate_left; (focus (first | omega | (simp; omega) | (simp; done)))) | ((with_reducible refine Below.alloc ?_ ?_ _); rotate_left; (focus (first | omega | (simp; omega) | (simp; done)))) | (with_reducible refine Below.drew ?_)))).mono ?_
  rintro e v1 ⟨i, rfl, _, h1⟩
  have z1 := h1.size
  try simp at z1
  have hB1 : Below w.heap.size w v1 := Below.call (w := w) (by repeat (first | (with_reducible exact Below.refl _ _) | (with_reducible assumption) | ((with_reducible refine Below.setCell ?_ ?_ _); rotate_left; (focus (first | omega | (simp; omega) | (simp; done)))) | ((with_reducible refine Below.alloc ?_ ?_ _); rotate_left; (focus (first | omega | (simp; omega) | (simp; done)))) | (with_reducible refine Below.drew ?_))) h1
  obtain ⟨k1_0, kc, kf⟩ := keepB h1 (w.heap.size) (by first | omega | (simp; omega) | (simp; done))
  have c1_0_0 : v1.cell? ⟨w.heap.size, 0, none⟩ = some (.slice s.up.a s.up.n s.up.c) := (kc 0).trans (by simp [go_sem, *])
  have f1_0_0 : v1.frozen? ⟨w.heap.size, 0, none⟩ = false := (kf 0).trans (by simp [go_sem, *])
  have c1_0_1 : v1.cell? ⟨w.heap.size, 1, none⟩ = some (.int .i64 s.moment) := (kc 1).trans (by simp [go_sem, *])
  have f1_0_1 : v1.frozen? ⟨w.heap.size, 1, none⟩ = false := (kf 1).trans (by simp [go_sem, *])
  have c1_0_2 : v1.cell? ⟨w.heap.size, 2, none⟩ = some (.int .i64 s.clock) := (kc 2).trans (by simp [go_sem, *])
  have f1_0_2 : v1.frozen? ⟨w.heap.size, 2, none⟩ = false := (kf 2).trans (by simp [go_sem, *])
  have c1_0_3 : v1.cell? ⟨w.heap.size, 3, none⟩ = some (.int .i64 s.seq) := (kc 3).trans (by simp [go_sem, *])
  have f1_0_3 : v1.frozen? ⟨w.heap.size, 3, none⟩ = false := (kf 3).trans (by simp [go_sem, *])
  have c1_0_4 : v1.cell? ⟨w.heap.size, 4, none⟩ = some (.slice s.actors.a s.actors.n s.actors.c) := (kc 4).trans (by simp [go_sem, *])
  have f1_0_4 : v1.frozen? ⟨w.heap.size, 4, none⟩ = false := (kf 4).trans (by simp [go_sem, *])
  have c1_0_5 : v1.cell? ⟨w.heap.size, 5, none⟩ = some (.slice s.flights.a s.flights.n s.flights.c) := (kc 5).trans (by simp [go_sem, *])
  have f1_0_5 : v1.frozen? ⟨w.heap.size, 5, none⟩ = false := (kf 5).trans (by simp [go_sem, *])
  have c1_0_6 : v1.cell? ⟨w.heap.size, 6, none⟩ = some (.slice s.alarms.a s.alarms.n s.alarms.c) := (kc 6).trans (by simp [go_sem, *])
  have f1_0_6 : v1.frozen? ⟨w.heap.size, 6, none⟩ = false := (kf 6).trans (by simp [go_sem, *])
  have c1_0_7 : v1.cell? ⟨w.heap.size, 7, none⟩ = some (.slice s.asked.a s.asked.n s.asked.c) := (kc 7).trans (by simp [go_sem, *])
  have f1_0_7 : v1.frozen? ⟨w.heap.size, 7, none⟩ = false := (kf 7).trans (by simp [go_sem, *])
  have c1_0_8 : v1.cell? ⟨w.heap.size, 8, none⟩ = some (.int .i64 s.dead) := (kc 8).trans (by simp [go_sem, *])
  have f1_0_8 : v1.frozen? ⟨w.heap.size, 8, none⟩ = false := (kf 8).trans (by simp [go_sem, *])
  clear kc kf
  obtain ⟨k1_1, kc, kf⟩ := keepB h1 (w.heap.size + 1) (by first | omega | (simp; omega) | (simp; done))
  have c1_1_0 : v1.cell? ⟨w.heap.size + 1, 0, none⟩ = some (.string l.src) := (kc 0).trans (by simp [go_sem, *])
  have f1_1_0 : v1.frozen? ⟨w.heap.size + 1, 0, none⟩ = false := (kf 0).trans (by simp [go_sem, *])
  have c1_1_1 : v1.cell? ⟨w.heap.size + 1, 1, none⟩ = some (.string l.msg) := (kc 1).trans (by simp [go_sem, *])
  have f1_1_1 : v1.frozen? ⟨w.heap.size + 1, 1, none⟩ = false := (kf 1).trans (by simp [go_sem, *])
  have c1_1_2 : v1.cell? ⟨w.heap.size + 1, 2, none⟩ = some (.slice l.args.a l.args.n l.args.c) := (kc 2).trans (by simp [go_sem, *])
  have f1_1_2 : v1.frozen? ⟨w.heap.size + 1, 2, none⟩ = false := (kf 2).trans (by simp [go_sem, *])
  have c1_1_3 : v1.cell? ⟨w.heap.size + 1, 3, none⟩ = some (.int .i64 l.sent) := (kc 3).trans (by simp [go_sem, *])
  have f1_1_3 : v1.frozen? ⟨w.heap.size + 1, 3, none⟩ = false := (kf 3).trans (by simp [go_sem, *])
  clear kc kf
  obtain ⟨k1_2, kc, kf⟩ := keepB h1 (w.heap.size + 1 + 1) (by first | omega | (simp; omega) | (simp; done))
  have c1_2_0 : v1.cell? ⟨w.heap.size + 1 + 1, 0, none⟩ = some (.slice none 0 0) := (kc 0).trans (by simp [go_sem, *])
  have f1_2_0 : v1.frozen? ⟨w.heap.size + 1 + 1, 0, none⟩ = false := (kf 0).trans (by simp [go_sem, *])
  have c1_2_1 : v1.cell? ⟨w.heap.size + 1 + 1, 1, none⟩ = some (.int .i64 0) := (kc 1).trans (by simp [go_sem, *])
  have f1_2_1 : v1.frozen? ⟨w.heap.size + 1 + 1, 1, none⟩ = false := (kf 1).trans (by simp [go_sem, *])
  have c1_2_2 : v1.cell? ⟨w.heap.size + 1 + 1, 2, none⟩ = some (.int .i64 0) := (kc 2).trans (by simp [go_sem, *])
  have f1_2_2 : v1.frozen? ⟨w.heap.size + 1 + 1, 2, none⟩ = false := (kf 2).trans (by simp [go_sem, *])
  have c1_2_3 : v1.cell? ⟨w.heap.size + 1 + 1, 3, none⟩ = some (.int .i64 0) := (kc 3).trans (by simp [go_sem, *])
  have f1_2_3 : v1.frozen? ⟨w.heap.size + 1 + 1, 3, none⟩ = false := (kf 3).trans (by simp [go_sem, *])
  have c1_2_4 : v1.cell? ⟨w.heap.size + 1 + 1, 4, none⟩ = some (.slice none 0 0) := (kc 4).trans (by simp [go_sem, *])
  have f1_2_4 : v1.frozen? ⟨w.heap.size + 1 + 1, 4, none⟩ = false := (kf 4).trans (by simp [go_sem, *])
  have c1_2_5 : v1.cell? ⟨w.heap.size + 1 + 1, 5, none⟩ = some (.slice none 0 0) := (kc 5).trans (by simp [go_sem, *])
  have f1_2_5 : v1.frozen? ⟨w.heap.size + 1 + 1, 5, none⟩ = false := (kf 5).trans (by simp [go_sem, *])
  have c1_2_6 : v1.cell? ⟨w.heap.size + 1 + 1, 6, none⟩ = some (.slice none 0 0) := (kc 6).trans (by simp [go_sem, *])
  have f1_2_6 : v1.frozen? ⟨w.heap.size + 1 + 1, 6, none⟩ = false := (kf 6).trans (by simp [go_sem, *])
  have c1_2_7 : v1.cell? ⟨w.heap.size + 1 + 1, 7, none⟩ = some (.slice none 0 0) := (kc 7).trans (by simp [go_sem, *])
  have f1_2_7 : v1.frozen? ⟨w.heap.size + 1 + 1, 7, none⟩ = false := (kf 7).trans (by simp [go_sem, *])
  have c1_2_8 : v1.cell? ⟨w.heap.size + 1 + 1, 8, none⟩ = some (.int .i64 0) := (kc 8).trans (by simp [go_sem, *])
  have f1_2_8 : v1.frozen? ⟨w.heap.size + 1 + 1, 8, none⟩ = false := (kf 8).trans (by simp [go_sem, *])
  clear kc kf
  go_wp2_with fail
  refine bodyPost_ret (v := .tuple #[sysV { s with dead := wrap64 (s.dead + 1) }, .bool false]) (by simp [results, Try.results33, go_sem, *]) rfl (sysPost HP.out (((H.out.below (by repeat (first | (with_reducible exact Below.refl _ _) | (with_reducible assumption) | ((with_reducible refine Below.setCell ?_ ?_ _); rotate_left; (focus (first | omega | (simp; omega) | (simp; done)))) | ((with_reducible refine Below.alloc ?_ ?_ _); rotate_left; (focus (first | omega | (simp; omega) | (simp; done)))) | (with_reducible refine Below.drew ?_)))).lost).mono (fun b hb => .inl hb)) (by repeat (first | (with_reducible exact Below.refl _ _) | (with_reducible assumption) | ((with_reducible refine Below.setCell ?_ ?_ _); rotate_left; (focus (first | omega | (simp; omega) | (simp; done)))) | ((with_reducible refine Below.alloc ?_ ?_ _); rotate_left; (focus (first | omega | (simp; omega) | (simp; done)))) | (with_reducible refine Below.drew ?_))))

set_option maxRecDepth 100000 in
set_option maxHeartbeats 4000000 in
set_option linter.unusedSimpArgs false in
theorem post_full {P : Nat → Prop} (s : SysC) (σ : PS) (p : ByteArray) (l : LetC) (w : World) (h : SysR P w s σ) (hna : s.actors.n ≤ 1000000) (hnu : s.up.n ≤ 9223372036854775807) (i : Nat) (hr : Ml.reachP σ p = some i) (a : LiveC) (ms : List LetC) (qs : List (LiveC × List LetC)) (hq1 : Rd w w.heap.size 9 s.actors.a s.actors.n ((qs.map (·.1)).flatMap liveL)) (hq2 : ∀ q ∈ qs, MailAt P w q.1 q.2) (hq3 : qs.map plOf = σ.acts) (hqi : qs[i]? = some (a, ms)) (hm : decide ((1024 : Int) ≤ (a.mail.n : Int)) = true) :
    Calls Try.prog 33 #[sysV s, .string p, letV l] w (SysPost P (Ml.post σ p l) w) := by
  have hms : ms.length = a.mail.n := (hq2 _ (List.mem_of_getElem? hqi)).rd.len (fun _ => rfl) (by omega)
  have hai : σ.acts[i]? = some (plOf (a, ms)) := by rw [← hq3, List.getElem?_map, hqi]; rfl
  have HP : Hid (Ml.post σ p l = (Ml.lost σ, false)) := Lib.hid (by unfold Ml.post; rw [hr]; simp only [hai]; rw [if_neg (by simp [plOf, hms]; simp at hm; omega)])
  have C := Lib.hid (fun (W : World) (hW : Below w.heap.size w W) => reach_any s (qs.map (·.1)) σ.ups p W (h.up.up hW) (hq1.up hW) (by omega) hnu)
  rw [Ml.reach_eq σ.ups qs σ hq3 rfl p, hr] at C
  have hil : i < s.actors.n := by
    have h1 := hq1.len (fun _ => rfl) (by omega)
    have h2 := (List.getElem?_eq_some_iff.1 hqi).1
    simp at h1; omega
  obtain ⟨b, off, a', hA, hb, hak, hc⟩ := hq1.at_ (fun _ => rfl) (by omega) hil
  have ea : a' = a := by rw [List.getElem?_map, hqi] at hak; simpa using hak.symm
  subst ea
  have c8 : w.cell? ⟨b, off + i * 9 + 8, none⟩ = some (.slice a'.mail.a a'.mail.n a'.mail.c) := hc 8 _ rfl
  have hix : ∀ W : World, Sem.run Try.prog (Instr.indexAt 23 (.slice s.actors.a s.actors.n s.actors.c) (.int .i64 (i : Int))) W = .ok (.pointer (some ⟨b, off + i * 9, none⟩)) W := by intro W; rw [hA]; go_simp
  have H := Lib.hid h
  have HQ1 := Lib.hid hq1
  have HQ2 := Lib.hid hq2
  have HQ3 := Lib.hid hq3
  have HQI := Lib.hid hqi
  have HMS := Lib.hid hms
  clear h hr hq1 hq2 hq3 hqi hA hak hc hms hai
  go_enter Try.func33, Try.ntmps33
  go_wp2_with fail
  refine (C.out _ (by repeat (first | (with_reducible exact Below.refl _ _) | (with_reducible assumption) | ((with_reducible refine Below.setCell ?_ ?_ _); rotate_left; (focus (first | omega | (simp; omega) | (simp; done)))) | ((with_reducible refine Below.alloc ?_ ?_ _); rotate_left; (focus (first | omega | (simp; omega) | (simp; done)))) | (with_reducible refine Below.drew ?_)))).mono ?_
  rintro e v1 ⟨i', rfl, hi', h1⟩
  obtain rfl := hi' i rfl
  clear hi'
  have z1 := h1.size
  try simp at z1
  have hB1 : Below w.heap.size w v1 := Below.call (w := w) (by repeat (first | (with_reducible exact Below.refl _ _) | (with_reducible assumption) | ((with_reducible refine Below.setCell ?_ ?_ _); rotate_left; (focus (first | omega | (simp; omega) | (simp; done)))) | ((with_reducible refine Below.alloc ?_ ?_ _); rotate_left; (focus (first | omega | (simp; omega) | (simp; done)))) | (with_reducible refine Below.drew ?_))) h1
  obtain ⟨k1_0, kc, kf⟩ := keepB h1 (w.heap.size) (by first | omega | (simp; omega) | (simp; done))
  have c1_0_0 : v1.cell? ⟨w.heap.size, 0, none⟩ = some (.slice s.up.a s.up.n s.up.c) := (kc 0).trans (by simp [go_sem, *])
  have f1_0_0 : v1.frozen? ⟨w.heap.size, 0, none⟩ = false := (kf 0).trans (by simp [go_sem, *])
  have c1_0_1 : v1.cell? ⟨w.heap.size, 1, none⟩ = some (.int .i64 s.moment) := (kc 1).trans (by simp [go_sem, *])
  have f1_0_1 : v1.frozen? ⟨w.heap.size, 1, none⟩ = false := (kf 1).trans (by simp [go_sem, *])
  have c1_0_2 : v1.cell? ⟨w.heap.size, 2, none⟩ = some (.int .i64 s.clock) := (kc 2).trans (by simp [go_sem, *])
  have f1_0_2 : v1.frozen? ⟨w.heap.size, 2, none⟩ = false := (kf 2).trans (by simp [go_sem, *])
  have c1_0_3 : v1.cell? ⟨w.heap.size, 3, none⟩ = some (.int .i64 s.seq) := (kc 3).trans (by simp [go_sem, *])
  have f1_0_3 : v1.frozen? ⟨w.heap.size, 3, none⟩ = false := (kf 3).trans (by simp [go_sem, *])
  have c1_0_4 : v1.cell? ⟨w.heap.size, 4, none⟩ = some (.slice s.actors.a s.actors.n s.actors.c) := (kc 4).trans (by simp [go_sem, *])
  have f1_0_4 : v1.frozen? ⟨w.heap.size, 4, none⟩ = false := (kf 4).trans (by simp [go_sem, *])
  have c1_0_5 : v1.cell? ⟨w.heap.size, 5, none⟩ = some (.slice s.flights.a s.flights.n s.flights.c) := (kc 5).trans (by simp [go_sem, *])
  have f1_0_5 : v1.frozen? ⟨w.heap.size, 5, none⟩ = false := (kf 5).trans (by simp [go_sem, *])
  have c1_0_6 : v1.cell? ⟨w.heap.size, 6, none⟩ = some (.slice s.alarms.a s.alarms.n s.alarms.c) := (kc 6).trans (by simp [go_sem, *])
  have f1_0_6 : v1.frozen? ⟨w.heap.size, 6, none⟩ = false := (kf 6).trans (by simp [go_sem, *])
  have c1_0_7 : v1.cell? ⟨w.heap.size, 7, none⟩ = some (.slice s.asked.a s.asked.n s.asked.c) := (kc 7).trans (by simp [go_sem, *])
  have f1_0_7 : v1.frozen? ⟨w.heap.size, 7, none⟩ = false := (kf 7).trans (by simp [go_sem, *])
  have c1_0_8 : v1.cell? ⟨w.heap.size, 8, none⟩ = some (.int .i64 s.dead) := (kc 8).trans (by simp [go_sem, *])
  have f1_0_8 : v1.frozen? ⟨w.heap.size, 8, none⟩ = false := (kf 8).trans (by simp [go_sem, *])
  clear kc kf
  obtain ⟨k1_1, kc, kf⟩ := keepB h1 (w.heap.size + 1) (by first | omega | (simp; omega) | (simp; done))
  have c1_1_0 : v1.cell? ⟨w.heap.size + 1, 0, none⟩ = some (.string l.src) := (kc 0).trans (by simp [go_sem, *])
  have f1_1_0 : v1.frozen? ⟨w.heap.size + 1, 0, none⟩ = false := (kf 0).trans (by simp [go_sem, *])
  have c1_1_1 : v1.cell? ⟨w.heap.size + 1, 1, none⟩ = some (.string l.msg) := (kc 1).trans (by simp [go_sem, *])
  have f1_1_1 : v1.frozen? ⟨w.heap.size + 1, 1, none⟩ = false := (kf 1).trans (by simp [go_sem, *])
  have c1_1_2 : v1.cell? ⟨w.heap.size + 1, 2, none⟩ = some (.slice l.args.a l.args.n l.args.c) := (kc 2).trans (by simp [go_sem, *])
  have f1_1_2 : v1.frozen? ⟨w.heap.size + 1, 2, none⟩ = false := (kf 2).trans (by simp [go_sem, *])
  have c1_1_3 : v1.cell? ⟨w.heap.size + 1, 3, none⟩ = some (.int .i64 l.sent) := (kc 3).trans (by simp [go_sem, *])
  have f1_1_3 : v1.frozen? ⟨w.heap.size + 1, 3, none⟩ = false := (kf 3).trans (by simp [go_sem, *])
  clear kc kf
  obtain ⟨k1_2, kc, kf⟩ := keepB h1 (w.heap.size + 1 + 1) (by first | omega | (simp; omega) | (simp; done))
  have c1_2_0 : v1.cell? ⟨w.heap.size + 1 + 1, 0, none⟩ = some (.slice none 0 0) := (kc 0).trans (by simp [go_sem, *])
  have f1_2_0 : v1.frozen? ⟨w.heap.size + 1 + 1, 0, none⟩ = false := (kf 0).trans (by simp [go_sem, *])
  have c1_2_1 : v1.cell? ⟨w.heap.size + 1 + 1, 1, none⟩ = some (.int .i64 0) := (kc 1).trans (by simp [go_sem, *])
  have f1_2_1 : v1.frozen? ⟨w.heap.size + 1 + 1, 1, none⟩ = false := (kf 1).trans (by simp [go_sem, *])
  have c1_2_2 : v1.cell? ⟨w.heap.size + 1 + 1, 2, none⟩ = some (.int .i64 0) := (kc 2).trans (by simp [go_sem, *])
  have f1_2_2 : v1.frozen? ⟨w.heap.size + 1 + 1, 2, none⟩ = false := (kf 2).trans (by simp [go_sem, *])
  have c1_2_3 : v1.cell? ⟨w.heap.size + 1 + 1, 3, none⟩ = some (.int .i64 0) := (kc 3).trans (by simp [go_sem, *])
  have f1_2_3 : v1.frozen? ⟨w.heap.size + 1 + 1, 3, none⟩ = false := (kf 3).trans (by simp [go_sem, *])
  have c1_2_4 : v1.cell? ⟨w.heap.size + 1 + 1, 4, none⟩ = some (.slice none 0 0) := (kc 4).trans (by simp [go_sem, *])
  have f1_2_4 : v1.frozen? ⟨w.heap.size + 1 + 1, 4, none⟩ = false := (kf 4).trans (by simp [go_sem, *])
  have c1_2_5 : v1.cell? ⟨w.heap.size + 1 + 1, 5, none⟩ = some (.slice none 0 0) := (kc 5).trans (by simp [go_sem, *])
  have f1_2_5 : v1.frozen? ⟨w.heap.size + 1 + 1, 5, none⟩ = false := (kf 5).trans (by simp [go_sem, *])
  have c1_2_6 : v1.cell? ⟨w.heap.size + 1 + 1, 6, none⟩ = some (.slice none 0 0) := (kc 6).trans (by simp [go_sem, *])
  have f1_2_6 : v1.frozen? ⟨w.heap.size + 1 + 1, 6, none⟩ = false := (kf 6).trans (by simp [go_sem, *])
  have c1_2_7 : v1.cell? ⟨w.heap.size + 1 + 1, 7, none⟩ = some (.slice none 0 0) := (kc 7).trans (by simp [go_sem, *])
  have f1_2_7 : v1.frozen? ⟨w.heap.size + 1 + 1, 7, none⟩ = false := (kf 7).trans (by simp [go_sem, *])
  have c1_2_8 : v1.cell? ⟨w.heap.size + 1 + 1, 8, none⟩ = some (.int .i64 0) := (kc 8).trans (by simp [go_sem, *])
  have f1_2_8 : v1.frozen? ⟨w.heap.size + 1 + 1, 8, none⟩ = false := (kf 8).trans (by simp [go_sem, *])
  clear kc kf
  have d8 : v1.cell? ⟨b, off + i' * 9 + 8, none⟩ = some (.slice a'.mail.a a'.mail.n a'.mail.c) := (hB1.cell (p := ⟨b, off + i' * 9 + 8, none⟩) hb).trans c8
  clear c8
  go_wp2_with fail
  refine bodyPost_ret (v := .tuple #[sysV { s with dead := wrap64 (s.dead + 1) }, .bool false]) (by simp [results, Try.results33, go_sem, *]) rfl (sysPost HP.out (((H.out.below (by repeat (first | (with_reducible exact Below.refl _ _) | (with_reducible assumption) | ((with_reducible refine Below.setCell ?_ ?_ _); rotate_left; (focus (first | omega | (simp; omega) | (simp; done)))) | ((with_reducible refine Below.alloc ?_ ?_ _); rotate_left; (focus (first | omega | (simp; omega) | (simp; done)))) | (with_reducible refine Below.drew ?_)))).lost).mono (fun b hb => .inl hb)) (by repeat (first | (with_reducible exact Below.refl _ _) | (with_reducible assumption) | ((with_reducible refine Below.setCell ?_ ?_ _); rotate_left; (focus (first | omega | (simp; omega) | (simp; done)))) | ((with_reducible refine Below.alloc ?_ ?_ _); rotate_left; (focus (first | omega | (simp; omega) | (simp; done)))) | (with_reducible refine Below.drew ?_))))

set_option maxRecDepth 100000 in
set_option maxHeartbeats 4000000 in
set_option linter.unusedSimpArgs false in
theorem post_room {P : Nat → Prop} (s : SysC) (σ : PS) (p : ByteArray) (l : LetC) (w : World) (h : SysR P w s σ) (hna : s.actors.n ≤ 1000000) (hnu : s.up.n ≤ 9223372036854775807) (i : Nat) (hr : Ml.reachP σ p = some i) (a : LiveC) (ms : List LetC) (qs : List (LiveC × List LetC)) (hq1 : Rd w w.heap.size 9 s.actors.a s.actors.n ((qs.map (·.1)).flatMap liveL)) (hq2 : ∀ q ∈ qs, MailAt P w q.1 q.2) (hq3 : qs.map plOf = σ.acts) (hqi : qs[i]? = some (a, ms)) (hm : decide ((1024 : Int) ≤ (a.mail.n : Int)) = false) :
    Calls Try.prog 33 #[sysV s, .string p, letV l] w (SysPost P (Ml.post σ p l) w) := by
  have hms : ms.length = a.mail.n := (hq2 _ (List.mem_of_getElem? hqi)).rd.len (fun _ => rfl) (by omega)
  have hai : σ.acts[i]? = some (plOf (a, ms)) := by rw [← hq3, List.getElem?_map, hqi]; rfl
  have HP : Hid (Ml.post σ p l = (Ml.mailed σ i (· ++ [l]), true)) := Lib.hid (by unfold Ml.post; rw [hr]; simp only [hai]; rw [if_pos (by simp [plOf, hms]; simp at hm; omega)])
  have C := Lib.hid (fun (W : World) (hW : Below w.heap.size w W) => reach_any s (qs.map (·.1)) σ.ups p W (h.up.up hW) (hq1.up hW) (by omega) hnu)
  rw [Ml.reach_eq σ.ups qs σ hq3 rfl p, hr] at C
  have hil : i < s.actors.n := by
    have h1 := hq1.len (fun _ => rfl) (by omega)
    have h2 := (List.getElem?_eq_some_iff.1 hqi).1
    simp at h1; omega
  obtain ⟨b, off, a', hA, hb, hak, hc⟩ := hq1.at_ (fun _ => rfl) (by omega) hil
  have ea : a' = a := by rw [List.getElem?_map, hqi] at hak; simpa using hak.symm
  subst ea
  have c8 : w.cell? ⟨b, off + i * 9 + 8, none⟩ = some (.slice a'.mail.a a'.mail.n a'.mail.c) := hc 8 _ rfl
  have hix : ∀ W : World, Sem.run Try.prog (Instr.indexAt 23 (.slice s.actors.a s.actors.n s.actors.c) (.int .i64 (i : Int))) W = .ok (.pointer (some ⟨b, off + i * 9, none⟩)) W := by intro W; rw [hA]; go_simp
  have H := Lib.hid h
  have HQ1 := Lib.hid hq1
  have HQ2 := Lib.hid hq2
  have HQ3 := Lib.hid hq3
  have HQI := Lib.hid hqi
  have HMS := Lib.hid hms
  clear h hr hq1 hq2 hq3 hqi hA hak hc hms hai
  go_enter Try.func33, Try.ntmps33
  go_wp2_with fail
  refine (C.out _ (by repeat (first | (with_reducible exact Below.refl _ _) | (with_reducible assumption) | ((with_reducible refine Below.setCell ?_ ?_ _); rotate_left; (focus (first | omega | (simp; omega) | (simp; done)))) | ((with_reducible refine Below.alloc ?_ ?_ _); rotate_left; (focus (first | omega | (simp; omega) | (simp; done)))) | (with_reducible refine Below.drew ?_)))).mono ?_
  rintro e v1 ⟨i', rfl, hi', h1⟩
  obtain rfl := hi' i rfl
  clear hi'
  have z1 := h1.size
  try simp at z1
  have hB1 : Below w.heap.size w v1 := Below.call (w := w) (by repeat (first | (with_reducible exact Below.refl _ _) | (with_reducible assumption) | ((with_reducible refine Below.setCell ?_ ?_ _); rotate_left; (focus (first | omega | (simp; omega) | (simp; done)))) | ((with_reducible refine Below.alloc ?_ ?_ _); rotate_left; (focus (first | omega | (simp; omega) | (simp; done)))) | (with_reducible refine Below.drew ?_))) h1
  obtain ⟨k1_0, kc, kf⟩ := keepB h1 (w.heap.size) (by first | omega | (simp; omega) | (simp; done))
  have c1_0_0 : v1.cell? ⟨w.heap.size, 0, none⟩ = some (.slice s.up.a s.up.n s.up.c) := (kc 0).trans (by simp [go_sem, *])
  have f1_0_0 : v1.frozen? ⟨w.heap.size, 0, none⟩ = false := (kf 0).trans (by simp [go_sem, *])
  have c1_0_1 : v1.cell? ⟨w.heap.size, 1, none⟩ = some (.int .i64 s.moment) := (kc 1).trans (by simp [go_sem, *])
  have f1_0_1 : v1.frozen? ⟨w.heap.size, 1, none⟩ = false := (kf 1).trans (by simp [go_sem, *])
  have c1_0_2 : v1.cell? ⟨w.heap.size, 2, none⟩ = some (.int .i64 s.clock) := (kc 2).trans (by simp [go_sem, *])
  have f1_0_2 : v1.frozen? ⟨w.heap.size, 2, none⟩ = false := (kf 2).trans (by simp [go_sem, *])
  have c1_0_3 : v1.cell? ⟨w.heap.size, 3, none⟩ = some (.int .i64 s.seq) := (kc 3).trans (by simp [go_sem, *])
  have f1_0_3 : v1.frozen? ⟨w.heap.size, 3, none⟩ = false := (kf 3).trans (by simp [go_sem, *])
  have c1_0_4 : v1.cell? ⟨w.heap.size, 4, none⟩ = some (.slice s.actors.a s.actors.n s.actors.c) := (kc 4).trans (by simp [go_sem, *])
  have f1_0_4 : v1.frozen? ⟨w.heap.size, 4, none⟩ = false := (kf 4).trans (by simp [go_sem, *])
  have c1_0_5 : v1.cell? ⟨w.heap.size, 5, none⟩ = some (.slice s.flights.a s.flights.n s.flights.c) := (kc 5).trans (by simp [go_sem, *])
  have f1_0_5 : v1.frozen? ⟨w.heap.size, 5, none⟩ = false := (kf 5).trans (by simp [go_sem, *])
  have c1_0_6 : v1.cell? ⟨w.heap.size, 6, none⟩ = some (.slice s.alarms.a s.alarms.n s.alarms.c) := (kc 6).trans (by simp [go_sem, *])
  have f1_0_6 : v1.frozen? ⟨w.heap.size, 6, none⟩ = false := (kf 6).trans (by simp [go_sem, *])
  have c1_0_7 : v1.cell? ⟨w.heap.size, 7, none⟩ = some (.slice s.asked.a s.asked.n s.asked.c) := (kc 7).trans (by simp [go_sem, *])
  have f1_0_7 : v1.frozen? ⟨w.heap.size, 7, none⟩ = false := (kf 7).trans (by simp [go_sem, *])
  have c1_0_8 : v1.cell? ⟨w.heap.size, 8, none⟩ = some (.int .i64 s.dead) := (kc 8).trans (by simp [go_sem, *])
  have f1_0_8 : v1.frozen? ⟨w.heap.size, 8, none⟩ = false := (kf 8).trans (by simp [go_sem, *])
  clear kc kf
  obtain ⟨k1_1, kc, kf⟩ := keepB h1 (w.heap.size + 1) (by first | omega | (simp; omega) | (simp; done))
  have c1_1_0 : v1.cell? ⟨w.heap.size + 1, 0, none⟩ = some (.string l.src) := (kc 0).trans (by simp [go_sem, *])
  have f1_1_0 : v1.frozen? ⟨w.heap.size + 1, 0, none⟩ = false := (kf 0).trans (by simp [go_sem, *])
  have c1_1_1 : v1.cell? ⟨w.heap.size + 1, 1, none⟩ = some (.string l.msg) := (kc 1).trans (by simp [go_sem, *])
  have f1_1_1 : v1.frozen? ⟨w.heap.size + 1, 1, none⟩ = false := (kf 1).trans (by simp [go_sem, *])
  have c1_1_2 : v1.cell? ⟨w.heap.size + 1, 2, none⟩ = some (.slice l.args.a l.args.n l.args.c) := (kc 2).trans (by simp [go_sem, *])
  have f1_1_2 : v1.frozen? ⟨w.heap.size + 1, 2, none⟩ = false := (kf 2).trans (by simp [go_sem, *])
  have c1_1_3 : v1.cell? ⟨w.heap.size + 1, 3, none⟩ = some (.int .i64 l.sent) := (kc 3).trans (by simp [go_sem, *])
  have f1_1_3 : v1.frozen? ⟨w.heap.size + 1, 3, none⟩ = false := (kf 3).trans (by simp [go_sem, *])
  clear kc kf
  obtain ⟨k1_2, kc, kf⟩ := keepB h1 (w.heap.size + 1 + 1) (by first | omega | (simp; omega) | (simp; done))
  have c1_2_0 : v1.cell? ⟨w.heap.size + 1 + 1, 0, none⟩ = some (.slice none 0 0) := (kc 0).trans (by simp [go_sem, *])
  have f1_2_0 : v1.frozen? ⟨w.heap.size + 1 + 1, 0, none⟩ = false := (kf 0).trans (by simp [go_sem, *])
  have c1_2_1 : v1.cell? ⟨w.heap.size + 1 + 1, 1, none⟩ = some (.int .i64 0) := (kc 1).trans (by simp [go_sem, *])
  have f1_2_1 : v1.frozen? ⟨w.heap.size + 1 + 1, 1, none⟩ = false := (kf 1).trans (by simp [go_sem, *])
  have c1_2_2 : v1.cell? ⟨w.heap.size + 1 + 1, 2, none⟩ = some (.int .i64 0) := (kc 2).trans (by simp [go_sem, *])
  have f1_2_2 : v1.frozen? ⟨w.heap.size + 1 + 1, 2, none⟩ = false := (kf 2).trans (by simp [go_sem, *])
  have c1_2_3 : v1.cell? ⟨w.heap.size + 1 + 1, 3, none⟩ = some (.int .i64 0) := (kc 3).trans (by simp [go_sem, *])
  have f1_2_3 : v1.frozen? ⟨w.heap.size + 1 + 1, 3, none⟩ = false := (kf 3).trans (by simp [go_sem, *])
  have c1_2_4 : v1.cell? ⟨w.heap.size + 1 + 1, 4, none⟩ = some (.slice none 0 0) := (kc 4).trans (by simp [go_sem, *])
  have f1_2_4 : v1.frozen? ⟨w.heap.size + 1 + 1, 4, none⟩ = false := (kf 4).trans (by simp [go_sem, *])
  have c1_2_5 : v1.cell? ⟨w.heap.size + 1 + 1, 5, none⟩ = some (.slice none 0 0) := (kc 5).trans (by simp [go_sem, *])
  have f1_2_5 : v1.frozen? ⟨w.heap.size + 1 + 1, 5, none⟩ = false := (kf 5).trans (by simp [go_sem, *])
  have c1_2_6 : v1.cell? ⟨w.heap.size + 1 + 1, 6, none⟩ = some (.slice none 0 0) := (kc 6).trans (by simp [go_sem, *])
  have f1_2_6 : v1.frozen? ⟨w.heap.size + 1 + 1, 6, none⟩ = false := (kf 6).trans (by simp [go_sem, *])
  have c1_2_7 : v1.cell? ⟨w.heap.size + 1 + 1, 7, none⟩ = some (.slice none 0 0) := (kc 7).trans (by simp [go_sem, *])
  have f1_2_7 : v1.frozen? ⟨w.heap.size + 1 + 1, 7, none⟩ = false := (kf 7).trans (by simp [go_sem, *])
  have c1_2_8 : v1.cell? ⟨w.heap.size + 1 + 1, 8, none⟩ = some (.int .i64 0) := (kc 8).trans (by simp [go_sem, *])
  have f1_2_8 : v1.frozen? ⟨w.heap.size + 1 + 1, 8, none⟩ = false := (kf 8).trans (by simp [go_sem, *])
  clear kc kf
  have d8 : v1.cell? ⟨b, off + i' * 9 + 8, none⟩ = some (.slice a'.mail.a a'.mail.n a'.mail.c) := (hB1.cell (p := ⟨b, off + i' * 9 + 8, none⟩) hb).trans c8
  clear c8
  go_wp2_with fail
  refine (clone75 _ _ _ _ _ (HQ1.out.up hB1) hna).mono ?_
  rintro e v2 ⟨u, rfl, ho, h2⟩
  clear d8 hix
  have z2 := h2.size
  try simp at z2
  have hB2 : Below w.heap.size w v2 := Below.call (w := w) (by repeat (first | (with_reducible exact Below.refl _ _) | (with_reducible assumption) | ((with_reducible refine Below.setCell ?_ ?_ _); rotate_left; (focus (first | omega | (simp; omega) | (simp; done)))) | ((with_reducible refine Below.alloc ?_ ?_ _); rotate_left; (focus (first | omega | (simp; omega) | (simp; done)))) | (with_reducible refine Below.drew ?_))) h2
  obtain ⟨k2_0, kc, kf⟩ := keepB h2 (w.heap.size) (by first | omega | (simp; omega) | (simp; done))
  have c2_0_0 : v2.cell? ⟨w.heap.size, 0, none⟩ = some (.slice s.up.a s.up.n s.up.c) := (kc 0).trans (by simp [go_sem, *])
  have f2_0_0 : v2.frozen? ⟨w.heap.size, 0, none⟩ = false := (kf 0).trans (by simp [go_sem, *])
  have c2_0_1 : v2.cell? ⟨w.heap.size, 1, none⟩ = some (.int .i64 s.moment) := (kc 1).trans (by simp [go_sem, *])
  have f2_0_1 : v2.frozen? ⟨w.heap.size, 1, none⟩ = false := (kf 1).trans (by simp [go_sem, *])
  have c2_0_2 : v2.cell? ⟨w.heap.size, 2, none⟩ = some (.int .i64 s.clock) := (kc 2).trans (by simp [go_sem, *])
  have f2_0_2 : v2.frozen? ⟨w.heap.size, 2, none⟩ = false := (kf 2).trans (by simp [go_sem, *])
  have c2_0_3 : v2.cell? ⟨w.heap.size, 3, none⟩ = some (.int .i64 s.seq) := (kc 3).trans (by simp [go_sem, *])
  have f2_0_3 : v2.frozen? ⟨w.heap.size, 3, none⟩ = false := (kf 3).trans (by simp [go_sem, *])
  have c2_0_4 : v2.cell? ⟨w.heap.size, 4, none⟩ = some (.slice s.actors.a s.actors.n s.actors.c) := (kc 4).trans (by simp [go_sem, *])
  have f2_0_4 : v2.frozen? ⟨w.heap.size, 4, none⟩ = false := (kf 4).trans (by simp [go_sem, *])
  have c2_0_5 : v2.cell? ⟨w.heap.size, 5, none⟩ = some (.slice s.flights.a s.flights.n s.flights.c) := (kc 5).trans (by simp [go_sem, *])
  have f2_0_5 : v2.frozen? ⟨w.heap.size, 5, none⟩ = false := (kf 5).trans (by simp [go_sem, *])
  have c2_0_6 : v2.cell? ⟨w.heap.size, 6, none⟩ = some (.slice s.alarms.a s.alarms.n s.alarms.c) := (kc 6).trans (by simp [go_sem, *])
  have f2_0_6 : v2.frozen? ⟨w.heap.size, 6, none⟩ = false := (kf 6).trans (by simp [go_sem, *])
  have c2_0_7 : v2.cell? ⟨w.heap.size, 7, none⟩ = some (.slice s.asked.a s.asked.n s.asked.c) := (kc 7).trans (by simp [go_sem, *])
  have f2_0_7 : v2.frozen? ⟨w.heap.size, 7, none⟩ = false := (kf 7).trans (by simp [go_sem, *])
  have c2_0_8 : v2.cell? ⟨w.heap.size, 8, none⟩ = some (.int .i64 s.dead) := (kc 8).trans (by simp [go_sem, *])
  have f2_0_8 : v2.frozen? ⟨w.heap.size, 8, none⟩ = false := (kf 8).trans (by simp [go_sem, *])
  clear kc kf
  obtain ⟨k2_1, kc, kf⟩ := keepB h2 (w.heap.size + 1) (by first | omega | (simp; omega) | (simp; done))
  have c2_1_0 : v2.cell? ⟨w.heap.size + 1, 0, none⟩ = some (.string l.src) := (kc 0).trans (by simp [go_sem, *])
  have f2_1_0 : v2.frozen? ⟨w.heap.size + 1, 0, none⟩ = false := (kf 0).trans (by simp [go_sem, *])
  have c2_1_1 : v2.cell? ⟨w.heap.size + 1, 1, none⟩ = some (.string l.msg) := (kc 1).trans (by simp [go_sem, *])
  have f2_1_1 : v2.frozen? ⟨w.heap.size + 1, 1, none⟩ = false := (kf 1).trans (by simp [go_sem, *])
  have c2_1_2 : v2.cell? ⟨w.heap.size + 1, 2, none⟩ = some (.slice l.args.a l.args.n l.args.c) := (kc 2).trans (by simp [go_sem, *])
  have f2_1_2 : v2.frozen? ⟨w.heap.size + 1, 2, none⟩ = false := (kf 2).trans (by simp [go_sem, *])
  have c2_1_3 : v2.cell? ⟨w.heap.size + 1, 3, none⟩ = some (.int .i64 l.sent) := (kc 3).trans (by simp [go_sem, *])
  have f2_1_3 : v2.frozen? ⟨w.heap.size + 1, 3, none⟩ = false := (kf 3).trans (by simp [go_sem, *])
  clear kc kf
  obtain ⟨k2_2, kc, kf⟩ := keepB h2 (w.heap.size + 1 + 1) (by first | omega | (simp; omega) | (simp; done))
  have c2_2_0 : v2.cell? ⟨w.heap.size + 1 + 1, 0, none⟩ = some (.slice none 0 0) := (kc 0).trans (by simp [go_sem, *])
  have f2_2_0 : v2.frozen? ⟨w.heap.size + 1 + 1, 0, none⟩ = false := (kf 0).trans (by simp [go_sem, *])
  have c2_2_1 : v2.cell? ⟨w.heap.size + 1 + 1, 1, none⟩ = some (.int .i64 0) := (kc 1).trans (by simp [go_sem, *])
  have f2_2_1 : v2.frozen? ⟨w.heap.size + 1 + 1, 1, none⟩ = false := (kf 1).trans (by simp [go_sem, *])
  have c2_2_2 : v2.cell? ⟨w.heap.size + 1 + 1, 2, none⟩ = some (.int .i64 0) := (kc 2).trans (by simp [go_sem, *])
  have f2_2_2 : v2.frozen? ⟨w.heap.size + 1 + 1, 2, none⟩ = false := (kf 2).trans (by simp [go_sem, *])
  have c2_2_3 : v2.cell? ⟨w.heap.size + 1 + 1, 3, none⟩ = some (.int .i64 0) := (kc 3).trans (by simp [go_sem, *])
  have f2_2_3 : v2.frozen? ⟨w.heap.size + 1 + 1, 3, none⟩ = false := (kf 3).trans (by simp [go_sem, *])
  have c2_2_4 : v2.cell? ⟨w.heap.size + 1 + 1, 4, none⟩ = some (.slice none 0 0) := (kc 4).trans (by simp [go_sem, *])
  have f2_2_4 : v2.frozen? ⟨w.heap.size + 1 + 1, 4, none⟩ = false := (kf 4).trans (by simp [go_sem, *])
  have c2_2_5 : v2.cell? ⟨w.heap.size + 1 + 1, 5, none⟩ = some (.slice none 0 0) := (kc 5).trans (by simp [go_sem, *])
  have f2_2_5 : v2.frozen? ⟨w.heap.size + 1 + 1, 5, none⟩ = false := (kf 5).trans (by simp [go_sem, *])
  have c2_2_6 : v2.cell? ⟨w.heap.size + 1 + 1, 6, none⟩ = some (.slice none 0 0) := (kc 6).trans (by simp [go_sem, *])
  have f2_2_6 : v2.frozen? ⟨w.heap.size + 1 + 1, 6, none⟩ = false := (kf 6).trans (by simp [go_sem, *])
  have c2_2_7 : v2.cell? ⟨w.heap.size + 1 + 1, 7, none⟩ = some (.slice none 0 0) := (kc 7).trans (by simp [go_sem, *])
  have f2_2_7 : v2.frozen? ⟨w.heap.size + 1 + 1, 7, none⟩ = false := (kf 7).trans (by simp [go_sem, *])
  have c2_2_8 : v2.cell? ⟨w.heap.size + 1 + 1, 8, none⟩ = some (.int .i64 0) := (kc 8).trans (by simp [go_sem, *])
  have f2_2_8 : v2.frozen? ⟨w.heap.size + 1 + 1, 8, none⟩ = false := (kf 8).trans (by simp [go_sem, *])
  clear kc kf
  clear c1_0_0 f1_0_0 c1_0_1 f1_0_1 c1_0_2 f1_0_2 c1_0_3 f1_0_3 c1_0_4 f1_0_4 c1_0_5 f1_0_5 c1_0_6 f1_0_6 c1_0_7 f1_0_7 c1_0_8 f1_0_8 c1_1_0 f1_1_0 c1_1_1 f1_1_1 c1_1_2 f1_1_2 c1_1_3 f1_1_3 c1_2_0 f1_2_0 c1_2_1 f1_2_1 c1_2_2 f1_2_2 c1_2_3 f1_2_3 c1_2_4 f1_2_4 c1_2_5 f1_2_5 c1_2_6 f1_2_6 c1_2_7 f1_2_7 c1_2_8 f1_2_8
  obtain ⟨g, a2, hA, hg1, hg2, hak, hc, hfz⟩ := own_at ho (fun _ => rfl) (by omega) hil
  have ea : a2 = a' := by rw [List.getElem?_map, HQI.out] at hak; simpa using hak.symm
  subst ea
  have c8 : v2.cell? ⟨g, i' * 9 + 8, none⟩ = some (.slice a2.mail.a a2.mail.n a2.mail.c) := hc 8 _ rfl
  have f8 : v2.frozen? ⟨g, i' * 9 + 8, none⟩ = false := hfz _
  have hix : ∀ W : World, Sem.run Try.prog (Instr.indexAt 23 (.slice u.a s.actors.n u.c) (.int .i64 (i' : Int))) W = .ok (.pointer (some ⟨g, i' * 9, none⟩)) W := by intro W; rw [hA]; go_simp
  have HA := Lib.hid hA
  have HO := Lib.hid ho
  clear hA ho hak hc hfz
  go_wp2_with fail
  have m1 : ¬ g = w.heap.size := by omega
  have m2 : ¬ g = w.heap.size + 1 := by omega
  have m3 : ¬ g = v2.heap.size := by omega
  have m4 : ¬ w.heap.size = v2.heap.size := by omega
  have m5 : ¬ w.heap.size + 1 = v2.heap.size := by omega
  have CL := Lib.hid (fun (W : World) => clip76 a2.mail.a a2.mail.n a2.mail.c W (HQ2.out _ (List.mem_of_getElem? HQI.out)).cap)
  have HML := Lib.hid (show Rd v2 v2.heap.size 4 a2.mail.a a2.mail.n (ms.flatMap letL) from (HQ2.out _ (List.mem_of_getElem? HQI.out)).rd.up hB2)
  obtain ⟨i4, hi4, hz40, hz41, hz42⟩ := info_parts info34
  have HMW := Lib.hid (show Rd w w.heap.size 4 a2.mail.a a2.mail.n (ms.flatMap letL) from (HQ2.out _ (List.mem_of_getElem? HQI.out)).rd)
  have hm2 : a2.mail.n < 1024 := by simp at hm; omega
  refine wp_region_held_drew (S := (fun w' => w'.cell? ⟨w.heap.size, 4, none⟩ = some (.slice u.a s.actors.n u.c) ∧ w'.cell? ⟨w.heap.size + 1, 0, none⟩ = some (.string l.src) ∧ w'.cell? ⟨w.heap.size + 1, 1, none⟩ = some (.string l.msg) ∧ w'.cell? ⟨w.heap.size + 1, 2, none⟩ = some (.slice l.args.a l.args.n l.args.c) ∧ w'.cell? ⟨w.heap.size + 1, 3, none⟩ = some (.int .i64 l.sent))) (by kernel_rfl) ?_ (fun hHeld => ?_)
  · simp [go_sem, *]
  refine wpAnyH_take (i := 0) (v := ?_) rfl (by kernel_rfl) (by kernel_rfl) (by kernel_rfl) (fun _ _ _ h => h) (Or.inl ⟨by rfl, ?_⟩) (by assumption) ?_
  rotate_left
  · intro w hSw; (try dsimp only at hSw); go_simp; (first | done | (with_reducible rfl))
  try simp only [Act.put, List.getElem_toArray, List.getElem_cons_succ, List.getElem_cons_zero, List.setIfInBounds_toArray, List.set_cons_zero, List.set_cons_succ]
  refine wpAnyH_take (i := 1) (v := ?_) rfl (by kernel_rfl) (by kernel_rfl) (by kernel_rfl) (fun _ _ _ h => h) (Or.inl ⟨by rfl, ?_⟩) (by assumption) ?_
  rotate_left
  · intro w hSw; (try dsimp only at hSw); go_simp; (first | done | (with_reducible rfl))
  try simp only [Act.put, List.getElem_toArray, List.getElem_cons_succ, List.getElem_cons_zero, List.setIfInBounds_toArray, List.set_cons_zero, List.set_cons_succ]
  refine wpAnyH_take (i := 2) (v := ?_) rfl (by kernel_rfl) (by kernel_rfl) (by kernel_rfl) (fun _ _ _ h => h) (Or.inl ⟨by rfl, ?_⟩) (by assumption) ?_
  rotate_left
  · intro w hSw; (try dsimp only at hSw); go_simp; (first | done | (with_reducible rfl))
  try simp only [Act.put, List.getElem_toArray, List.getElem_cons_succ, List.getElem_cons_zero, List.setIfInBounds_toArray, List.set_cons_zero, List.set_cons_succ]
  refine wpAnyH_take (i := 3) (v := ?_) rfl (by kernel_rfl) (by kernel_rfl) (by kernel_rfl) (fun _ _ _ h => h) (Or.inl ⟨by rfl, ?_⟩) (by assumption) ?_
  rotate_left
  · intro w hSw; (try dsimp only at hSw); go_simp; (first | done | (with_reducible rfl))
  try simp only [Act.put, List.getElem_toArray, List.getElem_cons_succ, List.getElem_cons_zero, List.setIfInBounds_toArray, List.set_cons_zero, List.set_cons_succ]
  refine wpAnyH_take (i := 4) (v := ?_) rfl (by kernel_rfl) (by kernel_rfl) (by kernel_rfl) (fun _ _ _ h => h) (Or.inl ⟨by rfl, ?_⟩) (by assumption) ?_
  rotate_left
  · intro w hSw; (try dsimp only at hSw); go_simp; (first | done | (with_reducible rfl))
  try simp only [Act.put, List.getElem_toArray, List.getElem_cons_succ, List.getElem_cons_zero, List.setIfInBounds_toArray, List.set_cons_zero, List.set_cons_succ]
  refine wpAnyH_take (i := 5) (v := ?_) rfl (by kernel_rfl) (by kernel_rfl) (by kernel_rfl) (fun _ _ _ h => h) (Or.inl ⟨by rfl, ?_⟩) (by assumption) ?_
  rotate_left
  · intro w hSw; (try dsimp only at hSw); go_simp; (first | done | (with_reducible rfl))
  try simp only [Act.put, List.getElem_toArray, List.getElem_cons_succ, List.getElem_cons_zero, List.setIfInBounds_toArray, List.set_cons_zero, List.set_cons_succ]
  refine wpAnyH_take (i := 6) (v := ?_) rfl (by kernel_rfl) (by kernel_rfl) (by kernel_rfl) (fun _ _ _ h => h) (Or.inl ⟨by rfl, ?_⟩) (by assumption) ?_
  rotate_left
  · intro w hSw; (try dsimp only at hSw); go_simp; (first | done | (with_reducible rfl))
  try simp only [Act.put, List.getElem_toArray, List.getElem_cons_succ, List.getElem_cons_zero, List.setIfInBounds_toArray, List.set_cons_zero, List.set_cons_succ]
  refine wpAnyH_take (i := 7) (v := ?_) rfl (by kernel_rfl) (by kernel_rfl) (by kernel_rfl) (fun _ _ _ h => h) (Or.inl ⟨by rfl, ?_⟩) (by assumption) ?_
  rotate_left
  · intro w hSw; (try dsimp only at hSw); go_simp; (first | done | (with_reducible rfl))
  try simp only [Act.put, List.getElem_toArray, List.getElem_cons_succ, List.getElem_cons_zero, List.setIfInBounds_toArray, List.set_cons_zero, List.set_cons_succ]
  refine wpAnyH_take (i := 10) (v := ?_) rfl (by kernel_rfl) (by kernel_rfl) (by kernel_rfl) (fun _ _ _ h => h) (Or.inl ⟨by rfl, ?_⟩) (by assumption) ?_
  rotate_left
  · intro w hSw; (try dsimp only at hSw); go_simp; (first | done | (with_reducible rfl))
  try simp only [Act.put, List.getElem_toArray, List.getElem_cons_succ, List.getElem_cons_zero, List.setIfInBounds_toArray, List.set_cons_zero, List.set_cons_succ]
  refine wpAnyH_ready (rs := [8, 11]) (by kernel_rfl) (by simp) ?_
  refine AllReadyH.cons rfl (fun K hK => ?_) (AllReadyH.cons rfl (fun K hK => ?_) AllReadyH.nil)
  · go_simp
    refine hK.out _ _ ?_ (fun hHeld => ?_)
    · simp [go_sem, *]
    clear hK K
    try simp only [Act.put, List.getElem_toArray, List.getElem_cons_succ, List.getElem_cons_zero, List.setIfInBounds_toArray, List.set_cons_zero, List.set_cons_succ]
    refine wpAnyH_ready (rs := [9, 11]) (by kernel_rfl) (by simp) ?_
    refine AllReadyH.cons rfl (fun K hK => ?_) (AllReadyH.cons rfl (fun K hK => ?_) AllReadyH.nil)
    · go_simp
      refine (CL.out _).mono ?_
      rintro e _ ⟨rfl, rfl⟩
      refine hK.out _ _ ?_ (fun hHeld => ?_)
      · simp [go_sem, *]
      clear hK K
      try simp only [Act.put, List.getElem_toArray, List.getElem_cons_succ, List.getElem_cons_zero, List.setIfInBounds_toArray, List.set_cons_zero, List.set_cons_succ]
      refine wpAnyH_ready (rs := [11]) (by kernel_rfl) (by simp) ?_
      refine AllReadyH.cons rfl (fun K hK => ?_) AllReadyH.nil
      go_simp
      refine hK.out _ _ ?_ (fun hHeld => ?_)
      · simp [go_sem, *]
      clear hK K
      try simp only [Act.put, List.getElem_toArray, List.getElem_cons_succ, List.getElem_cons_zero, List.setIfInBounds_toArray, List.set_cons_zero, List.set_cons_succ]
      refine wpAnyH_ready (rs := [12]) (by kernel_rfl) (by simp) ?_
      refine AllReadyH.cons rfl (fun K hK => ?_) AllReadyH.nil
      refine step_append_grows rfl (.tmp 46) (.tmp 48) 74 rfl 34 i4 _ 4 64 Try.underlying74 hi4 hz40 hz41 hz42 rfl (by decide) a2.mail.a a2.mail.n a2.mail.n (ms.flatMap letL) (by simp [Act.eval, Act.put]) (fun hA => ⟨HMW.out.none0 hA, HMW.out.none0 hA⟩) HMW.out.1 (HMW.out.below (by repeat (first | (with_reducible exact Below.refl _ _) | (with_reducible assumption) | ((with_reducible refine Below.setCell ?_ ?_ _); rotate_left; (focus (first | omega | (simp; omega) | (simp; done)))) | ((with_reducible refine Below.alloc ?_ ?_ _); rotate_left; (focus (first | omega | (simp; omega) | (simp; done)))) | (with_reducible refine Below.drew ?_))) (Nat.le_refl _)).holds ⟨v2.heap.size, 0, none⟩ 1 1 (letL l) (by simp [Act.eval, Act.put]) rfl (cells_new0 _ _ _ _ (by simp)) (by simp [Value.oneCell']) (by omega) (by rw [ml_val]; omega) (by omega) ?_
      intro v5 v3 ho5 hg5
      obtain ⟨u5, _, rfl, hlo5⟩ := own_sl ho5
      have h3 := Below.of_grown hg5
      clear hg5
      have z3 := h3.size
      try simp at z3
      have hB3 : Below w.heap.size w v3 := Below.call (w := w) (by repeat (first | (with_reducible exact Below.refl _ _) | (with_reducible assumption) | ((with_reducible refine Below.setCell ?_ ?_ _); rotate_left; (focus (first | omega | (simp; omega) | (simp; done)))) | ((with_reducible refine Below.alloc ?_ ?_ _); rotate_left; (focus (first | omega | (simp; omega) | (simp; done)))) | (with_reducible refine Below.drew ?_))) h3
      obtain ⟨k3_0, kc, kf⟩ := keepB h3 (w.heap.size) (by first | omega | (simp; omega) | (simp; done))
      have c3_0_0 : v3.cell? ⟨w.heap.size, 0, none⟩ = some (.slice s.up.a s.up.n s.up.c) := (kc 0).trans (by simp [go_sem, *])
      have f3_0_0 : v3.frozen? ⟨w.heap.size, 0, none⟩ = false := (kf 0).trans (by simp [go_sem, *])
      have c3_0_1 : v3.cell? ⟨w.heap.size, 1, none⟩ = some (.int .i64 s.moment) := (kc 1).trans (by simp [go_sem, *])
      have f3_0_1 : v3.frozen? ⟨w.heap.size, 1, none⟩ = false := (kf 1).trans (by simp [go_sem, *])
      have c3_0_2 : v3.cell? ⟨w.heap.size, 2, none⟩ = some (.int .i64 s.clock) := (kc 2).trans (by simp [go_sem, *])
      have f3_0_2 : v3.frozen? ⟨w.heap.size, 2, none⟩ = false := (kf 2).trans (by simp [go_sem, *])
      have c3_0_3 : v3.cell? ⟨w.heap.size, 3, none⟩ = some (.int .i64 s.seq) := (kc 3).trans (by simp [go_sem, *])
      have f3_0_3 : v3.frozen? ⟨w.heap.size, 3, none⟩ = false := (kf 3).trans (by simp [go_sem, *])
      have c3_0_4 : v3.cell? ⟨w.heap.size, 4, none⟩ = some (.slice u.a s.actors.n u.c) := (kc 4).trans (by simp [go_sem, *])
      have f3_0_4 : v3.frozen? ⟨w.heap.size, 4, none⟩ = false := (kf 4).trans (by simp [go_sem, *])
      have c3_0_5 : v3.cell? ⟨w.heap.size, 5, none⟩ = some (.slice s.flights.a s.flights.n s.flights.c) := (kc 5).trans (by simp [go_sem, *])
      have f3_0_5 : v3.frozen? ⟨w.heap.size, 5, none⟩ = false := (kf 5).trans (by simp [go_sem, *])
      have c3_0_6 : v3.cell? ⟨w.heap.size, 6, none⟩ = some (.slice s.alarms.a s.alarms.n s.alarms.c) := (kc 6).trans (by simp [go_sem, *])
      have f3_0_6 : v3.frozen? ⟨w.heap.size, 6, none⟩ = false := (kf 6).trans (by simp [go_sem, *])
      have c3_0_7 : v3.cell? ⟨w.heap.size, 7, none⟩ = some (.slice s.asked.a s.asked.n s.asked.c) := (kc 7).trans (by simp [go_sem, *])
      have f3_0_7 : v3.frozen? ⟨w.heap.size, 7, none⟩ = false := (kf 7).trans (by simp [go_sem, *])
      have c3_0_8 : v3.cell? ⟨w.heap.size, 8, none⟩ = some (.int .i64 s.dead) := (kc 8).trans (by simp [go_sem, *])
      have f3_0_8 : v3.frozen? ⟨w.heap.size, 8, none⟩ = false := (kf 8).trans (by simp [go_sem, *])
      clear kc kf
      obtain ⟨k3_1, kc, kf⟩ := keepB h3 (w.heap.size + 1) (by first | omega | (simp; omega) | (simp; done))
      have c3_1_0 : v3.cell? ⟨w.heap.size + 1, 0, none⟩ = some (.string l.src) := (kc 0).trans (by simp [go_sem, *])
      have f3_1_0 : v3.frozen? ⟨w.heap.size + 1, 0, none⟩ = false := (kf 0).trans (by simp [go_sem, *])
      have c3_1_1 : v3.cell? ⟨w.heap.size + 1, 1, none⟩ = some (.string l.msg) := (kc 1).trans (by simp [go_sem, *])
      have f3_1_1 : v3.frozen? ⟨w.heap.size + 1, 1, none⟩ = false := (kf 1).trans (by simp [go_sem, *])
      have c3_1_2 : v3.cell? ⟨w.heap.size + 1, 2, none⟩ = some (.slice l.args.a l.args.n l.args.c) := (kc 2).trans (by simp [go_sem, *])
      have f3_1_2 : v3.frozen? ⟨w.heap.size + 1, 2, none⟩ = false := (kf 2).trans (by simp [go_sem, *])
      have c3_1_3 : v3.cell? ⟨w.heap.size + 1, 3, none⟩ = some (.int .i64 l.sent) := (kc 3).trans (by simp [go_sem, *])
      have f3_1_3 : v3.frozen? ⟨w.heap.size + 1, 3, none⟩ = false := (kf 3).trans (by simp [go_sem, *])
      clear kc kf
      obtain ⟨k3_2, kc, kf⟩ := keepB h3 (w.heap.size + 1 + 1) (by first | omega | (simp; omega) | (simp; done))
      have c3_2_0 : v3.cell? ⟨w.heap.size + 1 + 1, 0, none⟩ = some (.slice none 0 0) := (kc 0).trans (by simp [go_sem, *])
      have f3_2_0 : v3.frozen? ⟨w.heap.size + 1 + 1, 0, none⟩ = false := (kf 0).trans (by simp [go_sem, *])
      have c3_2_1 : v3.cell? ⟨w.heap.size + 1 + 1, 1, none⟩ = some (.int .i64 0) := (kc 1).trans (by simp [go_sem, *])
      have f3_2_1 : v3.frozen? ⟨w.heap.size + 1 + 1, 1, none⟩ = false := (kf 1).trans (by simp [go_sem, *])
      have c3_2_2 : v3.cell? ⟨w.heap.size + 1 + 1, 2, none⟩ = some (.int .i64 0) := (kc 2).trans (by simp [go_sem, *])
      have f3_2_2 : v3.frozen? ⟨w.heap.size + 1 + 1, 2, none⟩ = false := (kf 2).trans (by simp [go_sem, *])
      have c3_2_3 : v3.cell? ⟨w.heap.size + 1 + 1, 3, none⟩ = some (.int .i64 0) := (kc 3).trans (by simp [go_sem, *])
      have f3_2_3 : v3.frozen? ⟨w.heap.size + 1 + 1, 3, none⟩ = false := (kf 3).trans (by simp [go_sem, *])
      have c3_2_4 : v3.cell? ⟨w.heap.size + 1 + 1, 4, none⟩ = some (.slice none 0 0) := (kc 4).trans (by simp [go_sem, *])
      have f3_2_4 : v3.frozen? ⟨w.heap.size + 1 + 1, 4, none⟩ = false := (kf 4).trans (by simp [go_sem, *])
      have c3_2_5 : v3.cell? ⟨w.heap.size + 1 + 1, 5, none⟩ = some (.slice none 0 0) := (kc 5).trans (by simp [go_sem, *])
      have f3_2_5 : v3.frozen? ⟨w.heap.size + 1 + 1, 5, none⟩ = false := (kf 5).trans (by simp [go_sem, *])
      have c3_2_6 : v3.cell? ⟨w.heap.size + 1 + 1, 6, none⟩ = some (.slice none 0 0) := (kc 6).trans (by simp [go_sem, *])
      have f3_2_6 : v3.frozen? ⟨w.heap.size + 1 + 1, 6, none⟩ = false := (kf 6).trans (by simp [go_sem, *])
      have c3_2_7 : v3.cell? ⟨w.heap.size + 1 + 1, 7, none⟩ = some (.slice none 0 0) := (kc 7).trans (by simp [go_sem, *])
      have f3_2_7 : v3.frozen? ⟨w.heap.size + 1 + 1, 7, none⟩ = false := (kf 7).trans (by simp [go_sem, *])
      have c3_2_8 : v3.cell? ⟨w.heap.size + 1 + 1, 8, none⟩ = some (.int .i64 0) := (kc 8).trans (by simp [go_sem, *])
      have f3_2_8 : v3.frozen? ⟨w.heap.size + 1 + 1, 8, none⟩ = false := (kf 8).trans (by simp [go_sem, *])
      clear kc kf
      clear c2_0_0 f2_0_0 c2_0_1 f2_0_1 c2_0_2 f2_0_2 c2_0_3 f2_0_3 c2_0_4 f2_0_4 c2_0_5 f2_0_5 c2_0_6 f2_0_6 c2_0_7 f2_0_7 c2_0_8 f2_0_8 c2_1_0 f2_1_0 c2_1_1 f2_1_1 c2_1_2 f2_1_2 c2_1_3 f2_1_3 c2_2_0 f2_2_0 c2_2_1 f2_2_1 c2_2_2 f2_2_2 c2_2_3 f2_2_3 c2_2_4 f2_2_4 c2_2_5 f2_2_5 c2_2_6 f2_2_6 c2_2_7 f2_2_7 c2_2_8 f2_2_8
      obtain ⟨kg, kc, kf⟩ := keepB h3 g (by first | omega | (simp; omega) | (simp; done))
      have c8' : v3.cell? ⟨g, i' * 9 + 8, none⟩ = some (.slice a2.mail.a a2.mail.n a2.mail.c) := (kc _).trans (by simp [go_sem, *])
      have f8' : v3.frozen? ⟨g, i' * 9 + 8, none⟩ = false := (kf _).trans (by simp [go_sem, *])
      clear kc kf c8 f8
      have HO5 := Lib.hid ho5
      have HLO5 := Lib.hid hlo5
      have HO3 := Lib.hid (own_below ((own_set_other HO.out ⟨w.heap.size, 4, none⟩ (.slice u.a s.actors.n u.c) (by rw [HA.out]; simp [Value.ownBlock]; omega)).alloc _).drew h3)
      clear ho5 hlo5
      refine hK.out _ _ ?_ (fun hHeld => ?_)
      · simp [go_sem, *]
      clear hK K
      try simp only [Act.put, List.getElem_toArray, List.getElem_cons_succ, List.getElem_cons_zero, List.setIfInBounds_toArray, List.set_cons_zero, List.set_cons_succ]
      refine wpAnyH_take (i := 13) (v := ?_) rfl (by kernel_rfl) (by kernel_rfl) (by kernel_rfl) (fun _ _ _ h => h) (Or.inl ⟨by rfl, ?_⟩) (by assumption) ?_
      rotate_left
      · intro w hSw; (try dsimp only at hSw); go_simp; (first | done | (with_reducible rfl))
      try simp only [Act.put, List.getElem_toArray, List.getElem_cons_succ, List.getElem_cons_zero, List.setIfInBounds_toArray, List.set_cons_zero, List.set_cons_succ]
      refine wpAnyH_take (i := 14) (v := ?_) rfl (by kernel_rfl) (by kernel_rfl) (by kernel_rfl) (fun _ _ _ h => h) (Or.inl ⟨by rfl, ?_⟩) (by assumption) ?_
      rotate_left
      · intro w hSw; (try dsimp only at hSw); go_simp; (first | done | (with_reducible rfl))
      try simp only [Act.put, List.getElem_toArray, List.getElem_cons_succ, List.getElem_cons_zero, List.setIfInBounds_toArray, List.set_cons_zero, List.set_cons_succ]
      refine wpAnyH_ready (rs := [15]) (by kernel_rfl) (by simp) ?_
      refine AllReadyH.cons rfl (fun K hK => ?_) AllReadyH.nil
      go_simp
      refine hK.out _ _ ?_ (fun hHeld => ?_)
      · simp [go_sem, *]
      clear hK K
      try simp only [Act.put, List.getElem_toArray, List.getElem_cons_succ, List.getElem_cons_zero, List.setIfInBounds_toArray, List.set_cons_zero, List.set_cons_succ]
      refine wpAnyH_done (by kernel_rfl) ?_ _
      go_wp2_with fail
      refine bodyPost_ret (v := .tuple #[sysV { s with actors := ⟨u.a, s.actors.n, u.c⟩ }, .bool true]) (by simp [results, Try.results33, go_sem, *]) rfl (sysPost HP.out ?_ (by repeat (first | (with_reducible exact Below.refl _ _) | (with_reducible assumption) | ((with_reducible refine Below.setCell ?_ ?_ _); rotate_left; (focus (first | omega | (simp; omega) | (simp; done)))) | ((with_reducible refine Below.alloc ?_ ?_ _); rotate_left; (focus (first | omega | (simp; omega) | (simp; done)))) | (with_reducible refine Below.drew ?_))))
      refine sysR_mailed (v3 := v3) (m := ⟨u5.a, a2.mail.n + 1, u5.c⟩) (g := g) (R := w.heap.size + 1 + 1) (· ++ [l]) rfl H.out HQ2.out HQ3.out HQI.out (by repeat (first | (with_reducible exact Below.refl _ _) | (with_reducible assumption) | ((with_reducible refine Below.setCell ?_ ?_ _); rotate_left; (focus (first | omega | (simp; omega) | (simp; done)))) | ((with_reducible refine Below.alloc ?_ ?_ _); rotate_left; (focus (first | omega | (simp; omega) | (simp; done)))) | (with_reducible refine Below.drew ?_))) HA.out HO3.out ?_ (own_cap HO5.out) ?_ (by omega) (by repeat (first | (with_reducible exact Off.refl _ _) | (with_reducible refine Off.set ?_ _ _) | (with_reducible refine Off.drew ?_))) (by omega) ?_
      · have := own_rd HO5.out
        simpa using this
      · intro q hq
        have := HLO5.out q.block (by rw [show u5.a = some q from hq]; rfl)
        simp at this
        constructor <;> omega
      · intro q hq _
        have := HLO5.out q.block (by rw [show u5.a = some q from hq]; rfl)
        simp at this
        exact .inr (by omega)
    · go_simp
      refine hK.out _ _ ?_ (fun hHeld => ?_)
      · simp [go_sem, *]
      clear hK K
      try simp only [Act.put, List.getElem_toArray, List.getElem_cons_succ, List.getElem_cons_zero, List.setIfInBounds_toArray, List.set_cons_zero, List.set_cons_succ]
      refine wpAnyH_ready (rs := [9]) (by kernel_rfl) (by simp) ?_
      refine AllReadyH.cons rfl (fun K hK => ?_) AllReadyH.nil
      go_simp
      refine (CL.out _).mono ?_
      rintro e _ ⟨rfl, rfl⟩
      refine hK.out _ _ ?_ (fun hHeld => ?_)
      · simp [go_sem, *]
      clear hK K
      try simp only [Act.put, List.getElem_toArray, List.getElem_cons_succ, List.getElem_cons_zero, List.setIfInBounds_toArray, List.set_cons_zero, List.set_cons_succ]
      refine wpAnyH_ready (rs := [12]) (by kernel_rfl) (by simp) ?_
      refine AllReadyH.cons rfl (fun K hK => ?_) AllReadyH.nil
      refine step_append_grows rfl (.tmp 46) (.tmp 48) 74 rfl 34 i4 _ 4 64 Try.underlying74 hi4 hz40 hz41 hz42 rfl (by decide) a2.mail.a a2.mail.n a2.mail.n (ms.flatMap letL) (by simp [Act.eval, Act.put]) (fun hA => ⟨HMW.out.none0 hA, HMW.out.none0 hA⟩) HMW.out.1 (HMW.out.below (by repeat (first | (with_reducible exact Below.refl _ _) | (with_reducible assumption) | ((with_reducible refine Below.setCell ?_ ?_ _); rotate_left; (focus (first | omega | (simp; omega) | (simp; done)))) | ((with_reducible refine Below.alloc ?_ ?_ _); rotate_left; (focus (first | omega | (simp; omega) | (simp; done)))) | (with_reducible refine Below.drew ?_))) (Nat.le_refl _)).holds ⟨v2.heap.size, 0, none⟩ 1 1 (letL l) (by simp [Act.eval, Act.put]) rfl (cells_new0 _ _ _ _ (by simp)) (by simp [Value.oneCell']) (by omega) (by rw [ml_val]; omega) (by omega) ?_
      intro v5 v3 ho5 hg5
      obtain ⟨u5, _, rfl, hlo5⟩ := own_sl ho5
      have h3 := Below.of_grown hg5
      clear hg5
      have z3 := h3.size
      try simp at z3
      have hB3 : Below w.heap.size w v3 := Below.call (w := w) (by repeat (first | (with_reducible exact Below.refl _ _) | (with_reducible assumption) | ((with_reducible refine Below.setCell ?_ ?_ _); rotate_left; (focus (first | omega | (simp; omega) | (simp; done)))) | ((with_reducible refine Below.alloc ?_ ?_ _); rotate_left; (focus (first | omega | (simp; omega) | (simp; done)))) | (with_reducible refine Below.drew ?_))) h3
      obtain ⟨k3_0, kc, kf⟩ := keepB h3 (w.heap.size) (by first | omega | (simp; omega) | (simp; done))
      have c3_0_0 : v3.cell? ⟨w.heap.size, 0, none⟩ = some (.slice s.up.a s.up.n s.up.c) := (kc 0).trans (by simp [go_sem, *])
      have f3_0_0 : v3.frozen? ⟨w.heap.size, 0, none⟩ = false := (kf 0).trans (by simp [go_sem, *])
      have c3_0_1 : v3.cell? ⟨w.heap.size, 1, none⟩ = some (.int .i64 s.moment) := (kc 1).trans (by simp [go_sem, *])
      have f3_0_1 : v3.frozen? ⟨w.heap.size, 1, none⟩ = false := (kf 1).trans (by simp [go_sem, *])
      have c3_0_2 : v3.cell? ⟨w.heap.size, 2, none⟩ = some (.int .i64 s.clock) := (kc 2).trans (by simp [go_sem, *])
      have f3_0_2 : v3.frozen? ⟨w.heap.size, 2, none⟩ = false := (kf 2).trans (by simp [go_sem, *])
      have c3_0_3 : v3.cell? ⟨w.heap.size, 3, none⟩ = some (.int .i64 s.seq) := (kc 3).trans (by simp [go_sem, *])
      have f3_0_3 : v3.frozen? ⟨w.heap.size, 3, none⟩ = false := (kf 3).trans (by simp [go_sem, *])
      have c3_0_4 : v3.cell? ⟨w.heap.size, 4, none⟩ = some (.slice u.a s.actors.n u.c) := (kc 4).trans (by simp [go_sem, *])
      have f3_0_4 : v3.frozen? ⟨w.heap.size, 4, none⟩ = false := (kf 4).trans (by simp [go_sem, *])
      have c3_0_5 : v3.cell? ⟨w.heap.size, 5, none⟩ = some (.slice s.flights.a s.flights.n s.flights.c) := (kc 5).trans (by simp [go_sem, *])
      have f3_0_5 : v3.frozen? ⟨w.heap.size, 5, none⟩ = false := (kf 5).trans (by simp [go_sem, *])
      have c3_0_6 : v3.cell? ⟨w.heap.size, 6, none⟩ = some (.slice s.alarms.a s.alarms.n s.alarms.c) := (kc 6).trans (by simp [go_sem, *])
      have f3_0_6 : v3.frozen? ⟨w.heap.size, 6, none⟩ = false := (kf 6).trans (by simp [go_sem, *])
      have c3_0_7 : v3.cell? ⟨w.heap.size, 7, none⟩ = some (.slice s.asked.a s.asked.n s.asked.c) := (kc 7).trans (by simp [go_sem, *])
      have f3_0_7 : v3.frozen? ⟨w.heap.size, 7, none⟩ = false := (kf 7).trans (by simp [go_sem, *])
      have c3_0_8 : v3.cell? ⟨w.heap.size, 8, none⟩ = some (.int .i64 s.dead) := (kc 8).trans (by simp [go_sem, *])
      have f3_0_8 : v3.frozen? ⟨w.heap.size, 8, none⟩ = false := (kf 8).trans (by simp [go_sem, *])
      clear kc kf
      obtain ⟨k3_1, kc, kf⟩ := keepB h3 (w.heap.size + 1) (by first | omega | (simp; omega) | (simp; done))
      have c3_1_0 : v3.cell? ⟨w.heap.size + 1, 0, none⟩ = some (.string l.src) := (kc 0).trans (by simp [go_sem, *])
      have f3_1_0 : v3.frozen? ⟨w.heap.size + 1, 0, none⟩ = false := (kf 0).trans (by simp [go_sem, *])
      have c3_1_1 : v3.cell? ⟨w.heap.size + 1, 1, none⟩ = some (.string l.msg) := (kc 1).trans (by simp [go_sem, *])
      have f3_1_1 : v3.frozen? ⟨w.heap.size + 1, 1, none⟩ = false := (kf 1).trans (by simp [go_sem, *])
      have c3_1_2 : v3.cell? ⟨w.heap.size + 1, 2, none⟩ = some (.slice l.args.a l.args.n l.args.c) := (kc 2).trans (by simp [go_sem, *])
      have f3_1_2 : v3.frozen? ⟨w.heap.size + 1, 2, none⟩ = false := (kf 2).trans (by simp [go_sem, *])
      have c3_1_3 : v3.cell? ⟨w.heap.size + 1, 3, none⟩ = some (.int .i64 l.sent) := (kc 3).trans (by simp [go_sem, *])
      have f3_1_3 : v3.frozen? ⟨w.heap.size + 1, 3, none⟩ = false := (kf 3).trans (by simp [go_sem, *])
      clear kc kf
      obtain ⟨k3_2, kc, kf⟩ := keepB h3 (w.heap.size + 1 + 1) (by first | omega | (simp; omega) | (simp; done))
      have c3_2_0 : v3.cell? ⟨w.heap.size + 1 + 1, 0, none⟩ = some (.slice none 0 0) := (kc 0).trans (by simp [go_sem, *])
      have f3_2_0 : v3.frozen? ⟨w.heap.size + 1 + 1, 0, none⟩ = false := (kf 0).trans (by simp [go_sem, *])
      have c3_2_1 : v3.cell? ⟨w.heap.size + 1 + 1, 1, none⟩ = some (.int .i64 0) := (kc 1).trans (by simp [go_sem, *])
      have f3_2_1 : v3.frozen? ⟨w.heap.size + 1 + 1, 1, none⟩ = false := (kf 1).trans (by simp [go_sem, *])
      have c3_2_2 : v3.cell? ⟨w.heap.size + 1 + 1, 2, none⟩ = some (.int .i64 0) := (kc 2).trans (by simp [go_sem, *])
      have f3_2_2 : v3.frozen? ⟨w.heap.size + 1 + 1, 2, none⟩ = false := (kf 2).trans (by simp [go_sem, *])
      have c3_2_3 : v3.cell? ⟨w.heap.size + 1 + 1, 3, none⟩ = some (.int .i64 0) := (kc 3).trans (by simp [go_sem, *])
      have f3_2_3 : v3.frozen? ⟨w.heap.size + 1 + 1, 3, none⟩ = false := (kf 3).trans (by simp [go_sem, *])
      have c3_2_4 : v3.cell? ⟨w.heap.size + 1 + 1, 4, none⟩ = some (.slice none 0 0) := (kc 4).trans (by simp [go_sem, *])
      have f3_2_4 : v3.frozen? ⟨w.heap.size + 1 + 1, 4, none⟩ = false := (kf 4).trans (by simp [go_sem, *])
      have c3_2_5 : v3.cell? ⟨w.heap.size + 1 + 1, 5, none⟩ = some (.slice none 0 0) := (kc 5).trans (by simp [go_sem, *])
      have f3_2_5 : v3.frozen? ⟨w.heap.size + 1 + 1, 5, none⟩ = false := (kf 5).trans (by simp [go_sem, *])
      have c3_2_6 : v3.cell? ⟨w.heap.size + 1 + 1, 6, none⟩ = some (.slice none 0 0) := (kc 6).trans (by simp [go_sem, *])
      have f3_2_6 : v3.frozen? ⟨w.heap.size + 1 + 1, 6, none⟩ = false := (kf 6).trans (by simp [go_sem, *])
      have c3_2_7 : v3.cell? ⟨w.heap.size + 1 + 1, 7, none⟩ = some (.slice none 0 0) := (kc 7).trans (by simp [go_sem, *])
      have f3_2_7 : v3.frozen? ⟨w.heap.size + 1 + 1, 7, none⟩ = false := (kf 7).trans (by simp [go_sem, *])
      have c3_2_8 : v3.cell? ⟨w.heap.size + 1 + 1, 8, none⟩ = some (.int .i64 0) := (kc 8).trans (by simp [go_sem, *])
      have f3_2_8 : v3.frozen? ⟨w.heap.size + 1 + 1, 8, none⟩ = false := (kf 8).trans (by simp [go_sem, *])
      clear kc kf
      clear c2_0_0 f2_0_0 c2_0_1 f2_0_1 c2_0_2 f2_0_2 c2_0_3 f2_0_3 c2_0_4 f2_0_4 c2_0_5 f2_0_5 c2_0_6 f2_0_6 c2_0_7 f2_0_7 c2_0_8 f2_0_8 c2_1_0 f2_1_0 c2_1_1 f2_1_1 c2_1_2 f2_1_2 c2_1_3 f2_1_3 c2_2_0 f2_2_0 c2_2_1 f2_2_1 c2_2_2 f2_2_2 c2_2_3 f2_2_3 c2_2_4 f2_2_4 c2_2_5 f2_2_5 c2_2_6 f2_2_6 c2_2_7 f2_2_7 c2_2_8 f2_2_8
      obtain ⟨kg, kc, kf⟩ := keepB h3 g (by first | omega | (simp; omega) | (simp; done))
      have c8' : v3.cell? ⟨g, i' * 9 + 8, none⟩ = some (.slice a2.mail.a a2.mail.n a2.mail.c) := (kc _).trans (by simp [go_sem, *])
      have f8' : v3.frozen? ⟨g, i' * 9 + 8, none⟩ = false := (kf _).trans (by simp [go_sem, *])
      clear kc kf c8 f8
      have HO5 := Lib.hid ho5
      have HLO5 := Lib.hid hlo5
      have HO3 := Lib.hid (own_below ((own_set_other HO.out ⟨w.heap.size, 4, none⟩ (.slice u.a s.actors.n u.c) (by rw [HA.out]; simp [Value.ownBlock]; omega)).alloc _).drew h3)
      clear ho5 hlo5
      refine hK.out _ _ ?_ (fun hHeld => ?_)
      · simp [go_sem, *]
      clear hK K
      try simp only [Act.put, List.getElem_toArray, List.getElem_cons_succ, List.getElem_cons_zero, List.setIfInBounds_toArray, List.set_cons_zero, List.set_cons_succ]
      refine wpAnyH_take (i := 13) (v := ?_) rfl (by kernel_rfl) (by kernel_rfl) (by kernel_rfl) (fun _ _ _ h => h) (Or.inl ⟨by rfl, ?_⟩) (by assumption) ?_
      rotate_left
      · intro w hSw; (try dsimp only at hSw); go_simp; (first | done | (with_reducible rfl))
      try simp only [Act.put, List.getElem_toArray, List.getElem_cons_succ, List.getElem_cons_zero, List.setIfInBounds_toArray, List.set_cons_zero, List.set_cons_succ]
      refine wpAnyH_take (i := 14) (v := ?_) rfl (by kernel_rfl) (by kernel_rfl) (by kernel_rfl) (fun _ _ _ h => h) (Or.inl ⟨by rfl, ?_⟩) (by assumption) ?_
      rotate_left
      · intro w hSw; (try dsimp only at hSw); go_simp; (first | done | (with_reducible rfl))
      try simp only [Act.put, List.getElem_toArray, List.getElem_cons_succ, List.getElem_cons_zero, List.setIfInBounds_toArray, List.set_cons_zero, List.set_cons_succ]
      refine wpAnyH_ready (rs := [15]) (by kernel_rfl) (by simp) ?_
      refine AllReadyH.cons rfl (fun K hK => ?_) AllReadyH.nil
      go_simp
      refine hK.out _ _ ?_ (fun hHeld => ?_)
      · simp [go_sem, *]
      clear hK K
      try simp only [Act.put, List.getElem_toArray, List.getElem_cons_succ, List.getElem_cons_zero, List.setIfInBounds_toArray, List.set_cons_zero, List.set_cons_succ]
      refine wpAnyH_done (by kernel_rfl) ?_ _
      go_wp2_with fail
      refine bodyPost_ret (v := .tuple #[sysV { s with actors := ⟨u.a, s.actors.n, u.c⟩ }, .bool true]) (by simp [results, Try.results33, go_sem, *]) rfl (sysPost HP.out ?_ (by repeat (first | (with_reducible exact Below.refl _ _) | (with_reducible assumption) | ((with_reducible refine Below.setCell ?_ ?_ _); rotate_left; (focus (first | omega | (simp; omega) | (simp; done)))) | ((with_reducible refine Below.alloc ?_ ?_ _); rotate_left; (focus (first | omega | (simp; omega) | (simp; done)))) | (with_reducible refine Below.drew ?_))))
      refine sysR_mailed (v3 := v3) (m := ⟨u5.a, a2.mail.n + 1, u5.c⟩) (g := g) (R := w.heap.size + 1 + 1) (· ++ [l]) rfl H.out HQ2.out HQ3.out HQI.out (by repeat (first | (with_reducible exact Below.refl _ _) | (with_reducible assumption) | ((with_reducible refine Below.setCell ?_ ?_ _); rotate_left; (focus (first | omega | (simp; omega) | (simp; done)))) | ((with_reducible refine Below.alloc ?_ ?_ _); rotate_left; (focus (first | omega | (simp; omega) | (simp; done)))) | (with_reducible refine Below.drew ?_))) HA.out HO3.out ?_ (own_cap HO5.out) ?_ (by omega) (by repeat (first | (with_reducible exact Off.refl _ _) | (with_reducible refine Off.set ?_ _ _) | (with_reducible refine Off.drew ?_))) (by omega) ?_
      · have := own_rd HO5.out
        simpa using this
      · intro q hq
        have := HLO5.out q.block (by rw [show u5.a = some q from hq]; rfl)
        simp at this
        constructor <;> omega
      · intro q hq _
        have := HLO5.out q.block (by rw [show u5.a = some q from hq]; rfl)
        simp at this
        exact .inr (by omega)
  · go_simp
    refine hK.out _ _ ?_ (fun hHeld => ?_)
    · simp [go_sem, *]
    clear hK K
    try simp only [Act.put, List.getElem_toArray, List.getElem_cons_succ, List.getElem_cons_zero, List.setIfInBounds_toArray, List.set_cons_zero, List.set_cons_succ]
    refine wpAnyH_ready (rs := [8]) (by kernel_rfl) (by simp) ?_
    refine AllReadyH.cons rfl (fun K hK => ?_) AllReadyH.nil
    go_simp
    refine hK.out _ _ ?_ (fun hHeld => ?_)
    · simp [go_sem, *]
    clear hK K
    try simp only [Act.put, List.getElem_toArray, List.getElem_cons_succ, List.getElem_cons_zero, List.setIfInBounds_toArray, List.set_cons_zero, List.set_cons_succ]
    refine wpAnyH_ready (rs := [9]) (by kernel_rfl) (by simp) ?_
    refine AllReadyH.cons rfl (fun K hK => ?_) AllReadyH.nil
    go_simp
    refine (CL.out _).mono ?_
    rintro e _ ⟨rfl, rfl⟩
    refine hK.out _ _ ?_ (fun hHeld => ?_)
    · simp [go_sem, *]
    clear hK K
    try simp only [Act.put, List.getElem_toArray, List.getElem_cons_succ, List.getElem_cons_zero, List.setIfInBounds_toArray, List.set_cons_zero, List.set_cons_succ]
    refine wpAnyH_ready (rs := [12]) (by kernel_rfl) (by simp) ?_
    refine AllReadyH.cons rfl (fun K hK => ?_) AllReadyH.nil
    refine step_append_grows rfl (.tmp 46) (.tmp 48) 74 rfl 34 i4 _ 4 64 Try.underlying74 hi4 hz40 hz41 hz42 rfl (by decide) a2.mail.a a2.mail.n a2.mail.n (ms.flatMap letL) (by simp [Act.eval, Act.put]) (fun hA => ⟨HMW.out.none0 hA, HMW.out.none0 hA⟩) HMW.out.1 (HMW.out.below (by repeat (first | (with_reducible exact Below.refl _ _) | (with_reducible assumption) | ((with_reducible refine Below.setCell ?_ ?_ _); rotate_left; (focus (first | omega | (simp; omega) | (simp; done)))) | ((with_reducible refine Below.alloc ?_ ?_ _); rotate_left; (focus (first | omega | (simp; omega) | (simp; done)))) | (with_reducible refine Below.drew ?_))) (Nat.le_refl _)).holds ⟨v2.heap.size, 0, none⟩ 1 1 (letL l) (by simp [Act.eval, Act.put]) rfl (cells_new0 _ _ _ _ (by simp)) (by simp [Value.oneCell']) (by omega) (by rw [ml_val]; omega) (by omega) ?_
    intro v5 v3 ho5 hg5
    obtain ⟨u5, _, rfl, hlo5⟩ := own_sl ho5
    have h3 := Below.of_grown hg5
    clear hg5
    have z3 := h3.size
    try simp at z3
    have hB3 : Below w.heap.size w v3 := Below.call (w := w) (by repeat (first | (with_reducible exact Below.refl _ _) | (with_reducible assumption) | ((with_reducible refine Below.setCell ?_ ?_ _); rotate_left; (focus (first | omega | (simp; omega) | (simp; done)))) | ((with_reducible refine Below.alloc ?_ ?_ _); rotate_left; (focus (first | omega | (simp; omega) | (simp; done)))) | (with_reducible refine Below.drew ?_))) h3
    obtain ⟨k3_0, kc, kf⟩ := keepB h3 (w.heap.size) (by first | omega | (simp; omega) | (simp; done))
    have c3_0_0 : v3.cell? ⟨w.heap.size, 0, none⟩ = some (.slice s.up.a s.up.n s.up.c) := (kc 0).trans (by simp [go_sem, *])
    have f3_0_0 : v3.frozen? ⟨w.heap.size, 0, none⟩ = false := (kf 0).trans (by simp [go_sem, *])
    have c3_0_1 : v3.cell? ⟨w.heap.size, 1, none⟩ = some (.int .i64 s.moment) := (kc 1).trans (by simp [go_sem, *])
    have f3_0_1 : v3.frozen? ⟨w.heap.size, 1, none⟩ = false := (kf 1).trans (by simp [go_sem, *])
    have c3_0_2 : v3.cell? ⟨w.heap.size, 2, none⟩ = some (.int .i64 s.clock) := (kc 2).trans (by simp [go_sem, *])
    have f3_0_2 : v3.frozen? ⟨w.heap.size, 2, none⟩ = false := (kf 2).trans (by simp [go_sem, *])
    have c3_0_3 : v3.cell? ⟨w.heap.size, 3, none⟩ = some (.int .i64 s.seq) := (kc 3).trans (by simp [go_sem, *])
    have f3_0_3 : v3.frozen? ⟨w.heap.size, 3, none⟩ = false := (kf 3).trans (by simp [go_sem, *])
    have c3_0_4 : v3.cell? ⟨w.heap.size, 4, none⟩ = some (.slice u.a s.actors.n u.c) := (kc 4).trans (by simp [go_sem, *])
    have f3_0_4 : v3.frozen? ⟨w.heap.size, 4, none⟩ = false := (kf 4).trans (by simp [go_sem, *])
    have c3_0_5 : v3.cell? ⟨w.heap.size, 5, none⟩ = some (.slice s.flights.a s.flights.n s.flights.c) := (kc 5).trans (by simp [go_sem, *])
    have f3_0_5 : v3.frozen? ⟨w.heap.size, 5, none⟩ = false := (kf 5).trans (by simp [go_sem, *])
    have c3_0_6 : v3.cell? ⟨w.heap.size, 6, none⟩ = some (.slice s.alarms.a s.alarms.n s.alarms.c) := (kc 6).trans (by simp [go_sem, *])
    have f3_0_6 : v3.frozen? ⟨w.heap.size, 6, none⟩ = false := (kf 6).trans (by simp [go_sem, *])
    have c3_0_7 : v3.cell? ⟨w.heap.size, 7, none⟩ = some (.slice s.asked.a s.asked.n s.asked.c) := (kc 7).trans (by simp [go_sem, *])
    have f3_0_7 : v3.frozen? ⟨w.heap.size, 7, none⟩ = false := (kf 7).trans (by simp [go_sem, *])
    have c3_0_8 : v3.cell? ⟨w.heap.size, 8, none⟩ = some (.int .i64 s.dead) := (kc 8).trans (by simp [go_sem, *])
    have f3_0_8 : v3.frozen? ⟨w.heap.size, 8, none⟩ = false := (kf 8).trans (by simp [go_sem, *])
    clear kc kf
    obtain ⟨k3_1, kc, kf⟩ := keepB h3 (w.heap.size + 1) (by first | omega | (simp; omega) | (simp; done))
    have c3_1_0 : v3.cell? ⟨w.heap.size + 1, 0, none⟩ = some (.string l.src) := (kc 0).trans (by simp [go_sem, *])
    have f3_1_0 : v3.frozen? ⟨w.heap.size + 1, 0, none⟩ = false := (kf 0).trans (by simp [go_sem, *])
    have c3_1_1 : v3.cell? ⟨w.heap.size + 1, 1, none⟩ = some (.string l.msg) := (kc 1).trans (by simp [go_sem, *])
    have f3_1_1 : v3.frozen? ⟨w.heap.size + 1, 1, none⟩ = false := (kf 1).trans (by simp [go_sem, *])
    have c3_1_2 : v3.cell? ⟨w.heap.size + 1, 2, none⟩ = some (.slice l.args.a l.args.n l.args.c) := (kc 2).trans (by simp [go_sem, *])
    have f3_1_2 : v3.frozen? ⟨w.heap.size + 1, 2, none⟩ = false := (kf 2).trans (by simp [go_sem, *])
    have c3_1_3 : v3.cell? ⟨w.heap.size + 1, 3, none⟩ = some (.int .i64 l.sent) := (kc 3).trans (by simp [go_sem, *])
    have f3_1_3 : v3.frozen? ⟨w.heap.size + 1, 3, none⟩ = false := (kf 3).trans (by simp [go_sem, *])
    clear kc kf
    obtain ⟨k3_2, kc, kf⟩ := keepB h3 (w.heap.size + 1 + 1) (by first | omega | (simp; omega) | (simp; done))
    have c3_2_0 : v3.cell? ⟨w.heap.size + 1 + 1, 0, none⟩ = some (.slice none 0 0) := (kc 0).trans (by simp [go_sem, *])
    have f3_2_0 : v3.frozen? ⟨w.heap.size + 1 + 1, 0, none⟩ = false := (kf 0).trans (by simp [go_sem, *])
    have c3_2_1 : v3.cell? ⟨w.heap.size + 1 + 1, 1, none⟩ = some (.int .i64 0) := (kc 1).trans (by simp [go_sem, *])
    have f3_2_1 : v3.frozen? ⟨w.heap.size + 1 + 1, 1, none⟩ = false := (kf 1).trans (by simp [go_sem, *])
    have c3_2_2 : v3.cell? ⟨w.heap.size + 1 + 1, 2, none⟩ = some (.int .i64 0) := (kc 2).trans (by simp [go_sem, *])
    have f3_2_2 : v3.frozen? ⟨w.heap.size + 1 + 1, 2, none⟩ = false := (kf 2).trans (by simp [go_sem, *])
    have c3_2_3 : v3.cell? ⟨w.heap.size + 1 + 1, 3, none⟩ = some (.int .i64 0) := (kc 3).trans (by simp [go_sem, *])
    have f3_2_3 : v3.frozen? ⟨w.heap.size + 1 + 1, 3, none⟩ = false := (kf 3).trans (by simp [go_sem, *])
    have c3_2_4 : v3.cell? ⟨w.heap.size + 1 + 1, 4, none⟩ = some (.slice none 0 0) := (kc 4).trans (by simp [go_sem, *])
    have f3_2_4 : v3.frozen? ⟨w.heap.size + 1 + 1, 4, none⟩ = false := (kf 4).trans (by simp [go_sem, *])
    have c3_2_5 : v3.cell? ⟨w.heap.size + 1 + 1, 5, none⟩ = some (.slice none 0 0) := (kc 5).trans (by simp [go_sem, *])
    have f3_2_5 : v3.frozen? ⟨w.heap.size + 1 + 1, 5, none⟩ = false := (kf 5).trans (by simp [go_sem, *])
    have c3_2_6 : v3.cell? ⟨w.heap.size + 1 + 1, 6, none⟩ = some (.slice none 0 0) := (kc 6).trans (by simp [go_sem, *])
    have f3_2_6 : v3.frozen? ⟨w.heap.size + 1 + 1, 6, none⟩ = false := (kf 6).trans (by simp [go_sem, *])
    have c3_2_7 : v3.cell? ⟨w.heap.size + 1 + 1, 7, none⟩ = some (.slice none 0 0) := (kc 7).trans (by simp [go_sem, *])
    have f3_2_7 : v3.frozen? ⟨w.heap.size + 1 + 1, 7, none⟩ = false := (kf 7).trans (by simp [go_sem, *])
    have c3_2_8 : v3.cell? ⟨w.heap.size + 1 + 1, 8, none⟩ = some (.int .i64 0) := (kc 8).trans (by simp [go_sem, *])
    have f3_2_8 : v3.frozen? ⟨w.heap.size + 1 + 1, 8, none⟩ = false := (kf 8).trans (by simp [go_sem, *])
    clear kc kf
    clear c2_0_0 f2_0_0 c2_0_1 f2_0_1 c2_0_2 f2_0_2 c2_0_3 f2_0_3 c2_0_4 f2_0_4 c2_0_5 f2_0_5 c2_0_6 f2_0_6 c2_0_7 f2_0_7 c2_0_8 f2_0_8 c2_1_0 f2_1_0 c2_1_1 f2_1_1 c2_1_2 f2_1_2 c2_1_3 f2_1_3 c2_2_0 f2_2_0 c2_2_1 f2_2_1 c2_2_2 f2_2_2 c2_2_3 f2_2_3 c2_2_4 f2_2_4 c2_2_5 f2_2_5 c2_2_6 f2_2_6 c2_2_7 f2_2_7 c2_2_8 f2_2_8
    obtain ⟨kg, kc, kf⟩ := keepB h3 g (by first | omega | (simp; omega) | (simp; done))
    have c8' : v3.cell? ⟨g, i' * 9 + 8, none⟩ = some (.slice a2.mail.a a2.mail.n a2.mail.c) := (kc _).trans (by simp [go_sem, *])
    have f8' : v3.frozen? ⟨g, i' * 9 + 8, none⟩ = false := (kf _).trans (by simp [go_sem, *])
    clear kc kf c8 f8
    have HO5 := Lib.hid ho5
    have HLO5 := Lib.hid hlo5
    have HO3 := Lib.hid (own_below ((own_set_other HO.out ⟨w.heap.size, 4, none⟩ (.slice u.a s.actors.n u.c) (by rw [HA.out]; simp [Value.ownBlock]; omega)).alloc _).drew h3)
    clear ho5 hlo5
    refine hK.out _ _ ?_ (fun hHeld => ?_)
    · simp [go_sem, *]
    clear hK K
    try simp only [Act.put, List.getElem_toArray, List.getElem_cons_succ, List.getElem_cons_zero, List.setIfInBounds_toArray, List.set_cons_zero, List.set_cons_succ]
    refine wpAnyH_take (i := 13) (v := ?_) rfl (by kernel_rfl) (by kernel_rfl) (by kernel_rfl) (fun _ _ _ h => h) (Or.inl ⟨by rfl, ?_⟩) (by assumption) ?_
    rotate_left
    · intro w hSw; (try dsimp only at hSw); go_simp; (first | done | (with_reducible rfl))
    try simp only [Act.put, List.getElem_toArray, List.getElem_cons_succ, List.getElem_cons_zero, List.setIfInBounds_toArray, List.set_cons_zero, List.set_cons_succ]
    refine wpAnyH_take (i := 14) (v := ?_) rfl (by kernel_rfl) (by kernel_rfl) (by kernel_rfl) (fun _ _ _ h => h) (Or.inl ⟨by rfl, ?_⟩) (by assumption) ?_
    rotate_left
    · intro w hSw; (try dsimp only at hSw); go_simp; (first | done | (with_reducible rfl))
    try simp only [Act.put, List.getElem_toArray, List.getElem_cons_succ, List.getElem_cons_zero, List.setIfInBounds_toArray, List.set_cons_zero, List.set_cons_succ]
    refine wpAnyH_ready (rs := [15]) (by kernel_rfl) (by simp) ?_
    refine AllReadyH.cons rfl (fun K hK => ?_) AllReadyH.nil
    go_simp
    refine hK.out _ _ ?_ (fun hHeld => ?_)
    · simp [go_sem, *]
    clear hK K
    try simp only [Act.put, List.getElem_toArray, List.getElem_cons_succ, List.getElem_cons_zero, List.setIfInBounds_toArray, List.set_cons_zero, List.set_cons_succ]
    refine wpAnyH_done (by kernel_rfl) ?_ _
    go_wp2_with fail
    refine bodyPost_ret (v := .tuple #[sysV { s with actors := ⟨u.a, s.actors.n, u.c⟩ }, .bool true]) (by simp [results, Try.results33, go_sem, *]) rfl (sysPost HP.out ?_ (by repeat (first | (with_reducible exact Below.refl _ _) | (with_reducible assumption) | ((with_reducible refine Below.setCell ?_ ?_ _); rotate_left; (focus (first | omega | (simp; omega) | (simp; done)))) | ((with_reducible refine Below.alloc ?_ ?_ _); rotate_left; (focus (first | omega | (simp; omega) | (simp; done)))) | (with_reducible refine Below.drew ?_))))
    refine sysR_mailed (v3 := v3) (m := ⟨u5.a, a2.mail.n + 1, u5.c⟩) (g := g) (R := w.heap.size + 1 + 1) (· ++ [l]) rfl H.out HQ2.out HQ3.out HQI.out (by repeat (first | (with_reducible exact Below.refl _ _) | (with_reducible assumption) | ((with_reducible refine Below.setCell ?_ ?_ _); rotate_left; (focus (first | omega | (simp; omega) | (simp; done)))) | ((with_reducible refine Below.alloc ?_ ?_ _); rotate_left; (focus (first | omega | (simp; omega) | (simp; done)))) | (with_reducible refine Below.drew ?_))) HA.out HO3.out ?_ (own_cap HO5.out) ?_ (by omega) (by repeat (first | (with_reducible exact Off.refl _ _) | (with_reducible refine Off.set ?_ _ _) | (with_reducible refine Off.drew ?_))) (by omega) ?_
    · have := own_rd HO5.out
      simpa using this
    · intro q hq
      have := HLO5.out q.block (by rw [show u5.a = some q from hq]; rfl)
      simp at this
      constructor <;> omega
    · intro q hq _
      have := HLO5.out q.block (by rw [show u5.a = some q from hq]; rfl)
      simp at this
      exact .inr (by omega)

theorem post_any {P : Nat → Prop} (s : SysC) (σ : PS) (p : ByteArray) (l : LetC) (w : World) (h : SysR P w s σ) (hna : s.actors.n ≤ 1000000) (hnu : s.up.n ≤ 9223372036854775807) :
    Calls Try.prog 33 #[sysV s, .string p, letV l] w (SysPost P (Ml.post σ p l) w) := by
  cases hr : Ml.reachP σ p with
  | none => exact post_none s σ p l w h hna hnu hr
  | some i =>
    obtain ⟨qs, hq1, hq2, hq3⟩ := h.ac
    have hf : Ml.find (σ.acts.map (·.path)) p = some i := by
      unfold Ml.reachP at hr
      exact (Option.filter_eq_some_iff.1 hr).1
    have hi : i < qs.length := by
      have := (List.getElem?_eq_some_iff.1 (Ml.find_spec hf).1).1
      rw [← hq3] at this
      simpa using this
    obtain ⟨q, hqi⟩ : ∃ q, qs[i]? = some q := ⟨_, List.getElem?_eq_getElem hi⟩
    obtain ⟨a, ms⟩ := q
    cases hm : decide ((1024 : Int) ≤ (a.mail.n : Int)) with
    | true => exact post_full s σ p l w h hna hnu i hr a ms qs hq1 hq2 hq3 hqi hm
    | false => exact post_room s σ p l w h hna hnu i hr a ms qs hq1 hq2 hq3 hqi hm
end Go.Proofs.Ytjdjfjokniingaa
