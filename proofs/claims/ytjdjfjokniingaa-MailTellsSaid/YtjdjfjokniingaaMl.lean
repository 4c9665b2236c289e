/- The contract of mail.Send. -/
import Derived.Test.YtjdjfjokniingaaMj
import Derived.Deep.RegionLawGrows
namespace Go.Proofs.Ytjdjfjokniingaa
open Go.RowKit

namespace Ml
def nodeOf (σ : PS) (i : Nat) : Int := ((σ.acts[i]?).map (·.node)).getD 0
def send (σ : PS) (x : Int) (p : ByteArray) (l : LetC) : PS × Bool :=
  match reachP σ p with
  | some i =>
    if nodeOf σ i = x then post σ p l
    else if chan σ.fls x (nodeOf σ i) < 1024 then ({ σ with fls := σ.fls ++ [⟨x, nodeOf σ i, p, l⟩] }, true) else (lost σ, false)
  | none => (lost σ, false)
end Ml
theorem rd_low {P : Nat → Prop} {w : World} {k n : Nat} {A : Option Addr} {xs : List Value} (h : Rd w w.heap.size k A n xs) (hl : Loc P A n) : Loc (fun b => P b ∧ b < w.heap.size) A n := fun q hq hn => by
  obtain ⟨b, off, e, hb, _⟩ := h.2 hn
  refine ⟨hl q hq hn, ?_⟩
  rw [hq] at e
  injection e with e
  subst e
  exact hb
theorem SysR.low {P : Nat → Prop} {w : World} {s : SysC} {σ : PS} (h : SysR P w s σ) : SysR (fun b => P b ∧ b < w.heap.size) w s σ := by
  obtain ⟨qs, h1, h2, h3⟩ := h.ac
  exact { up := h.up, ac := ⟨qs, h1, fun q hq => ⟨(h2 q hq).rd, (h2 q hq).cap, rd_low (h2 q hq).rd (h2 q hq).loc⟩, h3⟩, fl := h.fl, al := h.al, rq := h.rq, cf := h.cf, cl := h.cl, mo := h.mo, ck := h.ck, sq := h.sq, dd := h.dd, lu := rd_low h.up h.lu, la := rd_low h1 h.la, lf := rd_low h.fl h.lf, ll := rd_low h.al h.ll, lr := rd_low h.rq h.lr }
/-- the state that a callee has handed back, behind stores into a box of the caller's own -/
theorem SysR.boxed {P : Nat → Prop} {w v v2 Wf : World} {s : SysC} {σ : PS} {R : Nat} (h : SysR (fun b => (P b ∧ b < w.heap.size) ∨ v.heap.size ≤ b) v2 s σ) (hR : w.heap.size ≤ R) (hv : R < v.heap.size) (ho : Off R v2 Wf) : SysR (fun b => P b ∨ w.heap.size ≤ b) Wf s σ :=
  (h.stay (fun b o hb => ho.2 b o (by rcases hb with hb | hb <;> omega)) (Nat.le_of_eq ho.1.symm)).mono (fun b hb => by rcases hb with hb | hb; exact .inl hb.1; exact .inr (by omega))
/-- a flight has been added -/
theorem sysR_flown {P : Nat → Prop} {w v3 Wf : World} {s : SysC} {σ : PS} {u : Sl} {n R B0 : Nat} {f : FlyC} (H : SysR P w s σ) (hB : Below w.heap.size w Wf) (ho : v3.ownsRow B0 66 7 (.slice u.a n u.c) n ((σ.fls ++ [f]).flatMap flyL)) (hB0 : R < B0) (hw0 : w.heap.size ≤ B0) (hoff : Off R v3 Wf) :
    SysR (fun b => P b ∨ w.heap.size ≤ b) Wf { s with flights := ⟨u.a, n, u.c⟩ } { σ with fls := σ.fls ++ [f] } := by
  have h := (H.below hB).mono (Q := fun b => P b ∨ w.heap.size ≤ b) (fun b hb => .inl hb)
  exact { h with fl := own_off ho hoff hB0, cf := own_cap ho, lf := fun q hq _ => .inr (by have := row_base ho q.block (by rw [show u.a = some q from hq]; rfl); omega) }

set_option maxRecDepth 100000 in
set_option maxHeartbeats 4000000 in
set_option linter.unusedSimpArgs false in
set_option linter.unusedVariables false in
theorem send_none {P : Nat → Prop} (s : SysC) (σ : PS) (x : Int) (p : ByteArray) (l : LetC) (w : World) (h : SysR P w s σ) (hna : s.actors.n ≤ 1000000) (hnu : s.up.n ≤ 9223372036854775807) (hnf : s.flights.n ≤ 1000000) (hr : Ml.reachP σ p = none) :
    Calls Try.prog 35 #[sysV s, .int .i64 x, .string p, letV l] w (SysPost P (Ml.send σ x p l) w) := by
  have HP : Hid (Ml.send σ x p l = (Ml.lost σ, false)) := Lib.hid (by unfold Ml.send; rw [hr])
  obtain ⟨qs, hq1, hq2, hq3⟩ := h.ac
  have C := Lib.hid (fun (W : World) (hW : Below w.heap.size w W) => reach_any s (qs.map (·.1)) σ.ups p W (h.up.up hW) (hq1.up hW) (by omega) hnu)
  rw [Ml.reach_eq σ.ups qs σ hq3 rfl p, hr] at C
  have H := Lib.hid h
  clear h hr hq1 hq2 hq3
  go_enter Try.func35, Try.ntmps35
  go_wp2_with fail
  refine (C.out _ (by repeat (first | (with_reducible exact Below.refl _ _) | (with_reducible assumption) | ((with_reducible refine Below.setCell ?_ ?_ _); rotate_left; (focus (first | omega | (simp; omega) | (simp; done)))) | ((with_reducible refine Below.alloc ?_ ?_ _); rotate_left; (focus (first | omega | (simp; omega) | (simp; done)))) | (with_reducible refine Below.drew ?_)))).mono ?_
  rintro e v1 ⟨i, rfl, _, h1⟩
  have z1 := h1.size
  try simp at z1
  have hB1 : Below w.heap.size w v1 := Below.call (w := w) (by repeat (first | (with_reducible exact Below.refl _ _) | (with_reducible assumption) | ((with_reducible refine Below.setCell ?_ ?_ _); rotate_left; (focus (first | omega | (simp; omega) | (simp; done)))) | ((with_reducible refine Below.alloc ?_ ?_ _); rotate_left; (focus (first | omega | (simp; omega) | (simp; done)))) | (with_reducible refine Below.drew ?_))) h1
  obtain ⟨k1_0, kc, kf⟩ := keepB h1 (w.heap.size) (by first | omega | (simp; omega) | (simp; done))
  have c1_0_0 : v1.cell? ⟨w.heap.size, 0, none⟩ = some (.slice s.up.a s.up.n s.up.c) := (kc 0).trans (by simp [go_sem, *])
  have f1_0_0 : v1.frozen? ⟨w.heap.size, 0, none⟩ = false := (kf 0).trans (by simp [go_sem, *])
  have c1_0_1 : v1.cell? ⟨w.heap.size, 1, none⟩ = some (.int .i64 s.moment) := (kc 1).trans (by simp [go_sem, *])
  have f1_0_1 : v1.frozen? ⟨w.heap.size, 1, none⟩ = false := (kf 1).trans (by simp [go_sem, *])
  have c1_0_2 : v1.cell? ⟨w.heap.size, 2, none⟩ = some (.int .i64 s.clock) := (kc 2).trans (by simp [go_sem, *])
  have f1_0_2 : v1.frozen? ⟨w.heap.size, 2, none⟩ = false := (kf 2).trans (by simp [go_sem, *])
  have c1_0_3 : v1.cell? ⟨w.heap.size, 3, none⟩ = some (.int .i64 s.seq) := (kc 3).trans (by simp [go_sem, *])
  have f1_0_3 : v1.frozen? ⟨w.heap.size, 3, none⟩ = false := (kf 3).trans (by simp [go_sem, *])
  have c1_0_4 : v1.cell? ⟨w.heap.size, 4, none⟩ = some (.slice s.actors.a s.actors.n s.actors.c) := (kc 4).trans (by simp [go_sem, *])
  have f1_0_4 : v1.frozen? ⟨w.heap.size, 4, none⟩ = false := (kf 4).trans (by simp [go_sem, *])
  have c1_0_5 : v1.cell? ⟨w.heap.size, 5, none⟩ = some (.slice s.flights.a s.flights.n s.flights.c) := (kc 5).trans (by simp [go_sem, *])
  have f1_0_5 : v1.frozen? ⟨w.heap.size, 5, none⟩ = false := (kf 5).trans (by simp [go_sem, *])
  have c1_0_6 : v1.cell? ⟨w.heap.size, 6, none⟩ = some (.slice s.alarms.a s.alarms.n s.alarms.c) := (kc 6).trans (by simp [go_sem, *])
  have f1_0_6 : v1.frozen? ⟨w.heap.size, 6, none⟩ = false := (kf 6).trans (by simp [go_sem, *])
  have c1_0_7 : v1.cell? ⟨w.heap.size, 7, none⟩ = some (.slice s.asked.a s.asked.n s.asked.c) := (kc 7).trans (by simp [go_sem, *])
  have f1_0_7 : v1.frozen? ⟨w.heap.size, 7, none⟩ = false := (kf 7).trans (by simp [go_sem, *])
  have c1_0_8 : v1.cell? ⟨w.heap.size, 8, none⟩ = some (.int .i64 s.dead) := (kc 8).trans (by simp [go_sem, *])
  have f1_0_8 : v1.frozen? ⟨w.heap.size, 8, none⟩ = false := (kf 8).trans (by simp [go_sem, *])
  clear kc kf
  obtain ⟨k1_1, kc, kf⟩ := keepB h1 (w.heap.size + 1) (by first | omega | (simp; omega) | (simp; done))
  have c1_1_0 : v1.cell? ⟨w.heap.size + 1, 0, none⟩ = some (.string l.src) := (kc 0).trans (by simp [go_sem, *])
  have f1_1_0 : v1.frozen? ⟨w.heap.size + 1, 0, none⟩ = false := (kf 0).trans (by simp [go_sem, *])
  have c1_1_1 : v1.cell? ⟨w.heap.size + 1, 1, none⟩ = some (.string l.msg) := (kc 1).trans (by simp [go_sem, *])
  have f1_1_1 : v1.frozen? ⟨w.heap.size + 1, 1, none⟩ = false := (kf 1).trans (by simp [go_sem, *])
  have c1_1_2 : v1.cell? ⟨w.heap.size + 1, 2, none⟩ = some (.slice l.args.a l.args.n l.args.c) := (kc 2).trans (by simp [go_sem, *])
  have f1_1_2 : v1.frozen? ⟨w.heap.size + 1, 2, none⟩ = false := (kf 2).trans (by simp [go_sem, *])
  have c1_1_3 : v1.cell? ⟨w.heap.size + 1, 3, none⟩ = some (.int .i64 l.sent) := (kc 3).trans (by simp [go_sem, *])
  have f1_1_3 : v1.frozen? ⟨w.heap.size + 1, 3, none⟩ = false := (kf 3).trans (by simp [go_sem, *])
  clear kc kf
  obtain ⟨k1_2, kc, kf⟩ := keepB h1 (w.heap.size + 1 + 1) (by first | omega | (simp; omega) | (simp; done))
  have c1_2_0 : v1.cell? ⟨w.heap.size + 1 + 1, 0, none⟩ = some (.slice none 0 0) := (kc 0).trans (by simp [go_sem, *])
  have f1_2_0 : v1.frozen? ⟨w.heap.size + 1 + 1, 0, none⟩ = false := (kf 0).trans (by simp [go_sem, *])
  have c1_2_1 : v1.cell? ⟨w.heap.size + 1 + 1, 1, none⟩ = some (.int .i64 0) := (kc 1).trans (by simp [go_sem, *])
  have f1_2_1 : v1.frozen? ⟨w.heap.size + 1 + 1, 1, none⟩ = false := (kf 1).trans (by simp [go_sem, *])
  have c1_2_2 : v1.cell? ⟨w.heap.size + 1 + 1, 2, none⟩ = some (.int .i64 0) := (kc 2).trans (by simp [go_sem, *])
  have f1_2_2 : v1.frozen? ⟨w.heap.size + 1 + 1, 2, none⟩ = false := (kf 2).trans (by simp [go_sem, *])
  have c1_2_3 : v1.cell? ⟨w.heap.size + 1 + 1, 3, none⟩ = some (.int .i64 0) := (kc 3).trans (by simp [go_sem, *])
  have f1_2_3 : v1.frozen? ⟨w.heap.size + 1 + 1, 3, none⟩ = false := (kf 3).trans (by simp [go_sem, *])
  have c1_2_4 : v1.cell? ⟨w.heap.size + 1 + 1, 4, none⟩ = some (.slice none 0 0) := (kc 4).trans (by simp [go_sem, *])
  have f1_2_4 : v1.frozen? ⟨w.heap.size + 1 + 1, 4, none⟩ = false := (kf 4).trans (by simp [go_sem, *])
  have c1_2_5 : v1.cell? ⟨w.heap.size + 1 + 1, 5, none⟩ = some (.slice none 0 0) := (kc 5).trans (by simp [go_sem, *])
  have f1_2_5 : v1.frozen? ⟨w.heap.size + 1 + 1, 5, none⟩ = false := (kf 5).trans (by simp [go_sem, *])
  have c1_2_6 : v1.cell? ⟨w.heap.size + 1 + 1, 6, none⟩ = some (.slice none 0 0) := (kc 6).trans (by simp [go_sem, *])
  have f1_2_6 : v1.frozen? ⟨w.heap.size + 1 + 1, 6, none⟩ = false := (kf 6).trans (by simp [go_sem, *])
  have c1_2_7 : v1.cell? ⟨w.heap.size + 1 + 1, 7, none⟩ = some (.slice none 0 0) := (kc 7).trans (by simp [go_sem, *])
  have f1_2_7 : v1.frozen? ⟨w.heap.size + 1 + 1, 7, none⟩ = false := (kf 7).trans (by simp [go_sem, *])
  have c1_2_8 : v1.cell? ⟨w.heap.size + 1 + 1, 8, none⟩ = some (.int .i64 0) := (kc 8).trans (by simp [go_sem, *])
  have f1_2_8 : v1.frozen? ⟨w.heap.size + 1 + 1, 8, none⟩ = false := (kf 8).trans (by simp [go_sem, *])
  clear kc kf
  go_wp2_with fail
  go_quiet (fail)
  have hBq := below_drewN hB1 nq
  go_wp2_with fail
  refine bodyPost_ret (v := .tuple #[sysV { s with dead := wrap64 (s.dead + 1) }, .bool false]) (by simp [results, Try.results35, go_sem, *]) rfl (sysPost HP.out (((H.out.below (by repeat (first | (with_reducible exact Below.refl _ _) | (with_reducible assumption) | ((with_reducible refine Below.setCell ?_ ?_ _); rotate_left; (focus (first | omega | (simp; omega) | (simp; done)))) | ((with_reducible refine Below.alloc ?_ ?_ _); rotate_left; (focus (first | omega | (simp; omega) | (simp; done)))) | (with_reducible refine Below.drew ?_)))).lost).mono (fun b hb => .inl hb)) (by repeat (first | (with_reducible exact Below.refl _ _) | (with_reducible assumption) | ((with_reducible refine Below.setCell ?_ ?_ _); rotate_left; (focus (first | omega | (simp; omega) | (simp; done)))) | ((with_reducible refine Below.alloc ?_ ?_ _); rotate_left; (focus (first | omega | (simp; omega) | (simp; done)))) | (with_reducible refine Below.drew ?_))))

set_option maxRecDepth 100000 in
set_option maxHeartbeats 4000000 in
set_option linter.unusedSimpArgs false in
set_option linter.unusedVariables false in
theorem send_here {P : Nat → Prop} (s : SysC) (σ : PS) (x : Int) (p : ByteArray) (l : LetC) (w : World) (h : SysR P w s σ) (hna : s.actors.n ≤ 1000000) (hnu : s.up.n ≤ 9223372036854775807) (hnf : s.flights.n ≤ 1000000) (i : Nat) (hr : Ml.reachP σ p = some i) (a : LiveC) (ms : List LetC) (qs : List (LiveC × List LetC)) (hq1 : Rd w w.heap.size 9 s.actors.a s.actors.n ((qs.map (·.1)).flatMap liveL)) (hq3 : qs.map plOf = σ.acts) (hqi : qs[i]? = some (a, ms)) (hn : a.node = x) :
    Calls Try.prog 35 #[sysV s, .int .i64 x, .string p, letV l] w (SysPost P (Ml.send σ x p l) w) := by
  have hai : σ.acts[i]? = some (plOf (a, ms)) := by rw [← hq3, List.getElem?_map, hqi]; rfl
  have hnd : Ml.nodeOf σ i = a.node := by unfold Ml.nodeOf; rw [hai]; rfl
  have HP : Hid (Ml.send σ x p l = Ml.post σ p l) := Lib.hid (by unfold Ml.send; rw [hr]; simp only; rw [if_pos (by rw [hnd]; exact hn)])
  have t1 : (a.node == x) = true := by simp [hn]
  clear hn
  have C := Lib.hid (fun (W : World) (hW : Below w.heap.size w W) => reach_any s (qs.map (·.1)) σ.ups p W (h.up.up hW) (hq1.up hW) (by omega) hnu)
  rw [Ml.reach_eq σ.ups qs σ hq3 rfl p, hr] at C
  have hil : i < s.actors.n := by
    have h1 := hq1.len (fun _ => rfl) (by omega)
    have h2 := (List.getElem?_eq_some_iff.1 hqi).1
    simp at h1; omega
  obtain ⟨b, off, a', hA, hb, hak, hc⟩ := hq1.at_ (fun _ => rfl) (by omega) hil
  have ea : a' = a := by rw [List.getElem?_map, hqi] at hak; simpa using hak.symm
  subst ea
  have c2 : w.cell? ⟨b, off + i * 9 + 2, none⟩ = some (.int .i64 a'.node) := hc 2 _ rfl
  have hix : ∀ W : World, Sem.run Try.prog (Instr.indexAt 23 (.slice s.actors.a s.actors.n s.actors.c) (.int .i64 (i : Int))) W = .ok (.pointer (some ⟨b, off + i * 9, none⟩)) W := by intro W; rw [hA]; go_simp
  have H := Lib.hid h
  have HQ1 := Lib.hid hq1
  clear h hr hq1 hq3 hqi hA hak hc hai hnd
  go_enter Try.func35, Try.ntmps35
  go_wp2_with fail
  refine (C.out _ (by repeat (first | (with_reducible exact Below.refl _ _) | (with_reducible assumption) | ((with_reducible refine Below.setCell ?_ ?_ _); rotate_left; (focus (first | omega | (simp; omega) | (simp; done)))) | ((with_reducible refine Below.alloc ?_ ?_ _); rotate_left; (focus (first | omega | (simp; omega) | (simp; done)))) | (with_reducible refine Below.drew ?_)))).mono ?_
  rintro e v1 ⟨i', rfl, hi', h1⟩
  obtain rfl := hi' i rfl
  clear hi'
  have z1 := h1.size
  try simp at z1
  have hB1 : Below w.heap.size w v1 := Below.call (w := w) (by repeat (first | (with_reducible exact Below.refl _ _) | (with_reducible assumption) | ((with_reducible refine Below.setCell ?_ ?_ _); rotate_left; (focus (first | omega | (simp; omega) | (simp; done)))) | ((with_reducible refine Below.alloc ?_ ?_ _); rotate_left; (focus (first | omega | (simp; omega) | (simp; done)))) | (with_reducible refine Below.drew ?_))) h1
  obtain ⟨k1_0, kc, kf⟩ := keepB h1 (w.heap.size) (by first | omega | (simp; omega) | (simp; done))
  have c1_0_0 : v1.cell? ⟨w.heap.size, 0, none⟩ = some (.slice s.up.a s.up.n s.up.c) := (kc 0).trans (by simp [go_sem, *])
  have f1_0_0 : v1.frozen? ⟨w.heap.size, 0, none⟩ = false := (kf 0).trans (by simp [go_sem, *])
  have c1_0_1 : v1.cell? ⟨w.heap.size, 1, none⟩ = some (.int .i64 s.moment) := (kc 1).trans (by simp [go_sem, *])
  have f1_0_1 : v1.frozen? ⟨w.heap.size, 1, none⟩ = false := (kf 1).trans (by simp [go_sem, *])
  have c1_0_2 : v1.cell? ⟨w.heap.size, 2, none⟩ = some (.int .i64 s.clock) := (kc 2).trans (by simp [go_sem, *])
  have f1_0_2 : v1.frozen? ⟨w.heap.size, 2, none⟩ = false := (kf 2).trans (by simp [go_sem, *])
  have c1_0_3 : v1.cell? ⟨w.heap.size, 3, none⟩ = some (.int .i64 s.seq) := (kc 3).trans (by simp [go_sem, *])
  have f1_0_3 : v1.frozen? ⟨w.heap.size, 3, none⟩ = false := (kf 3).trans (by simp [go_sem, *])
  have c1_0_4 : v1.cell? ⟨w.heap.size, 4, none⟩ = some (.slice s.actors.a s.actors.n s.actors.c) := (kc 4).trans (by simp [go_sem, *])
  have f1_0_4 : v1.frozen? ⟨w.heap.size, 4, none⟩ = false := (kf 4).trans (by simp [go_sem, *])
  have c1_0_5 : v1.cell? ⟨w.heap.size, 5, none⟩ = some (.slice s.flights.a s.flights.n s.flights.c) := (kc 5).trans (by simp [go_sem, *])
  have f1_0_5 : v1.frozen? ⟨w.heap.size, 5, none⟩ = false := (kf 5).trans (by simp [go_sem, *])
  have c1_0_6 : v1.cell? ⟨w.heap.size, 6, none⟩ = some (.slice s.alarms.a s.alarms.n s.alarms.c) := (kc 6).trans (by simp [go_sem, *])
  have f1_0_6 : v1.frozen? ⟨w.heap.size, 6, none⟩ = false := (kf 6).trans (by simp [go_sem, *])
  have c1_0_7 : v1.cell? ⟨w.heap.size, 7, none⟩ = some (.slice s.asked.a s.asked.n s.asked.c) := (kc 7).trans (by simp [go_sem, *])
  have f1_0_7 : v1.frozen? ⟨w.heap.size, 7, none⟩ = false := (kf 7).trans (by simp [go_sem, *])
  have c1_0_8 : v1.cell? ⟨w.heap.size, 8, none⟩ = some (.int .i64 s.dead) := (kc 8).trans (by simp [go_sem, *])
  have f1_0_8 : v1.frozen? ⟨w.heap.size, 8, none⟩ = false := (kf 8).trans (by simp [go_sem, *])
  clear kc kf
  obtain ⟨k1_1, kc, kf⟩ := keepB h1 (w.heap.size + 1) (by first | omega | (simp; omega) | (simp; done))
  have c1_1_0 : v1.cell? ⟨w.heap.size + 1, 0, none⟩ = some (.string l.src) := (kc 0).trans (by simp [go_sem, *])
  have f1_1_0 : v1.frozen? ⟨w.heap.size + 1, 0, none⟩ = false := (kf 0).trans (by simp [go_sem, *])
  have c1_1_1 : v1.cell? ⟨w.heap.size + 1, 1, none⟩ = some (.string l.msg) := (kc 1).trans (by simp [go_sem, *])
  have f1_1_1 : v1.frozen? ⟨w.heap.size + 1, 1, none⟩ = false := (kf 1).trans (by simp [go_sem, *])
  have c1_1_2 : v1.cell? ⟨w.heap.size + 1, 2, none⟩ = some (.slice l.args.a l.args.n l.args.c) := (kc 2).trans (by simp [go_sem, *])
  have f1_1_2 : v1.frozen? ⟨w.heap.size + 1, 2, none⟩ = false := (kf 2).trans (by simp [go_sem, *])
  have c1_1_3 : v1.cell? ⟨w.heap.size + 1, 3, none⟩ = some (.int .i64 l.sent) := (kc 3).trans (by simp [go_sem, *])
  have f1_1_3 : v1.frozen? ⟨w.heap.size + 1, 3, none⟩ = false := (kf 3).trans (by simp [go_sem, *])
  clear kc kf
  obtain ⟨k1_2, kc, kf⟩ := keepB h1 (w.heap.size + 1 + 1) (by first | omega | (simp; omega) | (simp; done))
  have c1_2_0 : v1.cell? ⟨w.heap.size + 1 + 1, 0, none⟩ = some (.slice none 0 0) := (kc 0).trans (by simp [go_sem, *])
  have f1_2_0 : v1.frozen? ⟨w.heap.size + 1 + 1, 0, none⟩ = false := (kf 0).trans (by simp [go_sem, *])
  have c1_2_1 : v1.cell? ⟨w.heap.size + 1 + 1, 1, none⟩ = some (.int .i64 0) := (kc 1).trans (by simp [go_sem, *])
  have f1_2_1 : v1.frozen? ⟨w.heap.size + 1 + 1, 1, none⟩ = false := (kf 1).trans (by simp [go_sem, *])
  have c1_2_2 : v1.cell? ⟨w.heap.size + 1 + 1, 2, none⟩ = some (.int .i64 0) := (kc 2).trans (by simp [go_sem, *])
  have f1_2_2 : v1.frozen? ⟨w.heap.size + 1 + 1, 2, none⟩ = false := (kf 2).trans (by simp [go_sem, *])
  have c1_2_3 : v1.cell? ⟨w.heap.size + 1 + 1, 3, none⟩ = some (.int .i64 0) := (kc 3).trans (by simp [go_sem, *])
  have f1_2_3 : v1.frozen? ⟨w.heap.size + 1 + 1, 3, none⟩ = false := (kf 3).trans (by simp [go_sem, *])
  have c1_2_4 : v1.cell? ⟨w.heap.size + 1 + 1, 4, none⟩ = some (.slice none 0 0) := (kc 4).trans (by simp [go_sem, *])
  have f1_2_4 : v1.frozen? ⟨w.heap.size + 1 + 1, 4, none⟩ = false := (kf 4).trans (by simp [go_sem, *])
  have c1_2_5 : v1.cell? ⟨w.heap.size + 1 + 1, 5, none⟩ = some (.slice none 0 0) := (kc 5).trans (by simp [go_sem, *])
  have f1_2_5 : v1.frozen? ⟨w.heap.size + 1 + 1, 5, none⟩ = false := (kf 5).trans (by simp [go_sem, *])
  have c1_2_6 : v1.cell? ⟨w.heap.size + 1 + 1, 6, none⟩ = some (.slice none 0 0) := (kc 6).trans (by simp [go_sem, *])
  have f1_2_6 : v1.frozen? ⟨w.heap.size + 1 + 1, 6, none⟩ = false := (kf 6).trans (by simp [go_sem, *])
  have c1_2_7 : v1.cell? ⟨w.heap.size + 1 + 1, 7, none⟩ = some (.slice none 0 0) := (kc 7).trans (by simp [go_sem, *])
  have f1_2_7 : v1.frozen? ⟨w.heap.size + 1 + 1, 7, none⟩ = false := (kf 7).trans (by simp [go_sem, *])
  have c1_2_8 : v1.cell? ⟨w.heap.size + 1 + 1, 8, none⟩ = some (.int .i64 0) := (kc 8).trans (by simp [go_sem, *])
  have f1_2_8 : v1.frozen? ⟨w.heap.size + 1 + 1, 8, none⟩ = false := (kf 8).trans (by simp [go_sem, *])
  clear kc kf
  have d2 : v1.cell? ⟨b, off + i' * 9 + 2, none⟩ = some (.int .i64 a'.node) := (hB1.cell (p := ⟨b, off + i' * 9 + 2, none⟩) hb).trans c2
  clear c2
  go_wp2_with fail
  refine (post_any s σ p l _ (H.out.low.below hB1) hna hnu).mono ?_
  rintro e v2 ⟨s2, rfl, hs2, h2⟩
  clear d2 hix
  have z2 := h2.size
  try simp at z2
  have hB2 : Below w.heap.size w v2 := Below.call (w := w) (by repeat (first | (with_reducible exact Below.refl _ _) | (with_reducible assumption) | ((with_reducible refine Below.setCell ?_ ?_ _); rotate_left; (focus (first | omega | (simp; omega) | (simp; done)))) | ((with_reducible refine Below.alloc ?_ ?_ _); rotate_left; (focus (first | omega | (simp; omega) | (simp; done)))) | (with_reducible refine Below.drew ?_))) h2
  obtain ⟨k2_0, kc, kf⟩ := keepB h2 (w.heap.size) (by first | omega | (simp; omega) | (simp; done))
  have c2_0_0 : v2.cell? ⟨w.heap.size, 0, none⟩ = some (.slice s.up.a s.up.n s.up.c) := (kc 0).trans (by simp [go_sem, *])
  have f2_0_0 : v2.frozen? ⟨w.heap.size, 0, none⟩ = false := (kf 0).trans (by simp [go_sem, *])
  have c2_0_1 : v2.cell? ⟨w.heap.size, 1, none⟩ = some (.int .i64 s.moment) := (kc 1).trans (by simp [go_sem, *])
  have f2_0_1 : v2.frozen? ⟨w.heap.size, 1, none⟩ = false := (kf 1).trans (by simp [go_sem, *])
  have c2_0_2 : v2.cell? ⟨w.heap.size, 2, none⟩ = some (.int .i64 s.clock) := (kc 2).trans (by simp [go_sem, *])
  have f2_0_2 : v2.frozen? ⟨w.heap.size, 2, none⟩ = false := (kf 2).trans (by simp [go_sem, *])
  have c2_0_3 : v2.cell? ⟨w.heap.size, 3, none⟩ = some (.int .i64 s.seq) := (kc 3).trans (by simp [go_sem, *])
  have f2_0_3 : v2.frozen? ⟨w.heap.size, 3, none⟩ = false := (kf 3).trans (by simp [go_sem, *])
  have c2_0_4 : v2.cell? ⟨w.heap.size, 4, none⟩ = some (.slice s.actors.a s.actors.n s.actors.c) := (kc 4).trans (by simp [go_sem, *])
  have f2_0_4 : v2.frozen? ⟨w.heap.size, 4, none⟩ = false := (kf 4).trans (by simp [go_sem, *])
  have c2_0_5 : v2.cell? ⟨w.heap.size, 5, none⟩ = some (.slice s.flights.a s.flights.n s.flights.c) := (kc 5).trans (by simp [go_sem, *])
  have f2_0_5 : v2.frozen? ⟨w.heap.size, 5, none⟩ = false := (kf 5).trans (by simp [go_sem, *])
  have c2_0_6 : v2.cell? ⟨w.heap.size, 6, none⟩ = some (.slice s.alarms.a s.alarms.n s.alarms.c) := (kc 6).trans (by simp [go_sem, *])
  have f2_0_6 : v2.frozen? ⟨w.heap.size, 6, none⟩ = false := (kf 6).trans (by simp [go_sem, *])
  have c2_0_7 : v2.cell? ⟨w.heap.size, 7, none⟩ = some (.slice s.asked.a s.asked.n s.asked.c) := (kc 7).trans (by simp [go_sem, *])
  have f2_0_7 : v2.frozen? ⟨w.heap.size, 7, none⟩ = false := (kf 7).trans (by simp [go_sem, *])
  have c2_0_8 : v2.cell? ⟨w.heap.size, 8, none⟩ = some (.int .i64 s.dead) := (kc 8).trans (by simp [go_sem, *])
  have f2_0_8 : v2.frozen? ⟨w.heap.size, 8, none⟩ = false := (kf 8).trans (by simp [go_sem, *])
  clear kc kf
  obtain ⟨k2_1, kc, kf⟩ := keepB h2 (w.heap.size + 1) (by first | omega | (simp; omega) | (simp; done))
  have c2_1_0 : v2.cell? ⟨w.heap.size + 1, 0, none⟩ = some (.string l.src) := (kc 0).trans (by simp [go_sem, *])
  have f2_1_0 : v2.frozen? ⟨w.heap.size + 1, 0, none⟩ = false := (kf 0).trans (by simp [go_sem, *])
  have c2_1_1 : v2.cell? ⟨w.heap.size + 1, 1, none⟩ = some (.string l.msg) := (kc 1).trans (by simp [go_sem, *])
  have f2_1_1 : v2.frozen? ⟨w.heap.size + 1, 1, none⟩ = false := (kf 1).trans (by simp [go_sem, *])
  have c2_1_2 : v2.cell? ⟨w.heap.size + 1, 2, none⟩ = some (.slice l.args.a l.args.n l.args.c) := (kc 2).trans (by simp [go_sem, *])
  have f2_1_2 : v2.frozen? ⟨w.heap.size + 1, 2, none⟩ = false := (kf 2).trans (by simp [go_sem, *])
  have c2_1_3 : v2.cell? ⟨w.heap.size + 1, 3, none⟩ = some (.int .i64 l.sent) := (kc 3).trans (by simp [go_sem, *])
  have f2_1_3 : v2.frozen? ⟨w.heap.size + 1, 3, none⟩ = false := (kf 3).trans (by simp [go_sem, *])
  clear kc kf
  obtain ⟨k2_2, kc, kf⟩ := keepB h2 (w.heap.size + 1 + 1) (by first | omega | (simp; omega) | (simp; done))
  have c2_2_0 : v2.cell? ⟨w.heap.size + 1 + 1, 0, none⟩ = some (.slice none 0 0) := (kc 0).trans (by simp [go_sem, *])
  have f2_2_0 : v2.frozen? ⟨w.heap.size + 1 + 1, 0, none⟩ = false := (kf 0).trans (by simp [go_sem, *])
  have c2_2_1 : v2.cell? ⟨w.heap.size + 1 + 1, 1, none⟩ = some (.int .i64 0) := (kc 1).trans (by simp [go_sem, *])
  have f2_2_1 : v2.frozen? ⟨w.heap.size + 1 + 1, 1, none⟩ = false := (kf 1).trans (by simp [go_sem, *])
  have c2_2_2 : v2.cell? ⟨w.heap.size + 1 + 1, 2, none⟩ = some (.int .i64 0) := (kc 2).trans (by simp [go_sem, *])
  have f2_2_2 : v2.frozen? ⟨w.heap.size + 1 + 1, 2, none⟩ = false := (kf 2).trans (by simp [go_sem, *])
  have c2_2_3 : v2.cell? ⟨w.heap.size + 1 + 1, 3, none⟩ = some (.int .i64 0) := (kc 3).trans (by simp [go_sem, *])
  have f2_2_3 : v2.frozen? ⟨w.heap.size + 1 + 1, 3, none⟩ = false := (kf 3).trans (by simp [go_sem, *])
  have c2_2_4 : v2.cell? ⟨w.heap.size + 1 + 1, 4, none⟩ = some (.slice none 0 0) := (kc 4).trans (by simp [go_sem, *])
  have f2_2_4 : v2.frozen? ⟨w.heap.size + 1 + 1, 4, none⟩ = false := (kf 4).trans (by simp [go_sem, *])
  have c2_2_5 : v2.cell? ⟨w.heap.size + 1 + 1, 5, none⟩ = some (.slice none 0 0) := (kc 5).trans (by simp [go_sem, *])
  have f2_2_5 : v2.frozen? ⟨w.heap.size + 1 + 1, 5, none⟩ = false := (kf 5).trans (by simp [go_sem, *])
  have c2_2_6 : v2.cell? ⟨w.heap.size + 1 + 1, 6, none⟩ = some (.slice none 0 0) := (kc 6).trans (by simp [go_sem, *])
  have f2_2_6 : v2.frozen? ⟨w.heap.size + 1 + 1, 6, none⟩ = false := (kf 6).trans (by simp [go_sem, *])
  have c2_2_7 : v2.cell? ⟨w.heap.size + 1 + 1, 7, none⟩ = some (.slice none 0 0) := (kc 7).trans (by simp [go_sem, *])
  have f2_2_7 : v2.frozen? ⟨w.heap.size + 1 + 1, 7, none⟩ = false := (kf 7).trans (by simp [go_sem, *])
  have c2_2_8 : v2.cell? ⟨w.heap.size + 1 + 1, 8, none⟩ = some (.int .i64 0) := (kc 8).trans (by simp [go_sem, *])
  have f2_2_8 : v2.frozen? ⟨w.heap.size + 1 + 1, 8, none⟩ = false := (kf 8).trans (by simp [go_sem, *])
  clear kc kf
  clear c1_0_0 f1_0_0 c1_0_1 f1_0_1 c1_0_2 f1_0_2 c1_0_3 f1_0_3 c1_0_4 f1_0_4 c1_0_5 f1_0_5 c1_0_6 f1_0_6 c1_0_7 f1_0_7 c1_0_8 f1_0_8 c1_1_0 f1_1_0 c1_1_1 f1_1_1 c1_1_2 f1_1_2 c1_1_3 f1_1_3 c1_2_0 f1_2_0 c1_2_1 f1_2_1 c1_2_2 f1_2_2 c1_2_3 f1_2_3 c1_2_4 f1_2_4 c1_2_5 f1_2_5 c1_2_6 f1_2_6 c1_2_7 f1_2_7 c1_2_8 f1_2_8
  have HS2 := Lib.hid hs2; clear hs2
  go_wp2_with fail
  refine bodyPost_ret (v := .tuple #[sysV s2, .bool (Ml.post σ p l).2]) (by simp [results, Try.results35, go_sem, *]) rfl ?_
  rw [HP.out]
  exact ⟨s2, rfl, HS2.out.boxed (R := w.heap.size + 1 + 1) (by omega) (by omega) (by repeat (first | (with_reducible exact Off.refl _ _) | (with_reducible refine Off.set ?_ _ _) | (with_reducible refine Off.drew ?_))), (by repeat (first | (with_reducible exact Below.refl _ _) | (with_reducible assumption) | ((with_reducible refine Below.setCell ?_ ?_ _); rotate_left; (focus (first | omega | (simp; omega) | (simp; done)))) | ((with_reducible refine Below.alloc ?_ ?_ _); rotate_left; (focus (first | omega | (simp; omega) | (simp; done)))) | (with_reducible refine Below.drew ?_)))⟩

set_option maxRecDepth 100000 in
set_option maxHeartbeats 4000000 in
set_option linter.unusedSimpArgs false in
set_option linter.unusedVariables false in
theorem send_full {P : Nat → Prop} (s : SysC) (σ : PS) (x : Int) (p : ByteArray) (l : LetC) (w : World) (h : SysR P w s σ) (hna : s.actors.n ≤ 1000000) (hnu : s.up.n ≤ 9223372036854775807) (hnf : s.flights.n ≤ 1000000) (i : Nat) (hr : Ml.reachP σ p = some i) (a : LiveC) (ms : List LetC) (qs : List (LiveC × List LetC)) (hq1 : Rd w w.heap.size 9 s.actors.a s.actors.n ((qs.map (·.1)).flatMap liveL)) (hq3 : qs.map plOf = σ.acts) (hqi : qs[i]? = some (a, ms)) (hn : a.node ≠ x) (hm : decide ((Ml.chan σ.fls x a.node : Int) < 1024) = false) :
    Calls Try.prog 35 #[sysV s, .int .i64 x, .string p, letV l] w (SysPost P (Ml.send σ x p l) w) := by
  have hai : σ.acts[i]? = some (plOf (a, ms)) := by rw [← hq3, List.getElem?_map, hqi]; rfl
  have hnd : Ml.nodeOf σ i = a.node := by unfold Ml.nodeOf; rw [hai]; rfl
  have HP : Hid (Ml.send σ x p l = (Ml.lost σ, false)) := Lib.hid (by unfold Ml.send; rw [hr]; simp only; rw [if_neg (by rw [hnd]; exact hn), hnd, if_neg (by simp at hm; omega)])
  have t1 : (a.node == x) = false := by simp [hn]
  have CH := Lib.hid (fun (W : World) (hW : Below w.heap.size w W) => chan79 s σ.fls x a.node W (h.fl.up hW) hnf)
  obtain ⟨ch, hch⟩ : ∃ ch, Ml.chan σ.fls x a.node = ch := ⟨_, rfl⟩
  rw [hch] at hm CH
  have HCH := Lib.hid hch
  clear hn hch
  have C := Lib.hid (fun (W : World) (hW : Below w.heap.size w W) => reach_any s (qs.map (·.1)) σ.ups p W (h.up.up hW) (hq1.up hW) (by omega) hnu)
  rw [Ml.reach_eq σ.ups qs σ hq3 rfl p, hr] at C
  have hil : i < s.actors.n := by
    have h1 := hq1.len (fun _ => rfl) (by omega)
    have h2 := (List.getElem?_eq_some_iff.1 hqi).1
    simp at h1; omega
  obtain ⟨b, off, a', hA, hb, hak, hc⟩ := hq1.at_ (fun _ => rfl) (by omega) hil
  have ea : a' = a := by rw [List.getElem?_map, hqi] at hak; simpa using hak.symm
  subst ea
  have c2 : w.cell? ⟨b, off + i * 9 + 2, none⟩ = some (.int .i64 a'.node) := hc 2 _ rfl
  have hix : ∀ W : World, Sem.run Try.prog (Instr.indexAt 23 (.slice s.actors.a s.actors.n s.actors.c) (.int .i64 (i : Int))) W = .ok (.pointer (some ⟨b, off + i * 9, none⟩)) W := by intro W; rw [hA]; go_simp
  have H := Lib.hid h
  have HQ1 := Lib.hid hq1
  clear h hr hq1 hq3 hqi hA hak hc hai hnd
  go_enter Try.func35, Try.ntmps35
  go_wp2_with fail
  refine (C.out _ (by repeat (first | (with_reducible exact Below.refl _ _) | (with_reducible assumption) | ((with_reducible refine Below.setCell ?_ ?_ _); rotate_left; (focus (first | omega | (simp; omega) | (simp; done)))) | ((with_reducible refine Below.alloc ?_ ?_ _); rotate_left; (focus (first | omega | (simp; omega) | (simp; done)))) | (with_reducible refine Below.drew ?_)))).mono ?_
  rintro e v1 ⟨i', rfl, hi', h1⟩
  obtain rfl := hi' i rfl
  clear hi'
  have z1 := h1.size
  try simp at z1
  have hB1 : Below w.heap.size w v1 := Below.call (w := w) (by repeat (first | (with_reducible exact Below.refl _ _) | (with_reducible assumption) | ((with_reducible refine Below.setCell ?_ ?_ _); rotate_left; (focus (first | omega | (simp; omega) | (simp; done)))) | ((with_reducible refine Below.alloc ?_ ?_ _); rotate_left; (focus (first | omega | (simp; omega) | (simp; done)))) | (with_reducible refine Below.drew ?_))) h1
  obtain ⟨k1_0, kc, kf⟩ := keepB h1 (w.heap.size) (by first | omega | (simp; omega) | (simp; done))
  have c1_0_0 : v1.cell? ⟨w.heap.size, 0, none⟩ = some (.slice s.up.a s.up.n s.up.c) := (kc 0).trans (by simp [go_sem, *])
  have f1_0_0 : v1.frozen? ⟨w.heap.size, 0, none⟩ = false := (kf 0).trans (by simp [go_sem, *])
  have c1_0_1 : v1.cell? ⟨w.heap.size, 1, none⟩ = some (.int .i64 s.moment) := (kc 1).trans (by simp [go_sem, *])
  have f1_0_1 : v1.frozen? ⟨w.heap.size, 1, none⟩ = false := (kf 1).trans (by simp [go_sem, *])
  have c1_0_2 : v1.cell? ⟨w.heap.size, 2, none⟩ = some (.int .i64 s.clock) := (kc 2).trans (by simp [go_sem, *])
  have f1_0_2 : v1.frozen? ⟨w.heap.size, 2, none⟩ = false := (kf 2).trans (by simp [go_sem, *])
  have c1_0_3 : v1.cell? ⟨w.heap.size, 3, none⟩ = some (.int .i64 s.seq) := (kc 3).trans (by simp [go_sem, *])
  have f1_0_3 : v1.frozen? ⟨w.heap.size, 3, none⟩ = false := (kf 3).trans (by simp [go_sem, *])
  have c1_0_4 : v1.cell? ⟨w.heap.size, 4, none⟩ = some (.slice s.actors.a s.actors.n s.actors.c) := (kc 4).trans (by simp [go_sem, *])
  have f1_0_4 : v1.frozen? ⟨w.heap.size, 4, none⟩ = false := (kf 4).trans (by simp [go_sem, *])
  have c1_0_5 : v1.cell? ⟨w.heap.size, 5, none⟩ = some (.slice s.flights.a s.flights.n s.flights.c) := (kc 5).trans (by simp [go_sem, *])
  have f1_0_5 : v1.frozen? ⟨w.heap.size, 5, none⟩ = false := (kf 5).trans (by simp [go_sem, *])
  have c1_0_6 : v1.cell? ⟨w.heap.size, 6, none⟩ = some (.slice s.alarms.a s.alarms.n s.alarms.c) := (kc 6).trans (by simp [go_sem, *])
  have f1_0_6 : v1.frozen? ⟨w.heap.size, 6, none⟩ = false := (kf 6).trans (by simp [go_sem, *])
  have c1_0_7 : v1.cell? ⟨w.heap.size, 7, none⟩ = some (.slice s.asked.a s.asked.n s.asked.c) := (kc 7).trans (by simp [go_sem, *])
  have f1_0_7 : v1.frozen? ⟨w.heap.size, 7, none⟩ = false := (kf 7).trans (by simp [go_sem, *])
  have c1_0_8 : v1.cell? ⟨w.heap.size, 8, none⟩ = some (.int .i64 s.dead) := (kc 8).trans (by simp [go_sem, *])
  have f1_0_8 : v1.frozen? ⟨w.heap.size, 8, none⟩ = false := (kf 8).trans (by simp [go_sem, *])
  clear kc kf
  obtain ⟨k1_1, kc, kf⟩ := keepB h1 (w.heap.size + 1) (by first | omega | (simp; omega) | (simp; done))
  have c1_1_0 : v1.cell? ⟨w.heap.size + 1, 0, none⟩ = some (.string l.src) := (kc 0).trans (by simp [go_sem, *])
  have f1_1_0 : v1.frozen? ⟨w.heap.size + 1, 0, none⟩ = false := (kf 0).trans (by simp [go_sem, *])
  have c1_1_1 : v1.cell? ⟨w.heap.size + 1, 1, none⟩ = some (.string l.msg) := (kc 1).trans (by simp [go_sem, *])
  have f1_1_1 : v1.frozen? ⟨w.heap.size + 1, 1, none⟩ = false := (kf 1).trans (by simp [go_sem, *])
  have c1_1_2 : v1.cell? ⟨w.heap.size + 1, 2, none⟩ = some (.slice l.args.a l.args.n l.args.c) := (kc 2).trans (by simp [go_sem, *])
  have f1_1_2 : v1.frozen? ⟨w.heap.size + 1, 2, none⟩ = false := (kf 2).trans (by simp [go_sem, *])
  have c1_1_3 : v1.cell? ⟨w.heap.size + 1, 3, none⟩ = some (.int .i64 l.sent) := (kc 3).trans (by simp [go_sem, *])
  have f1_1_3 : v1.frozen? ⟨w.heap.size + 1, 3, none⟩ = false := (kf 3).trans (by simp [go_sem, *])
  clear kc kf
  obtain ⟨k1_2, kc, kf⟩ := keepB h1 (w.heap.size + 1 + 1) (by first | omega | (simp; omega) | (simp; done))
  have c1_2_0 : v1.cell? ⟨w.heap.size + 1 + 1, 0, none⟩ = some (.slice none 0 0) := (kc 0).trans (by simp [go_sem, *])
  have f1_2_0 : v1.frozen? ⟨w.heap.size + 1 + 1, 0, none⟩ = false := (kf 0).trans (by simp [go_sem, *])
  have c1_2_1 : v1.cell? ⟨w.heap.size + 1 + 1, 1, none⟩ = some (.int .i64 0) := (kc 1).trans (by simp [go_sem, *])
  have f1_2_1 : v1.frozen? ⟨w.heap.size + 1 + 1, 1, none⟩ = false := (kf 1).trans (by simp [go_sem, *])
  have c1_2_2 : v1.cell? ⟨w.heap.size + 1 + 1, 2, none⟩ = some (.int .i64 0) := (kc 2).trans (by simp [go_sem, *])
  have f1_2_2 : v1.frozen? ⟨w.heap.size + 1 + 1, 2, none⟩ = false := (kf 2).trans (by simp [go_sem, *])
  have c1_2_3 : v1.cell? ⟨w.heap.size + 1 + 1, 3, none⟩ = some (.int .i64 0) := (kc 3).trans (by simp [go_sem, *])
  have f1_2_3 : v1.frozen? ⟨w.heap.size + 1 + 1, 3, none⟩ = false := (kf 3).trans (by simp [go_sem, *])
  have c1_2_4 : v1.cell? ⟨w.heap.size + 1 + 1, 4, none⟩ = some (.slice none 0 0) := (kc 4).trans (by simp [go_sem, *])
  have f1_2_4 : v1.frozen? ⟨w.heap.size + 1 + 1, 4, none⟩ = false := (kf 4).trans (by simp [go_sem, *])
  have c1_2_5 : v1.cell? ⟨w.heap.size + 1 + 1, 5, none⟩ = some (.slice none 0 0) := (kc 5).trans (by simp [go_sem, *])
  have f1_2_5 : v1.frozen? ⟨w.heap.size + 1 + 1, 5, none⟩ = false := (kf 5).trans (by simp [go_sem, *])
  have c1_2_6 : v1.cell? ⟨w.heap.size + 1 + 1, 6, none⟩ = some (.slice none 0 0) := (kc 6).trans (by simp [go_sem, *])
  have f1_2_6 : v1.frozen? ⟨w.heap.size + 1 + 1, 6, none⟩ = false := (kf 6).trans (by simp [go_sem, *])
  have c1_2_7 : v1.cell? ⟨w.heap.size + 1 + 1, 7, none⟩ = some (.slice none 0 0) := (kc 7).trans (by simp [go_sem, *])
  have f1_2_7 : v1.frozen? ⟨w.heap.size + 1 + 1, 7, none⟩ = false := (kf 7).trans (by simp [go_sem, *])
  have c1_2_8 : v1.cell? ⟨w.heap.size + 1 + 1, 8, none⟩ = some (.int .i64 0) := (kc 8).trans (by simp [go_sem, *])
  have f1_2_8 : v1.frozen? ⟨w.heap.size + 1 + 1, 8, none⟩ = false := (kf 8).trans (by simp [go_sem, *])
  clear kc kf
  have d2 : v1.cell? ⟨b, off + i' * 9 + 2, none⟩ = some (.int .i64 a'.node) := (hB1.cell (p := ⟨b, off + i' * 9 + 2, none⟩) hb).trans c2
  clear c2
  go_wp2_with fail
  have nb1 : b < v1.heap.size := by omega
  go_region_held3 (fun w' => w'.cell? ⟨w.heap.size, 0, none⟩ = some (.slice s.up.a s.up.n s.up.c) ∧ w'.cell? ⟨w.heap.size, 1, none⟩ = some (.int .i64 s.moment) ∧ w'.cell? ⟨w.heap.size, 2, none⟩ = some (.int .i64 s.clock) ∧ w'.cell? ⟨w.heap.size, 3, none⟩ = some (.int .i64 s.seq) ∧ w'.cell? ⟨w.heap.size, 4, none⟩ = some (.slice s.actors.a s.actors.n s.actors.c) ∧ w'.cell? ⟨w.heap.size, 5, none⟩ = some (.slice s.flights.a s.flights.n s.flights.c) ∧ w'.cell? ⟨w.heap.size, 6, none⟩ = some (.slice s.alarms.a s.alarms.n s.alarms.c) ∧ w'.cell? ⟨w.heap.size, 7, none⟩ = some (.slice s.asked.a s.asked.n s.asked.c) ∧ w'.cell? ⟨w.heap.size, 8, none⟩ = some (.int .i64 s.dead) ∧ w'.cell? ⟨b, off + i' * 9 + 2, none⟩ = some (.int .i64 a'.node)) (simp [go_sem, *])
    (first | (go_at_call 79; refine (CH.out _ hB1.drew).mono ?_; rintro e v2 ⟨rfl, h2⟩; have z2 := h2.size; (try simp at z2); have hB2 : Below w.heap.size w v2 := Below.call (w := w) (by repeat (first | (with_reducible exact Below.refl _ _) | (with_reducible assumption) | ((with_reducible refine Below.setCell ?_ ?_ _); rotate_left; (focus (first | omega | (simp; omega) | (simp; done)))) | ((with_reducible refine Below.alloc ?_ ?_ _); rotate_left; (focus (first | omega | (simp; omega) | (simp; done)))) | (with_reducible refine Below.drew ?_))) h2; obtain ⟨k2_0, kc, kf⟩ := keepB h2 (w.heap.size) (by first | omega | (simp; omega) | (simp; done)); have c2_0_0 : v2.cell? ⟨w.heap.size, 0, none⟩ = some (.slice s.up.a s.up.n s.up.c) := (kc 0).trans (by simp [go_sem, *]); have f2_0_0 : v2.frozen? ⟨w.heap.size, 0, none⟩ = false := (kf 0).trans (by simp [go_sem, *]); have c2_0_1 : v2.cell? ⟨w.heap.size, 1, none⟩ = some (.int .i64 s.moment) := (kc 1).trans (by simp [go_sem, *]); have f2_0_1 : v2.frozen? ⟨w.heap.size, 1, none⟩ = false := (kf 1).trans (by simp [go_sem, *]); have c2_0_2 : v2.cell? ⟨w.heap.size, 2, none⟩ = some (.int .i64 s.clock) := (kc 2).trans (by simp [go_sem, *]); have f2_0_2 : v2.frozen? ⟨w.heap.size, 2, none⟩ = false := (kf 2).trans (by simp [go_sem, *]); have c2_0_3 : v2.cell? ⟨w.heap.size, 3, none⟩ = some (.int .i64 s.seq) := (kc 3).trans (by simp [go_sem, *]); have f2_0_3 : v2.frozen? ⟨w.heap.size, 3, none⟩ = false := (kf 3).trans (by simp [go_sem, *]); have c2_0_4 : v2.cell? ⟨w.heap.size, 4, none⟩ = some (.slice s.actors.a s.actors.n s.actors.c) := (kc 4).trans (by simp [go_sem, *]); have f2_0_4 : v2.frozen? ⟨w.heap.size, 4, none⟩ = false := (kf 4).trans (by simp [go_sem, *]); have c2_0_5 : v2.cell? ⟨w.heap.size, 5, none⟩ = some (.slice s.flights.a s.flights.n s.flights.c) := (kc 5).trans (by simp [go_sem, *]); have f2_0_5 : v2.frozen? ⟨w.heap.size, 5, none⟩ = false := (kf 5).trans (by simp [go_sem, *]); have c2_0_6 : v2.cell? ⟨w.heap.size, 6, none⟩ = some (.slice s.alarms.a s.alarms.n s.alarms.c) := (kc 6).trans (by simp [go_sem, *]); have f2_0_6 : v2.frozen? ⟨w.heap.size, 6, none⟩ = false := (kf 6).trans (by simp [go_sem, *]); have c2_0_7 : v2.cell? ⟨w.heap.size, 7, none⟩ = some (.slice s.asked.a s.asked.n s.asked.c) := (kc 7).trans (by simp [go_sem, *]); have f2_0_7 : v2.frozen? ⟨w.heap.size, 7, none⟩ = false := (kf 7).trans (by simp [go_sem, *]); have c2_0_8 : v2.cell? ⟨w.heap.size, 8, none⟩ = some (.int .i64 s.dead) := (kc 8).trans (by simp [go_sem, *]); have f2_0_8 : v2.frozen? ⟨w.heap.size, 8, none⟩ = false := (kf 8).trans (by simp [go_sem, *]); clear kc kf; obtain ⟨k2_1, kc, kf⟩ := keepB h2 (w.heap.size + 1) (by first | omega | (simp; omega) | (simp; done)); have c2_1_0 : v2.cell? ⟨w.heap.size + 1, 0, none⟩ = some (.string l.src) := (kc 0).trans (by simp [go_sem, *]); have f2_1_0 : v2.frozen? ⟨w.heap.size + 1, 0, none⟩ = false := (kf 0).trans (by simp [go_sem, *]); have c2_1_1 : v2.cell? ⟨w.heap.size + 1, 1, none⟩ = some (.string l.msg) := (kc 1).trans (by simp [go_sem, *]); have f2_1_1 : v2.frozen? ⟨w.heap.size + 1, 1, none⟩ = false := (kf 1).trans (by simp [go_sem, *]); have c2_1_2 : v2.cell? ⟨w.heap.size + 1, 2, none⟩ = some (.slice l.args.a l.args.n l.args.c) := (kc 2).trans (by simp [go_sem, *]); have f2_1_2 : v2.frozen? ⟨w.heap.size + 1, 2, none⟩ = false := (kf 2).trans (by simp [go_sem, *]); have c2_1_3 : v2.cell? ⟨w.heap.size + 1, 3, none⟩ = some (.int .i64 l.sent) := (kc 3).trans (by simp [go_sem, *]); have f2_1_3 : v2.frozen? ⟨w.heap.size + 1, 3, none⟩ = false := (kf 3).trans (by simp [go_sem, *]); clear kc kf; obtain ⟨k2_2, kc, kf⟩ := keepB h2 (w.heap.size + 1 + 1) (by first | omega | (simp; omega) | (simp; done)); have c2_2_0 : v2.cell? ⟨w.heap.size + 1 + 1, 0, none⟩ = some (.slice none 0 0) := (kc 0).trans (by simp [go_sem, *]); have f2_2_0 : v2.frozen? ⟨w.heap.size + 1 + 1, 0, none⟩ = false := (kf 0).trans (by simp [go_sem, *]); have c2_2_1 : v2.cell? ⟨w.heap.size + 1 + 1, 1, none⟩ = some (.int .i64 0) := (kc 1).trans (by simp [go_sem, *]); have f2_2_1 : v2.frozen? ⟨w.heap.size + 1 + 1, 1, none⟩ = false := (kf 1).trans (by simp [go_sem, *]); have c2_2_2 : v2.cell? ⟨w.heap.size + 1 + 1, 2, none⟩ = some (.int .i64 0) := (kc 2).trans (by simp [go_sem, *]); have f2_2_2 : v2.frozen? ⟨w.heap.size + 1 + 1, 2, none⟩ = false := (kf 2).trans (by simp [go_sem, *]); have c2_2_3 : v2.cell? ⟨w.heap.size + 1 + 1, 3, none⟩ = some (.int .i64 0) := (kc 3).trans (by simp [go_sem, *]); have f2_2_3 : v2.frozen? ⟨w.heap.size + 1 + 1, 3, none⟩ = false := (kf 3).trans (by simp [go_sem, *]); have c2_2_4 : v2.cell? ⟨w.heap.size + 1 + 1, 4, none⟩ = some (.slice none 0 0) := (kc 4).trans (by simp [go_sem, *]); have f2_2_4 : v2.frozen? ⟨w.heap.size + 1 + 1, 4, none⟩ = false := (kf 4).trans (by simp [go_sem, *]); have c2_2_5 : v2.cell? ⟨w.heap.size + 1 + 1, 5, none⟩ = some (.slice none 0 0) := (kc 5).trans (by simp [go_sem, *]); have f2_2_5 : v2.frozen? ⟨w.heap.size + 1 + 1, 5, none⟩ = false := (kf 5).trans (by simp [go_sem, *]); have c2_2_6 : v2.cell? ⟨w.heap.size + 1 + 1, 6, none⟩ = some (.slice none 0 0) := (kc 6).trans (by simp [go_sem, *]); have f2_2_6 : v2.frozen? ⟨w.heap.size + 1 + 1, 6, none⟩ = false := (kf 6).trans (by simp [go_sem, *]); have c2_2_7 : v2.cell? ⟨w.heap.size + 1 + 1, 7, none⟩ = some (.slice none 0 0) := (kc 7).trans (by simp [go_sem, *]); have f2_2_7 : v2.frozen? ⟨w.heap.size + 1 + 1, 7, none⟩ = false := (kf 7).trans (by simp [go_sem, *]); have c2_2_8 : v2.cell? ⟨w.heap.size + 1 + 1, 8, none⟩ = some (.int .i64 0) := (kc 8).trans (by simp [go_sem, *]); have f2_2_8 : v2.frozen? ⟨w.heap.size + 1 + 1, 8, none⟩ = false := (kf 8).trans (by simp [go_sem, *]); clear kc kf; clear c1_0_0 f1_0_0 c1_0_1 f1_0_1 c1_0_2 f1_0_2 c1_0_3 f1_0_3 c1_0_4 f1_0_4 c1_0_5 f1_0_5 c1_0_6 f1_0_6 c1_0_7 f1_0_7 c1_0_8 f1_0_8 c1_1_0 f1_1_0 c1_1_1 f1_1_1 c1_1_2 f1_1_2 c1_1_3 f1_1_3 c1_2_0 f1_2_0 c1_2_1 f1_2_1 c1_2_2 f1_2_2 c1_2_3 f1_2_3 c1_2_4 f1_2_4 c1_2_5 f1_2_5 c1_2_6 f1_2_6 c1_2_7 f1_2_7 c1_2_8 f1_2_8; have d2' : v2.cell? ⟨b, off + i' * 9 + 2, none⟩ = some (.int .i64 a'.node) := (h2.cell (p := ⟨b, off + i' * 9 + 2, none⟩) nb1).trans d2))
  go_wp2_with fail
  refine bodyPost_ret (v := .tuple #[sysV { s with dead := wrap64 (s.dead + 1) }, .bool false]) (by simp [results, Try.results35, go_sem, *]) rfl (sysPost HP.out (((H.out.below (by repeat (first | (with_reducible exact Below.refl _ _) | (with_reducible assumption) | ((with_reducible refine Below.setCell ?_ ?_ _); rotate_left; (focus (first | omega | (simp; omega) | (simp; done)))) | ((with_reducible refine Below.alloc ?_ ?_ _); rotate_left; (focus (first | omega | (simp; omega) | (simp; done)))) | (with_reducible refine Below.drew ?_)))).lost).mono (fun b hb => .inl hb)) (by repeat (first | (with_reducible exact Below.refl _ _) | (with_reducible assumption) | ((with_reducible refine Below.setCell ?_ ?_ _); rotate_left; (focus (first | omega | (simp; omega) | (simp; done)))) | ((with_reducible refine Below.alloc ?_ ?_ _); rotate_left; (focus (first | omega | (simp; omega) | (simp; done)))) | (with_reducible refine Below.drew ?_))))

set_option maxRecDepth 100000 in
set_option maxHeartbeats 4000000 in
set_option linter.unusedSimpArgs false in
set_option linter.unusedVariables false in
theorem send_room {P : Nat → Prop} (s : SysC) (σ : PS) (x : Int) (p : ByteArray) (l : LetC) (w : World) (h : SysR P w s σ) (hna : s.actors.n ≤ 1000000) (hnu : s.up.n ≤ 9223372036854775807) (hnf : s.flights.n ≤ 1000000) (i : Nat) (hr : Ml.reachP σ p = some i) (a : LiveC) (ms : List LetC) (qs : List (LiveC × List LetC)) (hq1 : Rd w w.heap.size 9 s.actors.a s.actors.n ((qs.map (·.1)).flatMap liveL)) (hq3 : qs.map plOf = σ.acts) (hqi : qs[i]? = some (a, ms)) (hn : a.node ≠ x) (hm : decide ((Ml.chan σ.fls x a.node : Int) < 1024) = true) :
    Calls Try.prog 35 #[sysV s, .int .i64 x, .string p, letV l] w (SysPost P (Ml.send σ x p l) w) := by
  have hai : σ.acts[i]? = some (plOf (a, ms)) := by rw [← hq3, List.getElem?_map, hqi]; rfl
  have hnd : Ml.nodeOf σ i = a.node := by unfold Ml.nodeOf; rw [hai]; rfl
  have HP : Hid (Ml.send σ x p l = ({ σ with fls := σ.fls ++ [⟨x, a.node, p, l⟩] }, true)) := Lib.hid (by unfold Ml.send; rw [hr]; simp only; rw [if_neg (by rw [hnd]; exact hn), hnd, if_pos (by simp at hm; omega)])
  have t1 : (a.node == x) = false := by simp [hn]
  have CH := Lib.hid (fun (W : World) (hW : Below w.heap.size w W) => chan79 s σ.fls x a.node W (h.fl.up hW) hnf)
  obtain ⟨ch, hch⟩ : ∃ ch, Ml.chan σ.fls x a.node = ch := ⟨_, rfl⟩
  rw [hch] at hm CH
  have HCH := Lib.hid hch
  clear hn hch
  have C := Lib.hid (fun (W : World) (hW : Below w.heap.size w W) => reach_any s (qs.map (·.1)) σ.ups p W (h.up.up hW) (hq1.up hW) (by omega) hnu)
  rw [Ml.reach_eq σ.ups qs σ hq3 rfl p, hr] at C
  have hil : i < s.actors.n := by
    have h1 := hq1.len (fun _ => rfl) (by omega)
    have h2 := (List.getElem?_eq_some_iff.1 hqi).1
    simp at h1; omega
  obtain ⟨b, off, a', hA, hb, hak, hc⟩ := hq1.at_ (fun _ => rfl) (by omega) hil
  have ea : a' = a := by rw [List.getElem?_map, hqi] at hak; simpa using hak.symm
  subst ea
  have c2 : w.cell? ⟨b, off + i * 9 + 2, none⟩ = some (.int .i64 a'.node) := hc 2 _ rfl
  have hix : ∀ W : World, Sem.run Try.prog (Instr.indexAt 23 (.slice s.actors.a s.actors.n s.actors.c) (.int .i64 (i : Int))) W = .ok (.pointer (some ⟨b, off + i * 9, none⟩)) W := by intro W; rw [hA]; go_simp
  have H := Lib.hid h
  have HQ1 := Lib.hid hq1
  clear h hr hq1 hq3 hqi hA hak hc hai hnd
  go_enter Try.func35, Try.ntmps35
  go_wp2_with fail
  refine (C.out _ (by repeat (first | (with_reducible exact Below.refl _ _) | (with_reducible assumption) | ((with_reducible refine Below.setCell ?_ ?_ _); rotate_left; (focus (first | omega | (simp; omega) | (simp; done)))) | ((with_reducible refine Below.alloc ?_ ?_ _); rotate_left; (focus (first | omega | (simp; omega) | (simp; done)))) | (with_reducible refine Below.drew ?_)))).mono ?_
  rintro e v1 ⟨i', rfl, hi', h1⟩
  obtain rfl := hi' i rfl
  clear hi'
  have z1 := h1.size
  try simp at z1
  have hB1 : Below w.heap.size w v1 := Below.call (w := w) (by repeat (first | (with_reducible exact Below.refl _ _) | (with_reducible assumption) | ((with_reducible refine Below.setCell ?_ ?_ _); rotate_left; (focus (first | omega | (simp; omega) | (simp; done)))) | ((with_reducible refine Below.alloc ?_ ?_ _); rotate_left; (focus (first | omega | (simp; omega) | (simp; done)))) | (with_reducible refine Below.drew ?_))) h1
  obtain ⟨k1_0, kc, kf⟩ := keepB h1 (w.heap.size) (by first | omega | (simp; omega) | (simp; done))
  have c1_0_0 : v1.cell? ⟨w.heap.size, 0, none⟩ = some (.slice s.up.a s.up.n s.up.c) := (kc 0).trans (by simp [go_sem, *])
  have f1_0_0 : v1.frozen? ⟨w.heap.size, 0, none⟩ = false := (kf 0).trans (by simp [go_sem, *])
  have c1_0_1 : v1.cell? ⟨w.heap.size, 1, none⟩ = some (.int .i64 s.moment) := (kc 1).trans (by simp [go_sem, *])
  have f1_0_1 : v1.frozen? ⟨w.heap.size, 1, none⟩ = false := (kf 1).trans (by simp [go_sem, *])
  have c1_0_2 : v1.cell? ⟨w.heap.size, 2, none⟩ = some (.int .i64 s.clock) := (kc 2).trans (by simp [go_sem, *])
  have f1_0_2 : v1.frozen? ⟨w.heap.size, 2, none⟩ = false := (kf 2).trans (by simp [go_sem, *])
  have c1_0_3 : v1.cell? ⟨w.heap.size, 3, none⟩ = some (.int .i64 s.seq) := (kc 3).trans (by simp [go_sem, *])
  have f1_0_3 : v1.frozen? ⟨w.heap.size, 3, none⟩ = false := (kf 3).trans (by simp [go_sem, *])
  have c1_0_4 : v1.cell? ⟨w.heap.size, 4, none⟩ = some (.slice s.actors.a s.actors.n s.actors.c) := (kc 4).trans (by simp [go_sem, *])
  have f1_0_4 : v1.frozen? ⟨w.heap.size, 4, none⟩ = false := (kf 4).trans (by simp [go_sem, *])
  have c1_0_5 : v1.cell? ⟨w.heap.size, 5, none⟩ = some (.slice s.flights.a s.flights.n s.flights.c) := (kc 5).trans (by simp [go_sem, *])
  have f1_0_5 : v1.frozen? ⟨w.heap.size, 5, none⟩ = false := (kf 5).trans (by simp [go_sem, *])
  have c1_0_6 : v1.cell? ⟨w.heap.size, 6, none⟩ = some (.slice s.alarms.a s.alarms.n s.alarms.c) := (kc 6).trans (by simp [go_sem, *])
  have f1_0_6 : v1.frozen? ⟨w.heap.size, 6, none⟩ = false := (kf 6).trans (by simp [go_sem, *])
  have c1_0_7 : v1.cell? ⟨w.heap.size, 7, none⟩ = some (.slice s.asked.a s.asked.n s.asked.c) := (kc 7).trans (by simp [go_sem, *])
  have f1_0_7 : v1.frozen? ⟨w.heap.size, 7, none⟩ = false := (kf 7).trans (by simp [go_sem, *])
  have c1_0_8 : v1.cell? ⟨w.heap.size, 8, none⟩ = some (.int .i64 s.dead) := (kc 8).trans (by simp [go_sem, *])
  have f1_0_8 : v1.frozen? ⟨w.heap.size, 8, none⟩ = false := (kf 8).trans (by simp [go_sem, *])
  clear kc kf
  obtain ⟨k1_1, kc, kf⟩ := keepB h1 (w.heap.size + 1) (by first | omega | (simp; omega) | (simp; done))
  have c1_1_0 : v1.cell? ⟨w.heap.size + 1, 0, none⟩ = some (.string l.src) := (kc 0).trans (by simp [go_sem, *])
  have f1_1_0 : v1.frozen? ⟨w.heap.size + 1, 0, none⟩ = false := (kf 0).trans (by simp [go_sem, *])
  have c1_1_1 : v1.cell? ⟨w.heap.size + 1, 1, none⟩ = some (.string l.msg) := (kc 1).trans (by simp [go_sem, *])
  have f1_1_1 : v1.frozen? ⟨w.heap.size + 1, 1, none⟩ = false := (kf 1).trans (by simp [go_sem, *])
  have c1_1_2 : v1.cell? ⟨w.heap.size + 1, 2, none⟩ = some (.slice l.args.a l.args.n l.args.c) := (kc 2).trans (by simp [go_sem, *])
  have f1_1_2 : v1.frozen? ⟨w.heap.size + 1, 2, none⟩ = false := (kf 2).trans (by simp [go_sem, *])
  have c1_1_3 : v1.cell? ⟨w.heap.size + 1, 3, none⟩ = some (.int .i64 l.sent) := (kc 3).trans (by simp [go_sem, *])
  have f1_1_3 : v1.frozen? ⟨w.heap.size + 1, 3, none⟩ = false := (kf 3).trans (by simp [go_sem, *])
  clear kc kf
  obtain ⟨k1_2, kc, kf⟩ := keepB h1 (w.heap.size + 1 + 1) (by first | omega | (simp; omega) | (simp; done))
  have c1_2_0 : v1.cell? ⟨w.heap.size + 1 + 1, 0, none⟩ = some (.slice none 0 0) := (kc 0).trans (by simp [go_sem, *])
  have f1_2_0 : v1.frozen? ⟨w.heap.size + 1 + 1, 0, none⟩ = false := (kf 0).trans (by simp [go_sem, *])
  have c1_2_1 : v1.cell? ⟨w.heap.size + 1 + 1, 1, none⟩ = some (.int .i64 0) := (kc 1).trans (by simp [go_sem, *])
  have f1_2_1 : v1.frozen? ⟨w.heap.size + 1 + 1, 1, none⟩ = false := (kf 1).trans (by simp [go_sem, *])
  have c1_2_2 : v1.cell? ⟨w.heap.size + 1 + 1, 2, none⟩ = some (.int .i64 0) := (kc 2).trans (by simp [go_sem, *])
  have f1_2_2 : v1.frozen? ⟨w.heap.size + 1 + 1, 2, none⟩ = false := (kf 2).trans (by simp [go_sem, *])
  have c1_2_3 : v1.cell? ⟨w.heap.size + 1 + 1, 3, none⟩ = some (.int .i64 0) := (kc 3).trans (by simp [go_sem, *])
  have f1_2_3 : v1.frozen? ⟨w.heap.size + 1 + 1, 3, none⟩ = false := (kf 3).trans (by simp [go_sem, *])
  have c1_2_4 : v1.cell? ⟨w.heap.size + 1 + 1, 4, none⟩ = some (.slice none 0 0) := (kc 4).trans (by simp [go_sem, *])
  have f1_2_4 : v1.frozen? ⟨w.heap.size + 1 + 1, 4, none⟩ = false := (kf 4).trans (by simp [go_sem, *])
  have c1_2_5 : v1.cell? ⟨w.heap.size + 1 + 1, 5, none⟩ = some (.slice none 0 0) := (kc 5).trans (by simp [go_sem, *])
  have f1_2_5 : v1.frozen? ⟨w.heap.size + 1 + 1, 5, none⟩ = false := (kf 5).trans (by simp [go_sem, *])
  have c1_2_6 : v1.cell? ⟨w.heap.size + 1 + 1, 6, none⟩ = some (.slice none 0 0) := (kc 6).trans (by simp [go_sem, *])
  have f1_2_6 : v1.frozen? ⟨w.heap.size + 1 + 1, 6, none⟩ = false := (kf 6).trans (by simp [go_sem, *])
  have c1_2_7 : v1.cell? ⟨w.heap.size + 1 + 1, 7, none⟩ = some (.slice none 0 0) := (kc 7).trans (by simp [go_sem, *])
  have f1_2_7 : v1.frozen? ⟨w.heap.size + 1 + 1, 7, none⟩ = false := (kf 7).trans (by simp [go_sem, *])
  have c1_2_8 : v1.cell? ⟨w.heap.size + 1 + 1, 8, none⟩ = some (.int .i64 0) := (kc 8).trans (by simp [go_sem, *])
  have f1_2_8 : v1.frozen? ⟨w.heap.size + 1 + 1, 8, none⟩ = false := (kf 8).trans (by simp [go_sem, *])
  clear kc kf
  have d2 : v1.cell? ⟨b, off + i' * 9 + 2, none⟩ = some (.int .i64 a'.node) := (hB1.cell (p := ⟨b, off + i' * 9 + 2, none⟩) hb).trans c2
  clear c2
  go_wp2_with fail
  have nb1 : b < v1.heap.size := by omega
  go_region_held3 (fun w' => w'.cell? ⟨w.heap.size, 0, none⟩ = some (.slice s.up.a s.up.n s.up.c) ∧ w'.cell? ⟨w.heap.size, 1, none⟩ = some (.int .i64 s.moment) ∧ w'.cell? ⟨w.heap.size, 2, none⟩ = some (.int .i64 s.clock) ∧ w'.cell? ⟨w.heap.size, 3, none⟩ = some (.int .i64 s.seq) ∧ w'.cell? ⟨w.heap.size, 4, none⟩ = some (.slice s.actors.a s.actors.n s.actors.c) ∧ w'.cell? ⟨w.heap.size, 5, none⟩ = some (.slice s.flights.a s.flights.n s.flights.c) ∧ w'.cell? ⟨w.heap.size, 6, none⟩ = some (.slice s.alarms.a s.alarms.n s.alarms.c) ∧ w'.cell? ⟨w.heap.size, 7, none⟩ = some (.slice s.asked.a s.asked.n s.asked.c) ∧ w'.cell? ⟨w.heap.size, 8, none⟩ = some (.int .i64 s.dead) ∧ w'.cell? ⟨b, off + i' * 9 + 2, none⟩ = some (.int .i64 a'.node)) (simp [go_sem, *])
    (first | (go_at_call 79; refine (CH.out _ hB1.drew).mono ?_; rintro e v2 ⟨rfl, h2⟩; have z2 := h2.size; (try simp at z2); have hB2 : Below w.heap.size w v2 := Below.call (w := w) (by repeat (first | (with_reducible exact Below.refl _ _) | (with_reducible assumption) | ((with_reducible refine Below.setCell ?_ ?_ _); rotate_left; (focus (first | omega | (simp; omega) | (simp; done)))) | ((with_reducible refine Below.alloc ?_ ?_ _); rotate_left; (focus (first | omega | (simp; omega) | (simp; done)))) | (with_reducible refine Below.drew ?_))) h2; obtain ⟨k2_0, kc, kf⟩ := keepB h2 (w.heap.size) (by first | omega | (simp; omega) | (simp; done)); have c2_0_0 : v2.cell? ⟨w.heap.size, 0, none⟩ = some (.slice s.up.a s.up.n s.up.c) := (kc 0).trans (by simp [go_sem, *]); have f2_0_0 : v2.frozen? ⟨w.heap.size, 0, none⟩ = false := (kf 0).trans (by simp [go_sem, *]); have c2_0_1 : v2.cell? ⟨w.heap.size, 1, none⟩ = some (.int .i64 s.moment) := (kc 1).trans (by simp [go_sem, *]); have f2_0_1 : v2.frozen? ⟨w.heap.size, 1, none⟩ = false := (kf 1).trans (by simp [go_sem, *]); have c2_0_2 : v2.cell? ⟨w.heap.size, 2, none⟩ = some (.int .i64 s.clock) := (kc 2).trans (by simp [go_sem, *]); have f2_0_2 : v2.frozen? ⟨w.heap.size, 2, none⟩ = false := (kf 2).trans (by simp [go_sem, *]); have c2_0_3 : v2.cell? ⟨w.heap.size, 3, none⟩ = some (.int .i64 s.seq) := (kc 3).trans (by simp [go_sem, *]); have f2_0_3 : v2.frozen? ⟨w.heap.size, 3, none⟩ = false := (kf 3).trans (by simp [go_sem, *]); have c2_0_4 : v2.cell? ⟨w.heap.size, 4, none⟩ = some (.slice s.actors.a s.actors.n s.actors.c) := (kc 4).trans (by simp [go_sem, *]); have f2_0_4 : v2.frozen? ⟨w.heap.size, 4, none⟩ = false := (kf 4).trans (by simp [go_sem, *]); have c2_0_5 : v2.cell? ⟨w.heap.size, 5, none⟩ = some (.slice s.flights.a s.flights.n s.flights.c) := (kc 5).trans (by simp [go_sem, *]); have f2_0_5 : v2.frozen? ⟨w.heap.size, 5, none⟩ = false := (kf 5).trans (by simp [go_sem, *]); have c2_0_6 : v2.cell? ⟨w.heap.size, 6, none⟩ = some (.slice s.alarms.a s.alarms.n s.alarms.c) := (kc 6).trans (by simp [go_sem, *]); have f2_0_6 : v2.frozen? ⟨w.heap.size, 6, none⟩ = false := (kf 6).trans (by simp [go_sem, *]); have c2_0_7 : v2.cell? ⟨w.heap.size, 7, none⟩ = some (.slice s.asked.a s.asked.n s.asked.c) := (kc 7).trans (by simp [go_sem, *]); have f2_0_7 : v2.frozen? ⟨w.heap.size, 7, none⟩ = false := (kf 7).trans (by simp [go_sem, *]); have c2_0_8 : v2.cell? ⟨w.heap.size, 8, none⟩ = some (.int .i64 s.dead) := (kc 8).trans (by simp [go_sem, *]); have f2_0_8 : v2.frozen? ⟨w.heap.size, 8, none⟩ = false := (kf 8).trans (by simp [go_sem, *]); clear kc kf; obtain ⟨k2_1, kc, kf⟩ := keepB h2 (w.heap.size + 1) (by first | omega | (simp; omega) | (simp; done)); have c2_1_0 : v2.cell? ⟨w.heap.size + 1, 0, none⟩ = some (.string l.src) := (kc 0).trans (by simp [go_sem, *]); have f2_1_0 : v2.frozen? ⟨w.heap.size + 1, 0, none⟩ = false := (kf 0).trans (by simp [go_sem, *]); have c2_1_1 : v2.cell? ⟨w.heap.size + 1, 1, none⟩ = some (.string l.msg) := (kc 1).trans (by simp [go_sem, *]); have f2_1_1 : v2.frozen? ⟨w.heap.size + 1, 1, none⟩ = false := (kf 1).trans (by simp [go_sem, *]); have c2_1_2 : v2.cell? ⟨w.heap.size + 1, 2, none⟩ = some (.slice l.args.a l.args.n l.args.c) := (kc 2).trans (by simp [go_sem, *]); have f2_1_2 : v2.frozen? ⟨w.heap.size + 1, 2, none⟩ = false := (kf 2).trans (by simp [go_sem, *]); have c2_1_3 : v2.cell? ⟨w.heap.size + 1, 3, none⟩ = some (.int .i64 l.sent) := (kc 3).trans (by simp [go_sem, *]); have f2_1_3 : v2.frozen? ⟨w.heap.size + 1, 3, none⟩ = false := (kf 3).trans (by simp [go_sem, *]); clear kc kf; obtain ⟨k2_2, kc, kf⟩ := keepB h2 (w.heap.size + 1 + 1) (by first | omega | (simp; omega) | (simp; done)); have c2_2_0 : v2.cell? ⟨w.heap.size + 1 + 1, 0, none⟩ = some (.slice none 0 0) := (kc 0).trans (by simp [go_sem, *]); have f2_2_0 : v2.frozen? ⟨w.heap.size + 1 + 1, 0, none⟩ = false := (kf 0).trans (by simp [go_sem, *]); have c2_2_1 : v2.cell? ⟨w.heap.size + 1 + 1, 1, none⟩ = some (.int .i64 0) := (kc 1).trans (by simp [go_sem, *]); have f2_2_1 : v2.frozen? ⟨w.heap.size + 1 + 1, 1, none⟩ = false := (kf 1).trans (by simp [go_sem, *]); have c2_2_2 : v2.cell? ⟨w.heap.size + 1 + 1, 2, none⟩ = some (.int .i64 0) := (kc 2).trans (by simp [go_sem, *]); have f2_2_2 : v2.frozen? ⟨w.heap.size + 1 + 1, 2, none⟩ = false := (kf 2).trans (by simp [go_sem, *]); have c2_2_3 : v2.cell? ⟨w.heap.size + 1 + 1, 3, none⟩ = some (.int .i64 0) := (kc 3).trans (by simp [go_sem, *]); have f2_2_3 : v2.frozen? ⟨w.heap.size + 1 + 1, 3, none⟩ = false := (kf 3).trans (by simp [go_sem, *]); have c2_2_4 : v2.cell? ⟨w.heap.size + 1 + 1, 4, none⟩ = some (.slice none 0 0) := (kc 4).trans (by simp [go_sem, *]); have f2_2_4 : v2.frozen? ⟨w.heap.size + 1 + 1, 4, none⟩ = false := (kf 4).trans (by simp [go_sem, *]); have c2_2_5 : v2.cell? ⟨w.heap.size + 1 + 1, 5, none⟩ = some (.slice none 0 0) := (kc 5).trans (by simp [go_sem, *]); have f2_2_5 : v2.frozen? ⟨w.heap.size + 1 + 1, 5, none⟩ = false := (kf 5).trans (by simp [go_sem, *]); have c2_2_6 : v2.cell? ⟨w.heap.size + 1 + 1, 6, none⟩ = some (.slice none 0 0) := (kc 6).trans (by simp [go_sem, *]); have f2_2_6 : v2.frozen? ⟨w.heap.size + 1 + 1, 6, none⟩ = false := (kf 6).trans (by simp [go_sem, *]); have c2_2_7 : v2.cell? ⟨w.heap.size + 1 + 1, 7, none⟩ = some (.slice none 0 0) := (kc 7).trans (by simp [go_sem, *]); have f2_2_7 : v2.frozen? ⟨w.heap.size + 1 + 1, 7, none⟩ = false := (kf 7).trans (by simp [go_sem, *]); have c2_2_8 : v2.cell? ⟨w.heap.size + 1 + 1, 8, none⟩ = some (.int .i64 0) := (kc 8).trans (by simp [go_sem, *]); have f2_2_8 : v2.frozen? ⟨w.heap.size + 1 + 1, 8, none⟩ = false := (kf 8).trans (by simp [go_sem, *]); clear kc kf; clear c1_0_0 f1_0_0 c1_0_1 f1_0_1 c1_0_2 f1_0_2 c1_0_3 f1_0_3 c1_0_4 f1_0_4 c1_0_5 f1_0_5 c1_0_6 f1_0_6 c1_0_7 f1_0_7 c1_0_8 f1_0_8 c1_1_0 f1_1_0 c1_1_1 f1_1_1 c1_1_2 f1_1_2 c1_1_3 f1_1_3 c1_2_0 f1_2_0 c1_2_1 f1_2_1 c1_2_2 f1_2_2 c1_2_3 f1_2_3 c1_2_4 f1_2_4 c1_2_5 f1_2_5 c1_2_6 f1_2_6 c1_2_7 f1_2_7 c1_2_8 f1_2_8; have d2' : v2.cell? ⟨b, off + i' * 9 + 2, none⟩ = some (.int .i64 a'.node) := (h2.cell (p := ⟨b, off + i' * 9 + 2, none⟩) nb1).trans d2))
  go_wp2_with fail
  have nb2 : b < v2.heap.size := by omega
  go_region_held3 (fun w' => w'.cell? ⟨w.heap.size, 4, none⟩ = some (.slice s.actors.a s.actors.n s.actors.c) ∧ w'.cell? ⟨b, off + i' * 9 + 2, none⟩ = some (.int .i64 a'.node) ∧ w'.cell? ⟨w.heap.size + 1, 0, none⟩ = some (.string l.src) ∧ w'.cell? ⟨w.heap.size + 1, 1, none⟩ = some (.string l.msg) ∧ w'.cell? ⟨w.heap.size + 1, 2, none⟩ = some (.slice l.args.a l.args.n l.args.c) ∧ w'.cell? ⟨w.heap.size + 1, 3, none⟩ = some (.int .i64 l.sent)) (simp [go_sem, *]) (fail)
  go_wp2_with fail
  have CL := Lib.hid (fun (W : World) => clip80 s.flights.a s.flights.n s.flights.c W H.out.cf)
  have HMW := Lib.hid H.out.fl
  obtain ⟨i6, hi6, hz60, hz61, hz62⟩ := info_parts info66
  refine wp_region_held_drew (S := (fun w' => w'.cell? ⟨v2.heap.size, 0, none⟩ = some (.int .i64 x) ∧ w'.cell? ⟨v2.heap.size, 1, none⟩ = some (.int .i64 a'.node) ∧ w'.cell? ⟨v2.heap.size, 2, none⟩ = some (.string p) ∧ w'.cell? ⟨v2.heap.size, 3, none⟩ = some (.string l.src) ∧ w'.cell? ⟨v2.heap.size, 4, none⟩ = some (.string l.msg) ∧ w'.cell? ⟨v2.heap.size, 5, none⟩ = some (.slice l.args.a l.args.n l.args.c) ∧ w'.cell? ⟨v2.heap.size, 6, none⟩ = some (.int .i64 l.sent))) (by kernel_rfl) ?_ (fun hHeld => ?_)
  · simp [go_sem, *]
  refine wpAnyH_take (i := 0) (v := ?_) rfl (by kernel_rfl) (by kernel_rfl) (by kernel_rfl) (fun _ _ _ h => h) (Or.inl ⟨by rfl, ?_⟩) (by assumption) ?_
  rotate_left
  · intro w hSw; (try dsimp only at hSw); go_simp; (first | done | (with_reducible rfl))
  try simp only [Act.put, List.getElem_toArray, List.getElem_cons_succ, List.getElem_cons_zero, List.setIfInBounds_toArray, List.set_cons_zero, List.set_cons_succ]
  refine wpAnyH_take (i := 3) (v := ?_) rfl (by kernel_rfl) (by kernel_rfl) (by kernel_rfl) (fun _ _ _ h => h) (Or.inl ⟨by rfl, ?_⟩) (by assumption) ?_
  rotate_left
  · intro w hSw; (try dsimp only at hSw); go_simp; (first | done | (with_reducible rfl))
  try simp only [Act.put, List.getElem_toArray, List.getElem_cons_succ, List.getElem_cons_zero, List.setIfInBounds_toArray, List.set_cons_zero, List.set_cons_succ]
  refine wpAnyH_ready (rs := [1, 4]) (by kernel_rfl) (by simp) ?_
  refine AllReadyH.cons rfl (fun K hK => ?_) (AllReadyH.cons rfl (fun K hK => ?_) AllReadyH.nil)
  · go_simp
    refine hK.out _ _ ?_ (fun hHeld => ?_)
    · simp [go_sem, *]
    clear hK K
    try simp only [Act.put, List.getElem_toArray, List.getElem_cons_succ, List.getElem_cons_zero, List.setIfInBounds_toArray, List.set_cons_zero, List.set_cons_succ]
    refine wpAnyH_ready (rs := [2, 4]) (by kernel_rfl) (by simp) ?_
    refine AllReadyH.cons rfl (fun K hK => ?_) (AllReadyH.cons rfl (fun K hK => ?_) AllReadyH.nil)
    · go_simp
      refine (CL.out _).mono ?_
      rintro e _ ⟨rfl, rfl⟩
      refine hK.out _ _ ?_ (fun hHeld => ?_)
      · simp [go_sem, *]
      clear hK K
      try simp only [Act.put, List.getElem_toArray, List.getElem_cons_succ, List.getElem_cons_zero, List.setIfInBounds_toArray, List.set_cons_zero, List.set_cons_succ]
      refine wpAnyH_ready (rs := [4]) (by kernel_rfl) (by simp) ?_
      refine AllReadyH.cons rfl (fun K hK => ?_) AllReadyH.nil
      go_simp
      refine hK.out _ _ ?_ (fun hHeld => ?_)
      · simp [go_sem, *]
      clear hK K
      try simp only [Act.put, List.getElem_toArray, List.getElem_cons_succ, List.getElem_cons_zero, List.setIfInBounds_toArray, List.set_cons_zero, List.set_cons_succ]
      refine wpAnyH_ready (rs := [5]) (by kernel_rfl) (by simp) ?_
      refine AllReadyH.cons rfl (fun K hK => ?_) AllReadyH.nil
      refine step_append_grows rfl (.tmp 61) (.tmp 63) 24 rfl 66 i6 _ 7 96 Try.underlying24 hi6 hz60 hz61 hz62 rfl (by decide) s.flights.a s.flights.n s.flights.n (σ.fls.flatMap flyL) (by simp [Act.eval, Act.put]) (fun hA => ⟨HMW.out.none0 hA, HMW.out.none0 hA⟩) HMW.out.1 (HMW.out.below (by repeat (first | (with_reducible exact Below.refl _ _) | (with_reducible assumption) | ((with_reducible refine Below.setCell ?_ ?_ _); rotate_left; (focus (first | omega | (simp; omega) | (simp; done)))) | ((with_reducible refine Below.alloc ?_ ?_ _); rotate_left; (focus (first | omega | (simp; omega) | (simp; done)))) | (with_reducible refine Below.drew ?_))) (Nat.le_refl _)).holds ⟨v2.heap.size + 1, 0, none⟩ 1 1 (flyL ⟨x, a'.node, p, l⟩) (by simp [Act.eval, Act.put]) rfl (cells_new0 _ _ _ _ (by simp)) (by simp [Value.oneCell']) (by omega) (by rw [ml_val]; omega) (by omega) ?_
      intro v5 v3 ho5 hg5
      obtain ⟨u5, _, rfl, hlo5⟩ := own_sl ho5
      have h3 := Below.of_grown hg5
      clear hg5
      have z3 := h3.size
      try simp at z3
      have hB3 : Below w.heap.size w v3 := Below.call (w := w) (by repeat (first | (with_reducible exact Below.refl _ _) | (with_reducible assumption) | ((with_reducible refine Below.setCell ?_ ?_ _); rotate_left; (focus (first | omega | (simp; omega) | (simp; done)))) | ((with_reducible refine Below.alloc ?_ ?_ _); rotate_left; (focus (first | omega | (simp; omega) | (simp; done)))) | (with_reducible refine Below.drew ?_))) h3
      obtain ⟨k3_0, kc, kf⟩ := keepB h3 (w.heap.size) (by first | omega | (simp; omega) | (simp; done))
      have c3_0_0 : v3.cell? ⟨w.heap.size, 0, none⟩ = some (.slice s.up.a s.up.n s.up.c) := (kc 0).trans (by simp [go_sem, *])
      have f3_0_0 : v3.frozen? ⟨w.heap.size, 0, none⟩ = false := (kf 0).trans (by simp [go_sem, *])
      have c3_0_1 : v3.cell? ⟨w.heap.size, 1, none⟩ = some (.int .i64 s.moment) := (kc 1).trans (by simp [go_sem, *])
      have f3_0_1 : v3.frozen? ⟨w.heap.size, 1, none⟩ = false := (kf 1).trans (by simp [go_sem, *])
      have c3_0_2 : v3.cell? ⟨w.heap.size, 2, none⟩ = some (.int .i64 s.clock) := (kc 2).trans (by simp [go_sem, *])
      have f3_0_2 : v3.frozen? ⟨w.heap.size, 2, none⟩ = false := (kf 2).trans (by simp [go_sem, *])
      have c3_0_3 : v3.cell? ⟨w.heap.size, 3, none⟩ = some (.int .i64 s.seq) := (kc 3).trans (by simp [go_sem, *])
      have f3_0_3 : v3.frozen? ⟨w.heap.size, 3, none⟩ = false := (kf 3).trans (by simp [go_sem, *])
      have c3_0_4 : v3.cell? ⟨w.heap.size, 4, none⟩ = some (.slice s.actors.a s.actors.n s.actors.c) := (kc 4).trans (by simp [go_sem, *])
      have f3_0_4 : v3.frozen? ⟨w.heap.size, 4, none⟩ = false := (kf 4).trans (by simp [go_sem, *])
      have c3_0_5 : v3.cell? ⟨w.heap.size, 5, none⟩ = some (.slice s.flights.a s.flights.n s.flights.c) := (kc 5).trans (by simp [go_sem, *])
      have f3_0_5 : v3.frozen? ⟨w.heap.size, 5, none⟩ = false := (kf 5).trans (by simp [go_sem, *])
      have c3_0_6 : v3.cell? ⟨w.heap.size, 6, none⟩ = some (.slice s.alarms.a s.alarms.n s.alarms.c) := (kc 6).trans (by simp [go_sem, *])
      have f3_0_6 : v3.frozen? ⟨w.heap.size, 6, none⟩ = false := (kf 6).trans (by simp [go_sem, *])
      have c3_0_7 : v3.cell? ⟨w.heap.size, 7, none⟩ = some (.slice s.asked.a s.asked.n s.asked.c) := (kc 7).trans (by simp [go_sem, *])
      have f3_0_7 : v3.frozen? ⟨w.heap.size, 7, none⟩ = false := (kf 7).trans (by simp [go_sem, *])
      have c3_0_8 : v3.cell? ⟨w.heap.size, 8, none⟩ = some (.int .i64 s.dead) := (kc 8).trans (by simp [go_sem, *])
      have f3_0_8 : v3.frozen? ⟨w.heap.size, 8, none⟩ = false := (kf 8).trans (by simp [go_sem, *])
      clear kc kf
      obtain ⟨k3_1, kc, kf⟩ := keepB h3 (w.heap.size + 1) (by first | omega | (simp; omega) | (simp; done))
      have c3_1_0 : v3.cell? ⟨w.heap.size + 1, 0, none⟩ = some (.string l.src) := (kc 0).trans (by simp [go_sem, *])
      have f3_1_0 : v3.frozen? ⟨w.heap.size + 1, 0, none⟩ = false := (kf 0).trans (by simp [go_sem, *])
      have c3_1_1 : v3.cell? ⟨w.heap.size + 1, 1, none⟩ = some (.string l.msg) := (kc 1).trans (by simp [go_sem, *])
      have f3_1_1 : v3.frozen? ⟨w.heap.size + 1, 1, none⟩ = false := (kf 1).trans (by simp [go_sem, *])
      have c3_1_2 : v3.cell? ⟨w.heap.size + 1, 2, none⟩ = some (.slice l.args.a l.args.n l.args.c) := (kc 2).trans (by simp [go_sem, *])
      have f3_1_2 : v3.frozen? ⟨w.heap.size + 1, 2, none⟩ = false := (kf 2).trans (by simp [go_sem, *])
      have c3_1_3 : v3.cell? ⟨w.heap.size + 1, 3, none⟩ = some (.int .i64 l.sent) := (kc 3).trans (by simp [go_sem, *])
      have f3_1_3 : v3.frozen? ⟨w.heap.size + 1, 3, none⟩ = false := (kf 3).trans (by simp [go_sem, *])
      clear kc kf
      obtain ⟨k3_2, kc, kf⟩ := keepB h3 (w.heap.size + 1 + 1) (by first | omega | (simp; omega) | (simp; done))
      have c3_2_0 : v3.cell? ⟨w.heap.size + 1 + 1, 0, none⟩ = some (.slice none 0 0) := (kc 0).trans (by simp [go_sem, *])
      have f3_2_0 : v3.frozen? ⟨w.heap.size + 1 + 1, 0, none⟩ = false := (kf 0).trans (by simp [go_sem, *])
      have c3_2_1 : v3.cell? ⟨w.heap.size + 1 + 1, 1, none⟩ = some (.int .i64 0) := (kc 1).trans (by simp [go_sem, *])
      have f3_2_1 : v3.frozen? ⟨w.heap.size + 1 + 1, 1, none⟩ = false := (kf 1).trans (by simp [go_sem, *])
      have c3_2_2 : v3.cell? ⟨w.heap.size + 1 + 1, 2, none⟩ = some (.int .i64 0) := (kc 2).trans (by simp [go_sem, *])
      have f3_2_2 : v3.frozen? ⟨w.heap.size + 1 + 1, 2, none⟩ = false := (kf 2).trans (by simp [go_sem, *])
      have c3_2_3 : v3.cell? ⟨w.heap.size + 1 + 1, 3, none⟩ = some (.int .i64 0) := (kc 3).trans (by simp [go_sem, *])
      have f3_2_3 : v3.frozen? ⟨w.heap.size + 1 + 1, 3, none⟩ = false := (kf 3).trans (by simp [go_sem, *])
      have c3_2_4 : v3.cell? ⟨w.heap.size + 1 + 1, 4, none⟩ = some (.slice none 0 0) := (kc 4).trans (by simp [go_sem, *])
      have f3_2_4 : v3.frozen? ⟨w.heap.size + 1 + 1, 4, none⟩ = false := (kf 4).trans (by simp [go_sem, *])
      have c3_2_5 : v3.cell? ⟨w.heap.size + 1 + 1, 5, none⟩ = some (.slice none 0 0) := (kc 5).trans (by simp [go_sem, *])
      have f3_2_5 : v3.frozen? ⟨w.heap.size + 1 + 1, 5, none⟩ = false := (kf 5).trans (by simp [go_sem, *])
      have c3_2_6 : v3.cell? ⟨w.heap.size + 1 + 1, 6, none⟩ = some (.slice none 0 0) := (kc 6).trans (by simp [go_sem, *])
      have f3_2_6 : v3.frozen? ⟨w.heap.size + 1 + 1, 6, none⟩ = false := (kf 6).trans (by simp [go_sem, *])
      have c3_2_7 : v3.cell? ⟨w.heap.size + 1 + 1, 7, none⟩ = some (.slice none 0 0) := (kc 7).trans (by simp [go_sem, *])
      have f3_2_7 : v3.frozen? ⟨w.heap.size + 1 + 1, 7, none⟩ = false := (kf 7).trans (by simp [go_sem, *])
      have c3_2_8 : v3.cell? ⟨w.heap.size + 1 + 1, 8, none⟩ = some (.int .i64 0) := (kc 8).trans (by simp [go_sem, *])
      have f3_2_8 : v3.frozen? ⟨w.heap.size + 1 + 1, 8, none⟩ = false := (kf 8).trans (by simp [go_sem, *])
      clear kc kf
      obtain ⟨k3_3, kc, kf⟩ := keepB h3 (v2.heap.size) (by first | omega | (simp; omega) | (simp; done))
      have c3_3_0 : v3.cell? ⟨v2.heap.size, 0, none⟩ = some (.int .i64 x) := (kc 0).trans (by simp [go_sem, *])
      have f3_3_0 : v3.frozen? ⟨v2.heap.size, 0, none⟩ = false := (kf 0).trans (by simp [go_sem, *])
      have c3_3_1 : v3.cell? ⟨v2.heap.size, 1, none⟩ = some (.int .i64 a'.node) := (kc 1).trans (by simp [go_sem, *])
      have f3_3_1 : v3.frozen? ⟨v2.heap.size, 1, none⟩ = false := (kf 1).trans (by simp [go_sem, *])
      have c3_3_2 : v3.cell? ⟨v2.heap.size, 2, none⟩ = some (.string p) := (kc 2).trans (by simp [go_sem, *])
      have f3_3_2 : v3.frozen? ⟨v2.heap.size, 2, none⟩ = false := (kf 2).trans (by simp [go_sem, *])
      have c3_3_3 : v3.cell? ⟨v2.heap.size, 3, none⟩ = some (.string l.src) := (kc 3).trans (by simp [go_sem, *])
      have f3_3_3 : v3.frozen? ⟨v2.heap.size, 3, none⟩ = false := (kf 3).trans (by simp [go_sem, *])
      have c3_3_4 : v3.cell? ⟨v2.heap.size, 4, none⟩ = some (.string l.msg) := (kc 4).trans (by simp [go_sem, *])
      have f3_3_4 : v3.frozen? ⟨v2.heap.size, 4, none⟩ = false := (kf 4).trans (by simp [go_sem, *])
      have c3_3_5 : v3.cell? ⟨v2.heap.size, 5, none⟩ = some (.slice l.args.a l.args.n l.args.c) := (kc 5).trans (by simp [go_sem, *])
      have f3_3_5 : v3.frozen? ⟨v2.heap.size, 5, none⟩ = false := (kf 5).trans (by simp [go_sem, *])
      have c3_3_6 : v3.cell? ⟨v2.heap.size, 6, none⟩ = some (.int .i64 l.sent) := (kc 6).trans (by simp [go_sem, *])
      have f3_3_6 : v3.frozen? ⟨v2.heap.size, 6, none⟩ = false := (kf 6).trans (by simp [go_sem, *])
      clear kc kf
      clear c2_0_0 f2_0_0 c2_0_1 f2_0_1 c2_0_2 f2_0_2 c2_0_3 f2_0_3 c2_0_4 f2_0_4 c2_0_5 f2_0_5 c2_0_6 f2_0_6 c2_0_7 f2_0_7 c2_0_8 f2_0_8 c2_1_0 f2_1_0 c2_1_1 f2_1_1 c2_1_2 f2_1_2 c2_1_3 f2_1_3 c2_2_0 f2_2_0 c2_2_1 f2_2_1 c2_2_2 f2_2_2 c2_2_3 f2_2_3 c2_2_4 f2_2_4 c2_2_5 f2_2_5 c2_2_6 f2_2_6 c2_2_7 f2_2_7 c2_2_8 f2_2_8
      have HO5 := Lib.hid (show v3.ownsRow (v2.heap.size + 1 + 1) 66 7 (.slice u5.a (s.flights.n + 1) u5.c) (s.flights.n + 1) ((σ.fls ++ [(⟨x, a'.node, p, l⟩ : FlyC)]).flatMap flyL) by simpa using ho5)
      clear ho5 hlo5
      refine hK.out _ _ ?_ (fun hHeld => ?_)
      · simp [go_sem, *]
      clear hK K
      try simp only [Act.put, List.getElem_toArray, List.getElem_cons_succ, List.getElem_cons_zero, List.setIfInBounds_toArray, List.set_cons_zero, List.set_cons_succ]
      refine wpAnyH_take (i := 6) (v := ?_) rfl (by kernel_rfl) (by kernel_rfl) (by kernel_rfl) (fun _ _ _ h => h) (Or.inl ⟨by rfl, ?_⟩) (by assumption) ?_
      rotate_left
      · intro w hSw; (try dsimp only at hSw); go_simp; (first | done | (with_reducible rfl))
      try simp only [Act.put, List.getElem_toArray, List.getElem_cons_succ, List.getElem_cons_zero, List.setIfInBounds_toArray, List.set_cons_zero, List.set_cons_succ]
      refine wpAnyH_ready (rs := [7]) (by kernel_rfl) (by simp) ?_
      refine AllReadyH.cons rfl (fun K hK => ?_) AllReadyH.nil
      go_simp
      refine hK.out _ _ ?_ (fun hHeld => ?_)
      · simp [go_sem, *]
      clear hK K
      try simp only [Act.put, List.getElem_toArray, List.getElem_cons_succ, List.getElem_cons_zero, List.setIfInBounds_toArray, List.set_cons_zero, List.set_cons_succ]
      refine wpAnyH_done (by kernel_rfl) ?_ _
      go_wp2_with fail
      refine bodyPost_ret (v := .tuple #[sysV { s with flights := ⟨u5.a, s.flights.n + 1, u5.c⟩ }, .bool true]) (by simp [results, Try.results35, go_sem, *]) rfl (sysPost HP.out (sysR_flown (v3 := v3.setCell ⟨w.heap.size, 5, none⟩ (.slice u5.a (s.flights.n + 1) u5.c)) (R := w.heap.size + 1 + 1) H.out (by repeat (first | (with_reducible exact Below.refl _ _) | (with_reducible assumption) | ((with_reducible refine Below.setCell ?_ ?_ _); rotate_left; (focus (first | omega | (simp; omega) | (simp; done)))) | ((with_reducible refine Below.alloc ?_ ?_ _); rotate_left; (focus (first | omega | (simp; omega) | (simp; done)))) | (with_reducible refine Below.drew ?_))) (own_set_other HO5.out _ _ (own_ne (R := w.heap.size) HO5.out (by omega))) (by omega) (by omega) (by repeat (first | (with_reducible exact Off.refl _ _) | (with_reducible refine Off.set ?_ _ _) | (with_reducible refine Off.drew ?_)))) (by repeat (first | (with_reducible exact Below.refl _ _) | (with_reducible assumption) | ((with_reducible refine Below.setCell ?_ ?_ _); rotate_left; (focus (first | omega | (simp; omega) | (simp; done)))) | ((with_reducible refine Below.alloc ?_ ?_ _); rotate_left; (focus (first | omega | (simp; omega) | (simp; done)))) | (with_reducible refine Below.drew ?_))))
    · go_simp
      refine hK.out _ _ ?_ (fun hHeld => ?_)
      · simp [go_sem, *]
      clear hK K
      try simp only [Act.put, List.getElem_toArray, List.getElem_cons_succ, List.getElem_cons_zero, List.setIfInBounds_toArray, List.set_cons_zero, List.set_cons_succ]
      refine wpAnyH_ready (rs := [2]) (by kernel_rfl) (by simp) ?_
      refine AllReadyH.cons rfl (fun K hK => ?_) AllReadyH.nil
      go_simp
      refine (CL.out _).mono ?_
      rintro e _ ⟨rfl, rfl⟩
      refine hK.out _ _ ?_ (fun hHeld => ?_)
      · simp [go_sem, *]
      clear hK K
      try simp only [Act.put, List.getElem_toArray, List.getElem_cons_succ, List.getElem_cons_zero, List.setIfInBounds_toArray, List.set_cons_zero, List.set_cons_succ]
      refine wpAnyH_ready (rs := [5]) (by kernel_rfl) (by simp) ?_
      refine AllReadyH.cons rfl (fun K hK => ?_) AllReadyH.nil
      refine step_append_grows rfl (.tmp 61) (.tmp 63) 24 rfl 66 i6 _ 7 96 Try.underlying24 hi6 hz60 hz61 hz62 rfl (by decide) s.flights.a s.flights.n s.flights.n (σ.fls.flatMap flyL) (by simp [Act.eval, Act.put]) (fun hA => ⟨HMW.out.none0 hA, HMW.out.none0 hA⟩) HMW.out.1 (HMW.out.below (by repeat (first | (with_reducible exact Below.refl _ _) | (with_reducible assumption) | ((with_reducible refine Below.setCell ?_ ?_ _); rotate_left; (focus (first | omega | (simp; omega) | (simp; done)))) | ((with_reducible refine Below.alloc ?_ ?_ _); rotate_left; (focus (first | omega | (simp; omega) | (simp; done)))) | (with_reducible refine Below.drew ?_))) (Nat.le_refl _)).holds ⟨v2.heap.size + 1, 0, none⟩ 1 1 (flyL ⟨x, a'.node, p, l⟩) (by simp [Act.eval, Act.put]) rfl (cells_new0 _ _ _ _ (by simp)) (by simp [Value.oneCell']) (by omega) (by rw [ml_val]; omega) (by omega) ?_
      intro v5 v3 ho5 hg5
      obtain ⟨u5, _, rfl, hlo5⟩ := own_sl ho5
      have h3 := Below.of_grown hg5
      clear hg5
      have z3 := h3.size
      try simp at z3
      have hB3 : Below w.heap.size w v3 := Below.call (w := w) (by repeat (first | (with_reducible exact Below.refl _ _) | (with_reducible assumption) | ((with_reducible refine Below.setCell ?_ ?_ _); rotate_left; (focus (first | omega | (simp; omega) | (simp; done)))) | ((with_reducible refine Below.alloc ?_ ?_ _); rotate_left; (focus (first | omega | (simp; omega) | (simp; done)))) | (with_reducible refine Below.drew ?_))) h3
      obtain ⟨k3_0, kc, kf⟩ := keepB h3 (w.heap.size) (by first | omega | (simp; omega) | (simp; done))
      have c3_0_0 : v3.cell? ⟨w.heap.size, 0, none⟩ = some (.slice s.up.a s.up.n s.up.c) := (kc 0).trans (by simp [go_sem, *])
      have f3_0_0 : v3.frozen? ⟨w.heap.size, 0, none⟩ = false := (kf 0).trans (by simp [go_sem, *])
      have c3_0_1 : v3.cell? ⟨w.heap.size, 1, none⟩ = some (.int .i64 s.moment) := (kc 1).trans (by simp [go_sem, *])
      have f3_0_1 : v3.frozen? ⟨w.heap.size, 1, none⟩ = false := (kf 1).trans (by simp [go_sem, *])
      have c3_0_2 : v3.cell? ⟨w.heap.size, 2, none⟩ = some (.int .i64 s.clock) := (kc 2).trans (by simp [go_sem, *])
      have f3_0_2 : v3.frozen? ⟨w.heap.size, 2, none⟩ = false := (kf 2).trans (by simp [go_sem, *])
      have c3_0_3 : v3.cell? ⟨w.heap.size, 3, none⟩ = some (.int .i64 s.seq) := (kc 3).trans (by simp [go_sem, *])
      have f3_0_3 : v3.frozen? ⟨w.heap.size, 3, none⟩ = false := (kf 3).trans (by simp [go_sem, *])
      have c3_0_4 : v3.cell? ⟨w.heap.size, 4, none⟩ = some (.slice s.actors.a s.actors.n s.actors.c) := (kc 4).trans (by simp [go_sem, *])
      have f3_0_4 : v3.frozen? ⟨w.heap.size, 4, none⟩ = false := (kf 4).trans (by simp [go_sem, *])
      have c3_0_5 : v3.cell? ⟨w.heap.size, 5, none⟩ = some (.slice s.flights.a s.flights.n s.flights.c) := (kc 5).trans (by simp [go_sem, *])
      have f3_0_5 : v3.frozen? ⟨w.heap.size, 5, none⟩ = false := (kf 5).trans (by simp [go_sem, *])
      have c3_0_6 : v3.cell? ⟨w.heap.size, 6, none⟩ = some (.slice s.alarms.a s.alarms.n s.alarms.c) := (kc 6).trans (by simp [go_sem, *])
      have f3_0_6 : v3.frozen? ⟨w.heap.size, 6, none⟩ = false := (kf 6).trans (by simp [go_sem, *])
      have c3_0_7 : v3.cell? ⟨w.heap.size, 7, none⟩ = some (.slice s.asked.a s.asked.n s.asked.c) := (kc 7).trans (by simp [go_sem, *])
      have f3_0_7 : v3.frozen? ⟨w.heap.size, 7, none⟩ = false := (kf 7).trans (by simp [go_sem, *])
      have c3_0_8 : v3.cell? ⟨w.heap.size, 8, none⟩ = some (.int .i64 s.dead) := (kc 8).trans (by simp [go_sem, *])
      have f3_0_8 : v3.frozen? ⟨w.heap.size, 8, none⟩ = false := (kf 8).trans (by simp [go_sem, *])
      clear kc kf
      obtain ⟨k3_1, kc, kf⟩ := keepB h3 (w.heap.size + 1) (by first | omega | (simp; omega) | (simp; done))
      have c3_1_0 : v3.cell? ⟨w.heap.size + 1, 0, none⟩ = some (.string l.src) := (kc 0).trans (by simp [go_sem, *])
      have f3_1_0 : v3.frozen? ⟨w.heap.size + 1, 0, none⟩ = false := (kf 0).trans (by simp [go_sem, *])
      have c3_1_1 : v3.cell? ⟨w.heap.size + 1, 1, none⟩ = some (.string l.msg) := (kc 1).trans (by simp [go_sem, *])
      have f3_1_1 : v3.frozen? ⟨w.heap.size + 1, 1, none⟩ = false := (kf 1).trans (by simp [go_sem, *])
      have c3_1_2 : v3.cell? ⟨w.heap.size + 1, 2, none⟩ = some (.slice l.args.a l.args.n l.args.c) := (kc 2).trans (by simp [go_sem, *])
      have f3_1_2 : v3.frozen? ⟨w.heap.size + 1, 2, none⟩ = false := (kf 2).trans (by simp [go_sem, *])
      have c3_1_3 : v3.cell? ⟨w.heap.size + 1, 3, none⟩ = some (.int .i64 l.sent) := (kc 3).trans (by simp [go_sem, *])
      have f3_1_3 : v3.frozen? ⟨w.heap.size + 1, 3, none⟩ = false := (kf 3).trans (by simp [go_sem, *])
      clear kc kf
      obtain ⟨k3_2, kc, kf⟩ := keepB h3 (w.heap.size + 1 + 1) (by first | omega | (simp; omega) | (simp; done))
      have c3_2_0 : v3.cell? ⟨w.heap.size + 1 + 1, 0, none⟩ = some (.slice none 0 0) := (kc 0).trans (by simp [go_sem, *])
      have f3_2_0 : v3.frozen? ⟨w.heap.size + 1 + 1, 0, none⟩ = false := (kf 0).trans (by simp [go_sem, *])
      have c3_2_1 : v3.cell? ⟨w.heap.size + 1 + 1, 1, none⟩ = some (.int .i64 0) := (kc 1).trans (by simp [go_sem, *])
      have f3_2_1 : v3.frozen? ⟨w.heap.size + 1 + 1, 1, none⟩ = false := (kf 1).trans (by simp [go_sem, *])
      have c3_2_2 : v3.cell? ⟨w.heap.size + 1 + 1, 2, none⟩ = some (.int .i64 0) := (kc 2).trans (by simp [go_sem, *])
      have f3_2_2 : v3.frozen? ⟨w.heap.size + 1 + 1, 2, none⟩ = false := (kf 2).trans (by simp [go_sem, *])
      have c3_2_3 : v3.cell? ⟨w.heap.size + 1 + 1, 3, none⟩ = some (.int .i64 0) := (kc 3).trans (by simp [go_sem, *])
      have f3_2_3 : v3.frozen? ⟨w.heap.size + 1 + 1, 3, none⟩ = false := (kf 3).trans (by simp [go_sem, *])
      have c3_2_4 : v3.cell? ⟨w.heap.size + 1 + 1, 4, none⟩ = some (.slice none 0 0) := (kc 4).trans (by simp [go_sem, *])
      have f3_2_4 : v3.frozen? ⟨w.heap.size + 1 + 1, 4, none⟩ = false := (kf 4).trans (by simp [go_sem, *])
      have c3_2_5 : v3.cell? ⟨w.heap.size + 1 + 1, 5, none⟩ = some (.slice none 0 0) := (kc 5).trans (by simp [go_sem, *])
      have f3_2_5 : v3.frozen? ⟨w.heap.size + 1 + 1, 5, none⟩ = false := (kf 5).trans (by simp [go_sem, *])
      have c3_2_6 : v3.cell? ⟨w.heap.size + 1 + 1, 6, none⟩ = some (.slice none 0 0) := (kc 6).trans (by simp [go_sem, *])
      have f3_2_6 : v3.frozen? ⟨w.heap.size + 1 + 1, 6, none⟩ = false := (kf 6).trans (by simp [go_sem, *])
      have c3_2_7 : v3.cell? ⟨w.heap.size + 1 + 1, 7, none⟩ = some (.slice none 0 0) := (kc 7).trans (by simp [go_sem, *])
      have f3_2_7 : v3.frozen? ⟨w.heap.size + 1 + 1, 7, none⟩ = false := (kf 7).trans (by simp [go_sem, *])
      have c3_2_8 : v3.cell? ⟨w.heap.size + 1 + 1, 8, none⟩ = some (.int .i64 0) := (kc 8).trans (by simp [go_sem, *])
      have f3_2_8 : v3.frozen? ⟨w.heap.size + 1 + 1, 8, none⟩ = false := (kf 8).trans (by simp [go_sem, *])
      clear kc kf
      obtain ⟨k3_3, kc, kf⟩ := keepB h3 (v2.heap.size) (by first | omega | (simp; omega) | (simp; done))
      have c3_3_0 : v3.cell? ⟨v2.heap.size, 0, none⟩ = some (.int .i64 x) := (kc 0).trans (by simp [go_sem, *])
      have f3_3_0 : v3.frozen? ⟨v2.heap.size, 0, none⟩ = false := (kf 0).trans (by simp [go_sem, *])
      have c3_3_1 : v3.cell? ⟨v2.heap.size, 1, none⟩ = some (.int .i64 a'.node) := (kc 1).trans (by simp [go_sem, *])
      have f3_3_1 : v3.frozen? ⟨v2.heap.size, 1, none⟩ = false := (kf 1).trans (by simp [go_sem, *])
      have c3_3_2 : v3.cell? ⟨v2.heap.size, 2, none⟩ = some (.string p) := (kc 2).trans (by simp [go_sem, *])
      have f3_3_2 : v3.frozen? ⟨v2.heap.size, 2, none⟩ = false := (kf 2).trans (by simp [go_sem, *])
      have c3_3_3 : v3.cell? ⟨v2.heap.size, 3, none⟩ = some (.string l.src) := (kc 3).trans (by simp [go_sem, *])
      have f3_3_3 : v3.frozen? ⟨v2.heap.size, 3, none⟩ = false := (kf 3).trans (by simp [go_sem, *])
      have c3_3_4 : v3.cell? ⟨v2.heap.size, 4, none⟩ = some (.string l.msg) := (kc 4).trans (by simp [go_sem, *])
      have f3_3_4 : v3.frozen? ⟨v2.heap.size, 4, none⟩ = false := (kf 4).trans (by simp [go_sem, *])
      have c3_3_5 : v3.cell? ⟨v2.heap.size, 5, none⟩ = some (.slice l.args.a l.args.n l.args.c) := (kc 5).trans (by simp [go_sem, *])
      have f3_3_5 : v3.frozen? ⟨v2.heap.size, 5, none⟩ = false := (kf 5).trans (by simp [go_sem, *])
      have c3_3_6 : v3.cell? ⟨v2.heap.size, 6, none⟩ = some (.int .i64 l.sent) := (kc 6).trans (by simp [go_sem, *])
      have f3_3_6 : v3.frozen? ⟨v2.heap.size, 6, none⟩ = false := (kf 6).trans (by simp [go_sem, *])
      clear kc kf
      clear c2_0_0 f2_0_0 c2_0_1 f2_0_1 c2_0_2 f2_0_2 c2_0_3 f2_0_3 c2_0_4 f2_0_4 c2_0_5 f2_0_5 c2_0_6 f2_0_6 c2_0_7 f2_0_7 c2_0_8 f2_0_8 c2_1_0 f2_1_0 c2_1_1 f2_1_1 c2_1_2 f2_1_2 c2_1_3 f2_1_3 c2_2_0 f2_2_0 c2_2_1 f2_2_1 c2_2_2 f2_2_2 c2_2_3 f2_2_3 c2_2_4 f2_2_4 c2_2_5 f2_2_5 c2_2_6 f2_2_6 c2_2_7 f2_2_7 c2_2_8 f2_2_8
      have HO5 := Lib.hid (show v3.ownsRow (v2.heap.size + 1 + 1) 66 7 (.slice u5.a (s.flights.n + 1) u5.c) (s.flights.n + 1) ((σ.fls ++ [(⟨x, a'.node, p, l⟩ : FlyC)]).flatMap flyL) by simpa using ho5)
      clear ho5 hlo5
      refine hK.out _ _ ?_ (fun hHeld => ?_)
      · simp [go_sem, *]
      clear hK K
      try simp only [Act.put, List.getElem_toArray, List.getElem_cons_succ, List.getElem_cons_zero, List.setIfInBounds_toArray, List.set_cons_zero, List.set_cons_succ]
      refine wpAnyH_take (i := 6) (v := ?_) rfl (by kernel_rfl) (by kernel_rfl) (by kernel_rfl) (fun _ _ _ h => h) (Or.inl ⟨by rfl, ?_⟩) (by assumption) ?_
      rotate_left
      · intro w hSw; (try dsimp only at hSw); go_simp; (first | done | (with_reducible rfl))
      try simp only [Act.put, List.getElem_toArray, List.getElem_cons_succ, List.getElem_cons_zero, List.setIfInBounds_toArray, List.set_cons_zero, List.set_cons_succ]
      refine wpAnyH_ready (rs := [7]) (by kernel_rfl) (by simp) ?_
      refine AllReadyH.cons rfl (fun K hK => ?_) AllReadyH.nil
      go_simp
      refine hK.out _ _ ?_ (fun hHeld => ?_)
      · simp [go_sem, *]
      clear hK K
      try simp only [Act.put, List.getElem_toArray, List.getElem_cons_succ, List.getElem_cons_zero, List.setIfInBounds_toArray, List.set_cons_zero, List.set_cons_succ]
      refine wpAnyH_done (by kernel_rfl) ?_ _
      go_wp2_with fail
      refine bodyPost_ret (v := .tuple #[sysV { s with flights := ⟨u5.a, s.flights.n + 1, u5.c⟩ }, .bool true]) (by simp [results, Try.results35, go_sem, *]) rfl (sysPost HP.out (sysR_flown (v3 := v3.setCell ⟨w.heap.size, 5, none⟩ (.slice u5.a (s.flights.n + 1) u5.c)) (R := w.heap.size + 1 + 1) H.out (by repeat (first | (with_reducible exact Below.refl _ _) | (with_reducible assumption) | ((with_reducible refine Below.setCell ?_ ?_ _); rotate_left; (focus (first | omega | (simp; omega) | (simp; done)))) | ((with_reducible refine Below.alloc ?_ ?_ _); rotate_left; (focus (first | omega | (simp; omega) | (simp; done)))) | (with_reducible refine Below.drew ?_))) (own_set_other HO5.out _ _ (own_ne (R := w.heap.size) HO5.out (by omega))) (by omega) (by omega) (by repeat (first | (with_reducible exact Off.refl _ _) | (with_reducible refine Off.set ?_ _ _) | (with_reducible refine Off.drew ?_)))) (by repeat (first | (with_reducible exact Below.refl _ _) | (with_reducible assumption) | ((with_reducible refine Below.setCell ?_ ?_ _); rotate_left; (focus (first | omega | (simp; omega) | (simp; done)))) | ((with_reducible refine Below.alloc ?_ ?_ _); rotate_left; (focus (first | omega | (simp; omega) | (simp; done)))) | (with_reducible refine Below.drew ?_))))
  · go_simp
    refine hK.out _ _ ?_ (fun hHeld => ?_)
    · simp [go_sem, *]
    clear hK K
    try simp only [Act.put, List.getElem_toArray, List.getElem_cons_succ, List.getElem_cons_zero, List.setIfInBounds_toArray, List.set_cons_zero, List.set_cons_succ]
    refine wpAnyH_ready (rs := [1]) (by kernel_rfl) (by simp) ?_
    refine AllReadyH.cons rfl (fun K hK => ?_) AllReadyH.nil
    go_simp
    refine hK.out _ _ ?_ (fun hHeld => ?_)
    · simp [go_sem, *]
    clear hK K
    try simp only [Act.put, List.getElem_toArray, List.getElem_cons_succ, List.getElem_cons_zero, List.setIfInBounds_toArray, List.set_cons_zero, List.set_cons_succ]
    refine wpAnyH_ready (rs := [2]) (by kernel_rfl) (by simp) ?_
    refine AllReadyH.cons rfl (fun K hK => ?_) AllReadyH.nil
    go_simp
    refine (CL.out _).mono ?_
    rintro e _ ⟨rfl, rfl⟩
    refine hK.out _ _ ?_ (fun hHeld => ?_)
    · simp [go_sem, *]
    clear hK K
    try simp only [Act.put, List.getElem_toArray, List.getElem_cons_succ, List.getElem_cons_zero, List.setIfInBounds_toArray, List.set_cons_zero, List.set_cons_succ]
    refine wpAnyH_ready (rs := [5]) (by kernel_rfl) (by simp) ?_
    refine AllReadyH.cons rfl (fun K hK => ?_) AllReadyH.nil
    refine step_append_grows rfl (.tmp 61) (.tmp 63) 24 rfl 66 i6 _ 7 96 Try.underlying24 hi6 hz60 hz61 hz62 rfl (by decide) s.flights.a s.flights.n s.flights.n (σ.fls.flatMap flyL) (by simp [Act.eval, Act.put]) (fun hA => ⟨HMW.out.none0 hA, HMW.out.none0 hA⟩) HMW.out.1 (HMW.out.below (by repeat (first | (with_reducible exact Below.refl _ _) | (with_reducible assumption) | ((with_reducible refine Below.setCell ?_ ?_ _); rotate_left; (focus (first | omega | (simp; omega) | (simp; done)))) | ((with_reducible refine Below.alloc ?_ ?_ _); rotate_left; (focus (first | omega | (simp; omega) | (simp; done)))) | (with_reducible refine Below.drew ?_))) (Nat.le_refl _)).holds ⟨v2.heap.size + 1, 0, none⟩ 1 1 (flyL ⟨x, a'.node, p, l⟩) (by simp [Act.eval, Act.put]) rfl (cells_new0 _ _ _ _ (by simp)) (by simp [Value.oneCell']) (by omega) (by rw [ml_val]; omega) (by omega) ?_
    intro v5 v3 ho5 hg5
    obtain ⟨u5, _, rfl, hlo5⟩ := own_sl ho5
    have h3 := Below.of_grown hg5
    clear hg5
    have z3 := h3.size
    try simp at z3
    have hB3 : Below w.heap.size w v3 := Below.call (w := w) (by repeat (first | (with_reducible exact Below.refl _ _) | (with_reducible assumption) | ((with_reducible refine Below.setCell ?_ ?_ _); rotate_left; (focus (first | omega | (simp; omega) | (simp; done)))) | ((with_reducible refine Below.alloc ?_ ?_ _); rotate_left; (focus (first | omega | (simp; omega) | (simp; done)))) | (with_reducible refine Below.drew ?_))) h3
    obtain ⟨k3_0, kc, kf⟩ := keepB h3 (w.heap.size) (by first | omega | (simp; omega) | (simp; done))
    have c3_0_0 : v3.cell? ⟨w.heap.size, 0, none⟩ = some (.slice s.up.a s.up.n s.up.c) := (kc 0).trans (by simp [go_sem, *])
    have f3_0_0 : v3.frozen? ⟨w.heap.size, 0, none⟩ = false := (kf 0).trans (by simp [go_sem, *])
    have c3_0_1 : v3.cell? ⟨w.heap.size, 1, none⟩ = some (.int .i64 s.moment) := (kc 1).trans (by simp [go_sem, *])
    have f3_0_1 : v3.frozen? ⟨w.heap.size, 1, none⟩ = false := (kf 1).trans (by simp [go_sem, *])
    have c3_0_2 : v3.cell? ⟨w.heap.size, 2, none⟩ = some (.int .i64 s.clock) := (kc 2).trans (by simp [go_sem, *])
    have f3_0_2 : v3.frozen? ⟨w.heap.size, 2, none⟩ = false := (kf 2).trans (by simp [go_sem, *])
    have c3_0_3 : v3.cell? ⟨w.heap.size, 3, none⟩ = some (.int .i64 s.seq) := (kc 3).trans (by simp [go_sem, *])
    have f3_0_3 : v3.frozen? ⟨w.heap.size, 3, none⟩ = false := (kf 3).trans (by simp [go_sem, *])
    have c3_0_4 : v3.cell? ⟨w.heap.size, 4, none⟩ = some (.slice s.actors.a s.actors.n s.actors.c) := (kc 4).trans (by simp [go_sem, *])
    have f3_0_4 : v3.frozen? ⟨w.heap.size, 4, none⟩ = false := (kf 4).trans (by simp [go_sem, *])
    have c3_0_5 : v3.cell? ⟨w.heap.size, 5, none⟩ = some (.slice s.flights.a s.flights.n s.flights.c) := (kc 5).trans (by simp [go_sem, *])
    have f3_0_5 : v3.frozen? ⟨w.heap.size, 5, none⟩ = false := (kf 5).trans (by simp [go_sem, *])
    have c3_0_6 : v3.cell? ⟨w.heap.size, 6, none⟩ = some (.slice s.alarms.a s.alarms.n s.alarms.c) := (kc 6).trans (by simp [go_sem, *])
    have f3_0_6 : v3.frozen? ⟨w.heap.size, 6, none⟩ = false := (kf 6).trans (by simp [go_sem, *])
    have c3_0_7 : v3.cell? ⟨w.heap.size, 7, none⟩ = some (.slice s.asked.a s.asked.n s.asked.c) := (kc 7).trans (by simp [go_sem, *])
    have f3_0_7 : v3.frozen? ⟨w.heap.size, 7, none⟩ = false := (kf 7).trans (by simp [go_sem, *])
    have c3_0_8 : v3.cell? ⟨w.heap.size, 8, none⟩ = some (.int .i64 s.dead) := (kc 8).trans (by simp [go_sem, *])
    have f3_0_8 : v3.frozen? ⟨w.heap.size, 8, none⟩ = false := (kf 8).trans (by simp [go_sem, *])
    clear kc kf
    obtain ⟨k3_1, kc, kf⟩ := keepB h3 (w.heap.size + 1) (by first | omega | (simp; omega) | (simp; done))
    have c3_1_0 : v3.cell? ⟨w.heap.size + 1, 0, none⟩ = some (.string l.src) := (kc 0).trans (by simp [go_sem, *])
    have f3_1_0 : v3.frozen? ⟨w.heap.size + 1, 0, none⟩ = false := (kf 0).trans (by simp [go_sem, *])
    have c3_1_1 : v3.cell? ⟨w.heap.size + 1, 1, none⟩ = some (.string l.msg) := (kc 1).trans (by simp [go_sem, *])
    have f3_1_1 : v3.frozen? ⟨w.heap.size + 1, 1, none⟩ = false := (kf 1).trans (by simp [go_sem, *])
    have c3_1_2 : v3.cell? ⟨w.heap.size + 1, 2, none⟩ = some (.slice l.args.a l.args.n l.args.c) := (kc 2).trans (by simp [go_sem, *])
    have f3_1_2 : v3.frozen? ⟨w.heap.size + 1, 2, none⟩ = false := (kf 2).trans (by simp [go_sem, *])
    have c3_1_3 : v3.cell? ⟨w.heap.size + 1, 3, none⟩ = some (.int .i64 l.sent) := (kc 3).trans (by simp [go_sem, *])
    have f3_1_3 : v3.frozen? ⟨w.heap.size + 1, 3, none⟩ = false := (kf 3).trans (by simp [go_sem, *])
    clear kc kf
    obtain ⟨k3_2, kc, kf⟩ := keepB h3 (w.heap.size + 1 + 1) (by first | omega | (simp; omega) | (simp; done))
    have c3_2_0 : v3.cell? ⟨w.heap.size + 1 + 1, 0, none⟩ = some (.slice none 0 0) := (kc 0).trans (by simp [go_sem, *])
    have f3_2_0 : v3.frozen? ⟨w.heap.size + 1 + 1, 0, none⟩ = false := (kf 0).trans (by simp [go_sem, *])
    have c3_2_1 : v3.cell? ⟨w.heap.size + 1 + 1, 1, none⟩ = some (.int .i64 0) := (kc 1).trans (by simp [go_sem, *])
    have f3_2_1 : v3.frozen? ⟨w.heap.size + 1 + 1, 1, none⟩ = false := (kf 1).trans (by simp [go_sem, *])
    have c3_2_2 : v3.cell? ⟨w.heap.size + 1 + 1, 2, none⟩ = some (.int .i64 0) := (kc 2).trans (by simp [go_sem, *])
    have f3_2_2 : v3.frozen? ⟨w.heap.size + 1 + 1, 2, none⟩ = false := (kf 2).trans (by simp [go_sem, *])
    have c3_2_3 : v3.cell? ⟨w.heap.size + 1 + 1, 3, none⟩ = some (.int .i64 0) := (kc 3).trans (by simp [go_sem, *])
    have f3_2_3 : v3.frozen? ⟨w.heap.size + 1 + 1, 3, none⟩ = false := (kf 3).trans (by simp [go_sem, *])
    have c3_2_4 : v3.cell? ⟨w.heap.size + 1 + 1, 4, none⟩ = some (.slice none 0 0) := (kc 4).trans (by simp [go_sem, *])
    have f3_2_4 : v3.frozen? ⟨w.heap.size + 1 + 1, 4, none⟩ = false := (kf 4).trans (by simp [go_sem, *])
    have c3_2_5 : v3.cell? ⟨w.heap.size + 1 + 1, 5, none⟩ = some (.slice none 0 0) := (kc 5).trans (by simp [go_sem, *])
    have f3_2_5 : v3.frozen? ⟨w.heap.size + 1 + 1, 5, none⟩ = false := (kf 5).trans (by simp [go_sem, *])
    have c3_2_6 : v3.cell? ⟨w.heap.size + 1 + 1, 6, none⟩ = some (.slice none 0 0) := (kc 6).trans (by simp [go_sem, *])
    have f3_2_6 : v3.frozen? ⟨w.heap.size + 1 + 1, 6, none⟩ = false := (kf 6).trans (by simp [go_sem, *])
    have c3_2_7 : v3.cell? ⟨w.heap.size + 1 + 1, 7, none⟩ = some (.slice none 0 0) := (kc 7).trans (by simp [go_sem, *])
    have f3_2_7 : v3.frozen? ⟨w.heap.size + 1 + 1, 7, none⟩ = false := (kf 7).trans (by simp [go_sem, *])
    have c3_2_8 : v3.cell? ⟨w.heap.size + 1 + 1, 8, none⟩ = some (.int .i64 0) := (kc 8).trans (by simp [go_sem, *])
    have f3_2_8 : v3.frozen? ⟨w.heap.size + 1 + 1, 8, none⟩ = false := (kf 8).trans (by simp [go_sem, *])
    clear kc kf
    obtain ⟨k3_3, kc, kf⟩ := keepB h3 (v2.heap.size) (by first | omega | (simp; omega) | (simp; done))
    have c3_3_0 : v3.cell? ⟨v2.heap.size, 0, none⟩ = some (.int .i64 x) := (kc 0).trans (by simp [go_sem, *])
    have f3_3_0 : v3.frozen? ⟨v2.heap.size, 0, none⟩ = false := (kf 0).trans (by simp [go_sem, *])
    have c3_3_1 : v3.cell? ⟨v2.heap.size, 1, none⟩ = some (.int .i64 a'.node) := (kc 1).trans (by simp [go_sem, *])
    have f3_3_1 : v3.frozen? ⟨v2.heap.size, 1, none⟩ = false := (kf 1).trans (by simp [go_sem, *])
    have c3_3_2 : v3.cell? ⟨v2.heap.size, 2, none⟩ = some (.string p) := (kc 2).trans (by simp [go_sem, *])
    have f3_3_2 : v3.frozen? ⟨v2.heap.size, 2, none⟩ = false := (kf 2).trans (by simp [go_sem, *])
    have c3_3_3 : v3.cell? ⟨v2.heap.size, 3, none⟩ = some (.string l.src) := (kc 3).trans (by simp [go_sem, *])
    have f3_3_3 : v3.frozen? ⟨v2.heap.size, 3, none⟩ = false := (kf 3).trans (by simp [go_sem, *])
    have c3_3_4 : v3.cell? ⟨v2.heap.size, 4, none⟩ = some (.string l.msg) := (kc 4).trans (by simp [go_sem, *])
    have f3_3_4 : v3.frozen? ⟨v2.heap.size, 4, none⟩ = false := (kf 4).trans (by simp [go_sem, *])
    have c3_3_5 : v3.cell? ⟨v2.heap.size, 5, none⟩ = some (.slice l.args.a l.args.n l.args.c) := (kc 5).trans (by simp [go_sem, *])
    have f3_3_5 : v3.frozen? ⟨v2.heap.size, 5, none⟩ = false := (kf 5).trans (by simp [go_sem, *])
    have c3_3_6 : v3.cell? ⟨v2.heap.size, 6, none⟩ = some (.int .i64 l.sent) := (kc 6).trans (by simp [go_sem, *])
    have f3_3_6 : v3.frozen? ⟨v2.heap.size, 6, none⟩ = false := (kf 6).trans (by simp [go_sem, *])
    clear kc kf
    clear c2_0_0 f2_0_0 c2_0_1 f2_0_1 c2_0_2 f2_0_2 c2_0_3 f2_0_3 c2_0_4 f2_0_4 c2_0_5 f2_0_5 c2_0_6 f2_0_6 c2_0_7 f2_0_7 c2_0_8 f2_0_8 c2_1_0 f2_1_0 c2_1_1 f2_1_1 c2_1_2 f2_1_2 c2_1_3 f2_1_3 c2_2_0 f2_2_0 c2_2_1 f2_2_1 c2_2_2 f2_2_2 c2_2_3 f2_2_3 c2_2_4 f2_2_4 c2_2_5 f2_2_5 c2_2_6 f2_2_6 c2_2_7 f2_2_7 c2_2_8 f2_2_8
    have HO5 := Lib.hid (show v3.ownsRow (v2.heap.size + 1 + 1) 66 7 (.slice u5.a (s.flights.n + 1) u5.c) (s.flights.n + 1) ((σ.fls ++ [(⟨x, a'.node, p, l⟩ : FlyC)]).flatMap flyL) by simpa using ho5)
    clear ho5 hlo5
    refine hK.out _ _ ?_ (fun hHeld => ?_)
    · simp [go_sem, *]
    clear hK K
    try simp only [Act.put, List.getElem_toArray, List.getElem_cons_succ, List.getElem_cons_zero, List.setIfInBounds_toArray, List.set_cons_zero, List.set_cons_succ]
    refine wpAnyH_take (i := 6) (v := ?_) rfl (by kernel_rfl) (by kernel_rfl) (by kernel_rfl) (fun _ _ _ h => h) (Or.inl ⟨by rfl, ?_⟩) (by assumption) ?_
    rotate_left
    · intro w hSw; (try dsimp only at hSw); go_simp; (first | done | (with_reducible rfl))
    try simp only [Act.put, List.getElem_toArray, List.getElem_cons_succ, List.getElem_cons_zero, List.setIfInBounds_toArray, List.set_cons_zero, List.set_cons_succ]
    refine wpAnyH_ready (rs := [7]) (by kernel_rfl) (by simp) ?_
    refine AllReadyH.cons rfl (fun K hK => ?_) AllReadyH.nil
    go_simp
    refine hK.out _ _ ?_ (fun hHeld => ?_)
    · simp [go_sem, *]
    clear hK K
    try simp only [Act.put, List.getElem_toArray, List.getElem_cons_succ, List.getElem_cons_zero, List.setIfInBounds_toArray, List.set_cons_zero, List.set_cons_succ]
    refine wpAnyH_done (by kernel_rfl) ?_ _
    go_wp2_with fail
    refine bodyPost_ret (v := .tuple #[sysV { s with flights := ⟨u5.a, s.flights.n + 1, u5.c⟩ }, .bool true]) (by simp [results, Try.results35, go_sem, *]) rfl (sysPost HP.out (sysR_flown (v3 := v3.setCell ⟨w.heap.size, 5, none⟩ (.slice u5.a (s.flights.n + 1) u5.c)) (R := w.heap.size + 1 + 1) H.out (by repeat (first | (with_reducible exact Below.refl _ _) | (with_reducible assumption) | ((with_reducible refine Below.setCell ?_ ?_ _); rotate_left; (focus (first | omega | (simp; omega) | (simp; done)))) | ((with_reducible refine Below.alloc ?_ ?_ _); rotate_left; (focus (first | omega | (simp; omega) | (simp; done)))) | (with_reducible refine Below.drew ?_))) (own_set_other HO5.out _ _ (own_ne (R := w.heap.size) HO5.out (by omega))) (by omega) (by omega) (by repeat (first | (with_reducible exact Off.refl _ _) | (with_reducible refine Off.set ?_ _ _) | (with_reducible refine Off.drew ?_)))) (by repeat (first | (with_reducible exact Below.refl _ _) | (with_reducible assumption) | ((with_reducible refine Below.setCell ?_ ?_ _); rotate_left; (focus (first | omega | (simp; omega) | (simp; done)))) | ((with_reducible refine Below.alloc ?_ ?_ _); rotate_left; (focus (first | omega | (simp; omega) | (simp; done)))) | (with_reducible refine Below.drew ?_))))

theorem send_any {P : Nat → Prop} (s : SysC) (σ : PS) (x : Int) (p : ByteArray) (l : LetC) (w : World) (h : SysR P w s σ) (hna : s.actors.n ≤ 1000000) (hnu : s.up.n ≤ 9223372036854775807) (hnf : s.flights.n ≤ 1000000) :
    Calls Try.prog 35 #[sysV s, .int .i64 x, .string p, letV l] w (SysPost P (Ml.send σ x p l) w) := by
  cases hr : Ml.reachP σ p with
  | none => exact send_none s σ x p l w h hna hnu hnf hr
  | some i =>
    obtain ⟨qs, hq1, hq2, hq3⟩ := h.ac
    have hf : Ml.find (σ.acts.map (·.path)) p = some i := by
      unfold Ml.reachP at hr
      exact (Option.filter_eq_some_iff.1 hr).1
    have hi : i < qs.length := by
      have := (List.getElem?_eq_some_iff.1 (Ml.find_spec hf).1).1
      rw [← hq3] at this
      simpa using this
    obtain ⟨q, hqi⟩ : ∃ q, qs[i]? = some q := ⟨_, List.getElem?_eq_getElem hi⟩
    obtain ⟨a, ms⟩ := q
    by_cases hn : a.node = x
    · exact send_here s σ x p l w h hna hnu hnf i hr a ms qs hq1 hq3 hqi hn
    · cases hm : decide ((Ml.chan σ.fls x a.node : Int) < 1024) with
      | true => exact send_room s σ x p l w h hna hnu hnf i hr a ms qs hq1 hq3 hqi hn hm
      | false => exact send_full s σ x p l w h hna hnu hnf i hr a ms qs hq1 hq3 hqi hn hm
end Go.Proofs.Ytjdjfjokniingaa
