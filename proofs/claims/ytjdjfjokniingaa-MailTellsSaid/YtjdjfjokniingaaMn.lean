/- The contract of mail.Arrive. -/
import Derived.Test.YtjdjfjokniingaaMk
import Derived.Test.YtjdjfjokniingaaMl
import Derived.IntWalk
namespace Go.Proofs.Ytjdjfjokniingaa
open Go.RowKit

def flyZ : FlyC := ⟨0, 0, ⟨#[]⟩, letZ⟩
namespace Ml
def arrive (σ : PS) (x y : Int) : PS × FlyC × Bool :=
  match idx σ.fls x y with
  | some i =>
    let f := (σ.fls[i]?).getD flyZ
    ((post { σ with fls := σ.fls.take i ++ σ.fls.drop (i + 1) } f.path f.l).1, f, true)
  | none => (σ, flyZ, false)
end Ml
def SysFly (P : Nat → Prop) (r : PS × FlyC × Bool) (w : World) (e : Ending) (w' : World) : Prop := ∃ s : SysC, e = .returned (.tuple #[sysV s, flyV r.2.1, .bool r.2.2]) ∧ SysR (fun b => P b ∨ w.heap.size ≤ b) w' s r.1 ∧ Below w.heap.size w w'
theorem sysFly {P : Nat → Prop} {r : PS × FlyC × Bool} {w w' : World} {s : SysC} {σ : PS} {l : FlyC} {b : Bool} (hr : r = (σ, l, b)) (h : SysR (fun b => P b ∨ w.heap.size ≤ b) w' s σ) (hb : Below w.heap.size w w') : SysFly P r w (.returned (.tuple #[sysV s, flyV l, .bool b])) w' := by subst hr; exact ⟨s, rfl, h, hb⟩
theorem arr_head {w : World} {A : Option Addr} {n i : Nat} {L : List FlyC} (h : Rd w w.heap.size 7 A n (L.flatMap flyL)) (hi : i < n) : Rd w w.heap.size 7 A i ((L.take i).flatMap flyL) := by
  have := h.take_ (m := i) (by omega)
  rwa [flatMap_take flyL 7 (fun _ => rfl)] at this
theorem arr_tail {w : World} {A : Option Addr} {n i : Nat} {L : List FlyC} (h : Rd w w.heap.size 7 A n ((L.flatMap flyL).drop ((i + 1) * 7))) : Rd w w.heap.size 7 A n ((L.drop (i + 1)).flatMap flyL) := by
  rwa [flatMap_drop flyL 7 (fun _ => rfl)] at h
/-- the flights have been replaced by a row of the caller's own -/
theorem sysR_refly {P : Nat → Prop} {w v3 Wf : World} {s : SysC} {σ : PS} {u : Sl} {n R B0 : Nat} {L : List FlyC} (H : SysR P w s σ) (hB : Below w.heap.size w Wf) (ho : v3.ownsRow B0 66 7 (.slice u.a n u.c) n (L.flatMap flyL)) (hB0 : R < B0) (hoff : Off R v3 Wf) :
    SysR (fun b => (P b ∧ b < w.heap.size) ∨ B0 ≤ b) Wf { s with flights := ⟨u.a, n, u.c⟩ } { σ with fls := L } := by
  have h := (H.low.below hB).mono (Q := fun b => (P b ∧ b < w.heap.size) ∨ B0 ≤ b) (fun b hb => .inl hb)
  exact { h with fl := own_off ho hoff hB0, cf := own_cap ho, lf := fun q hq _ => .inr (row_base ho q.block (by rw [show u.a = some q from hq]; rfl)) }
/-- the state that Post has handed back, behind the stores into three boxes -/
theorem arrive_key {P : Nat → Prop} {w v3 X Wf : World} {s : SysC} {σ : PS} {R B0 C0 : Nat} (h : SysR (fun b => ((P b ∧ b < w.heap.size) ∨ B0 ≤ b) ∨ C0 ≤ b) v3 s σ) (hw : w.heap.size < R) (hR : R + 1 < B0) (hC : R + 1 < C0) (h1 : Off w.heap.size v3 X) (h2 : Off2 R (R + 1) X Wf) : SysR (fun b => P b ∨ w.heap.size ≤ b) Wf s σ :=
  (h.stay (fun b o hb => (h2.2 b o (by omega) (by omega)).trans (h1.2 b o (by omega))) (by rw [h2.1, h1.1]; exact Nat.le_refl _)).mono (fun b hb => by rcases hb with (hb | hb) | hb; exact .inl hb.1; exact .inr (by omega); exact .inr (by omega))

set_option maxRecDepth 100000 in
set_option maxHeartbeats 4000000 in
set_option linter.unusedSimpArgs false in
theorem arrive_none {P : Nat → Prop} (s : SysC) (σ : PS) (x y : Int) (w : World) (h : SysR P w s σ) (hnf : s.flights.n ≤ 1000000) (hr : Ml.idx σ.fls x y = none) :
    Calls Try.prog 40 #[sysV s, .int .i64 x, .int .i64 y] w (SysFly P (Ml.arrive σ x y) w) := by
  have HP : Hid (Ml.arrive σ x y = (σ, flyZ, false)) := Lib.hid (by unfold Ml.arrive; rw [hr])
  have C := Lib.hid (fun (W : World) (hW : Below w.heap.size w W) (h1 : BoxAt W (w.heap.size + 1) [.int .i64 x]) (h2 : BoxAt W (w.heap.size + 1 + 1) [.int .i64 y]) => index82 σ.fls s.flights x y (.pointer (some ⟨w.heap.size + 1, 0, none⟩)) (.pointer (some ⟨w.heap.size + 1 + 1, 0, none⟩)) W (h.fl.up hW) hnf (fun W' f hW' => arrive83 f x y (w.heap.size + 1) (w.heap.size + 1 + 1) W' (h1.call hW') (h2.call hW')))
  rw [hr] at C
  have H := Lib.hid h
  clear h hr
  go_enter Try.func40, Try.ntmps40
  go_wp2_with fail
  refine (C.out _ (by repeat (first | (with_reducible exact Below.refl _ _) | (with_reducible assumption) | ((with_reducible refine Below.setCell ?_ ?_ _); rotate_left; (focus (first | omega | (simp; omega) | (simp; done)))) | ((with_reducible refine Below.alloc ?_ ?_ _); rotate_left; (focus (first | omega | (simp; omega) | (simp; done)))) | (with_reducible refine Below.drew ?_))) ((((BoxAt.new _ 3 [.int .i64 x] _ (by simp)).alloc _).alloc _).alloc _) (((BoxAt.new _ 3 [.int .i64 y] _ (by simp)).alloc _).alloc _)).mono ?_
  rintro e v1 ⟨rfl, h1⟩
  have z1 := h1.size
  try simp at z1
  have hB1 : Below w.heap.size w v1 := Below.call (w := w) (by repeat (first | (with_reducible exact Below.refl _ _) | (with_reducible assumption) | ((with_reducible refine Below.setCell ?_ ?_ _); rotate_left; (focus (first | omega | (simp; omega) | (simp; done)))) | ((with_reducible refine Below.alloc ?_ ?_ _); rotate_left; (focus (first | omega | (simp; omega) | (simp; done)))) | (with_reducible refine Below.drew ?_))) h1
  obtain ⟨k1_0, kc, kf⟩ := keepB h1 (w.heap.size) (by first | omega | (simp; omega) | (simp; done))
  have c1_0_0 : v1.cell? ⟨w.heap.size, 0, none⟩ = some (.slice s.up.a s.up.n s.up.c) := (kc 0).trans (by simp [go_sem, *])
  have f1_0_0 : v1.frozen? ⟨w.heap.size, 0, none⟩ = false := (kf 0).trans (by simp [go_sem, *])
  have c1_0_1 : v1.cell? ⟨w.heap.size, 1, none⟩ = some (.int .i64 s.moment) := (kc 1).trans (by simp [go_sem, *])
  have f1_0_1 : v1.frozen? ⟨w.heap.size, 1, none⟩ = false := (kf 1).trans (by simp [go_sem, *])
  have c1_0_2 : v1.cell? ⟨w.heap.size, 2, none⟩ = some (.int .i64 s.clock) := (kc 2).trans (by simp [go_sem, *])
  have f1_0_2 : v1.frozen? ⟨w.heap.size, 2, none⟩ = false := (kf 2).trans (by simp [go_sem, *])
  have c1_0_3 : v1.cell? ⟨w.heap.size, 3, none⟩ = some (.int .i64 s.seq) := (kc 3).trans (by simp [go_sem, *])
  have f1_0_3 : v1.frozen? ⟨w.heap.size, 3, none⟩ = false := (kf 3).trans (by simp [go_sem, *])
  have c1_0_4 : v1.cell? ⟨w.heap.size, 4, none⟩ = some (.slice s.actors.a s.actors.n s.actors.c) := (kc 4).trans (by simp [go_sem, *])
  have f1_0_4 : v1.frozen? ⟨w.heap.size, 4, none⟩ = false := (kf 4).trans (by simp [go_sem, *])
  have c1_0_5 : v1.cell? ⟨w.heap.size, 5, none⟩ = some (.slice s.flights.a s.flights.n s.flights.c) := (kc 5).trans (by simp [go_sem, *])
  have f1_0_5 : v1.frozen? ⟨w.heap.size, 5, none⟩ = false := (kf 5).trans (by simp [go_sem, *])
  have c1_0_6 : v1.cell? ⟨w.heap.size, 6, none⟩ = some (.slice s.alarms.a s.alarms.n s.alarms.c) := (kc 6).trans (by simp [go_sem, *])
  have f1_0_6 : v1.frozen? ⟨w.heap.size, 6, none⟩ = false := (kf 6).trans (by simp [go_sem, *])
  have c1_0_7 : v1.cell? ⟨w.heap.size, 7, none⟩ = some (.slice s.asked.a s.asked.n s.asked.c) := (kc 7).trans (by simp [go_sem, *])
  have f1_0_7 : v1.frozen? ⟨w.heap.size, 7, none⟩ = false := (kf 7).trans (by simp [go_sem, *])
  have c1_0_8 : v1.cell? ⟨w.heap.size, 8, none⟩ = some (.int .i64 s.dead) := (kc 8).trans (by simp [go_sem, *])
  have f1_0_8 : v1.frozen? ⟨w.heap.size, 8, none⟩ = false := (kf 8).trans (by simp [go_sem, *])
  clear kc kf
  obtain ⟨k1_1, kc, kf⟩ := keepB h1 (w.heap.size + 1 + 1 + 1) (by first | omega | (simp; omega) | (simp; done))
  have c1_1_0 : v1.cell? ⟨w.heap.size + 1 + 1 + 1, 0, none⟩ = some (.slice none 0 0) := (kc 0).trans (by simp [go_sem, *])
  have f1_1_0 : v1.frozen? ⟨w.heap.size + 1 + 1 + 1, 0, none⟩ = false := (kf 0).trans (by simp [go_sem, *])
  have c1_1_1 : v1.cell? ⟨w.heap.size + 1 + 1 + 1, 1, none⟩ = some (.int .i64 0) := (kc 1).trans (by simp [go_sem, *])
  have f1_1_1 : v1.frozen? ⟨w.heap.size + 1 + 1 + 1, 1, none⟩ = false := (kf 1).trans (by simp [go_sem, *])
  have c1_1_2 : v1.cell? ⟨w.heap.size + 1 + 1 + 1, 2, none⟩ = some (.int .i64 0) := (kc 2).trans (by simp [go_sem, *])
  have f1_1_2 : v1.frozen? ⟨w.heap.size + 1 + 1 + 1, 2, none⟩ = false := (kf 2).trans (by simp [go_sem, *])
  have c1_1_3 : v1.cell? ⟨w.heap.size + 1 + 1 + 1, 3, none⟩ = some (.int .i64 0) := (kc 3).trans (by simp [go_sem, *])
  have f1_1_3 : v1.frozen? ⟨w.heap.size + 1 + 1 + 1, 3, none⟩ = false := (kf 3).trans (by simp [go_sem, *])
  have c1_1_4 : v1.cell? ⟨w.heap.size + 1 + 1 + 1, 4, none⟩ = some (.slice none 0 0) := (kc 4).trans (by simp [go_sem, *])
  have f1_1_4 : v1.frozen? ⟨w.heap.size + 1 + 1 + 1, 4, none⟩ = false := (kf 4).trans (by simp [go_sem, *])
  have c1_1_5 : v1.cell? ⟨w.heap.size + 1 + 1 + 1, 5, none⟩ = some (.slice none 0 0) := (kc 5).trans (by simp [go_sem, *])
  have f1_1_5 : v1.frozen? ⟨w.heap.size + 1 + 1 + 1, 5, none⟩ = false := (kf 5).trans (by simp [go_sem, *])
  have c1_1_6 : v1.cell? ⟨w.heap.size + 1 + 1 + 1, 6, none⟩ = some (.slice none 0 0) := (kc 6).trans (by simp [go_sem, *])
  have f1_1_6 : v1.frozen? ⟨w.heap.size + 1 + 1 + 1, 6, none⟩ = false := (kf 6).trans (by simp [go_sem, *])
  have c1_1_7 : v1.cell? ⟨w.heap.size + 1 + 1 + 1, 7, none⟩ = some (.slice none 0 0) := (kc 7).trans (by simp [go_sem, *])
  have f1_1_7 : v1.frozen? ⟨w.heap.size + 1 + 1 + 1, 7, none⟩ = false := (kf 7).trans (by simp [go_sem, *])
  have c1_1_8 : v1.cell? ⟨w.heap.size + 1 + 1 + 1, 8, none⟩ = some (.int .i64 0) := (kc 8).trans (by simp [go_sem, *])
  have f1_1_8 : v1.frozen? ⟨w.heap.size + 1 + 1 + 1, 8, none⟩ = false := (kf 8).trans (by simp [go_sem, *])
  clear kc kf
  obtain ⟨k1_2, kc, kf⟩ := keepB h1 (w.heap.size + 1 + 1 + 1 + 1) (by first | omega | (simp; omega) | (simp; done))
  have c1_2_0 : v1.cell? ⟨w.heap.size + 1 + 1 + 1 + 1, 0, none⟩ = some (.int .i64 0) := (kc 0).trans (by simp [go_sem, *])
  have f1_2_0 : v1.frozen? ⟨w.heap.size + 1 + 1 + 1 + 1, 0, none⟩ = false := (kf 0).trans (by simp [go_sem, *])
  have c1_2_1 : v1.cell? ⟨w.heap.size + 1 + 1 + 1 + 1, 1, none⟩ = some (.int .i64 0) := (kc 1).trans (by simp [go_sem, *])
  have f1_2_1 : v1.frozen? ⟨w.heap.size + 1 + 1 + 1 + 1, 1, none⟩ = false := (kf 1).trans (by simp [go_sem, *])
  have c1_2_2 : v1.cell? ⟨w.heap.size + 1 + 1 + 1 + 1, 2, none⟩ = some (.string ⟨#[]⟩) := (kc 2).trans (by simp [go_sem, *])
  have f1_2_2 : v1.frozen? ⟨w.heap.size + 1 + 1 + 1 + 1, 2, none⟩ = false := (kf 2).trans (by simp [go_sem, *])
  have c1_2_3 : v1.cell? ⟨w.heap.size + 1 + 1 + 1 + 1, 3, none⟩ = some (.string ⟨#[]⟩) := (kc 3).trans (by simp [go_sem, *])
  have f1_2_3 : v1.frozen? ⟨w.heap.size + 1 + 1 + 1 + 1, 3, none⟩ = false := (kf 3).trans (by simp [go_sem, *])
  have c1_2_4 : v1.cell? ⟨w.heap.size + 1 + 1 + 1 + 1, 4, none⟩ = some (.string ⟨#[]⟩) := (kc 4).trans (by simp [go_sem, *])
  have f1_2_4 : v1.frozen? ⟨w.heap.size + 1 + 1 + 1 + 1, 4, none⟩ = false := (kf 4).trans (by simp [go_sem, *])
  have c1_2_5 : v1.cell? ⟨w.heap.size + 1 + 1 + 1 + 1, 5, none⟩ = some (.slice none 0 0) := (kc 5).trans (by simp [go_sem, *])
  have f1_2_5 : v1.frozen? ⟨w.heap.size + 1 + 1 + 1 + 1, 5, none⟩ = false := (kf 5).trans (by simp [go_sem, *])
  have c1_2_6 : v1.cell? ⟨w.heap.size + 1 + 1 + 1 + 1, 6, none⟩ = some (.int .i64 0) := (kc 6).trans (by simp [go_sem, *])
  have f1_2_6 : v1.frozen? ⟨w.heap.size + 1 + 1 + 1 + 1, 6, none⟩ = false := (kf 6).trans (by simp [go_sem, *])
  clear kc kf
  go_wp2_with fail
  refine bodyPost_ret (v := .tuple #[sysV s, flyV flyZ, .bool false]) (by simp [results, Try.results40, go_sem, flyZ, letZ, *]) rfl (sysFly HP.out ((H.out.below (by repeat (first | (with_reducible exact Below.refl _ _) | (with_reducible assumption) | ((with_reducible refine Below.setCell ?_ ?_ _); rotate_left; (focus (first | omega | (simp; omega) | (simp; done)))) | ((with_reducible refine Below.alloc ?_ ?_ _); rotate_left; (focus (first | omega | (simp; omega) | (simp; done)))) | (with_reducible refine Below.drew ?_)))).mono (fun b hb => .inl hb)) (by repeat (first | (with_reducible exact Below.refl _ _) | (with_reducible assumption) | ((with_reducible refine Below.setCell ?_ ?_ _); rotate_left; (focus (first | omega | (simp; omega) | (simp; done)))) | ((with_reducible refine Below.alloc ?_ ?_ _); rotate_left; (focus (first | omega | (simp; omega) | (simp; done)))) | (with_reducible refine Below.drew ?_))))

set_option maxRecDepth 100000 in
set_option maxHeartbeats 4000000 in
set_option linter.unusedSimpArgs false in
theorem arrive_some {P : Nat → Prop} (s : SysC) (σ : PS) (x y : Int) (w : World) (h : SysR P w s σ) (hna : s.actors.n ≤ 1000000) (hnu : s.up.n ≤ 9223372036854775807) (hnf : s.flights.n ≤ 1000000) (i : Nat) (hr : Ml.idx σ.fls x y = some i) :
    Calls Try.prog 40 #[sysV s, .int .i64 x, .int .i64 y] w (SysFly P (Ml.arrive σ x y) w) := by
  have hil : i < s.flights.n := by
    have h1 := h.nfl
    unfold Ml.idx at hr
    rw [List.findIdx?_eq_some_iff_getElem] at hr
    obtain ⟨h2, _⟩ := hr
    omega
  obtain ⟨b, off, f, hA, hb, hfi, hc⟩ := h.fl.at_ (fun _ => rfl) (by omega) hil
  have HP : Hid (Ml.arrive σ x y = ((Ml.post { σ with fls := σ.fls.take i ++ σ.fls.drop (i + 1) } f.path f.l).1, f, true)) := Lib.hid (by unfold Ml.arrive; rw [hr]; simp only [hfi]; rfl)
  obtain ⟨A', hsl, hrd⟩ := tail24 h.fl hil h.cf
  have hhd := head24 h.fl hil h.cf
  have y0 : w.cell? ⟨b, off + i * 7, none⟩ = some (.int .i64 f.x) := hc 0 _ rfl
  have y1 : w.cell? ⟨b, off + i * 7 + 1, none⟩ = some (.int .i64 f.y) := hc 1 _ rfl
  have y2 : w.cell? ⟨b, off + i * 7 + 2, none⟩ = some (.string f.path) := hc 2 _ rfl
  have y3 : w.cell? ⟨b, off + i * 7 + 3, none⟩ = some (.string f.l.src) := hc 3 _ rfl
  have y4 : w.cell? ⟨b, off + i * 7 + 4, none⟩ = some (.string f.l.msg) := hc 4 _ rfl
  have y5 : w.cell? ⟨b, off + i * 7 + 5, none⟩ = some (.slice f.l.args.a f.l.args.n f.l.args.c) := hc 5 _ rfl
  have y6 : w.cell? ⟨b, off + i * 7 + 6, none⟩ = some (.int .i64 f.l.sent) := hc 6 _ rfl
  have hix : ∀ W : World, Sem.run Try.prog (Instr.indexAt 24 (.slice s.flights.a s.flights.n s.flights.c) (.int .i64 (i : Int))) W = .ok (.pointer (some ⟨b, off + i * 7, none⟩)) W := by intro W; rw [hA]; go_simp
  have C := Lib.hid (fun (W : World) (hW : Below w.heap.size w W) (h1 : BoxAt W (w.heap.size + 1) [.int .i64 x]) (h2 : BoxAt W (w.heap.size + 1 + 1) [.int .i64 y]) => index82 σ.fls s.flights x y (.pointer (some ⟨w.heap.size + 1, 0, none⟩)) (.pointer (some ⟨w.heap.size + 1 + 1, 0, none⟩)) W (h.fl.up hW) hnf (fun W' f hW' => arrive83 f x y (w.heap.size + 1) (w.heap.size + 1 + 1) W' (h1.call hW') (h2.call hW')))
  rw [hr] at C
  have H := Lib.hid h
  clear h hr
  have HRD := Lib.hid hrd
  clear hrd hA hc hfi
  have hi1 : decide ((i : Int) < 0) = false := by simp
  have hw1 : IntKind.i64.wrap ((i : Int) + 1) = (i : Int) + 1 := IntWalk.i64_in _ (by omega)
  go_enter Try.func40, Try.ntmps40
  go_wp2_with fail
  refine (C.out _ (by repeat (first | (with_reducible exact Below.refl _ _) | (with_reducible assumption) | ((with_reducible refine Below.setCell ?_ ?_ _); rotate_left; (focus (first | omega | (simp; omega) | (simp; done)))) | ((with_reducible refine Below.alloc ?_ ?_ _); rotate_left; (focus (first | omega | (simp; omega) | (simp; done)))) | (with_reducible refine Below.drew ?_))) ((((BoxAt.new _ 3 [.int .i64 x] _ (by simp)).alloc _).alloc _).alloc _) (((BoxAt.new _ 3 [.int .i64 y] _ (by simp)).alloc _).alloc _)).mono ?_
  rintro e v1 ⟨rfl, h1⟩
  have z1 := h1.size
  try simp at z1
  have hB1 : Below w.heap.size w v1 := Below.call (w := w) (by repeat (first | (with_reducible exact Below.refl _ _) | (with_reducible assumption) | ((with_reducible refine Below.setCell ?_ ?_ _); rotate_left; (focus (first | omega | (simp; omega) | (simp; done)))) | ((with_reducible refine Below.alloc ?_ ?_ _); rotate_left; (focus (first | omega | (simp; omega) | (simp; done)))) | (with_reducible refine Below.drew ?_))) h1
  obtain ⟨k1_0, kc, kf⟩ := keepB h1 (w.heap.size) (by first | omega | (simp; omega) | (simp; done))
  have c1_0_0 : v1.cell? ⟨w.heap.size, 0, none⟩ = some (.slice s.up.a s.up.n s.up.c) := (kc 0).trans (by simp [go_sem, *])
  have f1_0_0 : v1.frozen? ⟨w.heap.size, 0, none⟩ = false := (kf 0).trans (by simp [go_sem, *])
  have c1_0_1 : v1.cell? ⟨w.heap.size, 1, none⟩ = some (.int .i64 s.moment) := (kc 1).trans (by simp [go_sem, *])
  have f1_0_1 : v1.frozen? ⟨w.heap.size, 1, none⟩ = false := (kf 1).trans (by simp [go_sem, *])
  have c1_0_2 : v1.cell? ⟨w.heap.size, 2, none⟩ = some (.int .i64 s.clock) := (kc 2).trans (by simp [go_sem, *])
  have f1_0_2 : v1.frozen? ⟨w.heap.size, 2, none⟩ = false := (kf 2).trans (by simp [go_sem, *])
  have c1_0_3 : v1.cell? ⟨w.heap.size, 3, none⟩ = some (.int .i64 s.seq) := (kc 3).trans (by simp [go_sem, *])
  have f1_0_3 : v1.frozen? ⟨w.heap.size, 3, none⟩ = false := (kf 3).trans (by simp [go_sem, *])
  have c1_0_4 : v1.cell? ⟨w.heap.size, 4, none⟩ = some (.slice s.actors.a s.actors.n s.actors.c) := (kc 4).trans (by simp [go_sem, *])
  have f1_0_4 : v1.frozen? ⟨w.heap.size, 4, none⟩ = false := (kf 4).trans (by simp [go_sem, *])
  have c1_0_5 : v1.cell? ⟨w.heap.size, 5, none⟩ = some (.slice s.flights.a s.flights.n s.flights.c) := (kc 5).trans (by simp [go_sem, *])
  have f1_0_5 : v1.frozen? ⟨w.heap.size, 5, none⟩ = false := (kf 5).trans (by simp [go_sem, *])
  have c1_0_6 : v1.cell? ⟨w.heap.size, 6, none⟩ = some (.slice s.alarms.a s.alarms.n s.alarms.c) := (kc 6).trans (by simp [go_sem, *])
  have f1_0_6 : v1.frozen? ⟨w.heap.size, 6, none⟩ = false := (kf 6).trans (by simp [go_sem, *])
  have c1_0_7 : v1.cell? ⟨w.heap.size, 7, none⟩ = some (.slice s.asked.a s.asked.n s.asked.c) := (kc 7).trans (by simp [go_sem, *])
  have f1_0_7 : v1.frozen? ⟨w.heap.size, 7, none⟩ = false := (kf 7).trans (by simp [go_sem, *])
  have c1_0_8 : v1.cell? ⟨w.heap.size, 8, none⟩ = some (.int .i64 s.dead) := (kc 8).trans (by simp [go_sem, *])
  have f1_0_8 : v1.frozen? ⟨w.heap.size, 8, none⟩ = false := (kf 8).trans (by simp [go_sem, *])
  clear kc kf
  obtain ⟨k1_1, kc, kf⟩ := keepB h1 (w.heap.size + 1 + 1 + 1) (by first | omega | (simp; omega) | (simp; done))
  have c1_1_0 : v1.cell? ⟨w.heap.size + 1 + 1 + 1, 0, none⟩ = some (.slice none 0 0) := (kc 0).trans (by simp [go_sem, *])
  have f1_1_0 : v1.frozen? ⟨w.heap.size + 1 + 1 + 1, 0, none⟩ = false := (kf 0).trans (by simp [go_sem, *])
  have c1_1_1 : v1.cell? ⟨w.heap.size + 1 + 1 + 1, 1, none⟩ = some (.int .i64 0) := (kc 1).trans (by simp [go_sem, *])
  have f1_1_1 : v1.frozen? ⟨w.heap.size + 1 + 1 + 1, 1, none⟩ = false := (kf 1).trans (by simp [go_sem, *])
  have c1_1_2 : v1.cell? ⟨w.heap.size + 1 + 1 + 1, 2, none⟩ = some (.int .i64 0) := (kc 2).trans (by simp [go_sem, *])
  have f1_1_2 : v1.frozen? ⟨w.heap.size + 1 + 1 + 1, 2, none⟩ = false := (kf 2).trans (by simp [go_sem, *])
  have c1_1_3 : v1.cell? ⟨w.heap.size + 1 + 1 + 1, 3, none⟩ = some (.int .i64 0) := (kc 3).trans (by simp [go_sem, *])
  have f1_1_3 : v1.frozen? ⟨w.heap.size + 1 + 1 + 1, 3, none⟩ = false := (kf 3).trans (by simp [go_sem, *])
  have c1_1_4 : v1.cell? ⟨w.heap.size + 1 + 1 + 1, 4, none⟩ = some (.slice none 0 0) := (kc 4).trans (by simp [go_sem, *])
  have f1_1_4 : v1.frozen? ⟨w.heap.size + 1 + 1 + 1, 4, none⟩ = false := (kf 4).trans (by simp [go_sem, *])
  have c1_1_5 : v1.cell? ⟨w.heap.size + 1 + 1 + 1, 5, none⟩ = some (.slice none 0 0) := (kc 5).trans (by simp [go_sem, *])
  have f1_1_5 : v1.frozen? ⟨w.heap.size + 1 + 1 + 1, 5, none⟩ = false := (kf 5).trans (by simp [go_sem, *])
  have c1_1_6 : v1.cell? ⟨w.heap.size + 1 + 1 + 1, 6, none⟩ = some (.slice none 0 0) := (kc 6).trans (by simp [go_sem, *])
  have f1_1_6 : v1.frozen? ⟨w.heap.size + 1 + 1 + 1, 6, none⟩ = false := (kf 6).trans (by simp [go_sem, *])
  have c1_1_7 : v1.cell? ⟨w.heap.size + 1 + 1 + 1, 7, none⟩ = some (.slice none 0 0) := (kc 7).trans (by simp [go_sem, *])
  have f1_1_7 : v1.frozen? ⟨w.heap.size + 1 + 1 + 1, 7, none⟩ = false := (kf 7).trans (by simp [go_sem, *])
  have c1_1_8 : v1.cell? ⟨w.heap.size + 1 + 1 + 1, 8, none⟩ = some (.int .i64 0) := (kc 8).trans (by simp [go_sem, *])
  have f1_1_8 : v1.frozen? ⟨w.heap.size + 1 + 1 + 1, 8, none⟩ = false := (kf 8).trans (by simp [go_sem, *])
  clear kc kf
  obtain ⟨k1_2, kc, kf⟩ := keepB h1 (w.heap.size + 1 + 1 + 1 + 1) (by first | omega | (simp; omega) | (simp; done))
  have c1_2_0 : v1.cell? ⟨w.heap.size + 1 + 1 + 1 + 1, 0, none⟩ = some (.int .i64 0) := (kc 0).trans (by simp [go_sem, *])
  have f1_2_0 : v1.frozen? ⟨w.heap.size + 1 + 1 + 1 + 1, 0, none⟩ = false := (kf 0).trans (by simp [go_sem, *])
  have c1_2_1 : v1.cell? ⟨w.heap.size + 1 + 1 + 1 + 1, 1, none⟩ = some (.int .i64 0) := (kc 1).trans (by simp [go_sem, *])
  have f1_2_1 : v1.frozen? ⟨w.heap.size + 1 + 1 + 1 + 1, 1, none⟩ = false := (kf 1).trans (by simp [go_sem, *])
  have c1_2_2 : v1.cell? ⟨w.heap.size + 1 + 1 + 1 + 1, 2, none⟩ = some (.string ⟨#[]⟩) := (kc 2).trans (by simp [go_sem, *])
  have f1_2_2 : v1.frozen? ⟨w.heap.size + 1 + 1 + 1 + 1, 2, none⟩ = false := (kf 2).trans (by simp [go_sem, *])
  have c1_2_3 : v1.cell? ⟨w.heap.size + 1 + 1 + 1 + 1, 3, none⟩ = some (.string ⟨#[]⟩) := (kc 3).trans (by simp [go_sem, *])
  have f1_2_3 : v1.frozen? ⟨w.heap.size + 1 + 1 + 1 + 1, 3, none⟩ = false := (kf 3).trans (by simp [go_sem, *])
  have c1_2_4 : v1.cell? ⟨w.heap.size + 1 + 1 + 1 + 1, 4, none⟩ = some (.string ⟨#[]⟩) := (kc 4).trans (by simp [go_sem, *])
  have f1_2_4 : v1.frozen? ⟨w.heap.size + 1 + 1 + 1 + 1, 4, none⟩ = false := (kf 4).trans (by simp [go_sem, *])
  have c1_2_5 : v1.cell? ⟨w.heap.size + 1 + 1 + 1 + 1, 5, none⟩ = some (.slice none 0 0) := (kc 5).trans (by simp [go_sem, *])
  have f1_2_5 : v1.frozen? ⟨w.heap.size + 1 + 1 + 1 + 1, 5, none⟩ = false := (kf 5).trans (by simp [go_sem, *])
  have c1_2_6 : v1.cell? ⟨w.heap.size + 1 + 1 + 1 + 1, 6, none⟩ = some (.int .i64 0) := (kc 6).trans (by simp [go_sem, *])
  have f1_2_6 : v1.frozen? ⟨w.heap.size + 1 + 1 + 1 + 1, 6, none⟩ = false := (kf 6).trans (by simp [go_sem, *])
  clear kc kf
  have x0 : v1.cell? ⟨b, off + i * 7, none⟩ = some (.int .i64 f.x) := (hB1.cell (p := ⟨b, off + i * 7, none⟩) hb).trans y0
  have x1 : v1.cell? ⟨b, off + i * 7 + 1, none⟩ = some (.int .i64 f.y) := (hB1.cell (p := ⟨b, off + i * 7 + 1, none⟩) hb).trans y1
  have x2 : v1.cell? ⟨b, off + i * 7 + 2, none⟩ = some (.string f.path) := (hB1.cell (p := ⟨b, off + i * 7 + 2, none⟩) hb).trans y2
  have x3 : v1.cell? ⟨b, off + i * 7 + 3, none⟩ = some (.string f.l.src) := (hB1.cell (p := ⟨b, off + i * 7 + 3, none⟩) hb).trans y3
  have x4 : v1.cell? ⟨b, off + i * 7 + 4, none⟩ = some (.string f.l.msg) := (hB1.cell (p := ⟨b, off + i * 7 + 4, none⟩) hb).trans y4
  have x5 : v1.cell? ⟨b, off + i * 7 + 5, none⟩ = some (.slice f.l.args.a f.l.args.n f.l.args.c) := (hB1.cell (p := ⟨b, off + i * 7 + 5, none⟩) hb).trans y5
  have x6 : v1.cell? ⟨b, off + i * 7 + 6, none⟩ = some (.int .i64 f.l.sent) := (hB1.cell (p := ⟨b, off + i * 7 + 6, none⟩) hb).trans y6
  clear y0 y1 y2 y3 y4 y5 y6
  simp only [Ml.idxI]
  go_wp2_with fail
  clear x0 x1 x2 x3 x4 x5 x6
  have kq0 : w.heap.size < v1.heap.size + 1 := by omega
  have kq1 : w.heap.size + 1 + 1 + 1 < v1.heap.size + 1 := by omega
  have kq2 : w.heap.size + 1 + 1 + 1 + 1 < v1.heap.size + 1 := by omega
  refine wp_region_held_drew (S := (fun _ => True)) (by kernel_rfl) ?_ (fun hHeld => ?_)
  · trivial
  refine wpAnyH_take (i := 0) (v := ?_) rfl (by kernel_rfl) (by kernel_rfl) (by kernel_rfl) (fun _ _ _ h => h) (Or.inl ⟨by rfl, ?_⟩) (by assumption) ?_
  rotate_left
  · intro w hSw; (try dsimp only at hSw); go_simp; (first | done | (with_reducible rfl))
  try simp only [Act.put, List.getElem_toArray, List.getElem_cons_succ, List.getElem_cons_zero, List.setIfInBounds_toArray, List.set_cons_zero, List.set_cons_succ]
  refine wpAnyH_take (i := 2) (v := ?_) rfl (by kernel_rfl) (by kernel_rfl) (by kernel_rfl) (fun _ _ _ h => h) (Or.inl ⟨by rfl, ?_⟩) (by assumption) ?_
  rotate_left
  · intro w hSw; (try dsimp only at hSw); go_simp; (first | done | (with_reducible rfl))
  try simp only [Act.put, List.getElem_toArray, List.getElem_cons_succ, List.getElem_cons_zero, List.setIfInBounds_toArray, List.set_cons_zero, List.set_cons_succ]
  refine wpAnyH_take (i := 4) (v := ?_) rfl (by kernel_rfl) (by kernel_rfl) (by kernel_rfl) (fun _ _ _ h => h) (Or.inl ⟨by rfl, ?_⟩) (by assumption) ?_
  rotate_left
  · intro w hSw; (try dsimp only at hSw); go_simp; (first | done | (with_reducible rfl))
  try simp only [Act.put, List.getElem_toArray, List.getElem_cons_succ, List.getElem_cons_zero, List.setIfInBounds_toArray, List.set_cons_zero, List.set_cons_succ]
  refine wpAnyH_take (i := 6) (v := ?_) rfl (by kernel_rfl) (by kernel_rfl) (by kernel_rfl) (fun _ _ _ h => h) (Or.inl ⟨by rfl, ?_⟩) (by assumption) ?_
  rotate_left
  · intro w hSw; (try dsimp only at hSw); go_simp; (first | done | (with_reducible rfl))
  try simp only [Act.put, List.getElem_toArray, List.getElem_cons_succ, List.getElem_cons_zero, List.setIfInBounds_toArray, List.set_cons_zero, List.set_cons_succ]
  refine wpAnyH_take (i := 7) (v := ?_) rfl (by kernel_rfl) (by kernel_rfl) (by kernel_rfl) (fun _ _ _ h => h) (Or.inl ⟨by rfl, ?_⟩) (by assumption) ?_
  rotate_left
  · intro w hSw; (try dsimp only at hSw); go_simp; (first | done | (with_reducible rfl))
  try simp only [Act.put, List.getElem_toArray, List.getElem_cons_succ, List.getElem_cons_zero, List.setIfInBounds_toArray, List.set_cons_zero, List.set_cons_succ]
  refine wpAnyH_ready (rs := [1, 5]) (by kernel_rfl) (by simp) ?_
  refine AllReadyH.cons rfl (fun K hK => ?_) (AllReadyH.cons rfl (fun K hK => ?_) AllReadyH.nil)
  · go_simp
    refine hK.out _ _ ?_ (fun hHeld => ?_)
    · trivial
    clear hK K
    try simp only [Act.put, List.getElem_toArray, List.getElem_cons_succ, List.getElem_cons_zero, List.setIfInBounds_toArray, List.set_cons_zero, List.set_cons_succ]
    refine wpAnyH_take (i := 3) (v := ?_) rfl (by kernel_rfl) (by kernel_rfl) (by kernel_rfl) (fun _ _ _ h => h) (Or.inl ⟨by rfl, ?_⟩) (by assumption) ?_
    rotate_left
    · intro w hSw; (try dsimp only at hSw); go_simp; (first | done | (with_reducible rfl))
    try simp only [Act.put, List.getElem_toArray, List.getElem_cons_succ, List.getElem_cons_zero, List.setIfInBounds_toArray, List.set_cons_zero, List.set_cons_succ]
    refine wpAnyH_ready (rs := [5]) (by kernel_rfl) (by simp) ?_
    refine AllReadyH.cons rfl (fun K hK => ?_) AllReadyH.nil
    go_simp
    refine hK.out _ _ ?_ (fun hHeld => ?_)
    · trivial
    clear hK K
    try simp only [Act.put, List.getElem_toArray, List.getElem_cons_succ, List.getElem_cons_zero, List.setIfInBounds_toArray, List.set_cons_zero, List.set_cons_succ]
    refine wpAnyH_take (i := 8) (v := ?_) rfl (by kernel_rfl) (by kernel_rfl) (by kernel_rfl) (fun _ _ _ h => h) (Or.inl ⟨by rfl, ?_⟩) (by assumption) ?_
    rotate_left
    · intro w hSw; (try dsimp only at hSw); go_simp; (first | done | (with_reducible rfl))
    try simp only [Act.put, List.getElem_toArray, List.getElem_cons_succ, List.getElem_cons_zero, List.setIfInBounds_toArray, List.set_cons_zero, List.set_cons_succ]
    refine wpAnyH_ready (rs := [9]) (by kernel_rfl) (by simp) ?_
    refine AllReadyH.cons rfl (fun K hK => ?_) AllReadyH.nil
    go_simp
    refine hK.out _ _ ?_ (fun hHeld => ?_)
    · trivial
    clear hK K
    try simp only [Act.put, List.getElem_toArray, List.getElem_cons_succ, List.getElem_cons_zero, List.setIfInBounds_toArray, List.set_cons_zero, List.set_cons_succ]
    refine wpAnyH_ready (rs := [10]) (by kernel_rfl) (by simp) ?_
    refine AllReadyH.cons rfl (fun K hK => ?_) AllReadyH.nil
    go_simp
    refine (concat84 (σ.fls.take i) (σ.fls.drop (i + 1)) s.flights.a A' i (s.flights.n - (i + 1)) s.flights.c (s.flights.c - (i + 1)) (v1.heap.size + 1) _ (by simp [go_sem]) (by simp [go_sem]) (by simp) (arr_head (H.out.fl.up (by repeat (first | (with_reducible exact Below.refl _ _) | (with_reducible assumption) | ((with_reducible refine Below.setCell ?_ ?_ _); rotate_left; (focus (first | omega | (simp; omega) | (simp; done)))) | ((with_reducible refine Below.alloc ?_ ?_ _); rotate_left; (focus (first | omega | (simp; omega) | (simp; done)))) | (with_reducible refine Below.drew ?_)))) hil) (arr_tail (HRD.out _ _ (H.out.fl.up (by repeat (first | (with_reducible exact Below.refl _ _) | (with_reducible assumption) | ((with_reducible refine Below.setCell ?_ ?_ _); rotate_left; (focus (first | omega | (simp; omega) | (simp; done)))) | ((with_reducible refine Below.alloc ?_ ?_ _); rotate_left; (focus (first | omega | (simp; omega) | (simp; done)))) | (with_reducible refine Below.drew ?_)))))) (by omega) (by omega)).mono ?_
    rintro e v2 ⟨u, rfl, ho, h2⟩
    have z2 := h2.size
    try simp at z2
    have hB2 : Below w.heap.size w v2 := Below.call (w := w) (by repeat (first | (with_reducible exact Below.refl _ _) | (with_reducible assumption) | ((with_reducible refine Below.setCell ?_ ?_ _); rotate_left; (focus (first | omega | (simp; omega) | (simp; done)))) | ((with_reducible refine Below.alloc ?_ ?_ _); rotate_left; (focus (first | omega | (simp; omega) | (simp; done)))) | (with_reducible refine Below.drew ?_))) h2
    obtain ⟨k2_0, kc, kf⟩ := keepB h2 (w.heap.size) (by first | omega | (simp; omega) | (simp; done))
    have c2_0_0 : v2.cell? ⟨w.heap.size, 0, none⟩ = some (.slice s.up.a s.up.n s.up.c) := (kc 0).trans (by simp [go_sem, *])
    have f2_0_0 : v2.frozen? ⟨w.heap.size, 0, none⟩ = false := (kf 0).trans (by simp [go_sem, *])
    have c2_0_1 : v2.cell? ⟨w.heap.size, 1, none⟩ = some (.int .i64 s.moment) := (kc 1).trans (by simp [go_sem, *])
    have f2_0_1 : v2.frozen? ⟨w.heap.size, 1, none⟩ = false := (kf 1).trans (by simp [go_sem, *])
    have c2_0_2 : v2.cell? ⟨w.heap.size, 2, none⟩ = some (.int .i64 s.clock) := (kc 2).trans (by simp [go_sem, *])
    have f2_0_2 : v2.frozen? ⟨w.heap.size, 2, none⟩ = false := (kf 2).trans (by simp [go_sem, *])
    have c2_0_3 : v2.cell? ⟨w.heap.size, 3, none⟩ = some (.int .i64 s.seq) := (kc 3).trans (by simp [go_sem, *])
    have f2_0_3 : v2.frozen? ⟨w.heap.size, 3, none⟩ = false := (kf 3).trans (by simp [go_sem, *])
    have c2_0_4 : v2.cell? ⟨w.heap.size, 4, none⟩ = some (.slice s.actors.a s.actors.n s.actors.c) := (kc 4).trans (by simp [go_sem, *])
    have f2_0_4 : v2.frozen? ⟨w.heap.size, 4, none⟩ = false := (kf 4).trans (by simp [go_sem, *])
    have c2_0_5 : v2.cell? ⟨w.heap.size, 5, none⟩ = some (.slice s.flights.a s.flights.n s.flights.c) := (kc 5).trans (by simp [go_sem, *])
    have f2_0_5 : v2.frozen? ⟨w.heap.size, 5, none⟩ = false := (kf 5).trans (by simp [go_sem, *])
    have c2_0_6 : v2.cell? ⟨w.heap.size, 6, none⟩ = some (.slice s.alarms.a s.alarms.n s.alarms.c) := (kc 6).trans (by simp [go_sem, *])
    have f2_0_6 : v2.frozen? ⟨w.heap.size, 6, none⟩ = false := (kf 6).trans (by simp [go_sem, *])
    have c2_0_7 : v2.cell? ⟨w.heap.size, 7, none⟩ = some (.slice s.asked.a s.asked.n s.asked.c) := (kc 7).trans (by simp [go_sem, *])
    have f2_0_7 : v2.frozen? ⟨w.heap.size, 7, none⟩ = false := (kf 7).trans (by simp [go_sem, *])
    have c2_0_8 : v2.cell? ⟨w.heap.size, 8, none⟩ = some (.int .i64 s.dead) := (kc 8).trans (by simp [go_sem, *])
    have f2_0_8 : v2.frozen? ⟨w.heap.size, 8, none⟩ = false := (kf 8).trans (by simp [go_sem, *])
    clear kc kf
    obtain ⟨k2_1, kc, kf⟩ := keepB h2 (w.heap.size + 1 + 1 + 1) (by first | omega | (simp; omega) | (simp; done))
    have c2_1_0 : v2.cell? ⟨w.heap.size + 1 + 1 + 1, 0, none⟩ = some (.slice none 0 0) := (kc 0).trans (by simp [go_sem, *])
    have f2_1_0 : v2.frozen? ⟨w.heap.size + 1 + 1 + 1, 0, none⟩ = false := (kf 0).trans (by simp [go_sem, *])
    have c2_1_1 : v2.cell? ⟨w.heap.size + 1 + 1 + 1, 1, none⟩ = some (.int .i64 0) := (kc 1).trans (by simp [go_sem, *])
    have f2_1_1 : v2.frozen? ⟨w.heap.size + 1 + 1 + 1, 1, none⟩ = false := (kf 1).trans (by simp [go_sem, *])
    have c2_1_2 : v2.cell? ⟨w.heap.size + 1 + 1 + 1, 2, none⟩ = some (.int .i64 0) := (kc 2).trans (by simp [go_sem, *])
    have f2_1_2 : v2.frozen? ⟨w.heap.size + 1 + 1 + 1, 2, none⟩ = false := (kf 2).trans (by simp [go_sem, *])
    have c2_1_3 : v2.cell? ⟨w.heap.size + 1 + 1 + 1, 3, none⟩ = some (.int .i64 0) := (kc 3).trans (by simp [go_sem, *])
    have f2_1_3 : v2.frozen? ⟨w.heap.size + 1 + 1 + 1, 3, none⟩ = false := (kf 3).trans (by simp [go_sem, *])
    have c2_1_4 : v2.cell? ⟨w.heap.size + 1 + 1 + 1, 4, none⟩ = some (.slice none 0 0) := (kc 4).trans (by simp [go_sem, *])
    have f2_1_4 : v2.frozen? ⟨w.heap.size + 1 + 1 + 1, 4, none⟩ = false := (kf 4).trans (by simp [go_sem, *])
    have c2_1_5 : v2.cell? ⟨w.heap.size + 1 + 1 + 1, 5, none⟩ = some (.slice none 0 0) := (kc 5).trans (by simp [go_sem, *])
    have f2_1_5 : v2.frozen? ⟨w.heap.size + 1 + 1 + 1, 5, none⟩ = false := (kf 5).trans (by simp [go_sem, *])
    have c2_1_6 : v2.cell? ⟨w.heap.size + 1 + 1 + 1, 6, none⟩ = some (.slice none 0 0) := (kc 6).trans (by simp [go_sem, *])
    have f2_1_6 : v2.frozen? ⟨w.heap.size + 1 + 1 + 1, 6, none⟩ = false := (kf 6).trans (by simp [go_sem, *])
    have c2_1_7 : v2.cell? ⟨w.heap.size + 1 + 1 + 1, 7, none⟩ = some (.slice none 0 0) := (kc 7).trans (by simp [go_sem, *])
    have f2_1_7 : v2.frozen? ⟨w.heap.size + 1 + 1 + 1, 7, none⟩ = false := (kf 7).trans (by simp [go_sem, *])
    have c2_1_8 : v2.cell? ⟨w.heap.size + 1 + 1 + 1, 8, none⟩ = some (.int .i64 0) := (kc 8).trans (by simp [go_sem, *])
    have f2_1_8 : v2.frozen? ⟨w.heap.size + 1 + 1 + 1, 8, none⟩ = false := (kf 8).trans (by simp [go_sem, *])
    clear kc kf
    obtain ⟨k2_2, kc, kf⟩ := keepB h2 (w.heap.size + 1 + 1 + 1 + 1) (by first | omega | (simp; omega) | (simp; done))
    have c2_2_0 : v2.cell? ⟨w.heap.size + 1 + 1 + 1 + 1, 0, none⟩ = some (.int .i64 0) := (kc 0).trans (by simp [go_sem, *])
    have f2_2_0 : v2.frozen? ⟨w.heap.size + 1 + 1 + 1 + 1, 0, none⟩ = false := (kf 0).trans (by simp [go_sem, *])
    have c2_2_1 : v2.cell? ⟨w.heap.size + 1 + 1 + 1 + 1, 1, none⟩ = some (.int .i64 0) := (kc 1).trans (by simp [go_sem, *])
    have f2_2_1 : v2.frozen? ⟨w.heap.size + 1 + 1 + 1 + 1, 1, none⟩ = false := (kf 1).trans (by simp [go_sem, *])
    have c2_2_2 : v2.cell? ⟨w.heap.size + 1 + 1 + 1 + 1, 2, none⟩ = some (.string ⟨#[]⟩) := (kc 2).trans (by simp [go_sem, *])
    have f2_2_2 : v2.frozen? ⟨w.heap.size + 1 + 1 + 1 + 1, 2, none⟩ = false := (kf 2).trans (by simp [go_sem, *])
    have c2_2_3 : v2.cell? ⟨w.heap.size + 1 + 1 + 1 + 1, 3, none⟩ = some (.string ⟨#[]⟩) := (kc 3).trans (by simp [go_sem, *])
    have f2_2_3 : v2.frozen? ⟨w.heap.size + 1 + 1 + 1 + 1, 3, none⟩ = false := (kf 3).trans (by simp [go_sem, *])
    have c2_2_4 : v2.cell? ⟨w.heap.size + 1 + 1 + 1 + 1, 4, none⟩ = some (.string ⟨#[]⟩) := (kc 4).trans (by simp [go_sem, *])
    have f2_2_4 : v2.frozen? ⟨w.heap.size + 1 + 1 + 1 + 1, 4, none⟩ = false := (kf 4).trans (by simp [go_sem, *])
    have c2_2_5 : v2.cell? ⟨w.heap.size + 1 + 1 + 1 + 1, 5, none⟩ = some (.slice none 0 0) := (kc 5).trans (by simp [go_sem, *])
    have f2_2_5 : v2.frozen? ⟨w.heap.size + 1 + 1 + 1 + 1, 5, none⟩ = false := (kf 5).trans (by simp [go_sem, *])
    have c2_2_6 : v2.cell? ⟨w.heap.size + 1 + 1 + 1 + 1, 6, none⟩ = some (.int .i64 0) := (kc 6).trans (by simp [go_sem, *])
    have f2_2_6 : v2.frozen? ⟨w.heap.size + 1 + 1 + 1 + 1, 6, none⟩ = false := (kf 6).trans (by simp [go_sem, *])
    clear kc kf
    obtain ⟨k2_3, kc, kf⟩ := keepB h2 (v1.heap.size) (by first | omega | (simp; omega) | (simp; done))
    have c2_3_0 : v2.cell? ⟨v1.heap.size, 0, none⟩ = some (.int .i64 f.x) := (kc 0).trans (by simp [go_sem, *])
    have f2_3_0 : v2.frozen? ⟨v1.heap.size, 0, none⟩ = false := (kf 0).trans (by simp [go_sem, *])
    have c2_3_1 : v2.cell? ⟨v1.heap.size, 1, none⟩ = some (.int .i64 f.y) := (kc 1).trans (by simp [go_sem, *])
    have f2_3_1 : v2.frozen? ⟨v1.heap.size, 1, none⟩ = false := (kf 1).trans (by simp [go_sem, *])
    have c2_3_2 : v2.cell? ⟨v1.heap.size, 2, none⟩ = some (.string f.path) := (kc 2).trans (by simp [go_sem, *])
    have f2_3_2 : v2.frozen? ⟨v1.heap.size, 2, none⟩ = false := (kf 2).trans (by simp [go_sem, *])
    have c2_3_3 : v2.cell? ⟨v1.heap.size, 3, none⟩ = some (.string f.l.src) := (kc 3).trans (by simp [go_sem, *])
    have f2_3_3 : v2.frozen? ⟨v1.heap.size, 3, none⟩ = false := (kf 3).trans (by simp [go_sem, *])
    have c2_3_4 : v2.cell? ⟨v1.heap.size, 4, none⟩ = some (.string f.l.msg) := (kc 4).trans (by simp [go_sem, *])
    have f2_3_4 : v2.frozen? ⟨v1.heap.size, 4, none⟩ = false := (kf 4).trans (by simp [go_sem, *])
    have c2_3_5 : v2.cell? ⟨v1.heap.size, 5, none⟩ = some (.slice f.l.args.a f.l.args.n f.l.args.c) := (kc 5).trans (by simp [go_sem, *])
    have f2_3_5 : v2.frozen? ⟨v1.heap.size, 5, none⟩ = false := (kf 5).trans (by simp [go_sem, *])
    have c2_3_6 : v2.cell? ⟨v1.heap.size, 6, none⟩ = some (.int .i64 f.l.sent) := (kc 6).trans (by simp [go_sem, *])
    have f2_3_6 : v2.frozen? ⟨v1.heap.size, 6, none⟩ = false := (kf 6).trans (by simp [go_sem, *])
    clear kc kf
    clear c1_0_0 f1_0_0 c1_0_1 f1_0_1 c1_0_2 f1_0_2 c1_0_3 f1_0_3 c1_0_4 f1_0_4 c1_0_5 f1_0_5 c1_0_6 f1_0_6 c1_0_7 f1_0_7 c1_0_8 f1_0_8 c1_1_0 f1_1_0 c1_1_1 f1_1_1 c1_1_2 f1_1_2 c1_1_3 f1_1_3 c1_1_4 f1_1_4 c1_1_5 f1_1_5 c1_1_6 f1_1_6 c1_1_7 f1_1_7 c1_1_8 f1_1_8 c1_2_0 f1_2_0 c1_2_1 f1_2_1 c1_2_2 f1_2_2 c1_2_3 f1_2_3 c1_2_4 f1_2_4 c1_2_5 f1_2_5 c1_2_6 f1_2_6
    have HO := Lib.hid (show v2.ownsRow (v1.heap.size + 1 + 1) 66 7 (.slice u.a (i + (s.flights.n - (i + 1))) u.c) (i + (s.flights.n - (i + 1))) ((σ.fls.take i ++ σ.fls.drop (i + 1)).flatMap flyL) by simpa using ho)
    clear ho
    refine hK.out _ _ ?_ (fun hHeld => ?_)
    · trivial
    clear hK K
    try simp only [Act.put, List.getElem_toArray, List.getElem_cons_succ, List.getElem_cons_zero, List.setIfInBounds_toArray, List.set_cons_zero, List.set_cons_succ]
    refine wpAnyH_take (i := 11) (v := ?_) rfl (by kernel_rfl) (by kernel_rfl) (by kernel_rfl) (fun _ _ _ h => h) (Or.inl ⟨by rfl, ?_⟩) (by assumption) ?_
    rotate_left
    · intro w hSw; (try dsimp only at hSw); go_simp; (first | done | (with_reducible rfl))
    try simp only [Act.put, List.getElem_toArray, List.getElem_cons_succ, List.getElem_cons_zero, List.setIfInBounds_toArray, List.set_cons_zero, List.set_cons_succ]
    refine wpAnyH_ready (rs := [12]) (by kernel_rfl) (by simp) ?_
    refine AllReadyH.cons rfl (fun K hK => ?_) AllReadyH.nil
    go_simp
    refine hK.out _ _ ?_ (fun hHeld => ?_)
    · trivial
    clear hK K
    try simp only [Act.put, List.getElem_toArray, List.getElem_cons_succ, List.getElem_cons_zero, List.setIfInBounds_toArray, List.set_cons_zero, List.set_cons_succ]
    refine wpAnyH_done (by kernel_rfl) ?_ _
    go_wp2_with fail
    refine (post_any (P := fun b => (P b ∧ b < w.heap.size) ∨ v1.heap.size + 1 + 1 ≤ b) { s with flights := ⟨u.a, i + (s.flights.n - (i + 1)), u.c⟩ } { σ with fls := σ.fls.take i ++ σ.fls.drop (i + 1) } f.path f.l _ (sysR_refly (v3 := v2) (R := w.heap.size) H.out (by repeat (first | (with_reducible exact Below.refl _ _) | (with_reducible assumption) | ((with_reducible refine Below.setCell ?_ ?_ _); rotate_left; (focus (first | omega | (simp; omega) | (simp; done)))) | ((with_reducible refine Below.alloc ?_ ?_ _); rotate_left; (focus (first | omega | (simp; omega) | (simp; done)))) | (with_reducible refine Below.drew ?_))) HO.out (by omega) (by repeat (first | (with_reducible exact Off.refl _ _) | (with_reducible refine Off.set ?_ _ _) | (with_reducible refine Off.drew ?_)))) hna hnu).mono ?_
    rintro e v3 ⟨s3, rfl, hs3, h3⟩
    have z3 := h3.size
    try simp at z3
    have hB3 : Below w.heap.size w v3 := Below.call (w := w) (by repeat (first | (with_reducible exact Below.refl _ _) | (with_reducible assumption) | ((with_reducible refine Below.setCell ?_ ?_ _); rotate_left; (focus (first | omega | (simp; omega) | (simp; done)))) | ((with_reducible refine Below.alloc ?_ ?_ _); rotate_left; (focus (first | omega | (simp; omega) | (simp; done)))) | (with_reducible refine Below.drew ?_))) h3
    obtain ⟨k3_0, kc, kf⟩ := keepB h3 (w.heap.size) (by first | omega | (simp; omega) | (simp; done))
    have c3_0_0 : v3.cell? ⟨w.heap.size, 0, none⟩ = some (.slice s.up.a s.up.n s.up.c) := (kc 0).trans (by simp [go_sem, *])
    have f3_0_0 : v3.frozen? ⟨w.heap.size, 0, none⟩ = false := (kf 0).trans (by simp [go_sem, *])
    have c3_0_1 : v3.cell? ⟨w.heap.size, 1, none⟩ = some (.int .i64 s.moment) := (kc 1).trans (by simp [go_sem, *])
    have f3_0_1 : v3.frozen? ⟨w.heap.size, 1, none⟩ = false := (kf 1).trans (by simp [go_sem, *])
    have c3_0_2 : v3.cell? ⟨w.heap.size, 2, none⟩ = some (.int .i64 s.clock) := (kc 2).trans (by simp [go_sem, *])
    have f3_0_2 : v3.frozen? ⟨w.heap.size, 2, none⟩ = false := (kf 2).trans (by simp [go_sem, *])
    have c3_0_3 : v3.cell? ⟨w.heap.size, 3, none⟩ = some (.int .i64 s.seq) := (kc 3).trans (by simp [go_sem, *])
    have f3_0_3 : v3.frozen? ⟨w.heap.size, 3, none⟩ = false := (kf 3).trans (by simp [go_sem, *])
    have c3_0_4 : v3.cell? ⟨w.heap.size, 4, none⟩ = some (.slice s.actors.a s.actors.n s.actors.c) := (kc 4).trans (by simp [go_sem, *])
    have f3_0_4 : v3.frozen? ⟨w.heap.size, 4, none⟩ = false := (kf 4).trans (by simp [go_sem, *])
    have c3_0_5 : v3.cell? ⟨w.heap.size, 5, none⟩ = some (.slice u.a (i + (s.flights.n - (i + 1))) u.c) := (kc 5).trans (by simp [go_sem, *])
    have f3_0_5 : v3.frozen? ⟨w.heap.size, 5, none⟩ = false := (kf 5).trans (by simp [go_sem, *])
    have c3_0_6 : v3.cell? ⟨w.heap.size, 6, none⟩ = some (.slice s.alarms.a s.alarms.n s.alarms.c) := (kc 6).trans (by simp [go_sem, *])
    have f3_0_6 : v3.frozen? ⟨w.heap.size, 6, none⟩ = false := (kf 6).trans (by simp [go_sem, *])
    have c3_0_7 : v3.cell? ⟨w.heap.size, 7, none⟩ = some (.slice s.asked.a s.asked.n s.asked.c) := (kc 7).trans (by simp [go_sem, *])
    have f3_0_7 : v3.frozen? ⟨w.heap.size, 7, none⟩ = false := (kf 7).trans (by simp [go_sem, *])
    have c3_0_8 : v3.cell? ⟨w.heap.size, 8, none⟩ = some (.int .i64 s.dead) := (kc 8).trans (by simp [go_sem, *])
    have f3_0_8 : v3.frozen? ⟨w.heap.size, 8, none⟩ = false := (kf 8).trans (by simp [go_sem, *])
    clear kc kf
    obtain ⟨k3_1, kc, kf⟩ := keepB h3 (w.heap.size + 1 + 1 + 1) (by first | omega | (simp; omega) | (simp; done))
    have c3_1_0 : v3.cell? ⟨w.heap.size + 1 + 1 + 1, 0, none⟩ = some (.slice none 0 0) := (kc 0).trans (by simp [go_sem, *])
    have f3_1_0 : v3.frozen? ⟨w.heap.size + 1 + 1 + 1, 0, none⟩ = false := (kf 0).trans (by simp [go_sem, *])
    have c3_1_1 : v3.cell? ⟨w.heap.size + 1 + 1 + 1, 1, none⟩ = some (.int .i64 0) := (kc 1).trans (by simp [go_sem, *])
    have f3_1_1 : v3.frozen? ⟨w.heap.size + 1 + 1 + 1, 1, none⟩ = false := (kf 1).trans (by simp [go_sem, *])
    have c3_1_2 : v3.cell? ⟨w.heap.size + 1 + 1 + 1, 2, none⟩ = some (.int .i64 0) := (kc 2).trans (by simp [go_sem, *])
    have f3_1_2 : v3.frozen? ⟨w.heap.size + 1 + 1 + 1, 2, none⟩ = false := (kf 2).trans (by simp [go_sem, *])
    have c3_1_3 : v3.cell? ⟨w.heap.size + 1 + 1 + 1, 3, none⟩ = some (.int .i64 0) := (kc 3).trans (by simp [go_sem, *])
    have f3_1_3 : v3.frozen? ⟨w.heap.size + 1 + 1 + 1, 3, none⟩ = false := (kf 3).trans (by simp [go_sem, *])
    have c3_1_4 : v3.cell? ⟨w.heap.size + 1 + 1 + 1, 4, none⟩ = some (.slice none 0 0) := (kc 4).trans (by simp [go_sem, *])
    have f3_1_4 : v3.frozen? ⟨w.heap.size + 1 + 1 + 1, 4, none⟩ = false := (kf 4).trans (by simp [go_sem, *])
    have c3_1_5 : v3.cell? ⟨w.heap.size + 1 + 1 + 1, 5, none⟩ = some (.slice none 0 0) := (kc 5).trans (by simp [go_sem, *])
    have f3_1_5 : v3.frozen? ⟨w.heap.size + 1 + 1 + 1, 5, none⟩ = false := (kf 5).trans (by simp [go_sem, *])
    have c3_1_6 : v3.cell? ⟨w.heap.size + 1 + 1 + 1, 6, none⟩ = some (.slice none 0 0) := (kc 6).trans (by simp [go_sem, *])
    have f3_1_6 : v3.frozen? ⟨w.heap.size + 1 + 1 + 1, 6, none⟩ = false := (kf 6).trans (by simp [go_sem, *])
    have c3_1_7 : v3.cell? ⟨w.heap.size + 1 + 1 + 1, 7, none⟩ = some (.slice none 0 0) := (kc 7).trans (by simp [go_sem, *])
    have f3_1_7 : v3.frozen? ⟨w.heap.size + 1 + 1 + 1, 7, none⟩ = false := (kf 7).trans (by simp [go_sem, *])
    have c3_1_8 : v3.cell? ⟨w.heap.size + 1 + 1 + 1, 8, none⟩ = some (.int .i64 0) := (kc 8).trans (by simp [go_sem, *])
    have f3_1_8 : v3.frozen? ⟨w.heap.size + 1 + 1 + 1, 8, none⟩ = false := (kf 8).trans (by simp [go_sem, *])
    clear kc kf
    obtain ⟨k3_2, kc, kf⟩ := keepB h3 (w.heap.size + 1 + 1 + 1 + 1) (by first | omega | (simp; omega) | (simp; done))
    have c3_2_0 : v3.cell? ⟨w.heap.size + 1 + 1 + 1 + 1, 0, none⟩ = some (.int .i64 0) := (kc 0).trans (by simp [go_sem, *])
    have f3_2_0 : v3.frozen? ⟨w.heap.size + 1 + 1 + 1 + 1, 0, none⟩ = false := (kf 0).trans (by simp [go_sem, *])
    have c3_2_1 : v3.cell? ⟨w.heap.size + 1 + 1 + 1 + 1, 1, none⟩ = some (.int .i64 0) := (kc 1).trans (by simp [go_sem, *])
    have f3_2_1 : v3.frozen? ⟨w.heap.size + 1 + 1 + 1 + 1, 1, none⟩ = false := (kf 1).trans (by simp [go_sem, *])
    have c3_2_2 : v3.cell? ⟨w.heap.size + 1 + 1 + 1 + 1, 2, none⟩ = some (.string ⟨#[]⟩) := (kc 2).trans (by simp [go_sem, *])
    have f3_2_2 : v3.frozen? ⟨w.heap.size + 1 + 1 + 1 + 1, 2, none⟩ = false := (kf 2).trans (by simp [go_sem, *])
    have c3_2_3 : v3.cell? ⟨w.heap.size + 1 + 1 + 1 + 1, 3, none⟩ = some (.string ⟨#[]⟩) := (kc 3).trans (by simp [go_sem, *])
    have f3_2_3 : v3.frozen? ⟨w.heap.size + 1 + 1 + 1 + 1, 3, none⟩ = false := (kf 3).trans (by simp [go_sem, *])
    have c3_2_4 : v3.cell? ⟨w.heap.size + 1 + 1 + 1 + 1, 4, none⟩ = some (.string ⟨#[]⟩) := (kc 4).trans (by simp [go_sem, *])
    have f3_2_4 : v3.frozen? ⟨w.heap.size + 1 + 1 + 1 + 1, 4, none⟩ = false := (kf 4).trans (by simp [go_sem, *])
    have c3_2_5 : v3.cell? ⟨w.heap.size + 1 + 1 + 1 + 1, 5, none⟩ = some (.slice none 0 0) := (kc 5).trans (by simp [go_sem, *])
    have f3_2_5 : v3.frozen? ⟨w.heap.size + 1 + 1 + 1 + 1, 5, none⟩ = false := (kf 5).trans (by simp [go_sem, *])
    have c3_2_6 : v3.cell? ⟨w.heap.size + 1 + 1 + 1 + 1, 6, none⟩ = some (.int .i64 0) := (kc 6).trans (by simp [go_sem, *])
    have f3_2_6 : v3.frozen? ⟨w.heap.size + 1 + 1 + 1 + 1, 6, none⟩ = false := (kf 6).trans (by simp [go_sem, *])
    clear kc kf
    obtain ⟨k3_3, kc, kf⟩ := keepB h3 (v1.heap.size) (by first | omega | (simp; omega) | (simp; done))
    have c3_3_0 : v3.cell? ⟨v1.heap.size, 0, none⟩ = some (.int .i64 f.x) := (kc 0).trans (by simp [go_sem, *])
    have f3_3_0 : v3.frozen? ⟨v1.heap.size, 0, none⟩ = false := (kf 0).trans (by simp [go_sem, *])
    have c3_3_1 : v3.cell? ⟨v1.heap.size, 1, none⟩ = some (.int .i64 f.y) := (kc 1).trans (by simp [go_sem, *])
    have f3_3_1 : v3.frozen? ⟨v1.heap.size, 1, none⟩ = false := (kf 1).trans (by simp [go_sem, *])
    have c3_3_2 : v3.cell? ⟨v1.heap.size, 2, none⟩ = some (.string f.path) := (kc 2).trans (by simp [go_sem, *])
    have f3_3_2 : v3.frozen? ⟨v1.heap.size, 2, none⟩ = false := (kf 2).trans (by simp [go_sem, *])
    have c3_3_3 : v3.cell? ⟨v1.heap.size, 3, none⟩ = some (.string f.l.src) := (kc 3).trans (by simp [go_sem, *])
    have f3_3_3 : v3.frozen? ⟨v1.heap.size, 3, none⟩ = false := (kf 3).trans (by simp [go_sem, *])
    have c3_3_4 : v3.cell? ⟨v1.heap.size, 4, none⟩ = some (.string f.l.msg) := (kc 4).trans (by simp [go_sem, *])
    have f3_3_4 : v3.frozen? ⟨v1.heap.size, 4, none⟩ = false := (kf 4).trans (by simp [go_sem, *])
    have c3_3_5 : v3.cell? ⟨v1.heap.size, 5, none⟩ = some (.slice f.l.args.a f.l.args.n f.l.args.c) := (kc 5).trans (by simp [go_sem, *])
    have f3_3_5 : v3.frozen? ⟨v1.heap.size, 5, none⟩ = false := (kf 5).trans (by simp [go_sem, *])
    have c3_3_6 : v3.cell? ⟨v1.heap.size, 6, none⟩ = some (.int .i64 f.l.sent) := (kc 6).trans (by simp [go_sem, *])
    have f3_3_6 : v3.frozen? ⟨v1.heap.size, 6, none⟩ = false := (kf 6).trans (by simp [go_sem, *])
    clear kc kf
    clear c2_0_0 f2_0_0 c2_0_1 f2_0_1 c2_0_2 f2_0_2 c2_0_3 f2_0_3 c2_0_4 f2_0_4 c2_0_5 f2_0_5 c2_0_6 f2_0_6 c2_0_7 f2_0_7 c2_0_8 f2_0_8 c2_1_0 f2_1_0 c2_1_1 f2_1_1 c2_1_2 f2_1_2 c2_1_3 f2_1_3 c2_1_4 f2_1_4 c2_1_5 f2_1_5 c2_1_6 f2_1_6 c2_1_7 f2_1_7 c2_1_8 f2_1_8 c2_2_0 f2_2_0 c2_2_1 f2_2_1 c2_2_2 f2_2_2 c2_2_3 f2_2_3 c2_2_4 f2_2_4 c2_2_5 f2_2_5 c2_2_6 f2_2_6 c2_3_0 f2_3_0 c2_3_1 f2_3_1 c2_3_2 f2_3_2 c2_3_3 f2_3_3 c2_3_4 f2_3_4 c2_3_5 f2_3_5 c2_3_6 f2_3_6
    have HS3 := Lib.hid hs3; clear hs3
    have z3v : v2.heap.size ≤ v3.heap.size := by have := h3.size; simpa using this
    have H3S := Lib.hid h3; clear h3
    generalize (Ml.post { σ with fls := σ.fls.take i ++ σ.fls.drop (i + 1) } f.path f.l).2 = okp at *
    go_wp2_with fail
    have HBX := Lib.hid (show Below w.heap.size w (((((((((v3.setCell ⟨w.heap.size, 0, none⟩ (.slice s3.up.a s3.up.n s3.up.c)).setCell ⟨w.heap.size, 1, none⟩ (.int .i64 s3.moment)).setCell ⟨w.heap.size, 2, none⟩ (.int .i64 s3.clock)).setCell ⟨w.heap.size, 3, none⟩ (.int .i64 s3.seq)).setCell ⟨w.heap.size, 4, none⟩ (.slice s3.actors.a s3.actors.n s3.actors.c)).setCell ⟨w.heap.size, 5, none⟩ (.slice s3.flights.a s3.flights.n s3.flights.c)).setCell ⟨w.heap.size, 6, none⟩ (.slice s3.alarms.a s3.alarms.n s3.alarms.c)).setCell ⟨w.heap.size, 7, none⟩ (.slice s3.asked.a s3.asked.n s3.asked.c)).setCell ⟨w.heap.size, 8, none⟩ (.int .i64 s3.dead)) from (by repeat (first | (with_reducible exact Below.refl _ _) | (with_reducible assumption) | ((with_reducible refine Below.setCell ?_ ?_ _); rotate_left; (focus (first | omega | (simp; omega) | (simp; done)))) | ((with_reducible refine Below.alloc ?_ ?_ _); rotate_left; (focus (first | omega | (simp; omega) | (simp; done)))) | (with_reducible refine Below.drew ?_))))
    have HOF1 := Lib.hid (show Off w.heap.size v3 (((((((((v3.setCell ⟨w.heap.size, 0, none⟩ (.slice s3.up.a s3.up.n s3.up.c)).setCell ⟨w.heap.size, 1, none⟩ (.int .i64 s3.moment)).setCell ⟨w.heap.size, 2, none⟩ (.int .i64 s3.clock)).setCell ⟨w.heap.size, 3, none⟩ (.int .i64 s3.seq)).setCell ⟨w.heap.size, 4, none⟩ (.slice s3.actors.a s3.actors.n s3.actors.c)).setCell ⟨w.heap.size, 5, none⟩ (.slice s3.flights.a s3.flights.n s3.flights.c)).setCell ⟨w.heap.size, 6, none⟩ (.slice s3.alarms.a s3.alarms.n s3.alarms.c)).setCell ⟨w.heap.size, 7, none⟩ (.slice s3.asked.a s3.asked.n s3.asked.c)).setCell ⟨w.heap.size, 8, none⟩ (.int .i64 s3.dead)) from (by repeat (first | (with_reducible exact Off.refl _ _) | (with_reducible refine Off.set ?_ _ _) | (with_reducible refine Off.drew ?_))))
    have hz4 : (((((((((v3.setCell ⟨w.heap.size, 0, none⟩ (.slice s3.up.a s3.up.n s3.up.c)).setCell ⟨w.heap.size, 1, none⟩ (.int .i64 s3.moment)).setCell ⟨w.heap.size, 2, none⟩ (.int .i64 s3.clock)).setCell ⟨w.heap.size, 3, none⟩ (.int .i64 s3.seq)).setCell ⟨w.heap.size, 4, none⟩ (.slice s3.actors.a s3.actors.n s3.actors.c)).setCell ⟨w.heap.size, 5, none⟩ (.slice s3.flights.a s3.flights.n s3.flights.c)).setCell ⟨w.heap.size, 6, none⟩ (.slice s3.alarms.a s3.alarms.n s3.alarms.c)).setCell ⟨w.heap.size, 7, none⟩ (.slice s3.asked.a s3.asked.n s3.asked.c)).setCell ⟨w.heap.size, 8, none⟩ (.int .i64 s3.dead)).heap.size = v3.heap.size := by simp
    have g0_0 : (((((((((v3.setCell ⟨w.heap.size, 0, none⟩ (.slice s3.up.a s3.up.n s3.up.c)).setCell ⟨w.heap.size, 1, none⟩ (.int .i64 s3.moment)).setCell ⟨w.heap.size, 2, none⟩ (.int .i64 s3.clock)).setCell ⟨w.heap.size, 3, none⟩ (.int .i64 s3.seq)).setCell ⟨w.heap.size, 4, none⟩ (.slice s3.actors.a s3.actors.n s3.actors.c)).setCell ⟨w.heap.size, 5, none⟩ (.slice s3.flights.a s3.flights.n s3.flights.c)).setCell ⟨w.heap.size, 6, none⟩ (.slice s3.alarms.a s3.alarms.n s3.alarms.c)).setCell ⟨w.heap.size, 7, none⟩ (.slice s3.asked.a s3.asked.n s3.asked.c)).setCell ⟨w.heap.size, 8, none⟩ (.int .i64 s3.dead)).cell? ⟨w.heap.size, 0, none⟩ = some (.slice s3.up.a s3.up.n s3.up.c) := by simp [go_sem, *]
    have g0_1 : (((((((((v3.setCell ⟨w.heap.size, 0, none⟩ (.slice s3.up.a s3.up.n s3.up.c)).setCell ⟨w.heap.size, 1, none⟩ (.int .i64 s3.moment)).setCell ⟨w.heap.size, 2, none⟩ (.int .i64 s3.clock)).setCell ⟨w.heap.size, 3, none⟩ (.int .i64 s3.seq)).setCell ⟨w.heap.size, 4, none⟩ (.slice s3.actors.a s3.actors.n s3.actors.c)).setCell ⟨w.heap.size, 5, none⟩ (.slice s3.flights.a s3.flights.n s3.flights.c)).setCell ⟨w.heap.size, 6, none⟩ (.slice s3.alarms.a s3.alarms.n s3.alarms.c)).setCell ⟨w.heap.size, 7, none⟩ (.slice s3.asked.a s3.asked.n s3.asked.c)).setCell ⟨w.heap.size, 8, none⟩ (.int .i64 s3.dead)).cell? ⟨w.heap.size, 1, none⟩ = some (.int .i64 s3.moment) := by simp [go_sem, *]
    have g0_2 : (((((((((v3.setCell ⟨w.heap.size, 0, none⟩ (.slice s3.up.a s3.up.n s3.up.c)).setCell ⟨w.heap.size, 1, none⟩ (.int .i64 s3.moment)).setCell ⟨w.heap.size, 2, none⟩ (.int .i64 s3.clock)).setCell ⟨w.heap.size, 3, none⟩ (.int .i64 s3.seq)).setCell ⟨w.heap.size, 4, none⟩ (.slice s3.actors.a s3.actors.n s3.actors.c)).setCell ⟨w.heap.size, 5, none⟩ (.slice s3.flights.a s3.flights.n s3.flights.c)).setCell ⟨w.heap.size, 6, none⟩ (.slice s3.alarms.a s3.alarms.n s3.alarms.c)).setCell ⟨w.heap.size, 7, none⟩ (.slice s3.asked.a s3.asked.n s3.asked.c)).setCell ⟨w.heap.size, 8, none⟩ (.int .i64 s3.dead)).cell? ⟨w.heap.size, 2, none⟩ = some (.int .i64 s3.clock) := by simp [go_sem, *]
    have g0_3 : (((((((((v3.setCell ⟨w.heap.size, 0, none⟩ (.slice s3.up.a s3.up.n s3.up.c)).setCell ⟨w.heap.size, 1, none⟩ (.int .i64 s3.moment)).setCell ⟨w.heap.size, 2, none⟩ (.int .i64 s3.clock)).setCell ⟨w.heap.size, 3, none⟩ (.int .i64 s3.seq)).setCell ⟨w.heap.size, 4, none⟩ (.slice s3.actors.a s3.actors.n s3.actors.c)).setCell ⟨w.heap.size, 5, none⟩ (.slice s3.flights.a s3.flights.n s3.flights.c)).setCell ⟨w.heap.size, 6, none⟩ (.slice s3.alarms.a s3.alarms.n s3.alarms.c)).setCell ⟨w.heap.size, 7, none⟩ (.slice s3.asked.a s3.asked.n s3.asked.c)).setCell ⟨w.heap.size, 8, none⟩ (.int .i64 s3.dead)).cell? ⟨w.heap.size, 3, none⟩ = some (.int .i64 s3.seq) := by simp [go_sem, *]
    have g0_4 : (((((((((v3.setCell ⟨w.heap.size, 0, none⟩ (.slice s3.up.a s3.up.n s3.up.c)).setCell ⟨w.heap.size, 1, none⟩ (.int .i64 s3.moment)).setCell ⟨w.heap.size, 2, none⟩ (.int .i64 s3.clock)).setCell ⟨w.heap.size, 3, none⟩ (.int .i64 s3.seq)).setCell ⟨w.heap.size, 4, none⟩ (.slice s3.actors.a s3.actors.n s3.actors.c)).setCell ⟨w.heap.size, 5, none⟩ (.slice s3.flights.a s3.flights.n s3.flights.c)).setCell ⟨w.heap.size, 6, none⟩ (.slice s3.alarms.a s3.alarms.n s3.alarms.c)).setCell ⟨w.heap.size, 7, none⟩ (.slice s3.asked.a s3.asked.n s3.asked.c)).setCell ⟨w.heap.size, 8, none⟩ (.int .i64 s3.dead)).cell? ⟨w.heap.size, 4, none⟩ = some (.slice s3.actors.a s3.actors.n s3.actors.c) := by simp [go_sem, *]
    have g0_5 : (((((((((v3.setCell ⟨w.heap.size, 0, none⟩ (.slice s3.up.a s3.up.n s3.up.c)).setCell ⟨w.heap.size, 1, none⟩ (.int .i64 s3.moment)).setCell ⟨w.heap.size, 2, none⟩ (.int .i64 s3.clock)).setCell ⟨w.heap.size, 3, none⟩ (.int .i64 s3.seq)).setCell ⟨w.heap.size, 4, none⟩ (.slice s3.actors.a s3.actors.n s3.actors.c)).setCell ⟨w.heap.size, 5, none⟩ (.slice s3.flights.a s3.flights.n s3.flights.c)).setCell ⟨w.heap.size, 6, none⟩ (.slice s3.alarms.a s3.alarms.n s3.alarms.c)).setCell ⟨w.heap.size, 7, none⟩ (.slice s3.asked.a s3.asked.n s3.asked.c)).setCell ⟨w.heap.size, 8, none⟩ (.int .i64 s3.dead)).cell? ⟨w.heap.size, 5, none⟩ = some (.slice s3.flights.a s3.flights.n s3.flights.c) := by simp [go_sem, *]
    have g0_6 : (((((((((v3.setCell ⟨w.heap.size, 0, none⟩ (.slice s3.up.a s3.up.n s3.up.c)).setCell ⟨w.heap.size, 1, none⟩ (.int .i64 s3.moment)).setCell ⟨w.heap.size, 2, none⟩ (.int .i64 s3.clock)).setCell ⟨w.heap.size, 3, none⟩ (.int .i64 s3.seq)).setCell ⟨w.heap.size, 4, none⟩ (.slice s3.actors.a s3.actors.n s3.actors.c)).setCell ⟨w.heap.size, 5, none⟩ (.slice s3.flights.a s3.flights.n s3.flights.c)).setCell ⟨w.heap.size, 6, none⟩ (.slice s3.alarms.a s3.alarms.n s3.alarms.c)).setCell ⟨w.heap.size, 7, none⟩ (.slice s3.asked.a s3.asked.n s3.asked.c)).setCell ⟨w.heap.size, 8, none⟩ (.int .i64 s3.dead)).cell? ⟨w.heap.size, 6, none⟩ = some (.slice s3.alarms.a s3.alarms.n s3.alarms.c) := by simp [go_sem, *]
    have g0_7 : (((((((((v3.setCell ⟨w.heap.size, 0, none⟩ (.slice s3.up.a s3.up.n s3.up.c)).setCell ⟨w.heap.size, 1, none⟩ (.int .i64 s3.moment)).setCell ⟨w.heap.size, 2, none⟩ (.int .i64 s3.clock)).setCell ⟨w.heap.size, 3, none⟩ (.int .i64 s3.seq)).setCell ⟨w.heap.size, 4, none⟩ (.slice s3.actors.a s3.actors.n s3.actors.c)).setCell ⟨w.heap.size, 5, none⟩ (.slice s3.flights.a s3.flights.n s3.flights.c)).setCell ⟨w.heap.size, 6, none⟩ (.slice s3.alarms.a s3.alarms.n s3.alarms.c)).setCell ⟨w.heap.size, 7, none⟩ (.slice s3.asked.a s3.asked.n s3.asked.c)).setCell ⟨w.heap.size, 8, none⟩ (.int .i64 s3.dead)).cell? ⟨w.heap.size, 7, none⟩ = some (.slice s3.asked.a s3.asked.n s3.asked.c) := by simp [go_sem, *]
    have g0_8 : (((((((((v3.setCell ⟨w.heap.size, 0, none⟩ (.slice s3.up.a s3.up.n s3.up.c)).setCell ⟨w.heap.size, 1, none⟩ (.int .i64 s3.moment)).setCell ⟨w.heap.size, 2, none⟩ (.int .i64 s3.clock)).setCell ⟨w.heap.size, 3, none⟩ (.int .i64 s3.seq)).setCell ⟨w.heap.size, 4, none⟩ (.slice s3.actors.a s3.actors.n s3.actors.c)).setCell ⟨w.heap.size, 5, none⟩ (.slice s3.flights.a s3.flights.n s3.flights.c)).setCell ⟨w.heap.size, 6, none⟩ (.slice s3.alarms.a s3.alarms.n s3.alarms.c)).setCell ⟨w.heap.size, 7, none⟩ (.slice s3.asked.a s3.asked.n s3.asked.c)).setCell ⟨w.heap.size, 8, none⟩ (.int .i64 s3.dead)).cell? ⟨w.heap.size, 8, none⟩ = some (.int .i64 s3.dead) := by simp [go_sem, *]
    have g1_0 : (((((((((v3.setCell ⟨w.heap.size, 0, none⟩ (.slice s3.up.a s3.up.n s3.up.c)).setCell ⟨w.heap.size, 1, none⟩ (.int .i64 s3.moment)).setCell ⟨w.heap.size, 2, none⟩ (.int .i64 s3.clock)).setCell ⟨w.heap.size, 3, none⟩ (.int .i64 s3.seq)).setCell ⟨w.heap.size, 4, none⟩ (.slice s3.actors.a s3.actors.n s3.actors.c)).setCell ⟨w.heap.size, 5, none⟩ (.slice s3.flights.a s3.flights.n s3.flights.c)).setCell ⟨w.heap.size, 6, none⟩ (.slice s3.alarms.a s3.alarms.n s3.alarms.c)).setCell ⟨w.heap.size, 7, none⟩ (.slice s3.asked.a s3.asked.n s3.asked.c)).setCell ⟨w.heap.size, 8, none⟩ (.int .i64 s3.dead)).cell? ⟨w.heap.size + 1 + 1 + 1, 0, none⟩ = some (.slice none 0 0) := by simp [go_sem, *]
    have e1_0 : (((((((((v3.setCell ⟨w.heap.size, 0, none⟩ (.slice s3.up.a s3.up.n s3.up.c)).setCell ⟨w.heap.size, 1, none⟩ (.int .i64 s3.moment)).setCell ⟨w.heap.size, 2, none⟩ (.int .i64 s3.clock)).setCell ⟨w.heap.size, 3, none⟩ (.int .i64 s3.seq)).setCell ⟨w.heap.size, 4, none⟩ (.slice s3.actors.a s3.actors.n s3.actors.c)).setCell ⟨w.heap.size, 5, none⟩ (.slice s3.flights.a s3.flights.n s3.flights.c)).setCell ⟨w.heap.size, 6, none⟩ (.slice s3.alarms.a s3.alarms.n s3.alarms.c)).setCell ⟨w.heap.size, 7, none⟩ (.slice s3.asked.a s3.asked.n s3.asked.c)).setCell ⟨w.heap.size, 8, none⟩ (.int .i64 s3.dead)).frozen? ⟨w.heap.size + 1 + 1 + 1, 0, none⟩ = false := by simp [go_sem, *]
    have g1_1 : (((((((((v3.setCell ⟨w.heap.size, 0, none⟩ (.slice s3.up.a s3.up.n s3.up.c)).setCell ⟨w.heap.size, 1, none⟩ (.int .i64 s3.moment)).setCell ⟨w.heap.size, 2, none⟩ (.int .i64 s3.clock)).setCell ⟨w.heap.size, 3, none⟩ (.int .i64 s3.seq)).setCell ⟨w.heap.size, 4, none⟩ (.slice s3.actors.a s3.actors.n s3.actors.c)).setCell ⟨w.heap.size, 5, none⟩ (.slice s3.flights.a s3.flights.n s3.flights.c)).setCell ⟨w.heap.size, 6, none⟩ (.slice s3.alarms.a s3.alarms.n s3.alarms.c)).setCell ⟨w.heap.size, 7, none⟩ (.slice s3.asked.a s3.asked.n s3.asked.c)).setCell ⟨w.heap.size, 8, none⟩ (.int .i64 s3.dead)).cell? ⟨w.heap.size + 1 + 1 + 1, 1, none⟩ = some (.int .i64 0) := by simp [go_sem, *]
    have e1_1 : (((((((((v3.setCell ⟨w.heap.size, 0, none⟩ (.slice s3.up.a s3.up.n s3.up.c)).setCell ⟨w.heap.size, 1, none⟩ (.int .i64 s3.moment)).setCell ⟨w.heap.size, 2, none⟩ (.int .i64 s3.clock)).setCell ⟨w.heap.size, 3, none⟩ (.int .i64 s3.seq)).setCell ⟨w.heap.size, 4, none⟩ (.slice s3.actors.a s3.actors.n s3.actors.c)).setCell ⟨w.heap.size, 5, none⟩ (.slice s3.flights.a s3.flights.n s3.flights.c)).setCell ⟨w.heap.size, 6, none⟩ (.slice s3.alarms.a s3.alarms.n s3.alarms.c)).setCell ⟨w.heap.size, 7, none⟩ (.slice s3.asked.a s3.asked.n s3.asked.c)).setCell ⟨w.heap.size, 8, none⟩ (.int .i64 s3.dead)).frozen? ⟨w.heap.size + 1 + 1 + 1, 1, none⟩ = false := by simp [go_sem, *]
    have g1_2 : (((((((((v3.setCell ⟨w.heap.size, 0, none⟩ (.slice s3.up.a s3.up.n s3.up.c)).setCell ⟨w.heap.size, 1, none⟩ (.int .i64 s3.moment)).setCell ⟨w.heap.size, 2, none⟩ (.int .i64 s3.clock)).setCell ⟨w.heap.size, 3, none⟩ (.int .i64 s3.seq)).setCell ⟨w.heap.size, 4, none⟩ (.slice s3.actors.a s3.actors.n s3.actors.c)).setCell ⟨w.heap.size, 5, none⟩ (.slice s3.flights.a s3.flights.n s3.flights.c)).setCell ⟨w.heap.size, 6, none⟩ (.slice s3.alarms.a s3.alarms.n s3.alarms.c)).setCell ⟨w.heap.size, 7, none⟩ (.slice s3.asked.a s3.asked.n s3.asked.c)).setCell ⟨w.heap.size, 8, none⟩ (.int .i64 s3.dead)).cell? ⟨w.heap.size + 1 + 1 + 1, 2, none⟩ = some (.int .i64 0) := by simp [go_sem, *]
    have e1_2 : (((((((((v3.setCell ⟨w.heap.size, 0, none⟩ (.slice s3.up.a s3.up.n s3.up.c)).setCell ⟨w.heap.size, 1, none⟩ (.int .i64 s3.moment)).setCell ⟨w.heap.size, 2, none⟩ (.int .i64 s3.clock)).setCell ⟨w.heap.size, 3, none⟩ (.int .i64 s3.seq)).setCell ⟨w.heap.size, 4, none⟩ (.slice s3.actors.a s3.actors.n s3.actors.c)).setCell ⟨w.heap.size, 5, none⟩ (.slice s3.flights.a s3.flights.n s3.flights.c)).setCell ⟨w.heap.size, 6, none⟩ (.slice s3.alarms.a s3.alarms.n s3.alarms.c)).setCell ⟨w.heap.size, 7, none⟩ (.slice s3.asked.a s3.asked.n s3.asked.c)).setCell ⟨w.heap.size, 8, none⟩ (.int .i64 s3.dead)).frozen? ⟨w.heap.size + 1 + 1 + 1, 2, none⟩ = false := by simp [go_sem, *]
    have g1_3 : (((((((((v3.setCell ⟨w.heap.size, 0, none⟩ (.slice s3.up.a s3.up.n s3.up.c)).setCell ⟨w.heap.size, 1, none⟩ (.int .i64 s3.moment)).setCell ⟨w.heap.size, 2, none⟩ (.int .i64 s3.clock)).setCell ⟨w.heap.size, 3, none⟩ (.int .i64 s3.seq)).setCell ⟨w.heap.size, 4, none⟩ (.slice s3.actors.a s3.actors.n s3.actors.c)).setCell ⟨w.heap.size, 5, none⟩ (.slice s3.flights.a s3.flights.n s3.flights.c)).setCell ⟨w.heap.size, 6, none⟩ (.slice s3.alarms.a s3.alarms.n s3.alarms.c)).setCell ⟨w.heap.size, 7, none⟩ (.slice s3.asked.a s3.asked.n s3.asked.c)).setCell ⟨w.heap.size, 8, none⟩ (.int .i64 s3.dead)).cell? ⟨w.heap.size + 1 + 1 + 1, 3, none⟩ = some (.int .i64 0) := by simp [go_sem, *]
    have e1_3 : (((((((((v3.setCell ⟨w.heap.size, 0, none⟩ (.slice s3.up.a s3.up.n s3.up.c)).setCell ⟨w.heap.size, 1, none⟩ (.int .i64 s3.moment)).setCell ⟨w.heap.size, 2, none⟩ (.int .i64 s3.clock)).setCell ⟨w.heap.size, 3, none⟩ (.int .i64 s3.seq)).setCell ⟨w.heap.size, 4, none⟩ (.slice s3.actors.a s3.actors.n s3.actors.c)).setCell ⟨w.heap.size, 5, none⟩ (.slice s3.flights.a s3.flights.n s3.flights.c)).setCell ⟨w.heap.size, 6, none⟩ (.slice s3.alarms.a s3.alarms.n s3.alarms.c)).setCell ⟨w.heap.size, 7, none⟩ (.slice s3.asked.a s3.asked.n s3.asked.c)).setCell ⟨w.heap.size, 8, none⟩ (.int .i64 s3.dead)).frozen? ⟨w.heap.size + 1 + 1 + 1, 3, none⟩ = false := by simp [go_sem, *]
    have g1_4 : (((((((((v3.setCell ⟨w.heap.size, 0, none⟩ (.slice s3.up.a s3.up.n s3.up.c)).setCell ⟨w.heap.size, 1, none⟩ (.int .i64 s3.moment)).setCell ⟨w.heap.size, 2, none⟩ (.int .i64 s3.clock)).setCell ⟨w.heap.size, 3, none⟩ (.int .i64 s3.seq)).setCell ⟨w.heap.size, 4, none⟩ (.slice s3.actors.a s3.actors.n s3.actors.c)).setCell ⟨w.heap.size, 5, none⟩ (.slice s3.flights.a s3.flights.n s3.flights.c)).setCell ⟨w.heap.size, 6, none⟩ (.slice s3.alarms.a s3.alarms.n s3.alarms.c)).setCell ⟨w.heap.size, 7, none⟩ (.slice s3.asked.a s3.asked.n s3.asked.c)).setCell ⟨w.heap.size, 8, none⟩ (.int .i64 s3.dead)).cell? ⟨w.heap.size + 1 + 1 + 1, 4, none⟩ = some (.slice none 0 0) := by simp [go_sem, *]
    have e1_4 : (((((((((v3.setCell ⟨w.heap.size, 0, none⟩ (.slice s3.up.a s3.up.n s3.up.c)).setCell ⟨w.heap.size, 1, none⟩ (.int .i64 s3.moment)).setCell ⟨w.heap.size, 2, none⟩ (.int .i64 s3.clock)).setCell ⟨w.heap.size, 3, none⟩ (.int .i64 s3.seq)).setCell ⟨w.heap.size, 4, none⟩ (.slice s3.actors.a s3.actors.n s3.actors.c)).setCell ⟨w.heap.size, 5, none⟩ (.slice s3.flights.a s3.flights.n s3.flights.c)).setCell ⟨w.heap.size, 6, none⟩ (.slice s3.alarms.a s3.alarms.n s3.alarms.c)).setCell ⟨w.heap.size, 7, none⟩ (.slice s3.asked.a s3.asked.n s3.asked.c)).setCell ⟨w.heap.size, 8, none⟩ (.int .i64 s3.dead)).frozen? ⟨w.heap.size + 1 + 1 + 1, 4, none⟩ = false := by simp [go_sem, *]
    have g1_5 : (((((((((v3.setCell ⟨w.heap.size, 0, none⟩ (.slice s3.up.a s3.up.n s3.up.c)).setCell ⟨w.heap.size, 1, none⟩ (.int .i64 s3.moment)).setCell ⟨w.heap.size, 2, none⟩ (.int .i64 s3.clock)).setCell ⟨w.heap.size, 3, none⟩ (.int .i64 s3.seq)).setCell ⟨w.heap.size, 4, none⟩ (.slice s3.actors.a s3.actors.n s3.actors.c)).setCell ⟨w.heap.size, 5, none⟩ (.slice s3.flights.a s3.flights.n s3.flights.c)).setCell ⟨w.heap.size, 6, none⟩ (.slice s3.alarms.a s3.alarms.n s3.alarms.c)).setCell ⟨w.heap.size, 7, none⟩ (.slice s3.asked.a s3.asked.n s3.asked.c)).setCell ⟨w.heap.size, 8, none⟩ (.int .i64 s3.dead)).cell? ⟨w.heap.size + 1 + 1 + 1, 5, none⟩ = some (.slice none 0 0) := by simp [go_sem, *]
    have e1_5 : (((((((((v3.setCell ⟨w.heap.size, 0, none⟩ (.slice s3.up.a s3.up.n s3.up.c)).setCell ⟨w.heap.size, 1, none⟩ (.int .i64 s3.moment)).setCell ⟨w.heap.size, 2, none⟩ (.int .i64 s3.clock)).setCell ⟨w.heap.size, 3, none⟩ (.int .i64 s3.seq)).setCell ⟨w.heap.size, 4, none⟩ (.slice s3.actors.a s3.actors.n s3.actors.c)).setCell ⟨w.heap.size, 5, none⟩ (.slice s3.flights.a s3.flights.n s3.flights.c)).setCell ⟨w.heap.size, 6, none⟩ (.slice s3.alarms.a s3.alarms.n s3.alarms.c)).setCell ⟨w.heap.size, 7, none⟩ (.slice s3.asked.a s3.asked.n s3.asked.c)).setCell ⟨w.heap.size, 8, none⟩ (.int .i64 s3.dead)).frozen? ⟨w.heap.size + 1 + 1 + 1, 5, none⟩ = false := by simp [go_sem, *]
    have g1_6 : (((((((((v3.setCell ⟨w.heap.size, 0, none⟩ (.slice s3.up.a s3.up.n s3.up.c)).setCell ⟨w.heap.size, 1, none⟩ (.int .i64 s3.moment)).setCell ⟨w.heap.size, 2, none⟩ (.int .i64 s3.clock)).setCell ⟨w.heap.size, 3, none⟩ (.int .i64 s3.seq)).setCell ⟨w.heap.size, 4, none⟩ (.slice s3.actors.a s3.actors.n s3.actors.c)).setCell ⟨w.heap.size, 5, none⟩ (.slice s3.flights.a s3.flights.n s3.flights.c)).setCell ⟨w.heap.size, 6, none⟩ (.slice s3.alarms.a s3.alarms.n s3.alarms.c)).setCell ⟨w.heap.size, 7, none⟩ (.slice s3.asked.a s3.asked.n s3.asked.c)).setCell ⟨w.heap.size, 8, none⟩ (.int .i64 s3.dead)).cell? ⟨w.heap.size + 1 + 1 + 1, 6, none⟩ = some (.slice none 0 0) := by simp [go_sem, *]
    have e1_6 : (((((((((v3.setCell ⟨w.heap.size, 0, none⟩ (.slice s3.up.a s3.up.n s3.up.c)).setCell ⟨w.heap.size, 1, none⟩ (.int .i64 s3.moment)).setCell ⟨w.heap.size, 2, none⟩ (.int .i64 s3.clock)).setCell ⟨w.heap.size, 3, none⟩ (.int .i64 s3.seq)).setCell ⟨w.heap.size, 4, none⟩ (.slice s3.actors.a s3.actors.n s3.actors.c)).setCell ⟨w.heap.size, 5, none⟩ (.slice s3.flights.a s3.flights.n s3.flights.c)).setCell ⟨w.heap.size, 6, none⟩ (.slice s3.alarms.a s3.alarms.n s3.alarms.c)).setCell ⟨w.heap.size, 7, none⟩ (.slice s3.asked.a s3.asked.n s3.asked.c)).setCell ⟨w.heap.size, 8, none⟩ (.int .i64 s3.dead)).frozen? ⟨w.heap.size + 1 + 1 + 1, 6, none⟩ = false := by simp [go_sem, *]
    have g1_7 : (((((((((v3.setCell ⟨w.heap.size, 0, none⟩ (.slice s3.up.a s3.up.n s3.up.c)).setCell ⟨w.heap.size, 1, none⟩ (.int .i64 s3.moment)).setCell ⟨w.heap.size, 2, none⟩ (.int .i64 s3.clock)).setCell ⟨w.heap.size, 3, none⟩ (.int .i64 s3.seq)).setCell ⟨w.heap.size, 4, none⟩ (.slice s3.actors.a s3.actors.n s3.actors.c)).setCell ⟨w.heap.size, 5, none⟩ (.slice s3.flights.a s3.flights.n s3.flights.c)).setCell ⟨w.heap.size, 6, none⟩ (.slice s3.alarms.a s3.alarms.n s3.alarms.c)).setCell ⟨w.heap.size, 7, none⟩ (.slice s3.asked.a s3.asked.n s3.asked.c)).setCell ⟨w.heap.size, 8, none⟩ (.int .i64 s3.dead)).cell? ⟨w.heap.size + 1 + 1 + 1, 7, none⟩ = some (.slice none 0 0) := by simp [go_sem, *]
    have e1_7 : (((((((((v3.setCell ⟨w.heap.size, 0, none⟩ (.slice s3.up.a s3.up.n s3.up.c)).setCell ⟨w.heap.size, 1, none⟩ (.int .i64 s3.moment)).setCell ⟨w.heap.size, 2, none⟩ (.int .i64 s3.clock)).setCell ⟨w.heap.size, 3, none⟩ (.int .i64 s3.seq)).setCell ⟨w.heap.size, 4, none⟩ (.slice s3.actors.a s3.actors.n s3.actors.c)).setCell ⟨w.heap.size, 5, none⟩ (.slice s3.flights.a s3.flights.n s3.flights.c)).setCell ⟨w.heap.size, 6, none⟩ (.slice s3.alarms.a s3.alarms.n s3.alarms.c)).setCell ⟨w.heap.size, 7, none⟩ (.slice s3.asked.a s3.asked.n s3.asked.c)).setCell ⟨w.heap.size, 8, none⟩ (.int .i64 s3.dead)).frozen? ⟨w.heap.size + 1 + 1 + 1, 7, none⟩ = false := by simp [go_sem, *]
    have g1_8 : (((((((((v3.setCell ⟨w.heap.size, 0, none⟩ (.slice s3.up.a s3.up.n s3.up.c)).setCell ⟨w.heap.size, 1, none⟩ (.int .i64 s3.moment)).setCell ⟨w.heap.size, 2, none⟩ (.int .i64 s3.clock)).setCell ⟨w.heap.size, 3, none⟩ (.int .i64 s3.seq)).setCell ⟨w.heap.size, 4, none⟩ (.slice s3.actors.a s3.actors.n s3.actors.c)).setCell ⟨w.heap.size, 5, none⟩ (.slice s3.flights.a s3.flights.n s3.flights.c)).setCell ⟨w.heap.size, 6, none⟩ (.slice s3.alarms.a s3.alarms.n s3.alarms.c)).setCell ⟨w.heap.size, 7, none⟩ (.slice s3.asked.a s3.asked.n s3.asked.c)).setCell ⟨w.heap.size, 8, none⟩ (.int .i64 s3.dead)).cell? ⟨w.heap.size + 1 + 1 + 1, 8, none⟩ = some (.int .i64 0) := by simp [go_sem, *]
    have e1_8 : (((((((((v3.setCell ⟨w.heap.size, 0, none⟩ (.slice s3.up.a s3.up.n s3.up.c)).setCell ⟨w.heap.size, 1, none⟩ (.int .i64 s3.moment)).setCell ⟨w.heap.size, 2, none⟩ (.int .i64 s3.clock)).setCell ⟨w.heap.size, 3, none⟩ (.int .i64 s3.seq)).setCell ⟨w.heap.size, 4, none⟩ (.slice s3.actors.a s3.actors.n s3.actors.c)).setCell ⟨w.heap.size, 5, none⟩ (.slice s3.flights.a s3.flights.n s3.flights.c)).setCell ⟨w.heap.size, 6, none⟩ (.slice s3.alarms.a s3.alarms.n s3.alarms.c)).setCell ⟨w.heap.size, 7, none⟩ (.slice s3.asked.a s3.asked.n s3.asked.c)).setCell ⟨w.heap.size, 8, none⟩ (.int .i64 s3.dead)).frozen? ⟨w.heap.size + 1 + 1 + 1, 8, none⟩ = false := by simp [go_sem, *]
    have g2_0 : (((((((((v3.setCell ⟨w.heap.size, 0, none⟩ (.slice s3.up.a s3.up.n s3.up.c)).setCell ⟨w.heap.size, 1, none⟩ (.int .i64 s3.moment)).setCell ⟨w.heap.size, 2, none⟩ (.int .i64 s3.clock)).setCell ⟨w.heap.size, 3, none⟩ (.int .i64 s3.seq)).setCell ⟨w.heap.size, 4, none⟩ (.slice s3.actors.a s3.actors.n s3.actors.c)).setCell ⟨w.heap.size, 5, none⟩ (.slice s3.flights.a s3.flights.n s3.flights.c)).setCell ⟨w.heap.size, 6, none⟩ (.slice s3.alarms.a s3.alarms.n s3.alarms.c)).setCell ⟨w.heap.size, 7, none⟩ (.slice s3.asked.a s3.asked.n s3.asked.c)).setCell ⟨w.heap.size, 8, none⟩ (.int .i64 s3.dead)).cell? ⟨w.heap.size + 1 + 1 + 1 + 1, 0, none⟩ = some (.int .i64 0) := by simp [go_sem, *]
    have e2_0 : (((((((((v3.setCell ⟨w.heap.size, 0, none⟩ (.slice s3.up.a s3.up.n s3.up.c)).setCell ⟨w.heap.size, 1, none⟩ (.int .i64 s3.moment)).setCell ⟨w.heap.size, 2, none⟩ (.int .i64 s3.clock)).setCell ⟨w.heap.size, 3, none⟩ (.int .i64 s3.seq)).setCell ⟨w.heap.size, 4, none⟩ (.slice s3.actors.a s3.actors.n s3.actors.c)).setCell ⟨w.heap.size, 5, none⟩ (.slice s3.flights.a s3.flights.n s3.flights.c)).setCell ⟨w.heap.size, 6, none⟩ (.slice s3.alarms.a s3.alarms.n s3.alarms.c)).setCell ⟨w.heap.size, 7, none⟩ (.slice s3.asked.a s3.asked.n s3.asked.c)).setCell ⟨w.heap.size, 8, none⟩ (.int .i64 s3.dead)).frozen? ⟨w.heap.size + 1 + 1 + 1 + 1, 0, none⟩ = false := by simp [go_sem, *]
    have g2_1 : (((((((((v3.setCell ⟨w.heap.size, 0, none⟩ (.slice s3.up.a s3.up.n s3.up.c)).setCell ⟨w.heap.size, 1, none⟩ (.int .i64 s3.moment)).setCell ⟨w.heap.size, 2, none⟩ (.int .i64 s3.clock)).setCell ⟨w.heap.size, 3, none⟩ (.int .i64 s3.seq)).setCell ⟨w.heap.size, 4, none⟩ (.slice s3.actors.a s3.actors.n s3.actors.c)).setCell ⟨w.heap.size, 5, none⟩ (.slice s3.flights.a s3.flights.n s3.flights.c)).setCell ⟨w.heap.size, 6, none⟩ (.slice s3.alarms.a s3.alarms.n s3.alarms.c)).setCell ⟨w.heap.size, 7, none⟩ (.slice s3.asked.a s3.asked.n s3.asked.c)).setCell ⟨w.heap.size, 8, none⟩ (.int .i64 s3.dead)).cell? ⟨w.heap.size + 1 + 1 + 1 + 1, 1, none⟩ = some (.int .i64 0) := by simp [go_sem, *]
    have e2_1 : (((((((((v3.setCell ⟨w.heap.size, 0, none⟩ (.slice s3.up.a s3.up.n s3.up.c)).setCell ⟨w.heap.size, 1, none⟩ (.int .i64 s3.moment)).setCell ⟨w.heap.size, 2, none⟩ (.int .i64 s3.clock)).setCell ⟨w.heap.size, 3, none⟩ (.int .i64 s3.seq)).setCell ⟨w.heap.size, 4, none⟩ (.slice s3.actors.a s3.actors.n s3.actors.c)).setCell ⟨w.heap.size, 5, none⟩ (.slice s3.flights.a s3.flights.n s3.flights.c)).setCell ⟨w.heap.size, 6, none⟩ (.slice s3.alarms.a s3.alarms.n s3.alarms.c)).setCell ⟨w.heap.size, 7, none⟩ (.slice s3.asked.a s3.asked.n s3.asked.c)).setCell ⟨w.heap.size, 8, none⟩ (.int .i64 s3.dead)).frozen? ⟨w.heap.size + 1 + 1 + 1 + 1, 1, none⟩ = false := by simp [go_sem, *]
    have g2_2 : (((((((((v3.setCell ⟨w.heap.size, 0, none⟩ (.slice s3.up.a s3.up.n s3.up.c)).setCell ⟨w.heap.size, 1, none⟩ (.int .i64 s3.moment)).setCell ⟨w.heap.size, 2, none⟩ (.int .i64 s3.clock)).setCell ⟨w.heap.size, 3, none⟩ (.int .i64 s3.seq)).setCell ⟨w.heap.size, 4, none⟩ (.slice s3.actors.a s3.actors.n s3.actors.c)).setCell ⟨w.heap.size, 5, none⟩ (.slice s3.flights.a s3.flights.n s3.flights.c)).setCell ⟨w.heap.size, 6, none⟩ (.slice s3.alarms.a s3.alarms.n s3.alarms.c)).setCell ⟨w.heap.size, 7, none⟩ (.slice s3.asked.a s3.asked.n s3.asked.c)).setCell ⟨w.heap.size, 8, none⟩ (.int .i64 s3.dead)).cell? ⟨w.heap.size + 1 + 1 + 1 + 1, 2, none⟩ = some (.string ⟨#[]⟩) := by simp [go_sem, *]
    have e2_2 : (((((((((v3.setCell ⟨w.heap.size, 0, none⟩ (.slice s3.up.a s3.up.n s3.up.c)).setCell ⟨w.heap.size, 1, none⟩ (.int .i64 s3.moment)).setCell ⟨w.heap.size, 2, none⟩ (.int .i64 s3.clock)).setCell ⟨w.heap.size, 3, none⟩ (.int .i64 s3.seq)).setCell ⟨w.heap.size, 4, none⟩ (.slice s3.actors.a s3.actors.n s3.actors.c)).setCell ⟨w.heap.size, 5, none⟩ (.slice s3.flights.a s3.flights.n s3.flights.c)).setCell ⟨w.heap.size, 6, none⟩ (.slice s3.alarms.a s3.alarms.n s3.alarms.c)).setCell ⟨w.heap.size, 7, none⟩ (.slice s3.asked.a s3.asked.n s3.asked.c)).setCell ⟨w.heap.size, 8, none⟩ (.int .i64 s3.dead)).frozen? ⟨w.heap.size + 1 + 1 + 1 + 1, 2, none⟩ = false := by simp [go_sem, *]
    have g2_3 : (((((((((v3.setCell ⟨w.heap.size, 0, none⟩ (.slice s3.up.a s3.up.n s3.up.c)).setCell ⟨w.heap.size, 1, none⟩ (.int .i64 s3.moment)).setCell ⟨w.heap.size, 2, none⟩ (.int .i64 s3.clock)).setCell ⟨w.heap.size, 3, none⟩ (.int .i64 s3.seq)).setCell ⟨w.heap.size, 4, none⟩ (.slice s3.actors.a s3.actors.n s3.actors.c)).setCell ⟨w.heap.size, 5, none⟩ (.slice s3.flights.a s3.flights.n s3.flights.c)).setCell ⟨w.heap.size, 6, none⟩ (.slice s3.alarms.a s3.alarms.n s3.alarms.c)).setCell ⟨w.heap.size, 7, none⟩ (.slice s3.asked.a s3.asked.n s3.asked.c)).setCell ⟨w.heap.size, 8, none⟩ (.int .i64 s3.dead)).cell? ⟨w.heap.size + 1 + 1 + 1 + 1, 3, none⟩ = some (.string ⟨#[]⟩) := by simp [go_sem, *]
    have e2_3 : (((((((((v3.setCell ⟨w.heap.size, 0, none⟩ (.slice s3.up.a s3.up.n s3.up.c)).setCell ⟨w.heap.size, 1, none⟩ (.int .i64 s3.moment)).setCell ⟨w.heap.size, 2, none⟩ (.int .i64 s3.clock)).setCell ⟨w.heap.size, 3, none⟩ (.int .i64 s3.seq)).setCell ⟨w.heap.size, 4, none⟩ (.slice s3.actors.a s3.actors.n s3.actors.c)).setCell ⟨w.heap.size, 5, none⟩ (.slice s3.flights.a s3.flights.n s3.flights.c)).setCell ⟨w.heap.size, 6, none⟩ (.slice s3.alarms.a s3.alarms.n s3.alarms.c)).setCell ⟨w.heap.size, 7, none⟩ (.slice s3.asked.a s3.asked.n s3.asked.c)).setCell ⟨w.heap.size, 8, none⟩ (.int .i64 s3.dead)).frozen? ⟨w.heap.size + 1 + 1 + 1 + 1, 3, none⟩ = false := by simp [go_sem, *]
    have g2_4 : (((((((((v3.setCell ⟨w.heap.size, 0, none⟩ (.slice s3.up.a s3.up.n s3.up.c)).setCell ⟨w.heap.size, 1, none⟩ (.int .i64 s3.moment)).setCell ⟨w.heap.size, 2, none⟩ (.int .i64 s3.clock)).setCell ⟨w.heap.size, 3, none⟩ (.int .i64 s3.seq)).setCell ⟨w.heap.size, 4, none⟩ (.slice s3.actors.a s3.actors.n s3.actors.c)).setCell ⟨w.heap.size, 5, none⟩ (.slice s3.flights.a s3.flights.n s3.flights.c)).setCell ⟨w.heap.size, 6, none⟩ (.slice s3.alarms.a s3.alarms.n s3.alarms.c)).setCell ⟨w.heap.size, 7, none⟩ (.slice s3.asked.a s3.asked.n s3.asked.c)).setCell ⟨w.heap.size, 8, none⟩ (.int .i64 s3.dead)).cell? ⟨w.heap.size + 1 + 1 + 1 + 1, 4, none⟩ = some (.string ⟨#[]⟩) := by simp [go_sem, *]
    have e2_4 : (((((((((v3.setCell ⟨w.heap.size, 0, none⟩ (.slice s3.up.a s3.up.n s3.up.c)).setCell ⟨w.heap.size, 1, none⟩ (.int .i64 s3.moment)).setCell ⟨w.heap.size, 2, none⟩ (.int .i64 s3.clock)).setCell ⟨w.heap.size, 3, none⟩ (.int .i64 s3.seq)).setCell ⟨w.heap.size, 4, none⟩ (.slice s3.actors.a s3.actors.n s3.actors.c)).setCell ⟨w.heap.size, 5, none⟩ (.slice s3.flights.a s3.flights.n s3.flights.c)).setCell ⟨w.heap.size, 6, none⟩ (.slice s3.alarms.a s3.alarms.n s3.alarms.c)).setCell ⟨w.heap.size, 7, none⟩ (.slice s3.asked.a s3.asked.n s3.asked.c)).setCell ⟨w.heap.size, 8, none⟩ (.int .i64 s3.dead)).frozen? ⟨w.heap.size + 1 + 1 + 1 + 1, 4, none⟩ = false := by simp [go_sem, *]
    have g2_5 : (((((((((v3.setCell ⟨w.heap.size, 0, none⟩ (.slice s3.up.a s3.up.n s3.up.c)).setCell ⟨w.heap.size, 1, none⟩ (.int .i64 s3.moment)).setCell ⟨w.heap.size, 2, none⟩ (.int .i64 s3.clock)).setCell ⟨w.heap.size, 3, none⟩ (.int .i64 s3.seq)).setCell ⟨w.heap.size, 4, none⟩ (.slice s3.actors.a s3.actors.n s3.actors.c)).setCell ⟨w.heap.size, 5, none⟩ (.slice s3.flights.a s3.flights.n s3.flights.c)).setCell ⟨w.heap.size, 6, none⟩ (.slice s3.alarms.a s3.alarms.n s3.alarms.c)).setCell ⟨w.heap.size, 7, none⟩ (.slice s3.asked.a s3.asked.n s3.asked.c)).setCell ⟨w.heap.size, 8, none⟩ (.int .i64 s3.dead)).cell? ⟨w.heap.size + 1 + 1 + 1 + 1, 5, none⟩ = some (.slice none 0 0) := by simp [go_sem, *]
    have e2_5 : (((((((((v3.setCell ⟨w.heap.size, 0, none⟩ (.slice s3.up.a s3.up.n s3.up.c)).setCell ⟨w.heap.size, 1, none⟩ (.int .i64 s3.moment)).setCell ⟨w.heap.size, 2, none⟩ (.int .i64 s3.clock)).setCell ⟨w.heap.size, 3, none⟩ (.int .i64 s3.seq)).setCell ⟨w.heap.size, 4, none⟩ (.slice s3.actors.a s3.actors.n s3.actors.c)).setCell ⟨w.heap.size, 5, none⟩ (.slice s3.flights.a s3.flights.n s3.flights.c)).setCell ⟨w.heap.size, 6, none⟩ (.slice s3.alarms.a s3.alarms.n s3.alarms.c)).setCell ⟨w.heap.size, 7, none⟩ (.slice s3.asked.a s3.asked.n s3.asked.c)).setCell ⟨w.heap.size, 8, none⟩ (.int .i64 s3.dead)).frozen? ⟨w.heap.size + 1 + 1 + 1 + 1, 5, none⟩ = false := by simp [go_sem, *]
    have g2_6 : (((((((((v3.setCell ⟨w.heap.size, 0, none⟩ (.slice s3.up.a s3.up.n s3.up.c)).setCell ⟨w.heap.size, 1, none⟩ (.int .i64 s3.moment)).setCell ⟨w.heap.size, 2, none⟩ (.int .i64 s3.clock)).setCell ⟨w.heap.size, 3, none⟩ (.int .i64 s3.seq)).setCell ⟨w.heap.size, 4, none⟩ (.slice s3.actors.a s3.actors.n s3.actors.c)).setCell ⟨w.heap.size, 5, none⟩ (.slice s3.flights.a s3.flights.n s3.flights.c)).setCell ⟨w.heap.size, 6, none⟩ (.slice s3.alarms.a s3.alarms.n s3.alarms.c)).setCell ⟨w.heap.size, 7, none⟩ (.slice s3.asked.a s3.asked.n s3.asked.c)).setCell ⟨w.heap.size, 8, none⟩ (.int .i64 s3.dead)).cell? ⟨w.heap.size + 1 + 1 + 1 + 1, 6, none⟩ = some (.int .i64 0) := by simp [go_sem, *]
    have e2_6 : (((((((((v3.setCell ⟨w.heap.size, 0, none⟩ (.slice s3.up.a s3.up.n s3.up.c)).setCell ⟨w.heap.size, 1, none⟩ (.int .i64 s3.moment)).setCell ⟨w.heap.size, 2, none⟩ (.int .i64 s3.clock)).setCell ⟨w.heap.size, 3, none⟩ (.int .i64 s3.seq)).setCell ⟨w.heap.size, 4, none⟩ (.slice s3.actors.a s3.actors.n s3.actors.c)).setCell ⟨w.heap.size, 5, none⟩ (.slice s3.flights.a s3.flights.n s3.flights.c)).setCell ⟨w.heap.size, 6, none⟩ (.slice s3.alarms.a s3.alarms.n s3.alarms.c)).setCell ⟨w.heap.size, 7, none⟩ (.slice s3.asked.a s3.asked.n s3.asked.c)).setCell ⟨w.heap.size, 8, none⟩ (.int .i64 s3.dead)).frozen? ⟨w.heap.size + 1 + 1 + 1 + 1, 6, none⟩ = false := by simp [go_sem, *]
    have g3_0 : (((((((((v3.setCell ⟨w.heap.size, 0, none⟩ (.slice s3.up.a s3.up.n s3.up.c)).setCell ⟨w.heap.size, 1, none⟩ (.int .i64 s3.moment)).setCell ⟨w.heap.size, 2, none⟩ (.int .i64 s3.clock)).setCell ⟨w.heap.size, 3, none⟩ (.int .i64 s3.seq)).setCell ⟨w.heap.size, 4, none⟩ (.slice s3.actors.a s3.actors.n s3.actors.c)).setCell ⟨w.heap.size, 5, none⟩ (.slice s3.flights.a s3.flights.n s3.flights.c)).setCell ⟨w.heap.size, 6, none⟩ (.slice s3.alarms.a s3.alarms.n s3.alarms.c)).setCell ⟨w.heap.size, 7, none⟩ (.slice s3.asked.a s3.asked.n s3.asked.c)).setCell ⟨w.heap.size, 8, none⟩ (.int .i64 s3.dead)).cell? ⟨v1.heap.size, 0, none⟩ = some (.int .i64 f.x) := by simp [go_sem, *]
    have g3_1 : (((((((((v3.setCell ⟨w.heap.size, 0, none⟩ (.slice s3.up.a s3.up.n s3.up.c)).setCell ⟨w.heap.size, 1, none⟩ (.int .i64 s3.moment)).setCell ⟨w.heap.size, 2, none⟩ (.int .i64 s3.clock)).setCell ⟨w.heap.size, 3, none⟩ (.int .i64 s3.seq)).setCell ⟨w.heap.size, 4, none⟩ (.slice s3.actors.a s3.actors.n s3.actors.c)).setCell ⟨w.heap.size, 5, none⟩ (.slice s3.flights.a s3.flights.n s3.flights.c)).setCell ⟨w.heap.size, 6, none⟩ (.slice s3.alarms.a s3.alarms.n s3.alarms.c)).setCell ⟨w.heap.size, 7, none⟩ (.slice s3.asked.a s3.asked.n s3.asked.c)).setCell ⟨w.heap.size, 8, none⟩ (.int .i64 s3.dead)).cell? ⟨v1.heap.size, 1, none⟩ = some (.int .i64 f.y) := by simp [go_sem, *]
    have g3_2 : (((((((((v3.setCell ⟨w.heap.size, 0, none⟩ (.slice s3.up.a s3.up.n s3.up.c)).setCell ⟨w.heap.size, 1, none⟩ (.int .i64 s3.moment)).setCell ⟨w.heap.size, 2, none⟩ (.int .i64 s3.clock)).setCell ⟨w.heap.size, 3, none⟩ (.int .i64 s3.seq)).setCell ⟨w.heap.size, 4, none⟩ (.slice s3.actors.a s3.actors.n s3.actors.c)).setCell ⟨w.heap.size, 5, none⟩ (.slice s3.flights.a s3.flights.n s3.flights.c)).setCell ⟨w.heap.size, 6, none⟩ (.slice s3.alarms.a s3.alarms.n s3.alarms.c)).setCell ⟨w.heap.size, 7, none⟩ (.slice s3.asked.a s3.asked.n s3.asked.c)).setCell ⟨w.heap.size, 8, none⟩ (.int .i64 s3.dead)).cell? ⟨v1.heap.size, 2, none⟩ = some (.string f.path) := by simp [go_sem, *]
    have g3_3 : (((((((((v3.setCell ⟨w.heap.size, 0, none⟩ (.slice s3.up.a s3.up.n s3.up.c)).setCell ⟨w.heap.size, 1, none⟩ (.int .i64 s3.moment)).setCell ⟨w.heap.size, 2, none⟩ (.int .i64 s3.clock)).setCell ⟨w.heap.size, 3, none⟩ (.int .i64 s3.seq)).setCell ⟨w.heap.size, 4, none⟩ (.slice s3.actors.a s3.actors.n s3.actors.c)).setCell ⟨w.heap.size, 5, none⟩ (.slice s3.flights.a s3.flights.n s3.flights.c)).setCell ⟨w.heap.size, 6, none⟩ (.slice s3.alarms.a s3.alarms.n s3.alarms.c)).setCell ⟨w.heap.size, 7, none⟩ (.slice s3.asked.a s3.asked.n s3.asked.c)).setCell ⟨w.heap.size, 8, none⟩ (.int .i64 s3.dead)).cell? ⟨v1.heap.size, 3, none⟩ = some (.string f.l.src) := by simp [go_sem, *]
    have g3_4 : (((((((((v3.setCell ⟨w.heap.size, 0, none⟩ (.slice s3.up.a s3.up.n s3.up.c)).setCell ⟨w.heap.size, 1, none⟩ (.int .i64 s3.moment)).setCell ⟨w.heap.size, 2, none⟩ (.int .i64 s3.clock)).setCell ⟨w.heap.size, 3, none⟩ (.int .i64 s3.seq)).setCell ⟨w.heap.size, 4, none⟩ (.slice s3.actors.a s3.actors.n s3.actors.c)).setCell ⟨w.heap.size, 5, none⟩ (.slice s3.flights.a s3.flights.n s3.flights.c)).setCell ⟨w.heap.size, 6, none⟩ (.slice s3.alarms.a s3.alarms.n s3.alarms.c)).setCell ⟨w.heap.size, 7, none⟩ (.slice s3.asked.a s3.asked.n s3.asked.c)).setCell ⟨w.heap.size, 8, none⟩ (.int .i64 s3.dead)).cell? ⟨v1.heap.size, 4, none⟩ = some (.string f.l.msg) := by simp [go_sem, *]
    have g3_5 : (((((((((v3.setCell ⟨w.heap.size, 0, none⟩ (.slice s3.up.a s3.up.n s3.up.c)).setCell ⟨w.heap.size, 1, none⟩ (.int .i64 s3.moment)).setCell ⟨w.heap.size, 2, none⟩ (.int .i64 s3.clock)).setCell ⟨w.heap.size, 3, none⟩ (.int .i64 s3.seq)).setCell ⟨w.heap.size, 4, none⟩ (.slice s3.actors.a s3.actors.n s3.actors.c)).setCell ⟨w.heap.size, 5, none⟩ (.slice s3.flights.a s3.flights.n s3.flights.c)).setCell ⟨w.heap.size, 6, none⟩ (.slice s3.alarms.a s3.alarms.n s3.alarms.c)).setCell ⟨w.heap.size, 7, none⟩ (.slice s3.asked.a s3.asked.n s3.asked.c)).setCell ⟨w.heap.size, 8, none⟩ (.int .i64 s3.dead)).cell? ⟨v1.heap.size, 5, none⟩ = some (.slice f.l.args.a f.l.args.n f.l.args.c) := by simp [go_sem, *]
    have g3_6 : (((((((((v3.setCell ⟨w.heap.size, 0, none⟩ (.slice s3.up.a s3.up.n s3.up.c)).setCell ⟨w.heap.size, 1, none⟩ (.int .i64 s3.moment)).setCell ⟨w.heap.size, 2, none⟩ (.int .i64 s3.clock)).setCell ⟨w.heap.size, 3, none⟩ (.int .i64 s3.seq)).setCell ⟨w.heap.size, 4, none⟩ (.slice s3.actors.a s3.actors.n s3.actors.c)).setCell ⟨w.heap.size, 5, none⟩ (.slice s3.flights.a s3.flights.n s3.flights.c)).setCell ⟨w.heap.size, 6, none⟩ (.slice s3.alarms.a s3.alarms.n s3.alarms.c)).setCell ⟨w.heap.size, 7, none⟩ (.slice s3.asked.a s3.asked.n s3.asked.c)).setCell ⟨w.heap.size, 8, none⟩ (.int .i64 s3.dead)).cell? ⟨v1.heap.size, 6, none⟩ = some (.int .i64 f.l.sent) := by simp [go_sem, *]
    clear c3_0_0 f3_0_0 c3_0_1 f3_0_1 c3_0_2 f3_0_2 c3_0_3 f3_0_3 c3_0_4 f3_0_4 c3_0_5 f3_0_5 c3_0_6 f3_0_6 c3_0_7 f3_0_7 c3_0_8 f3_0_8 c3_1_0 f3_1_0 c3_1_1 f3_1_1 c3_1_2 f3_1_2 c3_1_3 f3_1_3 c3_1_4 f3_1_4 c3_1_5 f3_1_5 c3_1_6 f3_1_6 c3_1_7 f3_1_7 c3_1_8 f3_1_8 c3_2_0 f3_2_0 c3_2_1 f3_2_1 c3_2_2 f3_2_2 c3_2_3 f3_2_3 c3_2_4 f3_2_4 c3_2_5 f3_2_5 c3_2_6 f3_2_6 c3_3_0 f3_3_0 c3_3_1 f3_3_1 c3_3_2 f3_3_2 c3_3_3 f3_3_3 c3_3_4 f3_3_4 c3_3_5 f3_3_5 c3_3_6 f3_3_6
    generalize (((((((((v3.setCell ⟨w.heap.size, 0, none⟩ (.slice s3.up.a s3.up.n s3.up.c)).setCell ⟨w.heap.size, 1, none⟩ (.int .i64 s3.moment)).setCell ⟨w.heap.size, 2, none⟩ (.int .i64 s3.clock)).setCell ⟨w.heap.size, 3, none⟩ (.int .i64 s3.seq)).setCell ⟨w.heap.size, 4, none⟩ (.slice s3.actors.a s3.actors.n s3.actors.c)).setCell ⟨w.heap.size, 5, none⟩ (.slice s3.flights.a s3.flights.n s3.flights.c)).setCell ⟨w.heap.size, 6, none⟩ (.slice s3.alarms.a s3.alarms.n s3.alarms.c)).setCell ⟨w.heap.size, 7, none⟩ (.slice s3.asked.a s3.asked.n s3.asked.c)).setCell ⟨w.heap.size, 8, none⟩ (.int .i64 s3.dead)) = v4 at *
    go_region_held3 (fun w' => w'.cell? ⟨w.heap.size, 0, none⟩ = some (.slice s3.up.a s3.up.n s3.up.c) ∧ w'.cell? ⟨w.heap.size, 1, none⟩ = some (.int .i64 s3.moment) ∧ w'.cell? ⟨w.heap.size, 2, none⟩ = some (.int .i64 s3.clock) ∧ w'.cell? ⟨w.heap.size, 3, none⟩ = some (.int .i64 s3.seq) ∧ w'.cell? ⟨w.heap.size, 4, none⟩ = some (.slice s3.actors.a s3.actors.n s3.actors.c) ∧ w'.cell? ⟨w.heap.size, 5, none⟩ = some (.slice s3.flights.a s3.flights.n s3.flights.c) ∧ w'.cell? ⟨w.heap.size, 6, none⟩ = some (.slice s3.alarms.a s3.alarms.n s3.alarms.c) ∧ w'.cell? ⟨w.heap.size, 7, none⟩ = some (.slice s3.asked.a s3.asked.n s3.asked.c) ∧ w'.cell? ⟨w.heap.size, 8, none⟩ = some (.int .i64 s3.dead) ∧ w'.cell? ⟨v1.heap.size, 0, none⟩ = some (.int .i64 f.x) ∧ w'.cell? ⟨v1.heap.size, 1, none⟩ = some (.int .i64 f.y) ∧ w'.cell? ⟨v1.heap.size, 2, none⟩ = some (.string f.path) ∧ w'.cell? ⟨v1.heap.size, 3, none⟩ = some (.string f.l.src) ∧ w'.cell? ⟨v1.heap.size, 4, none⟩ = some (.string f.l.msg) ∧ w'.cell? ⟨v1.heap.size, 5, none⟩ = some (.slice f.l.args.a f.l.args.n f.l.args.c) ∧ w'.cell? ⟨v1.heap.size, 6, none⟩ = some (.int .i64 f.l.sent)) (simp [go_sem, *]) (fail)
    go_wp2_with fail
    have hBX := HBX.out
    have HOF : Hid (Off2 (w.heap.size + 1 + 1 + 1) (w.heap.size + 1 + 1 + 1 + 1) v4 v4) := Lib.hid (Off2.refl _ _ _)
    refine bodyPost_ret (v := .tuple #[sysV s3, flyV f, .bool true]) (by simp [results, Try.results40, go_sem, *]) rfl (sysFly HP.out (arrive_key (R := w.heap.size + 1 + 1 + 1) HS3.out (by omega) (by omega) (by simp; omega) HOF1.out (by repeat (first | (with_reducible exact HOF.out) | (with_reducible refine Off2.set1 ?_ _ _) | (with_reducible refine Off2.set2 ?_ _ _) | (with_reducible refine Off2.drew ?_)))) (by repeat (first | (with_reducible exact Below.refl _ _) | (with_reducible assumption) | ((with_reducible refine Below.setCell ?_ ?_ _); rotate_left; (focus (first | omega | (simp; omega) | (simp; done)))) | ((with_reducible refine Below.alloc ?_ ?_ _); rotate_left; (focus (first | omega | (simp; omega) | (simp; done)))) | (with_reducible refine Below.drew ?_))))
  · go_simp
    refine hK.out _ _ ?_ (fun hHeld => ?_)
    · trivial
    clear hK K
    try simp only [Act.put, List.getElem_toArray, List.getElem_cons_succ, List.getElem_cons_zero, List.setIfInBounds_toArray, List.set_cons_zero, List.set_cons_succ]
    refine wpAnyH_take (i := 8) (v := ?_) rfl (by kernel_rfl) (by kernel_rfl) (by kernel_rfl) (fun _ _ _ h => h) (Or.inl ⟨by rfl, ?_⟩) (by assumption) ?_
    rotate_left
    · intro w hSw; (try dsimp only at hSw); go_simp; (first | done | (with_reducible rfl))
    try simp only [Act.put, List.getElem_toArray, List.getElem_cons_succ, List.getElem_cons_zero, List.setIfInBounds_toArray, List.set_cons_zero, List.set_cons_succ]
    refine wpAnyH_ready (rs := [1]) (by kernel_rfl) (by simp) ?_
    refine AllReadyH.cons rfl (fun K hK => ?_) AllReadyH.nil
    go_simp
    refine hK.out _ _ ?_ (fun hHeld => ?_)
    · trivial
    clear hK K
    try simp only [Act.put, List.getElem_toArray, List.getElem_cons_succ, List.getElem_cons_zero, List.setIfInBounds_toArray, List.set_cons_zero, List.set_cons_succ]
    refine wpAnyH_take (i := 3) (v := ?_) rfl (by kernel_rfl) (by kernel_rfl) (by kernel_rfl) (fun _ _ _ h => h) (Or.inl ⟨by rfl, ?_⟩) (by assumption) ?_
    rotate_left
    · intro w hSw; (try dsimp only at hSw); go_simp; (first | done | (with_reducible rfl))
    try simp only [Act.put, List.getElem_toArray, List.getElem_cons_succ, List.getElem_cons_zero, List.setIfInBounds_toArray, List.set_cons_zero, List.set_cons_succ]
    refine wpAnyH_ready (rs := [9]) (by kernel_rfl) (by simp) ?_
    refine AllReadyH.cons rfl (fun K hK => ?_) AllReadyH.nil
    go_simp
    refine hK.out _ _ ?_ (fun hHeld => ?_)
    · trivial
    clear hK K
    try simp only [Act.put, List.getElem_toArray, List.getElem_cons_succ, List.getElem_cons_zero, List.setIfInBounds_toArray, List.set_cons_zero, List.set_cons_succ]
    refine wpAnyH_ready (rs := [10]) (by kernel_rfl) (by simp) ?_
    refine AllReadyH.cons rfl (fun K hK => ?_) AllReadyH.nil
    go_simp
    refine (concat84 (σ.fls.take i) (σ.fls.drop (i + 1)) s.flights.a A' i (s.flights.n - (i + 1)) s.flights.c (s.flights.c - (i + 1)) (v1.heap.size + 1) _ (by simp [go_sem]) (by simp [go_sem]) (by simp) (arr_head (H.out.fl.up (by repeat (first | (with_reducible exact Below.refl _ _) | (with_reducible assumption) | ((with_reducible refine Below.setCell ?_ ?_ _); rotate_left; (focus (first | omega | (simp; omega) | (simp; done)))) | ((with_reducible refine Below.alloc ?_ ?_ _); rotate_left; (focus (first | omega | (simp; omega) | (simp; done)))) | (with_reducible refine Below.drew ?_)))) hil) (arr_tail (HRD.out _ _ (H.out.fl.up (by repeat (first | (with_reducible exact Below.refl _ _) | (with_reducible assumption) | ((with_reducible refine Below.setCell ?_ ?_ _); rotate_left; (focus (first | omega | (simp; omega) | (simp; done)))) | ((with_reducible refine Below.alloc ?_ ?_ _); rotate_left; (focus (first | omega | (simp; omega) | (simp; done)))) | (with_reducible refine Below.drew ?_)))))) (by omega) (by omega)).mono ?_
    rintro e v2 ⟨u, rfl, ho, h2⟩
    have z2 := h2.size
    try simp at z2
    have hB2 : Below w.heap.size w v2 := Below.call (w := w) (by repeat (first | (with_reducible exact Below.refl _ _) | (with_reducible assumption) | ((with_reducible refine Below.setCell ?_ ?_ _); rotate_left; (focus (first | omega | (simp; omega) | (simp; done)))) | ((with_reducible refine Below.alloc ?_ ?_ _); rotate_left; (focus (first | omega | (simp; omega) | (simp; done)))) | (with_reducible refine Below.drew ?_))) h2
    obtain ⟨k2_0, kc, kf⟩ := keepB h2 (w.heap.size) (by first | omega | (simp; omega) | (simp; done))
    have c2_0_0 : v2.cell? ⟨w.heap.size, 0, none⟩ = some (.slice s.up.a s.up.n s.up.c) := (kc 0).trans (by simp [go_sem, *])
    have f2_0_0 : v2.frozen? ⟨w.heap.size, 0, none⟩ = false := (kf 0).trans (by simp [go_sem, *])
    have c2_0_1 : v2.cell? ⟨w.heap.size, 1, none⟩ = some (.int .i64 s.moment) := (kc 1).trans (by simp [go_sem, *])
    have f2_0_1 : v2.frozen? ⟨w.heap.size, 1, none⟩ = false := (kf 1).trans (by simp [go_sem, *])
    have c2_0_2 : v2.cell? ⟨w.heap.size, 2, none⟩ = some (.int .i64 s.clock) := (kc 2).trans (by simp [go_sem, *])
    have f2_0_2 : v2.frozen? ⟨w.heap.size, 2, none⟩ = false := (kf 2).trans (by simp [go_sem, *])
    have c2_0_3 : v2.cell? ⟨w.heap.size, 3, none⟩ = some (.int .i64 s.seq) := (kc 3).trans (by simp [go_sem, *])
    have f2_0_3 : v2.frozen? ⟨w.heap.size, 3, none⟩ = false := (kf 3).trans (by simp [go_sem, *])
    have c2_0_4 : v2.cell? ⟨w.heap.size, 4, none⟩ = some (.slice s.actors.a s.actors.n s.actors.c) := (kc 4).trans (by simp [go_sem, *])
    have f2_0_4 : v2.frozen? ⟨w.heap.size, 4, none⟩ = false := (kf 4).trans (by simp [go_sem, *])
    have c2_0_5 : v2.cell? ⟨w.heap.size, 5, none⟩ = some (.slice s.flights.a s.flights.n s.flights.c) := (kc 5).trans (by simp [go_sem, *])
    have f2_0_5 : v2.frozen? ⟨w.heap.size, 5, none⟩ = false := (kf 5).trans (by simp [go_sem, *])
    have c2_0_6 : v2.cell? ⟨w.heap.size, 6, none⟩ = some (.slice s.alarms.a s.alarms.n s.alarms.c) := (kc 6).trans (by simp [go_sem, *])
    have f2_0_6 : v2.frozen? ⟨w.heap.size, 6, none⟩ = false := (kf 6).trans (by simp [go_sem, *])
    have c2_0_7 : v2.cell? ⟨w.heap.size, 7, none⟩ = some (.slice s.asked.a s.asked.n s.asked.c) := (kc 7).trans (by simp [go_sem, *])
    have f2_0_7 : v2.frozen? ⟨w.heap.size, 7, none⟩ = false := (kf 7).trans (by simp [go_sem, *])
    have c2_0_8 : v2.cell? ⟨w.heap.size, 8, none⟩ = some (.int .i64 s.dead) := (kc 8).trans (by simp [go_sem, *])
    have f2_0_8 : v2.frozen? ⟨w.heap.size, 8, none⟩ = false := (kf 8).trans (by simp [go_sem, *])
    clear kc kf
    obtain ⟨k2_1, kc, kf⟩ := keepB h2 (w.heap.size + 1 + 1 + 1) (by first | omega | (simp; omega) | (simp; done))
    have c2_1_0 : v2.cell? ⟨w.heap.size + 1 + 1 + 1, 0, none⟩ = some (.slice none 0 0) := (kc 0).trans (by simp [go_sem, *])
    have f2_1_0 : v2.frozen? ⟨w.heap.size + 1 + 1 + 1, 0, none⟩ = false := (kf 0).trans (by simp [go_sem, *])
    have c2_1_1 : v2.cell? ⟨w.heap.size + 1 + 1 + 1, 1, none⟩ = some (.int .i64 0) := (kc 1).trans (by simp [go_sem, *])
    have f2_1_1 : v2.frozen? ⟨w.heap.size + 1 + 1 + 1, 1, none⟩ = false := (kf 1).trans (by simp [go_sem, *])
    have c2_1_2 : v2.cell? ⟨w.heap.size + 1 + 1 + 1, 2, none⟩ = some (.int .i64 0) := (kc 2).trans (by simp [go_sem, *])
    have f2_1_2 : v2.frozen? ⟨w.heap.size + 1 + 1 + 1, 2, none⟩ = false := (kf 2).trans (by simp [go_sem, *])
    have c2_1_3 : v2.cell? ⟨w.heap.size + 1 + 1 + 1, 3, none⟩ = some (.int .i64 0) := (kc 3).trans (by simp [go_sem, *])
    have f2_1_3 : v2.frozen? ⟨w.heap.size + 1 + 1 + 1, 3, none⟩ = false := (kf 3).trans (by simp [go_sem, *])
    have c2_1_4 : v2.cell? ⟨w.heap.size + 1 + 1 + 1, 4, none⟩ = some (.slice none 0 0) := (kc 4).trans (by simp [go_sem, *])
    have f2_1_4 : v2.frozen? ⟨w.heap.size + 1 + 1 + 1, 4, none⟩ = false := (kf 4).trans (by simp [go_sem, *])
    have c2_1_5 : v2.cell? ⟨w.heap.size + 1 + 1 + 1, 5, none⟩ = some (.slice none 0 0) := (kc 5).trans (by simp [go_sem, *])
    have f2_1_5 : v2.frozen? ⟨w.heap.size + 1 + 1 + 1, 5, none⟩ = false := (kf 5).trans (by simp [go_sem, *])
    have c2_1_6 : v2.cell? ⟨w.heap.size + 1 + 1 + 1, 6, none⟩ = some (.slice none 0 0) := (kc 6).trans (by simp [go_sem, *])
    have f2_1_6 : v2.frozen? ⟨w.heap.size + 1 + 1 + 1, 6, none⟩ = false := (kf 6).trans (by simp [go_sem, *])
    have c2_1_7 : v2.cell? ⟨w.heap.size + 1 + 1 + 1, 7, none⟩ = some (.slice none 0 0) := (kc 7).trans (by simp [go_sem, *])
    have f2_1_7 : v2.frozen? ⟨w.heap.size + 1 + 1 + 1, 7, none⟩ = false := (kf 7).trans (by simp [go_sem, *])
    have c2_1_8 : v2.cell? ⟨w.heap.size + 1 + 1 + 1, 8, none⟩ = some (.int .i64 0) := (kc 8).trans (by simp [go_sem, *])
    have f2_1_8 : v2.frozen? ⟨w.heap.size + 1 + 1 + 1, 8, none⟩ = false := (kf 8).trans (by simp [go_sem, *])
    clear kc kf
    obtain ⟨k2_2, kc, kf⟩ := keepB h2 (w.heap.size + 1 + 1 + 1 + 1) (by first | omega | (simp; omega) | (simp; done))
    have c2_2_0 : v2.cell? ⟨w.heap.size + 1 + 1 + 1 + 1, 0, none⟩ = some (.int .i64 0) := (kc 0).trans (by simp [go_sem, *])
    have f2_2_0 : v2.frozen? ⟨w.heap.size + 1 + 1 + 1 + 1, 0, none⟩ = false := (kf 0).trans (by simp [go_sem, *])
    have c2_2_1 : v2.cell? ⟨w.heap.size + 1 + 1 + 1 + 1, 1, none⟩ = some (.int .i64 0) := (kc 1).trans (by simp [go_sem, *])
    have f2_2_1 : v2.frozen? ⟨w.heap.size + 1 + 1 + 1 + 1, 1, none⟩ = false := (kf 1).trans (by simp [go_sem, *])
    have c2_2_2 : v2.cell? ⟨w.heap.size + 1 + 1 + 1 + 1, 2, none⟩ = some (.string ⟨#[]⟩) := (kc 2).trans (by simp [go_sem, *])
    have f2_2_2 : v2.frozen? ⟨w.heap.size + 1 + 1 + 1 + 1, 2, none⟩ = false := (kf 2).trans (by simp [go_sem, *])
    have c2_2_3 : v2.cell? ⟨w.heap.size + 1 + 1 + 1 + 1, 3, none⟩ = some (.string ⟨#[]⟩) := (kc 3).trans (by simp [go_sem, *])
    have f2_2_3 : v2.frozen? ⟨w.heap.size + 1 + 1 + 1 + 1, 3, none⟩ = false := (kf 3).trans (by simp [go_sem, *])
    have c2_2_4 : v2.cell? ⟨w.heap.size + 1 + 1 + 1 + 1, 4, none⟩ = some (.string ⟨#[]⟩) := (kc 4).trans (by simp [go_sem, *])
    have f2_2_4 : v2.frozen? ⟨w.heap.size + 1 + 1 + 1 + 1, 4, none⟩ = false := (kf 4).trans (by simp [go_sem, *])
    have c2_2_5 : v2.cell? ⟨w.heap.size + 1 + 1 + 1 + 1, 5, none⟩ = some (.slice none 0 0) := (kc 5).trans (by simp [go_sem, *])
    have f2_2_5 : v2.frozen? ⟨w.heap.size + 1 + 1 + 1 + 1, 5, none⟩ = false := (kf 5).trans (by simp [go_sem, *])
    have c2_2_6 : v2.cell? ⟨w.heap.size + 1 + 1 + 1 + 1, 6, none⟩ = some (.int .i64 0) := (kc 6).trans (by simp [go_sem, *])
    have f2_2_6 : v2.frozen? ⟨w.heap.size + 1 + 1 + 1 + 1, 6, none⟩ = false := (kf 6).trans (by simp [go_sem, *])
    clear kc kf
    obtain ⟨k2_3, kc, kf⟩ := keepB h2 (v1.heap.size) (by first | omega | (simp; omega) | (simp; done))
    have c2_3_0 : v2.cell? ⟨v1.heap.size, 0, none⟩ = some (.int .i64 f.x) := (kc 0).trans (by simp [go_sem, *])
    have f2_3_0 : v2.frozen? ⟨v1.heap.size, 0, none⟩ = false := (kf 0).trans (by simp [go_sem, *])
    have c2_3_1 : v2.cell? ⟨v1.heap.size, 1, none⟩ = some (.int .i64 f.y) := (kc 1).trans (by simp [go_sem, *])
    have f2_3_1 : v2.frozen? ⟨v1.heap.size, 1, none⟩ = false := (kf 1).trans (by simp [go_sem, *])
    have c2_3_2 : v2.cell? ⟨v1.heap.size, 2, none⟩ = some (.string f.path) := (kc 2).trans (by simp [go_sem, *])
    have f2_3_2 : v2.frozen? ⟨v1.heap.size, 2, none⟩ = false := (kf 2).trans (by simp [go_sem, *])
    have c2_3_3 : v2.cell? ⟨v1.heap.size, 3, none⟩ = some (.string f.l.src) := (kc 3).trans (by simp [go_sem, *])
    have f2_3_3 : v2.frozen? ⟨v1.heap.size, 3, none⟩ = false := (kf 3).trans (by simp [go_sem, *])
    have c2_3_4 : v2.cell? ⟨v1.heap.size, 4, none⟩ = some (.string f.l.msg) := (kc 4).trans (by simp [go_sem, *])
    have f2_3_4 : v2.frozen? ⟨v1.heap.size, 4, none⟩ = false := (kf 4).trans (by simp [go_sem, *])
    have c2_3_5 : v2.cell? ⟨v1.heap.size, 5, none⟩ = some (.slice f.l.args.a f.l.args.n f.l.args.c) := (kc 5).trans (by simp [go_sem, *])
    have f2_3_5 : v2.frozen? ⟨v1.heap.size, 5, none⟩ = false := (kf 5).trans (by simp [go_sem, *])
    have c2_3_6 : v2.cell? ⟨v1.heap.size, 6, none⟩ = some (.int .i64 f.l.sent) := (kc 6).trans (by simp [go_sem, *])
    have f2_3_6 : v2.frozen? ⟨v1.heap.size, 6, none⟩ = false := (kf 6).trans (by simp [go_sem, *])
    clear kc kf
    clear c1_0_0 f1_0_0 c1_0_1 f1_0_1 c1_0_2 f1_0_2 c1_0_3 f1_0_3 c1_0_4 f1_0_4 c1_0_5 f1_0_5 c1_0_6 f1_0_6 c1_0_7 f1_0_7 c1_0_8 f1_0_8 c1_1_0 f1_1_0 c1_1_1 f1_1_1 c1_1_2 f1_1_2 c1_1_3 f1_1_3 c1_1_4 f1_1_4 c1_1_5 f1_1_5 c1_1_6 f1_1_6 c1_1_7 f1_1_7 c1_1_8 f1_1_8 c1_2_0 f1_2_0 c1_2_1 f1_2_1 c1_2_2 f1_2_2 c1_2_3 f1_2_3 c1_2_4 f1_2_4 c1_2_5 f1_2_5 c1_2_6 f1_2_6
    have HO := Lib.hid (show v2.ownsRow (v1.heap.size + 1 + 1) 66 7 (.slice u.a (i + (s.flights.n - (i + 1))) u.c) (i + (s.flights.n - (i + 1))) ((σ.fls.take i ++ σ.fls.drop (i + 1)).flatMap flyL) by simpa using ho)
    clear ho
    refine hK.out _ _ ?_ (fun hHeld => ?_)
    · trivial
    clear hK K
    try simp only [Act.put, List.getElem_toArray, List.getElem_cons_succ, List.getElem_cons_zero, List.setIfInBounds_toArray, List.set_cons_zero, List.set_cons_succ]
    refine wpAnyH_take (i := 11) (v := ?_) rfl (by kernel_rfl) (by kernel_rfl) (by kernel_rfl) (fun _ _ _ h => h) (Or.inl ⟨by rfl, ?_⟩) (by assumption) ?_
    rotate_left
    · intro w hSw; (try dsimp only at hSw); go_simp; (first | done | (with_reducible rfl))
    try simp only [Act.put, List.getElem_toArray, List.getElem_cons_succ, List.getElem_cons_zero, List.setIfInBounds_toArray, List.set_cons_zero, List.set_cons_succ]
    refine wpAnyH_ready (rs := [12]) (by kernel_rfl) (by simp) ?_
    refine AllReadyH.cons rfl (fun K hK => ?_) AllReadyH.nil
    go_simp
    refine hK.out _ _ ?_ (fun hHeld => ?_)
    · trivial
    clear hK K
    try simp only [Act.put, List.getElem_toArray, List.getElem_cons_succ, List.getElem_cons_zero, List.setIfInBounds_toArray, List.set_cons_zero, List.set_cons_succ]
    refine wpAnyH_done (by kernel_rfl) ?_ _
    go_wp2_with fail
    refine (post_any (P := fun b => (P b ∧ b < w.heap.size) ∨ v1.heap.size + 1 + 1 ≤ b) { s with flights := ⟨u.a, i + (s.flights.n - (i + 1)), u.c⟩ } { σ with fls := σ.fls.take i ++ σ.fls.drop (i + 1) } f.path f.l _ (sysR_refly (v3 := v2) (R := w.heap.size) H.out (by repeat (first | (with_reducible exact Below.refl _ _) | (with_reducible assumption) | ((with_reducible refine Below.setCell ?_ ?_ _); rotate_left; (focus (first | omega | (simp; omega) | (simp; done)))) | ((with_reducible refine Below.alloc ?_ ?_ _); rotate_left; (focus (first | omega | (simp; omega) | (simp; done)))) | (with_reducible refine Below.drew ?_))) HO.out (by omega) (by repeat (first | (with_reducible exact Off.refl _ _) | (with_reducible refine Off.set ?_ _ _) | (with_reducible refine Off.drew ?_)))) hna hnu).mono ?_
    rintro e v3 ⟨s3, rfl, hs3, h3⟩
    have z3 := h3.size
    try simp at z3
    have hB3 : Below w.heap.size w v3 := Below.call (w := w) (by repeat (first | (with_reducible exact Below.refl _ _) | (with_reducible assumption) | ((with_reducible refine Below.setCell ?_ ?_ _); rotate_left; (focus (first | omega | (simp; omega) | (simp; done)))) | ((with_reducible refine Below.alloc ?_ ?_ _); rotate_left; (focus (first | omega | (simp; omega) | (simp; done)))) | (with_reducible refine Below.drew ?_))) h3
    obtain ⟨k3_0, kc, kf⟩ := keepB h3 (w.heap.size) (by first | omega | (simp; omega) | (simp; done))
    have c3_0_0 : v3.cell? ⟨w.heap.size, 0, none⟩ = some (.slice s.up.a s.up.n s.up.c) := (kc 0).trans (by simp [go_sem, *])
    have f3_0_0 : v3.frozen? ⟨w.heap.size, 0, none⟩ = false := (kf 0).trans (by simp [go_sem, *])
    have c3_0_1 : v3.cell? ⟨w.heap.size, 1, none⟩ = some (.int .i64 s.moment) := (kc 1).trans (by simp [go_sem, *])
    have f3_0_1 : v3.frozen? ⟨w.heap.size, 1, none⟩ = false := (kf 1).trans (by simp [go_sem, *])
    have c3_0_2 : v3.cell? ⟨w.heap.size, 2, none⟩ = some (.int .i64 s.clock) := (kc 2).trans (by simp [go_sem, *])
    have f3_0_2 : v3.frozen? ⟨w.heap.size, 2, none⟩ = false := (kf 2).trans (by simp [go_sem, *])
    have c3_0_3 : v3.cell? ⟨w.heap.size, 3, none⟩ = some (.int .i64 s.seq) := (kc 3).trans (by simp [go_sem, *])
    have f3_0_3 : v3.frozen? ⟨w.heap.size, 3, none⟩ = false := (kf 3).trans (by simp [go_sem, *])
    have c3_0_4 : v3.cell? ⟨w.heap.size, 4, none⟩ = some (.slice s.actors.a s.actors.n s.actors.c) := (kc 4).trans (by simp [go_sem, *])
    have f3_0_4 : v3.frozen? ⟨w.heap.size, 4, none⟩ = false := (kf 4).trans (by simp [go_sem, *])
    have c3_0_5 : v3.cell? ⟨w.heap.size, 5, none⟩ = some (.slice u.a (i + (s.flights.n - (i + 1))) u.c) := (kc 5).trans (by simp [go_sem, *])
    have f3_0_5 : v3.frozen? ⟨w.heap.size, 5, none⟩ = false := (kf 5).trans (by simp [go_sem, *])
    have c3_0_6 : v3.cell? ⟨w.heap.size, 6, none⟩ = some (.slice s.alarms.a s.alarms.n s.alarms.c) := (kc 6).trans (by simp [go_sem, *])
    have f3_0_6 : v3.frozen? ⟨w.heap.size, 6, none⟩ = false := (kf 6).trans (by simp [go_sem, *])
    have c3_0_7 : v3.cell? ⟨w.heap.size, 7, none⟩ = some (.slice s.asked.a s.asked.n s.asked.c) := (kc 7).trans (by simp [go_sem, *])
    have f3_0_7 : v3.frozen? ⟨w.heap.size, 7, none⟩ = false := (kf 7).trans (by simp [go_sem, *])
    have c3_0_8 : v3.cell? ⟨w.heap.size, 8, none⟩ = some (.int .i64 s.dead) := (kc 8).trans (by simp [go_sem, *])
    have f3_0_8 : v3.frozen? ⟨w.heap.size, 8, none⟩ = false := (kf 8).trans (by simp [go_sem, *])
    clear kc kf
    obtain ⟨k3_1, kc, kf⟩ := keepB h3 (w.heap.size + 1 + 1 + 1) (by first | omega | (simp; omega) | (simp; done))
    have c3_1_0 : v3.cell? ⟨w.heap.size + 1 + 1 + 1, 0, none⟩ = some (.slice none 0 0) := (kc 0).trans (by simp [go_sem, *])
    have f3_1_0 : v3.frozen? ⟨w.heap.size + 1 + 1 + 1, 0, none⟩ = false := (kf 0).trans (by simp [go_sem, *])
    have c3_1_1 : v3.cell? ⟨w.heap.size + 1 + 1 + 1, 1, none⟩ = some (.int .i64 0) := (kc 1).trans (by simp [go_sem, *])
    have f3_1_1 : v3.frozen? ⟨w.heap.size + 1 + 1 + 1, 1, none⟩ = false := (kf 1).trans (by simp [go_sem, *])
    have c3_1_2 : v3.cell? ⟨w.heap.size + 1 + 1 + 1, 2, none⟩ = some (.int .i64 0) := (kc 2).trans (by simp [go_sem, *])
    have f3_1_2 : v3.frozen? ⟨w.heap.size + 1 + 1 + 1, 2, none⟩ = false := (kf 2).trans (by simp [go_sem, *])
    have c3_1_3 : v3.cell? ⟨w.heap.size + 1 + 1 + 1, 3, none⟩ = some (.int .i64 0) := (kc 3).trans (by simp [go_sem, *])
    have f3_1_3 : v3.frozen? ⟨w.heap.size + 1 + 1 + 1, 3, none⟩ = false := (kf 3).trans (by simp [go_sem, *])
    have c3_1_4 : v3.cell? ⟨w.heap.size + 1 + 1 + 1, 4, none⟩ = some (.slice none 0 0) := (kc 4).trans (by simp [go_sem, *])
    have f3_1_4 : v3.frozen? ⟨w.heap.size + 1 + 1 + 1, 4, none⟩ = false := (kf 4).trans (by simp [go_sem, *])
    have c3_1_5 : v3.cell? ⟨w.heap.size + 1 + 1 + 1, 5, none⟩ = some (.slice none 0 0) := (kc 5).trans (by simp [go_sem, *])
    have f3_1_5 : v3.frozen? ⟨w.heap.size + 1 + 1 + 1, 5, none⟩ = false := (kf 5).trans (by simp [go_sem, *])
    have c3_1_6 : v3.cell? ⟨w.heap.size + 1 + 1 + 1, 6, none⟩ = some (.slice none 0 0) := (kc 6).trans (by simp [go_sem, *])
    have f3_1_6 : v3.frozen? ⟨w.heap.size + 1 + 1 + 1, 6, none⟩ = false := (kf 6).trans (by simp [go_sem, *])
    have c3_1_7 : v3.cell? ⟨w.heap.size + 1 + 1 + 1, 7, none⟩ = some (.slice none 0 0) := (kc 7).trans (by simp [go_sem, *])
    have f3_1_7 : v3.frozen? ⟨w.heap.size + 1 + 1 + 1, 7, none⟩ = false := (kf 7).trans (by simp [go_sem, *])
    have c3_1_8 : v3.cell? ⟨w.heap.size + 1 + 1 + 1, 8, none⟩ = some (.int .i64 0) := (kc 8).trans (by simp [go_sem, *])
    have f3_1_8 : v3.frozen? ⟨w.heap.size + 1 + 1 + 1, 8, none⟩ = false := (kf 8).trans (by simp [go_sem, *])
    clear kc kf
    obtain ⟨k3_2, kc, kf⟩ := keepB h3 (w.heap.size + 1 + 1 + 1 + 1) (by first | omega | (simp; omega) | (simp; done))
    have c3_2_0 : v3.cell? ⟨w.heap.size + 1 + 1 + 1 + 1, 0, none⟩ = some (.int .i64 0) := (kc 0).trans (by simp [go_sem, *])
    have f3_2_0 : v3.frozen? ⟨w.heap.size + 1 + 1 + 1 + 1, 0, none⟩ = false := (kf 0).trans (by simp [go_sem, *])
    have c3_2_1 : v3.cell? ⟨w.heap.size + 1 + 1 + 1 + 1, 1, none⟩ = some (.int .i64 0) := (kc 1).trans (by simp [go_sem, *])
    have f3_2_1 : v3.frozen? ⟨w.heap.size + 1 + 1 + 1 + 1, 1, none⟩ = false := (kf 1).trans (by simp [go_sem, *])
    have c3_2_2 : v3.cell? ⟨w.heap.size + 1 + 1 + 1 + 1, 2, none⟩ = some (.string ⟨#[]⟩) := (kc 2).trans (by simp [go_sem, *])
    have f3_2_2 : v3.frozen? ⟨w.heap.size + 1 + 1 + 1 + 1, 2, none⟩ = false := (kf 2).trans (by simp [go_sem, *])
    have c3_2_3 : v3.cell? ⟨w.heap.size + 1 + 1 + 1 + 1, 3, none⟩ = some (.string ⟨#[]⟩) := (kc 3).trans (by simp [go_sem, *])
    have f3_2_3 : v3.frozen? ⟨w.heap.size + 1 + 1 + 1 + 1, 3, none⟩ = false := (kf 3).trans (by simp [go_sem, *])
    have c3_2_4 : v3.cell? ⟨w.heap.size + 1 + 1 + 1 + 1, 4, none⟩ = some (.string ⟨#[]⟩) := (kc 4).trans (by simp [go_sem, *])
    have f3_2_4 : v3.frozen? ⟨w.heap.size + 1 + 1 + 1 + 1, 4, none⟩ = false := (kf 4).trans (by simp [go_sem, *])
    have c3_2_5 : v3.cell? ⟨w.heap.size + 1 + 1 + 1 + 1, 5, none⟩ = some (.slice none 0 0) := (kc 5).trans (by simp [go_sem, *])
    have f3_2_5 : v3.frozen? ⟨w.heap.size + 1 + 1 + 1 + 1, 5, none⟩ = false := (kf 5).trans (by simp [go_sem, *])
    have c3_2_6 : v3.cell? ⟨w.heap.size + 1 + 1 + 1 + 1, 6, none⟩ = some (.int .i64 0) := (kc 6).trans (by simp [go_sem, *])
    have f3_2_6 : v3.frozen? ⟨w.heap.size + 1 + 1 + 1 + 1, 6, none⟩ = false := (kf 6).trans (by simp [go_sem, *])
    clear kc kf
    obtain ⟨k3_3, kc, kf⟩ := keepB h3 (v1.heap.size) (by first | omega | (simp; omega) | (simp; done))
    have c3_3_0 : v3.cell? ⟨v1.heap.size, 0, none⟩ = some (.int .i64 f.x) := (kc 0).trans (by simp [go_sem, *])
    have f3_3_0 : v3.frozen? ⟨v1.heap.size, 0, none⟩ = false := (kf 0).trans (by simp [go_sem, *])
    have c3_3_1 : v3.cell? ⟨v1.heap.size, 1, none⟩ = some (.int .i64 f.y) := (kc 1).trans (by simp [go_sem, *])
    have f3_3_1 : v3.frozen? ⟨v1.heap.size, 1, none⟩ = false := (kf 1).trans (by simp [go_sem, *])
    have c3_3_2 : v3.cell? ⟨v1.heap.size, 2, none⟩ = some (.string f.path) := (kc 2).trans (by simp [go_sem, *])
    have f3_3_2 : v3.frozen? ⟨v1.heap.size, 2, none⟩ = false := (kf 2).trans (by simp [go_sem, *])
    have c3_3_3 : v3.cell? ⟨v1.heap.size, 3, none⟩ = some (.string f.l.src) := (kc 3).trans (by simp [go_sem, *])
    have f3_3_3 : v3.frozen? ⟨v1.heap.size, 3, none⟩ = false := (kf 3).trans (by simp [go_sem, *])
    have c3_3_4 : v3.cell? ⟨v1.heap.size, 4, none⟩ = some (.string f.l.msg) := (kc 4).trans (by simp [go_sem, *])
    have f3_3_4 : v3.frozen? ⟨v1.heap.size, 4, none⟩ = false := (kf 4).trans (by simp [go_sem, *])
    have c3_3_5 : v3.cell? ⟨v1.heap.size, 5, none⟩ = some (.slice f.l.args.a f.l.args.n f.l.args.c) := (kc 5).trans (by simp [go_sem, *])
    have f3_3_5 : v3.frozen? ⟨v1.heap.size, 5, none⟩ = false := (kf 5).trans (by simp [go_sem, *])
    have c3_3_6 : v3.cell? ⟨v1.heap.size, 6, none⟩ = some (.int .i64 f.l.sent) := (kc 6).trans (by simp [go_sem, *])
    have f3_3_6 : v3.frozen? ⟨v1.heap.size, 6, none⟩ = false := (kf 6).trans (by simp [go_sem, *])
    clear kc kf
    clear c2_0_0 f2_0_0 c2_0_1 f2_0_1 c2_0_2 f2_0_2 c2_0_3 f2_0_3 c2_0_4 f2_0_4 c2_0_5 f2_0_5 c2_0_6 f2_0_6 c2_0_7 f2_0_7 c2_0_8 f2_0_8 c2_1_0 f2_1_0 c2_1_1 f2_1_1 c2_1_2 f2_1_2 c2_1_3 f2_1_3 c2_1_4 f2_1_4 c2_1_5 f2_1_5 c2_1_6 f2_1_6 c2_1_7 f2_1_7 c2_1_8 f2_1_8 c2_2_0 f2_2_0 c2_2_1 f2_2_1 c2_2_2 f2_2_2 c2_2_3 f2_2_3 c2_2_4 f2_2_4 c2_2_5 f2_2_5 c2_2_6 f2_2_6 c2_3_0 f2_3_0 c2_3_1 f2_3_1 c2_3_2 f2_3_2 c2_3_3 f2_3_3 c2_3_4 f2_3_4 c2_3_5 f2_3_5 c2_3_6 f2_3_6
    have HS3 := Lib.hid hs3; clear hs3
    have z3v : v2.heap.size ≤ v3.heap.size := by have := h3.size; simpa using this
    have H3S := Lib.hid h3; clear h3
    generalize (Ml.post { σ with fls := σ.fls.take i ++ σ.fls.drop (i + 1) } f.path f.l).2 = okp at *
    go_wp2_with fail
    have HBX := Lib.hid (show Below w.heap.size w (((((((((v3.setCell ⟨w.heap.size, 0, none⟩ (.slice s3.up.a s3.up.n s3.up.c)).setCell ⟨w.heap.size, 1, none⟩ (.int .i64 s3.moment)).setCell ⟨w.heap.size, 2, none⟩ (.int .i64 s3.clock)).setCell ⟨w.heap.size, 3, none⟩ (.int .i64 s3.seq)).setCell ⟨w.heap.size, 4, none⟩ (.slice s3.actors.a s3.actors.n s3.actors.c)).setCell ⟨w.heap.size, 5, none⟩ (.slice s3.flights.a s3.flights.n s3.flights.c)).setCell ⟨w.heap.size, 6, none⟩ (.slice s3.alarms.a s3.alarms.n s3.alarms.c)).setCell ⟨w.heap.size, 7, none⟩ (.slice s3.asked.a s3.asked.n s3.asked.c)).setCell ⟨w.heap.size, 8, none⟩ (.int .i64 s3.dead)) from (by repeat (first | (with_reducible exact Below.refl _ _) | (with_reducible assumption) | ((with_reducible refine Below.setCell ?_ ?_ _); rotate_left; (focus (first | omega | (simp; omega) | (simp; done)))) | ((with_reducible refine Below.alloc ?_ ?_ _); rotate_left; (focus (first | omega | (simp; omega) | (simp; done)))) | (with_reducible refine Below.drew ?_))))
    have HOF1 := Lib.hid (show Off w.heap.size v3 (((((((((v3.setCell ⟨w.heap.size, 0, none⟩ (.slice s3.up.a s3.up.n s3.up.c)).setCell ⟨w.heap.size, 1, none⟩ (.int .i64 s3.moment)).setCell ⟨w.heap.size, 2, none⟩ (.int .i64 s3.clock)).setCell ⟨w.heap.size, 3, none⟩ (.int .i64 s3.seq)).setCell ⟨w.heap.size, 4, none⟩ (.slice s3.actors.a s3.actors.n s3.actors.c)).setCell ⟨w.heap.size, 5, none⟩ (.slice s3.flights.a s3.flights.n s3.flights.c)).setCell ⟨w.heap.size, 6, none⟩ (.slice s3.alarms.a s3.alarms.n s3.alarms.c)).setCell ⟨w.heap.size, 7, none⟩ (.slice s3.asked.a s3.asked.n s3.asked.c)).setCell ⟨w.heap.size, 8, none⟩ (.int .i64 s3.dead)) from (by repeat (first | (with_reducible exact Off.refl _ _) | (with_reducible refine Off.set ?_ _ _) | (with_reducible refine Off.drew ?_))))
    have hz4 : (((((((((v3.setCell ⟨w.heap.size, 0, none⟩ (.slice s3.up.a s3.up.n s3.up.c)).setCell ⟨w.heap.size, 1, none⟩ (.int .i64 s3.moment)).setCell ⟨w.heap.size, 2, none⟩ (.int .i64 s3.clock)).setCell ⟨w.heap.size, 3, none⟩ (.int .i64 s3.seq)).setCell ⟨w.heap.size, 4, none⟩ (.slice s3.actors.a s3.actors.n s3.actors.c)).setCell ⟨w.heap.size, 5, none⟩ (.slice s3.flights.a s3.flights.n s3.flights.c)).setCell ⟨w.heap.size, 6, none⟩ (.slice s3.alarms.a s3.alarms.n s3.alarms.c)).setCell ⟨w.heap.size, 7, none⟩ (.slice s3.asked.a s3.asked.n s3.asked.c)).setCell ⟨w.heap.size, 8, none⟩ (.int .i64 s3.dead)).heap.size = v3.heap.size := by simp
    have g0_0 : (((((((((v3.setCell ⟨w.heap.size, 0, none⟩ (.slice s3.up.a s3.up.n s3.up.c)).setCell ⟨w.heap.size, 1, none⟩ (.int .i64 s3.moment)).setCell ⟨w.heap.size, 2, none⟩ (.int .i64 s3.clock)).setCell ⟨w.heap.size, 3, none⟩ (.int .i64 s3.seq)).setCell ⟨w.heap.size, 4, none⟩ (.slice s3.actors.a s3.actors.n s3.actors.c)).setCell ⟨w.heap.size, 5, none⟩ (.slice s3.flights.a s3.flights.n s3.flights.c)).setCell ⟨w.heap.size, 6, none⟩ (.slice s3.alarms.a s3.alarms.n s3.alarms.c)).setCell ⟨w.heap.size, 7, none⟩ (.slice s3.asked.a s3.asked.n s3.asked.c)).setCell ⟨w.heap.size, 8, none⟩ (.int .i64 s3.dead)).cell? ⟨w.heap.size, 0, none⟩ = some (.slice s3.up.a s3.up.n s3.up.c) := by simp [go_sem, *]
    have g0_1 : (((((((((v3.setCell ⟨w.heap.size, 0, none⟩ (.slice s3.up.a s3.up.n s3.up.c)).setCell ⟨w.heap.size, 1, none⟩ (.int .i64 s3.moment)).setCell ⟨w.heap.size, 2, none⟩ (.int .i64 s3.clock)).setCell ⟨w.heap.size, 3, none⟩ (.int .i64 s3.seq)).setCell ⟨w.heap.size, 4, none⟩ (.slice s3.actors.a s3.actors.n s3.actors.c)).setCell ⟨w.heap.size, 5, none⟩ (.slice s3.flights.a s3.flights.n s3.flights.c)).setCell ⟨w.heap.size, 6, none⟩ (.slice s3.alarms.a s3.alarms.n s3.alarms.c)).setCell ⟨w.heap.size, 7, none⟩ (.slice s3.asked.a s3.asked.n s3.asked.c)).setCell ⟨w.heap.size, 8, none⟩ (.int .i64 s3.dead)).cell? ⟨w.heap.size, 1, none⟩ = some (.int .i64 s3.moment) := by simp [go_sem, *]
    have g0_2 : (((((((((v3.setCell ⟨w.heap.size, 0, none⟩ (.slice s3.up.a s3.up.n s3.up.c)).setCell ⟨w.heap.size, 1, none⟩ (.int .i64 s3.moment)).setCell ⟨w.heap.size, 2, none⟩ (.int .i64 s3.clock)).setCell ⟨w.heap.size, 3, none⟩ (.int .i64 s3.seq)).setCell ⟨w.heap.size, 4, none⟩ (.slice s3.actors.a s3.actors.n s3.actors.c)).setCell ⟨w.heap.size, 5, none⟩ (.slice s3.flights.a s3.flights.n s3.flights.c)).setCell ⟨w.heap.size, 6, none⟩ (.slice s3.alarms.a s3.alarms.n s3.alarms.c)).setCell ⟨w.heap.size, 7, none⟩ (.slice s3.asked.a s3.asked.n s3.asked.c)).setCell ⟨w.heap.size, 8, none⟩ (.int .i64 s3.dead)).cell? ⟨w.heap.size, 2, none⟩ = some (.int .i64 s3.clock) := by simp [go_sem, *]
    have g0_3 : (((((((((v3.setCell ⟨w.heap.size, 0, none⟩ (.slice s3.up.a s3.up.n s3.up.c)).setCell ⟨w.heap.size, 1, none⟩ (.int .i64 s3.moment)).setCell ⟨w.heap.size, 2, none⟩ (.int .i64 s3.clock)).setCell ⟨w.heap.size, 3, none⟩ (.int .i64 s3.seq)).setCell ⟨w.heap.size, 4, none⟩ (.slice s3.actors.a s3.actors.n s3.actors.c)).setCell ⟨w.heap.size, 5, none⟩ (.slice s3.flights.a s3.flights.n s3.flights.c)).setCell ⟨w.heap.size, 6, none⟩ (.slice s3.alarms.a s3.alarms.n s3.alarms.c)).setCell ⟨w.heap.size, 7, none⟩ (.slice s3.asked.a s3.asked.n s3.asked.c)).setCell ⟨w.heap.size, 8, none⟩ (.int .i64 s3.dead)).cell? ⟨w.heap.size, 3, none⟩ = some (.int .i64 s3.seq) := by simp [go_sem, *]
    have g0_4 : (((((((((v3.setCell ⟨w.heap.size, 0, none⟩ (.slice s3.up.a s3.up.n s3.up.c)).setCell ⟨w.heap.size, 1, none⟩ (.int .i64 s3.moment)).setCell ⟨w.heap.size, 2, none⟩ (.int .i64 s3.clock)).setCell ⟨w.heap.size, 3, none⟩ (.int .i64 s3.seq)).setCell ⟨w.heap.size, 4, none⟩ (.slice s3.actors.a s3.actors.n s3.actors.c)).setCell ⟨w.heap.size, 5, none⟩ (.slice s3.flights.a s3.flights.n s3.flights.c)).setCell ⟨w.heap.size, 6, none⟩ (.slice s3.alarms.a s3.alarms.n s3.alarms.c)).setCell ⟨w.heap.size, 7, none⟩ (.slice s3.asked.a s3.asked.n s3.asked.c)).setCell ⟨w.heap.size, 8, none⟩ (.int .i64 s3.dead)).cell? ⟨w.heap.size, 4, none⟩ = some (.slice s3.actors.a s3.actors.n s3.actors.c) := by simp [go_sem, *]
    have g0_5 : (((((((((v3.setCell ⟨w.heap.size, 0, none⟩ (.slice s3.up.a s3.up.n s3.up.c)).setCell ⟨w.heap.size, 1, none⟩ (.int .i64 s3.moment)).setCell ⟨w.heap.size, 2, none⟩ (.int .i64 s3.clock)).setCell ⟨w.heap.size, 3, none⟩ (.int .i64 s3.seq)).setCell ⟨w.heap.size, 4, none⟩ (.slice s3.actors.a s3.actors.n s3.actors.c)).setCell ⟨w.heap.size, 5, none⟩ (.slice s3.flights.a s3.flights.n s3.flights.c)).setCell ⟨w.heap.size, 6, none⟩ (.slice s3.alarms.a s3.alarms.n s3.alarms.c)).setCell ⟨w.heap.size, 7, none⟩ (.slice s3.asked.a s3.asked.n s3.asked.c)).setCell ⟨w.heap.size, 8, none⟩ (.int .i64 s3.dead)).cell? ⟨w.heap.size, 5, none⟩ = some (.slice s3.flights.a s3.flights.n s3.flights.c) := by simp [go_sem, *]
    have g0_6 : (((((((((v3.setCell ⟨w.heap.size, 0, none⟩ (.slice s3.up.a s3.up.n s3.up.c)).setCell ⟨w.heap.size, 1, none⟩ (.int .i64 s3.moment)).setCell ⟨w.heap.size, 2, none⟩ (.int .i64 s3.clock)).setCell ⟨w.heap.size, 3, none⟩ (.int .i64 s3.seq)).setCell ⟨w.heap.size, 4, none⟩ (.slice s3.actors.a s3.actors.n s3.actors.c)).setCell ⟨w.heap.size, 5, none⟩ (.slice s3.flights.a s3.flights.n s3.flights.c)).setCell ⟨w.heap.size, 6, none⟩ (.slice s3.alarms.a s3.alarms.n s3.alarms.c)).setCell ⟨w.heap.size, 7, none⟩ (.slice s3.asked.a s3.asked.n s3.asked.c)).setCell ⟨w.heap.size, 8, none⟩ (.int .i64 s3.dead)).cell? ⟨w.heap.size, 6, none⟩ = some (.slice s3.alarms.a s3.alarms.n s3.alarms.c) := by simp [go_sem, *]
    have g0_7 : (((((((((v3.setCell ⟨w.heap.size, 0, none⟩ (.slice s3.up.a s3.up.n s3.up.c)).setCell ⟨w.heap.size, 1, none⟩ (.int .i64 s3.moment)).setCell ⟨w.heap.size, 2, none⟩ (.int .i64 s3.clock)).setCell ⟨w.heap.size, 3, none⟩ (.int .i64 s3.seq)).setCell ⟨w.heap.size, 4, none⟩ (.slice s3.actors.a s3.actors.n s3.actors.c)).setCell ⟨w.heap.size, 5, none⟩ (.slice s3.flights.a s3.flights.n s3.flights.c)).setCell ⟨w.heap.size, 6, none⟩ (.slice s3.alarms.a s3.alarms.n s3.alarms.c)).setCell ⟨w.heap.size, 7, none⟩ (.slice s3.asked.a s3.asked.n s3.asked.c)).setCell ⟨w.heap.size, 8, none⟩ (.int .i64 s3.dead)).cell? ⟨w.heap.size, 7, none⟩ = some (.slice s3.asked.a s3.asked.n s3.asked.c) := by simp [go_sem, *]
    have g0_8 : (((((((((v3.setCell ⟨w.heap.size, 0, none⟩ (.slice s3.up.a s3.up.n s3.up.c)).setCell ⟨w.heap.size, 1, none⟩ (.int .i64 s3.moment)).setCell ⟨w.heap.size, 2, none⟩ (.int .i64 s3.clock)).setCell ⟨w.heap.size, 3, none⟩ (.int .i64 s3.seq)).setCell ⟨w.heap.size, 4, none⟩ (.slice s3.actors.a s3.actors.n s3.actors.c)).setCell ⟨w.heap.size, 5, none⟩ (.slice s3.flights.a s3.flights.n s3.flights.c)).setCell ⟨w.heap.size, 6, none⟩ (.slice s3.alarms.a s3.alarms.n s3.alarms.c)).setCell ⟨w.heap.size, 7, none⟩ (.slice s3.asked.a s3.asked.n s3.asked.c)).setCell ⟨w.heap.size, 8, none⟩ (.int .i64 s3.dead)).cell? ⟨w.heap.size, 8, none⟩ = some (.int .i64 s3.dead) := by simp [go_sem, *]
    have g1_0 : (((((((((v3.setCell ⟨w.heap.size, 0, none⟩ (.slice s3.up.a s3.up.n s3.up.c)).setCell ⟨w.heap.size, 1, none⟩ (.int .i64 s3.moment)).setCell ⟨w.heap.size, 2, none⟩ (.int .i64 s3.clock)).setCell ⟨w.heap.size, 3, none⟩ (.int .i64 s3.seq)).setCell ⟨w.heap.size, 4, none⟩ (.slice s3.actors.a s3.actors.n s3.actors.c)).setCell ⟨w.heap.size, 5, none⟩ (.slice s3.flights.a s3.flights.n s3.flights.c)).setCell ⟨w.heap.size, 6, none⟩ (.slice s3.alarms.a s3.alarms.n s3.alarms.c)).setCell ⟨w.heap.size, 7, none⟩ (.slice s3.asked.a s3.asked.n s3.asked.c)).setCell ⟨w.heap.size, 8, none⟩ (.int .i64 s3.dead)).cell? ⟨w.heap.size + 1 + 1 + 1, 0, none⟩ = some (.slice none 0 0) := by simp [go_sem, *]
    have e1_0 : (((((((((v3.setCell ⟨w.heap.size, 0, none⟩ (.slice s3.up.a s3.up.n s3.up.c)).setCell ⟨w.heap.size, 1, none⟩ (.int .i64 s3.moment)).setCell ⟨w.heap.size, 2, none⟩ (.int .i64 s3.clock)).setCell ⟨w.heap.size, 3, none⟩ (.int .i64 s3.seq)).setCell ⟨w.heap.size, 4, none⟩ (.slice s3.actors.a s3.actors.n s3.actors.c)).setCell ⟨w.heap.size, 5, none⟩ (.slice s3.flights.a s3.flights.n s3.flights.c)).setCell ⟨w.heap.size, 6, none⟩ (.slice s3.alarms.a s3.alarms.n s3.alarms.c)).setCell ⟨w.heap.size, 7, none⟩ (.slice s3.asked.a s3.asked.n s3.asked.c)).setCell ⟨w.heap.size, 8, none⟩ (.int .i64 s3.dead)).frozen? ⟨w.heap.size + 1 + 1 + 1, 0, none⟩ = false := by simp [go_sem, *]
    have g1_1 : (((((((((v3.setCell ⟨w.heap.size, 0, none⟩ (.slice s3.up.a s3.up.n s3.up.c)).setCell ⟨w.heap.size, 1, none⟩ (.int .i64 s3.moment)).setCell ⟨w.heap.size, 2, none⟩ (.int .i64 s3.clock)).setCell ⟨w.heap.size, 3, none⟩ (.int .i64 s3.seq)).setCell ⟨w.heap.size, 4, none⟩ (.slice s3.actors.a s3.actors.n s3.actors.c)).setCell ⟨w.heap.size, 5, none⟩ (.slice s3.flights.a s3.flights.n s3.flights.c)).setCell ⟨w.heap.size, 6, none⟩ (.slice s3.alarms.a s3.alarms.n s3.alarms.c)).setCell ⟨w.heap.size, 7, none⟩ (.slice s3.asked.a s3.asked.n s3.asked.c)).setCell ⟨w.heap.size, 8, none⟩ (.int .i64 s3.dead)).cell? ⟨w.heap.size + 1 + 1 + 1, 1, none⟩ = some (.int .i64 0) := by simp [go_sem, *]
    have e1_1 : (((((((((v3.setCell ⟨w.heap.size, 0, none⟩ (.slice s3.up.a s3.up.n s3.up.c)).setCell ⟨w.heap.size, 1, none⟩ (.int .i64 s3.moment)).setCell ⟨w.heap.size, 2, none⟩ (.int .i64 s3.clock)).setCell ⟨w.heap.size, 3, none⟩ (.int .i64 s3.seq)).setCell ⟨w.heap.size, 4, none⟩ (.slice s3.actors.a s3.actors.n s3.actors.c)).setCell ⟨w.heap.size, 5, none⟩ (.slice s3.flights.a s3.flights.n s3.flights.c)).setCell ⟨w.heap.size, 6, none⟩ (.slice s3.alarms.a s3.alarms.n s3.alarms.c)).setCell ⟨w.heap.size, 7, none⟩ (.slice s3.asked.a s3.asked.n s3.asked.c)).setCell ⟨w.heap.size, 8, none⟩ (.int .i64 s3.dead)).frozen? ⟨w.heap.size + 1 + 1 + 1, 1, none⟩ = false := by simp [go_sem, *]
    have g1_2 : (((((((((v3.setCell ⟨w.heap.size, 0, none⟩ (.slice s3.up.a s3.up.n s3.up.c)).setCell ⟨w.heap.size, 1, none⟩ (.int .i64 s3.moment)).setCell ⟨w.heap.size, 2, none⟩ (.int .i64 s3.clock)).setCell ⟨w.heap.size, 3, none⟩ (.int .i64 s3.seq)).setCell ⟨w.heap.size, 4, none⟩ (.slice s3.actors.a s3.actors.n s3.actors.c)).setCell ⟨w.heap.size, 5, none⟩ (.slice s3.flights.a s3.flights.n s3.flights.c)).setCell ⟨w.heap.size, 6, none⟩ (.slice s3.alarms.a s3.alarms.n s3.alarms.c)).setCell ⟨w.heap.size, 7, none⟩ (.slice s3.asked.a s3.asked.n s3.asked.c)).setCell ⟨w.heap.size, 8, none⟩ (.int .i64 s3.dead)).cell? ⟨w.heap.size + 1 + 1 + 1, 2, none⟩ = some (.int .i64 0) := by simp [go_sem, *]
    have e1_2 : (((((((((v3.setCell ⟨w.heap.size, 0, none⟩ (.slice s3.up.a s3.up.n s3.up.c)).setCell ⟨w.heap.size, 1, none⟩ (.int .i64 s3.moment)).setCell ⟨w.heap.size, 2, none⟩ (.int .i64 s3.clock)).setCell ⟨w.heap.size, 3, none⟩ (.int .i64 s3.seq)).setCell ⟨w.heap.size, 4, none⟩ (.slice s3.actors.a s3.actors.n s3.actors.c)).setCell ⟨w.heap.size, 5, none⟩ (.slice s3.flights.a s3.flights.n s3.flights.c)).setCell ⟨w.heap.size, 6, none⟩ (.slice s3.alarms.a s3.alarms.n s3.alarms.c)).setCell ⟨w.heap.size, 7, none⟩ (.slice s3.asked.a s3.asked.n s3.asked.c)).setCell ⟨w.heap.size, 8, none⟩ (.int .i64 s3.dead)).frozen? ⟨w.heap.size + 1 + 1 + 1, 2, none⟩ = false := by simp [go_sem, *]
    have g1_3 : (((((((((v3.setCell ⟨w.heap.size, 0, none⟩ (.slice s3.up.a s3.up.n s3.up.c)).setCell ⟨w.heap.size, 1, none⟩ (.int .i64 s3.moment)).setCell ⟨w.heap.size, 2, none⟩ (.int .i64 s3.clock)).setCell ⟨w.heap.size, 3, none⟩ (.int .i64 s3.seq)).setCell ⟨w.heap.size, 4, none⟩ (.slice s3.actors.a s3.actors.n s3.actors.c)).setCell ⟨w.heap.size, 5, none⟩ (.slice s3.flights.a s3.flights.n s3.flights.c)).setCell ⟨w.heap.size, 6, none⟩ (.slice s3.alarms.a s3.alarms.n s3.alarms.c)).setCell ⟨w.heap.size, 7, none⟩ (.slice s3.asked.a s3.asked.n s3.asked.c)).setCell ⟨w.heap.size, 8, none⟩ (.int .i64 s3.dead)).cell? ⟨w.heap.size + 1 + 1 + 1, 3, none⟩ = some (.int .i64 0) := by simp [go_sem, *]
    have e1_3 : (((((((((v3.setCell ⟨w.heap.size, 0, none⟩ (.slice s3.up.a s3.up.n s3.up.c)).setCell ⟨w.heap.size, 1, none⟩ (.int .i64 s3.moment)).setCell ⟨w.heap.size, 2, none⟩ (.int .i64 s3.clock)).setCell ⟨w.heap.size, 3, none⟩ (.int .i64 s3.seq)).setCell ⟨w.heap.size, 4, none⟩ (.slice s3.actors.a s3.actors.n s3.actors.c)).setCell ⟨w.heap.size, 5, none⟩ (.slice s3.flights.a s3.flights.n s3.flights.c)).setCell ⟨w.heap.size, 6, none⟩ (.slice s3.alarms.a s3.alarms.n s3.alarms.c)).setCell ⟨w.heap.size, 7, none⟩ (.slice s3.asked.a s3.asked.n s3.asked.c)).setCell ⟨w.heap.size, 8, none⟩ (.int .i64 s3.dead)).frozen? ⟨w.heap.size + 1 + 1 + 1, 3, none⟩ = false := by simp [go_sem, *]
    have g1_4 : (((((((((v3.setCell ⟨w.heap.size, 0, none⟩ (.slice s3.up.a s3.up.n s3.up.c)).setCell ⟨w.heap.size, 1, none⟩ (.int .i64 s3.moment)).setCell ⟨w.heap.size, 2, none⟩ (.int .i64 s3.clock)).setCell ⟨w.heap.size, 3, none⟩ (.int .i64 s3.seq)).setCell ⟨w.heap.size, 4, none⟩ (.slice s3.actors.a s3.actors.n s3.actors.c)).setCell ⟨w.heap.size, 5, none⟩ (.slice s3.flights.a s3.flights.n s3.flights.c)).setCell ⟨w.heap.size, 6, none⟩ (.slice s3.alarms.a s3.alarms.n s3.alarms.c)).setCell ⟨w.heap.size, 7, none⟩ (.slice s3.asked.a s3.asked.n s3.asked.c)).setCell ⟨w.heap.size, 8, none⟩ (.int .i64 s3.dead)).cell? ⟨w.heap.size + 1 + 1 + 1, 4, none⟩ = some (.slice none 0 0) := by simp [go_sem, *]
    have e1_4 : (((((((((v3.setCell ⟨w.heap.size, 0, none⟩ (.slice s3.up.a s3.up.n s3.up.c)).setCell ⟨w.heap.size, 1, none⟩ (.int .i64 s3.moment)).setCell ⟨w.heap.size, 2, none⟩ (.int .i64 s3.clock)).setCell ⟨w.heap.size, 3, none⟩ (.int .i64 s3.seq)).setCell ⟨w.heap.size, 4, none⟩ (.slice s3.actors.a s3.actors.n s3.actors.c)).setCell ⟨w.heap.size, 5, none⟩ (.slice s3.flights.a s3.flights.n s3.flights.c)).setCell ⟨w.heap.size, 6, none⟩ (.slice s3.alarms.a s3.alarms.n s3.alarms.c)).setCell ⟨w.heap.size, 7, none⟩ (.slice s3.asked.a s3.asked.n s3.asked.c)).setCell ⟨w.heap.size, 8, none⟩ (.int .i64 s3.dead)).frozen? ⟨w.heap.size + 1 + 1 + 1, 4, none⟩ = false := by simp [go_sem, *]
    have g1_5 : (((((((((v3.setCell ⟨w.heap.size, 0, none⟩ (.slice s3.up.a s3.up.n s3.up.c)).setCell ⟨w.heap.size, 1, none⟩ (.int .i64 s3.moment)).setCell ⟨w.heap.size, 2, none⟩ (.int .i64 s3.clock)).setCell ⟨w.heap.size, 3, none⟩ (.int .i64 s3.seq)).setCell ⟨w.heap.size, 4, none⟩ (.slice s3.actors.a s3.actors.n s3.actors.c)).setCell ⟨w.heap.size, 5, none⟩ (.slice s3.flights.a s3.flights.n s3.flights.c)).setCell ⟨w.heap.size, 6, none⟩ (.slice s3.alarms.a s3.alarms.n s3.alarms.c)).setCell ⟨w.heap.size, 7, none⟩ (.slice s3.asked.a s3.asked.n s3.asked.c)).setCell ⟨w.heap.size, 8, none⟩ (.int .i64 s3.dead)).cell? ⟨w.heap.size + 1 + 1 + 1, 5, none⟩ = some (.slice none 0 0) := by simp [go_sem, *]
    have e1_5 : (((((((((v3.setCell ⟨w.heap.size, 0, none⟩ (.slice s3.up.a s3.up.n s3.up.c)).setCell ⟨w.heap.size, 1, none⟩ (.int .i64 s3.moment)).setCell ⟨w.heap.size, 2, none⟩ (.int .i64 s3.clock)).setCell ⟨w.heap.size, 3, none⟩ (.int .i64 s3.seq)).setCell ⟨w.heap.size, 4, none⟩ (.slice s3.actors.a s3.actors.n s3.actors.c)).setCell ⟨w.heap.size, 5, none⟩ (.slice s3.flights.a s3.flights.n s3.flights.c)).setCell ⟨w.heap.size, 6, none⟩ (.slice s3.alarms.a s3.alarms.n s3.alarms.c)).setCell ⟨w.heap.size, 7, none⟩ (.slice s3.asked.a s3.asked.n s3.asked.c)).setCell ⟨w.heap.size, 8, none⟩ (.int .i64 s3.dead)).frozen? ⟨w.heap.size + 1 + 1 + 1, 5, none⟩ = false := by simp [go_sem, *]
    have g1_6 : (((((((((v3.setCell ⟨w.heap.size, 0, none⟩ (.slice s3.up.a s3.up.n s3.up.c)).setCell ⟨w.heap.size, 1, none⟩ (.int .i64 s3.moment)).setCell ⟨w.heap.size, 2, none⟩ (.int .i64 s3.clock)).setCell ⟨w.heap.size, 3, none⟩ (.int .i64 s3.seq)).setCell ⟨w.heap.size, 4, none⟩ (.slice s3.actors.a s3.actors.n s3.actors.c)).setCell ⟨w.heap.size, 5, none⟩ (.slice s3.flights.a s3.flights.n s3.flights.c)).setCell ⟨w.heap.size, 6, none⟩ (.slice s3.alarms.a s3.alarms.n s3.alarms.c)).setCell ⟨w.heap.size, 7, none⟩ (.slice s3.asked.a s3.asked.n s3.asked.c)).setCell ⟨w.heap.size, 8, none⟩ (.int .i64 s3.dead)).cell? ⟨w.heap.size + 1 + 1 + 1, 6, none⟩ = some (.slice none 0 0) := by simp [go_sem, *]
    have e1_6 : (((((((((v3.setCell ⟨w.heap.size, 0, none⟩ (.slice s3.up.a s3.up.n s3.up.c)).setCell ⟨w.heap.size, 1, none⟩ (.int .i64 s3.moment)).setCell ⟨w.heap.size, 2, none⟩ (.int .i64 s3.clock)).setCell ⟨w.heap.size, 3, none⟩ (.int .i64 s3.seq)).setCell ⟨w.heap.size, 4, none⟩ (.slice s3.actors.a s3.actors.n s3.actors.c)).setCell ⟨w.heap.size, 5, none⟩ (.slice s3.flights.a s3.flights.n s3.flights.c)).setCell ⟨w.heap.size, 6, none⟩ (.slice s3.alarms.a s3.alarms.n s3.alarms.c)).setCell ⟨w.heap.size, 7, none⟩ (.slice s3.asked.a s3.asked.n s3.asked.c)).setCell ⟨w.heap.size, 8, none⟩ (.int .i64 s3.dead)).frozen? ⟨w.heap.size + 1 + 1 + 1, 6, none⟩ = false := by simp [go_sem, *]
    have g1_7 : (((((((((v3.setCell ⟨w.heap.size, 0, none⟩ (.slice s3.up.a s3.up.n s3.up.c)).setCell ⟨w.heap.size, 1, none⟩ (.int .i64 s3.moment)).setCell ⟨w.heap.size, 2, none⟩ (.int .i64 s3.clock)).setCell ⟨w.heap.size, 3, none⟩ (.int .i64 s3.seq)).setCell ⟨w.heap.size, 4, none⟩ (.slice s3.actors.a s3.actors.n s3.actors.c)).setCell ⟨w.heap.size, 5, none⟩ (.slice s3.flights.a s3.flights.n s3.flights.c)).setCell ⟨w.heap.size, 6, none⟩ (.slice s3.alarms.a s3.alarms.n s3.alarms.c)).setCell ⟨w.heap.size, 7, none⟩ (.slice s3.asked.a s3.asked.n s3.asked.c)).setCell ⟨w.heap.size, 8, none⟩ (.int .i64 s3.dead)).cell? ⟨w.heap.size + 1 + 1 + 1, 7, none⟩ = some (.slice none 0 0) := by simp [go_sem, *]
    have e1_7 : (((((((((v3.setCell ⟨w.heap.size, 0, none⟩ (.slice s3.up.a s3.up.n s3.up.c)).setCell ⟨w.heap.size, 1, none⟩ (.int .i64 s3.moment)).setCell ⟨w.heap.size, 2, none⟩ (.int .i64 s3.clock)).setCell ⟨w.heap.size, 3, none⟩ (.int .i64 s3.seq)).setCell ⟨w.heap.size, 4, none⟩ (.slice s3.actors.a s3.actors.n s3.actors.c)).setCell ⟨w.heap.size, 5, none⟩ (.slice s3.flights.a s3.flights.n s3.flights.c)).setCell ⟨w.heap.size, 6, none⟩ (.slice s3.alarms.a s3.alarms.n s3.alarms.c)).setCell ⟨w.heap.size, 7, none⟩ (.slice s3.asked.a s3.asked.n s3.asked.c)).setCell ⟨w.heap.size, 8, none⟩ (.int .i64 s3.dead)).frozen? ⟨w.heap.size + 1 + 1 + 1, 7, none⟩ = false := by simp [go_sem, *]
    have g1_8 : (((((((((v3.setCell ⟨w.heap.size, 0, none⟩ (.slice s3.up.a s3.up.n s3.up.c)).setCell ⟨w.heap.size, 1, none⟩ (.int .i64 s3.moment)).setCell ⟨w.heap.size, 2, none⟩ (.int .i64 s3.clock)).setCell ⟨w.heap.size, 3, none⟩ (.int .i64 s3.seq)).setCell ⟨w.heap.size, 4, none⟩ (.slice s3.actors.a s3.actors.n s3.actors.c)).setCell ⟨w.heap.size, 5, none⟩ (.slice s3.flights.a s3.flights.n s3.flights.c)).setCell ⟨w.heap.size, 6, none⟩ (.slice s3.alarms.a s3.alarms.n s3.alarms.c)).setCell ⟨w.heap.size, 7, none⟩ (.slice s3.asked.a s3.asked.n s3.asked.c)).setCell ⟨w.heap.size, 8, none⟩ (.int .i64 s3.dead)).cell? ⟨w.heap.size + 1 + 1 + 1, 8, none⟩ = some (.int .i64 0) := by simp [go_sem, *]
    have e1_8 : (((((((((v3.setCell ⟨w.heap.size, 0, none⟩ (.slice s3.up.a s3.up.n s3.up.c)).setCell ⟨w.heap.size, 1, none⟩ (.int .i64 s3.moment)).setCell ⟨w.heap.size, 2, none⟩ (.int .i64 s3.clock)).setCell ⟨w.heap.size, 3, none⟩ (.int .i64 s3.seq)).setCell ⟨w.heap.size, 4, none⟩ (.slice s3.actors.a s3.actors.n s3.actors.c)).setCell ⟨w.heap.size, 5, none⟩ (.slice s3.flights.a s3.flights.n s3.flights.c)).setCell ⟨w.heap.size, 6, none⟩ (.slice s3.alarms.a s3.alarms.n s3.alarms.c)).setCell ⟨w.heap.size, 7, none⟩ (.slice s3.asked.a s3.asked.n s3.asked.c)).setCell ⟨w.heap.size, 8, none⟩ (.int .i64 s3.dead)).frozen? ⟨w.heap.size + 1 + 1 + 1, 8, none⟩ = false := by simp [go_sem, *]
    have g2_0 : (((((((((v3.setCell ⟨w.heap.size, 0, none⟩ (.slice s3.up.a s3.up.n s3.up.c)).setCell ⟨w.heap.size, 1, none⟩ (.int .i64 s3.moment)).setCell ⟨w.heap.size, 2, none⟩ (.int .i64 s3.clock)).setCell ⟨w.heap.size, 3, none⟩ (.int .i64 s3.seq)).setCell ⟨w.heap.size, 4, none⟩ (.slice s3.actors.a s3.actors.n s3.actors.c)).setCell ⟨w.heap.size, 5, none⟩ (.slice s3.flights.a s3.flights.n s3.flights.c)).setCell ⟨w.heap.size, 6, none⟩ (.slice s3.alarms.a s3.alarms.n s3.alarms.c)).setCell ⟨w.heap.size, 7, none⟩ (.slice s3.asked.a s3.asked.n s3.asked.c)).setCell ⟨w.heap.size, 8, none⟩ (.int .i64 s3.dead)).cell? ⟨w.heap.size + 1 + 1 + 1 + 1, 0, none⟩ = some (.int .i64 0) := by simp [go_sem, *]
    have e2_0 : (((((((((v3.setCell ⟨w.heap.size, 0, none⟩ (.slice s3.up.a s3.up.n s3.up.c)).setCell ⟨w.heap.size, 1, none⟩ (.int .i64 s3.moment)).setCell ⟨w.heap.size, 2, none⟩ (.int .i64 s3.clock)).setCell ⟨w.heap.size, 3, none⟩ (.int .i64 s3.seq)).setCell ⟨w.heap.size, 4, none⟩ (.slice s3.actors.a s3.actors.n s3.actors.c)).setCell ⟨w.heap.size, 5, none⟩ (.slice s3.flights.a s3.flights.n s3.flights.c)).setCell ⟨w.heap.size, 6, none⟩ (.slice s3.alarms.a s3.alarms.n s3.alarms.c)).setCell ⟨w.heap.size, 7, none⟩ (.slice s3.asked.a s3.asked.n s3.asked.c)).setCell ⟨w.heap.size, 8, none⟩ (.int .i64 s3.dead)).frozen? ⟨w.heap.size + 1 + 1 + 1 + 1, 0, none⟩ = false := by simp [go_sem, *]
    have g2_1 : (((((((((v3.setCell ⟨w.heap.size, 0, none⟩ (.slice s3.up.a s3.up.n s3.up.c)).setCell ⟨w.heap.size, 1, none⟩ (.int .i64 s3.moment)).setCell ⟨w.heap.size, 2, none⟩ (.int .i64 s3.clock)).setCell ⟨w.heap.size, 3, none⟩ (.int .i64 s3.seq)).setCell ⟨w.heap.size, 4, none⟩ (.slice s3.actors.a s3.actors.n s3.actors.c)).setCell ⟨w.heap.size, 5, none⟩ (.slice s3.flights.a s3.flights.n s3.flights.c)).setCell ⟨w.heap.size, 6, none⟩ (.slice s3.alarms.a s3.alarms.n s3.alarms.c)).setCell ⟨w.heap.size, 7, none⟩ (.slice s3.asked.a s3.asked.n s3.asked.c)).setCell ⟨w.heap.size, 8, none⟩ (.int .i64 s3.dead)).cell? ⟨w.heap.size + 1 + 1 + 1 + 1, 1, none⟩ = some (.int .i64 0) := by simp [go_sem, *]
    have e2_1 : (((((((((v3.setCell ⟨w.heap.size, 0, none⟩ (.slice s3.up.a s3.up.n s3.up.c)).setCell ⟨w.heap.size, 1, none⟩ (.int .i64 s3.moment)).setCell ⟨w.heap.size, 2, none⟩ (.int .i64 s3.clock)).setCell ⟨w.heap.size, 3, none⟩ (.int .i64 s3.seq)).setCell ⟨w.heap.size, 4, none⟩ (.slice s3.actors.a s3.actors.n s3.actors.c)).setCell ⟨w.heap.size, 5, none⟩ (.slice s3.flights.a s3.flights.n s3.flights.c)).setCell ⟨w.heap.size, 6, none⟩ (.slice s3.alarms.a s3.alarms.n s3.alarms.c)).setCell ⟨w.heap.size, 7, none⟩ (.slice s3.asked.a s3.asked.n s3.asked.c)).setCell ⟨w.heap.size, 8, none⟩ (.int .i64 s3.dead)).frozen? ⟨w.heap.size + 1 + 1 + 1 + 1, 1, none⟩ = false := by simp [go_sem, *]
    have g2_2 : (((((((((v3.setCell ⟨w.heap.size, 0, none⟩ (.slice s3.up.a s3.up.n s3.up.c)).setCell ⟨w.heap.size, 1, none⟩ (.int .i64 s3.moment)).setCell ⟨w.heap.size, 2, none⟩ (.int .i64 s3.clock)).setCell ⟨w.heap.size, 3, none⟩ (.int .i64 s3.seq)).setCell ⟨w.heap.size, 4, none⟩ (.slice s3.actors.a s3.actors.n s3.actors.c)).setCell ⟨w.heap.size, 5, none⟩ (.slice s3.flights.a s3.flights.n s3.flights.c)).setCell ⟨w.heap.size, 6, none⟩ (.slice s3.alarms.a s3.alarms.n s3.alarms.c)).setCell ⟨w.heap.size, 7, none⟩ (.slice s3.asked.a s3.asked.n s3.asked.c)).setCell ⟨w.heap.size, 8, none⟩ (.int .i64 s3.dead)).cell? ⟨w.heap.size + 1 + 1 + 1 + 1, 2, none⟩ = some (.string ⟨#[]⟩) := by simp [go_sem, *]
    have e2_2 : (((((((((v3.setCell ⟨w.heap.size, 0, none⟩ (.slice s3.up.a s3.up.n s3.up.c)).setCell ⟨w.heap.size, 1, none⟩ (.int .i64 s3.moment)).setCell ⟨w.heap.size, 2, none⟩ (.int .i64 s3.clock)).setCell ⟨w.heap.size, 3, none⟩ (.int .i64 s3.seq)).setCell ⟨w.heap.size, 4, none⟩ (.slice s3.actors.a s3.actors.n s3.actors.c)).setCell ⟨w.heap.size, 5, none⟩ (.slice s3.flights.a s3.flights.n s3.flights.c)).setCell ⟨w.heap.size, 6, none⟩ (.slice s3.alarms.a s3.alarms.n s3.alarms.c)).setCell ⟨w.heap.size, 7, none⟩ (.slice s3.asked.a s3.asked.n s3.asked.c)).setCell ⟨w.heap.size, 8, none⟩ (.int .i64 s3.dead)).frozen? ⟨w.heap.size + 1 + 1 + 1 + 1, 2, none⟩ = false := by simp [go_sem, *]
    have g2_3 : (((((((((v3.setCell ⟨w.heap.size, 0, none⟩ (.slice s3.up.a s3.up.n s3.up.c)).setCell ⟨w.heap.size, 1, none⟩ (.int .i64 s3.moment)).setCell ⟨w.heap.size, 2, none⟩ (.int .i64 s3.clock)).setCell ⟨w.heap.size, 3, none⟩ (.int .i64 s3.seq)).setCell ⟨w.heap.size, 4, none⟩ (.slice s3.actors.a s3.actors.n s3.actors.c)).setCell ⟨w.heap.size, 5, none⟩ (.slice s3.flights.a s3.flights.n s3.flights.c)).setCell ⟨w.heap.size, 6, none⟩ (.slice s3.alarms.a s3.alarms.n s3.alarms.c)).setCell ⟨w.heap.size, 7, none⟩ (.slice s3.asked.a s3.asked.n s3.asked.c)).setCell ⟨w.heap.size, 8, none⟩ (.int .i64 s3.dead)).cell? ⟨w.heap.size + 1 + 1 + 1 + 1, 3, none⟩ = some (.string ⟨#[]⟩) := by simp [go_sem, *]
    have e2_3 : (((((((((v3.setCell ⟨w.heap.size, 0, none⟩ (.slice s3.up.a s3.up.n s3.up.c)).setCell ⟨w.heap.size, 1, none⟩ (.int .i64 s3.moment)).setCell ⟨w.heap.size, 2, none⟩ (.int .i64 s3.clock)).setCell ⟨w.heap.size, 3, none⟩ (.int .i64 s3.seq)).setCell ⟨w.heap.size, 4, none⟩ (.slice s3.actors.a s3.actors.n s3.actors.c)).setCell ⟨w.heap.size, 5, none⟩ (.slice s3.flights.a s3.flights.n s3.flights.c)).setCell ⟨w.heap.size, 6, none⟩ (.slice s3.alarms.a s3.alarms.n s3.alarms.c)).setCell ⟨w.heap.size, 7, none⟩ (.slice s3.asked.a s3.asked.n s3.asked.c)).setCell ⟨w.heap.size, 8, none⟩ (.int .i64 s3.dead)).frozen? ⟨w.heap.size + 1 + 1 + 1 + 1, 3, none⟩ = false := by simp [go_sem, *]
    have g2_4 : (((((((((v3.setCell ⟨w.heap.size, 0, none⟩ (.slice s3.up.a s3.up.n s3.up.c)).setCell ⟨w.heap.size, 1, none⟩ (.int .i64 s3.moment)).setCell ⟨w.heap.size, 2, none⟩ (.int .i64 s3.clock)).setCell ⟨w.heap.size, 3, none⟩ (.int .i64 s3.seq)).setCell ⟨w.heap.size, 4, none⟩ (.slice s3.actors.a s3.actors.n s3.actors.c)).setCell ⟨w.heap.size, 5, none⟩ (.slice s3.flights.a s3.flights.n s3.flights.c)).setCell ⟨w.heap.size, 6, none⟩ (.slice s3.alarms.a s3.alarms.n s3.alarms.c)).setCell ⟨w.heap.size, 7, none⟩ (.slice s3.asked.a s3.asked.n s3.asked.c)).setCell ⟨w.heap.size, 8, none⟩ (.int .i64 s3.dead)).cell? ⟨w.heap.size + 1 + 1 + 1 + 1, 4, none⟩ = some (.string ⟨#[]⟩) := by simp [go_sem, *]
    have e2_4 : (((((((((v3.setCell ⟨w.heap.size, 0, none⟩ (.slice s3.up.a s3.up.n s3.up.c)).setCell ⟨w.heap.size, 1, none⟩ (.int .i64 s3.moment)).setCell ⟨w.heap.size, 2, none⟩ (.int .i64 s3.clock)).setCell ⟨w.heap.size, 3, none⟩ (.int .i64 s3.seq)).setCell ⟨w.heap.size, 4, none⟩ (.slice s3.actors.a s3.actors.n s3.actors.c)).setCell ⟨w.heap.size, 5, none⟩ (.slice s3.flights.a s3.flights.n s3.flights.c)).setCell ⟨w.heap.size, 6, none⟩ (.slice s3.alarms.a s3.alarms.n s3.alarms.c)).setCell ⟨w.heap.size, 7, none⟩ (.slice s3.asked.a s3.asked.n s3.asked.c)).setCell ⟨w.heap.size, 8, none⟩ (.int .i64 s3.dead)).frozen? ⟨w.heap.size + 1 + 1 + 1 + 1, 4, none⟩ = false := by simp [go_sem, *]
    have g2_5 : (((((((((v3.setCell ⟨w.heap.size, 0, none⟩ (.slice s3.up.a s3.up.n s3.up.c)).setCell ⟨w.heap.size, 1, none⟩ (.int .i64 s3.moment)).setCell ⟨w.heap.size, 2, none⟩ (.int .i64 s3.clock)).setCell ⟨w.heap.size, 3, none⟩ (.int .i64 s3.seq)).setCell ⟨w.heap.size, 4, none⟩ (.slice s3.actors.a s3.actors.n s3.actors.c)).setCell ⟨w.heap.size, 5, none⟩ (.slice s3.flights.a s3.flights.n s3.flights.c)).setCell ⟨w.heap.size, 6, none⟩ (.slice s3.alarms.a s3.alarms.n s3.alarms.c)).setCell ⟨w.heap.size, 7, none⟩ (.slice s3.asked.a s3.asked.n s3.asked.c)).setCell ⟨w.heap.size, 8, none⟩ (.int .i64 s3.dead)).cell? ⟨w.heap.size + 1 + 1 + 1 + 1, 5, none⟩ = some (.slice none 0 0) := by simp [go_sem, *]
    have e2_5 : (((((((((v3.setCell ⟨w.heap.size, 0, none⟩ (.slice s3.up.a s3.up.n s3.up.c)).setCell ⟨w.heap.size, 1, none⟩ (.int .i64 s3.moment)).setCell ⟨w.heap.size, 2, none⟩ (.int .i64 s3.clock)).setCell ⟨w.heap.size, 3, none⟩ (.int .i64 s3.seq)).setCell ⟨w.heap.size, 4, none⟩ (.slice s3.actors.a s3.actors.n s3.actors.c)).setCell ⟨w.heap.size, 5, none⟩ (.slice s3.flights.a s3.flights.n s3.flights.c)).setCell ⟨w.heap.size, 6, none⟩ (.slice s3.alarms.a s3.alarms.n s3.alarms.c)).setCell ⟨w.heap.size, 7, none⟩ (.slice s3.asked.a s3.asked.n s3.asked.c)).setCell ⟨w.heap.size, 8, none⟩ (.int .i64 s3.dead)).frozen? ⟨w.heap.size + 1 + 1 + 1 + 1, 5, none⟩ = false := by simp [go_sem, *]
    have g2_6 : (((((((((v3.setCell ⟨w.heap.size, 0, none⟩ (.slice s3.up.a s3.up.n s3.up.c)).setCell ⟨w.heap.size, 1, none⟩ (.int .i64 s3.moment)).setCell ⟨w.heap.size, 2, none⟩ (.int .i64 s3.clock)).setCell ⟨w.heap.size, 3, none⟩ (.int .i64 s3.seq)).setCell ⟨w.heap.size, 4, none⟩ (.slice s3.actors.a s3.actors.n s3.actors.c)).setCell ⟨w.heap.size, 5, none⟩ (.slice s3.flights.a s3.flights.n s3.flights.c)).setCell ⟨w.heap.size, 6, none⟩ (.slice s3.alarms.a s3.alarms.n s3.alarms.c)).setCell ⟨w.heap.size, 7, none⟩ (.slice s3.asked.a s3.asked.n s3.asked.c)).setCell ⟨w.heap.size, 8, none⟩ (.int .i64 s3.dead)).cell? ⟨w.heap.size + 1 + 1 + 1 + 1, 6, none⟩ = some (.int .i64 0) := by simp [go_sem, *]
    have e2_6 : (((((((((v3.setCell ⟨w.heap.size, 0, none⟩ (.slice s3.up.a s3.up.n s3.up.c)).setCell ⟨w.heap.size, 1, none⟩ (.int .i64 s3.moment)).setCell ⟨w.heap.size, 2, none⟩ (.int .i64 s3.clock)).setCell ⟨w.heap.size, 3, none⟩ (.int .i64 s3.seq)).setCell ⟨w.heap.size, 4, none⟩ (.slice s3.actors.a s3.actors.n s3.actors.c)).setCell ⟨w.heap.size, 5, none⟩ (.slice s3.flights.a s3.flights.n s3.flights.c)).setCell ⟨w.heap.size, 6, none⟩ (.slice s3.alarms.a s3.alarms.n s3.alarms.c)).setCell ⟨w.heap.size, 7, none⟩ (.slice s3.asked.a s3.asked.n s3.asked.c)).setCell ⟨w.heap.size, 8, none⟩ (.int .i64 s3.dead)).frozen? ⟨w.heap.size + 1 + 1 + 1 + 1, 6, none⟩ = false := by simp [go_sem, *]
    have g3_0 : (((((((((v3.setCell ⟨w.heap.size, 0, none⟩ (.slice s3.up.a s3.up.n s3.up.c)).setCell ⟨w.heap.size, 1, none⟩ (.int .i64 s3.moment)).setCell ⟨w.heap.size, 2, none⟩ (.int .i64 s3.clock)).setCell ⟨w.heap.size, 3, none⟩ (.int .i64 s3.seq)).setCell ⟨w.heap.size, 4, none⟩ (.slice s3.actors.a s3.actors.n s3.actors.c)).setCell ⟨w.heap.size, 5, none⟩ (.slice s3.flights.a s3.flights.n s3.flights.c)).setCell ⟨w.heap.size, 6, none⟩ (.slice s3.alarms.a s3.alarms.n s3.alarms.c)).setCell ⟨w.heap.size, 7, none⟩ (.slice s3.asked.a s3.asked.n s3.asked.c)).setCell ⟨w.heap.size, 8, none⟩ (.int .i64 s3.dead)).cell? ⟨v1.heap.size, 0, none⟩ = some (.int .i64 f.x) := by simp [go_sem, *]
    have g3_1 : (((((((((v3.setCell ⟨w.heap.size, 0, none⟩ (.slice s3.up.a s3.up.n s3.up.c)).setCell ⟨w.heap.size, 1, none⟩ (.int .i64 s3.moment)).setCell ⟨w.heap.size, 2, none⟩ (.int .i64 s3.clock)).setCell ⟨w.heap.size, 3, none⟩ (.int .i64 s3.seq)).setCell ⟨w.heap.size, 4, none⟩ (.slice s3.actors.a s3.actors.n s3.actors.c)).setCell ⟨w.heap.size, 5, none⟩ (.slice s3.flights.a s3.flights.n s3.flights.c)).setCell ⟨w.heap.size, 6, none⟩ (.slice s3.alarms.a s3.alarms.n s3.alarms.c)).setCell ⟨w.heap.size, 7, none⟩ (.slice s3.asked.a s3.asked.n s3.asked.c)).setCell ⟨w.heap.size, 8, none⟩ (.int .i64 s3.dead)).cell? ⟨v1.heap.size, 1, none⟩ = some (.int .i64 f.y) := by simp [go_sem, *]
    have g3_2 : (((((((((v3.setCell ⟨w.heap.size, 0, none⟩ (.slice s3.up.a s3.up.n s3.up.c)).setCell ⟨w.heap.size, 1, none⟩ (.int .i64 s3.moment)).setCell ⟨w.heap.size, 2, none⟩ (.int .i64 s3.clock)).setCell ⟨w.heap.size, 3, none⟩ (.int .i64 s3.seq)).setCell ⟨w.heap.size, 4, none⟩ (.slice s3.actors.a s3.actors.n s3.actors.c)).setCell ⟨w.heap.size, 5, none⟩ (.slice s3.flights.a s3.flights.n s3.flights.c)).setCell ⟨w.heap.size, 6, none⟩ (.slice s3.alarms.a s3.alarms.n s3.alarms.c)).setCell ⟨w.heap.size, 7, none⟩ (.slice s3.asked.a s3.asked.n s3.asked.c)).setCell ⟨w.heap.size, 8, none⟩ (.int .i64 s3.dead)).cell? ⟨v1.heap.size, 2, none⟩ = some (.string f.path) := by simp [go_sem, *]
    have g3_3 : (((((((((v3.setCell ⟨w.heap.size, 0, none⟩ (.slice s3.up.a s3.up.n s3.up.c)).setCell ⟨w.heap.size, 1, none⟩ (.int .i64 s3.moment)).setCell ⟨w.heap.size, 2, none⟩ (.int .i64 s3.clock)).setCell ⟨w.heap.size, 3, none⟩ (.int .i64 s3.seq)).setCell ⟨w.heap.size, 4, none⟩ (.slice s3.actors.a s3.actors.n s3.actors.c)).setCell ⟨w.heap.size, 5, none⟩ (.slice s3.flights.a s3.flights.n s3.flights.c)).setCell ⟨w.heap.size, 6, none⟩ (.slice s3.alarms.a s3.alarms.n s3.alarms.c)).setCell ⟨w.heap.size, 7, none⟩ (.slice s3.asked.a s3.asked.n s3.asked.c)).setCell ⟨w.heap.size, 8, none⟩ (.int .i64 s3.dead)).cell? ⟨v1.heap.size, 3, none⟩ = some (.string f.l.src) := by simp [go_sem, *]
    have g3_4 : (((((((((v3.setCell ⟨w.heap.size, 0, none⟩ (.slice s3.up.a s3.up.n s3.up.c)).setCell ⟨w.heap.size, 1, none⟩ (.int .i64 s3.moment)).setCell ⟨w.heap.size, 2, none⟩ (.int .i64 s3.clock)).setCell ⟨w.heap.size, 3, none⟩ (.int .i64 s3.seq)).setCell ⟨w.heap.size, 4, none⟩ (.slice s3.actors.a s3.actors.n s3.actors.c)).setCell ⟨w.heap.size, 5, none⟩ (.slice s3.flights.a s3.flights.n s3.flights.c)).setCell ⟨w.heap.size, 6, none⟩ (.slice s3.alarms.a s3.alarms.n s3.alarms.c)).setCell ⟨w.heap.size, 7, none⟩ (.slice s3.asked.a s3.asked.n s3.asked.c)).setCell ⟨w.heap.size, 8, none⟩ (.int .i64 s3.dead)).cell? ⟨v1.heap.size, 4, none⟩ = some (.string f.l.msg) := by simp [go_sem, *]
    have g3_5 : (((((((((v3.setCell ⟨w.heap.size, 0, none⟩ (.slice s3.up.a s3.up.n s3.up.c)).setCell ⟨w.heap.size, 1, none⟩ (.int .i64 s3.moment)).setCell ⟨w.heap.size, 2, none⟩ (.int .i64 s3.clock)).setCell ⟨w.heap.size, 3, none⟩ (.int .i64 s3.seq)).setCell ⟨w.heap.size, 4, none⟩ (.slice s3.actors.a s3.actors.n s3.actors.c)).setCell ⟨w.heap.size, 5, none⟩ (.slice s3.flights.a s3.flights.n s3.flights.c)).setCell ⟨w.heap.size, 6, none⟩ (.slice s3.alarms.a s3.alarms.n s3.alarms.c)).setCell ⟨w.heap.size, 7, none⟩ (.slice s3.asked.a s3.asked.n s3.asked.c)).setCell ⟨w.heap.size, 8, none⟩ (.int .i64 s3.dead)).cell? ⟨v1.heap.size, 5, none⟩ = some (.slice f.l.args.a f.l.args.n f.l.args.c) := by simp [go_sem, *]
    have g3_6 : (((((((((v3.setCell ⟨w.heap.size, 0, none⟩ (.slice s3.up.a s3.up.n s3.up.c)).setCell ⟨w.heap.size, 1, none⟩ (.int .i64 s3.moment)).setCell ⟨w.heap.size, 2, none⟩ (.int .i64 s3.clock)).setCell ⟨w.heap.size, 3, none⟩ (.int .i64 s3.seq)).setCell ⟨w.heap.size, 4, none⟩ (.slice s3.actors.a s3.actors.n s3.actors.c)).setCell ⟨w.heap.size, 5, none⟩ (.slice s3.flights.a s3.flights.n s3.flights.c)).setCell ⟨w.heap.size, 6, none⟩ (.slice s3.alarms.a s3.alarms.n s3.alarms.c)).setCell ⟨w.heap.size, 7, none⟩ (.slice s3.asked.a s3.asked.n s3.asked.c)).setCell ⟨w.heap.size, 8, none⟩ (.int .i64 s3.dead)).cell? ⟨v1.heap.size, 6, none⟩ = some (.int .i64 f.l.sent) := by simp [go_sem, *]
    clear c3_0_0 f3_0_0 c3_0_1 f3_0_1 c3_0_2 f3_0_2 c3_0_3 f3_0_3 c3_0_4 f3_0_4 c3_0_5 f3_0_5 c3_0_6 f3_0_6 c3_0_7 f3_0_7 c3_0_8 f3_0_8 c3_1_0 f3_1_0 c3_1_1 f3_1_1 c3_1_2 f3_1_2 c3_1_3 f3_1_3 c3_1_4 f3_1_4 c3_1_5 f3_1_5 c3_1_6 f3_1_6 c3_1_7 f3_1_7 c3_1_8 f3_1_8 c3_2_0 f3_2_0 c3_2_1 f3_2_1 c3_2_2 f3_2_2 c3_2_3 f3_2_3 c3_2_4 f3_2_4 c3_2_5 f3_2_5 c3_2_6 f3_2_6 c3_3_0 f3_3_0 c3_3_1 f3_3_1 c3_3_2 f3_3_2 c3_3_3 f3_3_3 c3_3_4 f3_3_4 c3_3_5 f3_3_5 c3_3_6 f3_3_6
    generalize (((((((((v3.setCell ⟨w.heap.size, 0, none⟩ (.slice s3.up.a s3.up.n s3.up.c)).setCell ⟨w.heap.size, 1, none⟩ (.int .i64 s3.moment)).setCell ⟨w.heap.size, 2, none⟩ (.int .i64 s3.clock)).setCell ⟨w.heap.size, 3, none⟩ (.int .i64 s3.seq)).setCell ⟨w.heap.size, 4, none⟩ (.slice s3.actors.a s3.actors.n s3.actors.c)).setCell ⟨w.heap.size, 5, none⟩ (.slice s3.flights.a s3.flights.n s3.flights.c)).setCell ⟨w.heap.size, 6, none⟩ (.slice s3.alarms.a s3.alarms.n s3.alarms.c)).setCell ⟨w.heap.size, 7, none⟩ (.slice s3.asked.a s3.asked.n s3.asked.c)).setCell ⟨w.heap.size, 8, none⟩ (.int .i64 s3.dead)) = v4 at *
    go_region_held3 (fun w' => w'.cell? ⟨w.heap.size, 0, none⟩ = some (.slice s3.up.a s3.up.n s3.up.c) ∧ w'.cell? ⟨w.heap.size, 1, none⟩ = some (.int .i64 s3.moment) ∧ w'.cell? ⟨w.heap.size, 2, none⟩ = some (.int .i64 s3.clock) ∧ w'.cell? ⟨w.heap.size, 3, none⟩ = some (.int .i64 s3.seq) ∧ w'.cell? ⟨w.heap.size, 4, none⟩ = some (.slice s3.actors.a s3.actors.n s3.actors.c) ∧ w'.cell? ⟨w.heap.size, 5, none⟩ = some (.slice s3.flights.a s3.flights.n s3.flights.c) ∧ w'.cell? ⟨w.heap.size, 6, none⟩ = some (.slice s3.alarms.a s3.alarms.n s3.alarms.c) ∧ w'.cell? ⟨w.heap.size, 7, none⟩ = some (.slice s3.asked.a s3.asked.n s3.asked.c) ∧ w'.cell? ⟨w.heap.size, 8, none⟩ = some (.int .i64 s3.dead) ∧ w'.cell? ⟨v1.heap.size, 0, none⟩ = some (.int .i64 f.x) ∧ w'.cell? ⟨v1.heap.size, 1, none⟩ = some (.int .i64 f.y) ∧ w'.cell? ⟨v1.heap.size, 2, none⟩ = some (.string f.path) ∧ w'.cell? ⟨v1.heap.size, 3, none⟩ = some (.string f.l.src) ∧ w'.cell? ⟨v1.heap.size, 4, none⟩ = some (.string f.l.msg) ∧ w'.cell? ⟨v1.heap.size, 5, none⟩ = some (.slice f.l.args.a f.l.args.n f.l.args.c) ∧ w'.cell? ⟨v1.heap.size, 6, none⟩ = some (.int .i64 f.l.sent)) (simp [go_sem, *]) (fail)
    go_wp2_with fail
    have hBX := HBX.out
    have HOF : Hid (Off2 (w.heap.size + 1 + 1 + 1) (w.heap.size + 1 + 1 + 1 + 1) v4 v4) := Lib.hid (Off2.refl _ _ _)
    refine bodyPost_ret (v := .tuple #[sysV s3, flyV f, .bool true]) (by simp [results, Try.results40, go_sem, *]) rfl (sysFly HP.out (arrive_key (R := w.heap.size + 1 + 1 + 1) HS3.out (by omega) (by omega) (by simp; omega) HOF1.out (by repeat (first | (with_reducible exact HOF.out) | (with_reducible refine Off2.set1 ?_ _ _) | (with_reducible refine Off2.set2 ?_ _ _) | (with_reducible refine Off2.drew ?_)))) (by repeat (first | (with_reducible exact Below.refl _ _) | (with_reducible assumption) | ((with_reducible refine Below.setCell ?_ ?_ _); rotate_left; (focus (first | omega | (simp; omega) | (simp; done)))) | ((with_reducible refine Below.alloc ?_ ?_ _); rotate_left; (focus (first | omega | (simp; omega) | (simp; done)))) | (with_reducible refine Below.drew ?_))))

theorem arrive_any {P : Nat → Prop} (s : SysC) (σ : PS) (x y : Int) (w : World) (h : SysR P w s σ) (hna : s.actors.n ≤ 1000000) (hnu : s.up.n ≤ 9223372036854775807) (hnf : s.flights.n ≤ 1000000) :
    Calls Try.prog 40 #[sysV s, .int .i64 x, .int .i64 y] w (SysFly P (Ml.arrive σ x y) w) := by
  cases hr : Ml.idx σ.fls x y with
  | none => exact arrive_none s σ x y w h hnf hr
  | some i => exact arrive_some s σ x y w h hna hnu hnf i hr
end Go.Proofs.Ytjdjfjokniingaa
