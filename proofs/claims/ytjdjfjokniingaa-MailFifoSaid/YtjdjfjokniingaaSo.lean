/- The walk of SchedTells. -/
import Derived.Test.YtjdjfjokniingaaSn
namespace Go.Proofs.Ytjdjfjokniingaa
open Go.RowKit

theorem en53 (s : SysC) (ls : List LiveC) (fls : List FlyC) (ups : List Bool) (w : World) (hup : Rd w w.heap.size 1 s.up.a s.up.n (ups.map .bool)) (hac : Rd w w.heap.size 9 s.actors.a s.actors.n (ls.flatMap liveL)) (hfl : Rd w w.heap.size 7 s.flights.a s.flights.n (fls.flatMap flyL)) (hba : s.actors.n * 128 ≤ 140737488351232) (hbf : s.flights.n * 64 ≤ 140737488351232) (hwf : ∀ f ∈ fls, (Lit.int .i64 f.x).wf = true ∧ (Lit.int .i64 f.y).wf = true) (L : List ActnC) (hL : Sy.enabled ups ls (fls.map chOf) = L) :
    Calls Try.prog 53 #[sysV s] w fun e w' => ∃ v : Sl, e = .returned (.slice v.a L.length v.c) ∧ Rd w' w'.heap.size 3 v.a L.length (L.flatMap actnL) ∧ Below w.heap.size w w' := by
  have := enabled_any s ls fls ups w hup hac hfl hba hbf hwf
  rw [hL] at this
  refine this.mono fun e w' ⟨v, he, hv, hb⟩ => ?_
  have hn : v.n = L.length := (hv.len (fun _ => rfl) (by omega)).symm
  rw [hn] at he hv
  exact ⟨v, he, hv, hb⟩

theorem en54 (s : SysC) (ls : List LiveC) (fls : List FlyC) (ups : List Bool) (w : World) (hup : Rd w w.heap.size 1 s.up.a s.up.n (ups.map .bool)) (hac : Rd w w.heap.size 9 s.actors.a s.actors.n (ls.flatMap liveL)) (hfl : Rd w w.heap.size 7 s.flights.a s.flights.n (fls.flatMap flyL)) (hba : s.actors.n * 128 ≤ 140737488351232) (hbf : s.flights.n * 64 ≤ 140737488351232) (hwf : ∀ f ∈ fls, (Lit.int .i64 f.x).wf = true ∧ (Lit.int .i64 f.y).wf = true) (L : List ActnC) (hL : Sy.enabled ups ls (fls.map chOf) = L) :
    Calls Try.prog 54 #[sysV s] w fun e w' => ∃ v : Sl, e = .returned (.slice v.a L.length v.c) ∧ Rd w' w'.heap.size 3 v.a L.length (L.flatMap actnL) ∧ Below w.heap.size w w' := by
  have := enabledR_all s ls fls ups w hup hac hfl hba hbf hwf
  rw [hL] at this
  refine this.mono fun e w' ⟨v, he, hv, hb⟩ => ?_
  have hn : v.n = L.length := (hv.len (fun _ => rfl) (by omega)).symm
  rw [hn] at he hv
  exact ⟨v, he, hv, hb⟩

/-- the state's memory, as it was when the law began -/
structure SysAt (s : SysC) (ls : List LiveC) (fls : List FlyC) (ups : List Bool) (w : World) : Prop where
  up : Rd w w.heap.size 1 s.up.a s.up.n (ups.map .bool)
  ac : Rd w w.heap.size 9 s.actors.a s.actors.n (ls.flatMap liveL)
  fl : Rd w w.heap.size 7 s.flights.a s.flights.n (fls.flatMap flyL)
  ba : s.actors.n * 128 ≤ 140737488351232
  bf : s.flights.n * 64 ≤ 140737488351232
  wf : ∀ f ∈ fls, (Lit.int .i64 f.x).wf = true ∧ (Lit.int .i64 f.y).wf = true
theorem SysAt.below {s : SysC} {ls : List LiveC} {fls : List FlyC} {ups : List Bool} {w W : World} (h : SysAt s ls fls ups w) (hW : Below w.heap.size w W) : SysAt s ls fls ups W :=
  ⟨(h.up.below hW (Nat.le_refl _)).more hW.size, (h.ac.below hW (Nat.le_refl _)).more hW.size, (h.fl.below hW (Nat.le_refl _)).more hW.size, h.ba, h.bf, h.wf⟩

set_option maxRecDepth 100000 in
set_option maxHeartbeats 4000000 in
theorem tells_walk (s : SysC) (ls : List LiveC) (fls : List FlyC) (ups : List Bool) (n : Int) (w : World) (hs : SysAt s ls fls ups w) (hn1 : -9223372036854775808 ≤ n) (hn2 : n ≤ 9223372036854775807) :
    Calls Try.prog 13 #[sysV s, .int .i64 n] w fun e w' => e = .returned (.bool true) ∧ Below w.heap.size w w' := by
  obtain ⟨L, hL⟩ : ∃ L, Sy.enabled ups ls (fls.map chOf) = L := ⟨_, rfl⟩
  obtain ⟨c, hc⟩ : ∃ c, Sy.choose L n = c := ⟨_, rfl⟩
  obtain ⟨ok, hok⟩ : ∃ b, (!L.isEmpty) = b := ⟨_, rfl⟩
  have hel := Sy.enabled_len ups ls (fls.map chOf)
  have hl1 := hs.ac.len (fun _ => rfl) (by omega)
  have hl2 := hs.fl.len (fun _ => rfl) (by omega)
  have hll : L.length ≤ 281474976710656 := by have := hs.ba; have := hs.bf; rw [hL] at hel; simp at hel; omega
  have C1 : Hid (∀ W : World, Below w.heap.size w W → Calls Try.prog 50 #[sysV s, .int .i64 n] W fun e w' => e = .returned (.tuple #[.agg #[.string c.path, .int .i64 c.x, .int .i64 c.y], .bool ok]) ∧ Below W.heap.size W w') := fun W hW => by
    have h := hs.below hW
    have := choose_any s ls fls ups n W h.up h.ac h.fl h.ba h.bf h.wf hn1 hn2
    rw [hL, hc, hok] at this
    exact this
  have C2 : Hid (∀ W : World, Below w.heap.size w W → Calls Try.prog 51 #[sysV s, .int .i64 n] W fun e w' => e = .returned (.tuple #[.agg #[.string c.path, .int .i64 c.x, .int .i64 c.y], .bool ok]) ∧ Below W.heap.size W w') := fun W hW => by
    have h := hs.below hW
    have := chooseR_any s ls fls ups n W h.up h.ac h.fl h.ba h.bf h.wf hn1 hn2
    rw [hL, hc, hok] at this
    exact this
  have C3 := Lib.hid (fun (W : World) (hW : Below w.heap.size w W) => by
    have h := hs.below hW
    exact en53 s ls fls ups W h.up h.ac h.fl h.ba h.bf h.wf L hL)
  have C4 := Lib.hid (fun (W : World) (hW : Below w.heap.size w W) => by
    have h := hs.below hW
    exact en54 s ls fls ups W h.up h.ac h.fl h.ba h.bf h.wf L hL)
  have C0 := Lib.hid (fun (W : World) (hW : Below w.heap.size w W) => few_any s ls W (hs.below hW).ac)
  clear hL hel hl1 hl2 hs hc hok
  go_enter Try.func13, Try.ntmps13
  go_wp2_with fail
  refine (small20 _).mono ?_
  rintro e v1 ⟨rfl, h1⟩
  have z1 := h1.size
  try simp at z1
  have hB1 : Below w.heap.size w v1 := Below.call (w := w) (by repeat (first | (with_reducible exact Below.refl _ _) | (with_reducible assumption) | refine Below.setCell ?_ (by first | omega | (simp; omega) | (simp; done)) _ | refine Below.alloc ?_ (by first | omega | (simp; omega) | (simp; done)) _ | refine Below.drew ?_)) h1
  obtain ⟨k1_0, kc, kf⟩ := keepB h1 (w.heap.size) (by first | omega | (simp; omega) | (simp; done))
  have c1_0_0 : v1.cell? ⟨w.heap.size, 0, none⟩ = some (.slice s.up.a s.up.n s.up.c) := (kc 0).trans (by simp [go_sem, *])
  have f1_0_0 : v1.frozen? ⟨w.heap.size, 0, none⟩ = false := (kf 0).trans (by simp [go_sem, *])
  have c1_0_1 : v1.cell? ⟨w.heap.size, 1, none⟩ = some (.int .i64 s.moment) := (kc 1).trans (by simp [go_sem, *])
  have f1_0_1 : v1.frozen? ⟨w.heap.size, 1, none⟩ = false := (kf 1).trans (by simp [go_sem, *])
  have c1_0_2 : v1.cell? ⟨w.heap.size, 2, none⟩ = some (.int .i64 s.clock) := (kc 2).trans (by simp [go_sem, *])
  have f1_0_2 : v1.frozen? ⟨w.heap.size, 2, none⟩ = false := (kf 2).trans (by simp [go_sem, *])
  have c1_0_3 : v1.cell? ⟨w.heap.size, 3, none⟩ = some (.int .i64 s.seq) := (kc 3).trans (by simp [go_sem, *])
  have f1_0_3 : v1.frozen? ⟨w.heap.size, 3, none⟩ = false := (kf 3).trans (by simp [go_sem, *])
  have c1_0_4 : v1.cell? ⟨w.heap.size, 4, none⟩ = some (.slice s.actors.a s.actors.n s.actors.c) := (kc 4).trans (by simp [go_sem, *])
  have f1_0_4 : v1.frozen? ⟨w.heap.size, 4, none⟩ = false := (kf 4).trans (by simp [go_sem, *])
  have c1_0_5 : v1.cell? ⟨w.heap.size, 5, none⟩ = some (.slice s.flights.a s.flights.n s.flights.c) := (kc 5).trans (by simp [go_sem, *])
  have f1_0_5 : v1.frozen? ⟨w.heap.size, 5, none⟩ = false := (kf 5).trans (by simp [go_sem, *])
  have c1_0_6 : v1.cell? ⟨w.heap.size, 6, none⟩ = some (.slice s.alarms.a s.alarms.n s.alarms.c) := (kc 6).trans (by simp [go_sem, *])
  have f1_0_6 : v1.frozen? ⟨w.heap.size, 6, none⟩ = false := (kf 6).trans (by simp [go_sem, *])
  have c1_0_7 : v1.cell? ⟨w.heap.size, 7, none⟩ = some (.slice s.asked.a s.asked.n s.asked.c) := (kc 7).trans (by simp [go_sem, *])
  have f1_0_7 : v1.frozen? ⟨w.heap.size, 7, none⟩ = false := (kf 7).trans (by simp [go_sem, *])
  have c1_0_8 : v1.cell? ⟨w.heap.size, 8, none⟩ = some (.int .i64 s.dead) := (kc 8).trans (by simp [go_sem, *])
  have f1_0_8 : v1.frozen? ⟨w.heap.size, 8, none⟩ = false := (kf 8).trans (by simp [go_sem, *])
  clear kc kf
  go_wp2_with fail
  refine (C0.out _ (by repeat (first | (with_reducible exact Below.refl _ _) | (with_reducible assumption) | refine Below.setCell ?_ (by first | omega | (simp; omega) | (simp; done)) _ | refine Below.alloc ?_ (by first | omega | (simp; omega) | (simp; done)) _ | refine Below.drew ?_))).mono ?_
  rintro e v2 ⟨x, rfl, _, h2⟩
  have z2 := h2.size
  try simp at z2
  have hB2 : Below w.heap.size w v2 := Below.call (w := w) (by repeat (first | (with_reducible exact Below.refl _ _) | (with_reducible assumption) | refine Below.setCell ?_ (by first | omega | (simp; omega) | (simp; done)) _ | refine Below.alloc ?_ (by first | omega | (simp; omega) | (simp; done)) _ | refine Below.drew ?_)) h2
  obtain ⟨k2_0, kc, kf⟩ := keepB h2 (w.heap.size) (by first | omega | (simp; omega) | (simp; done))
  have c2_0_0 : v2.cell? ⟨w.heap.size, 0, none⟩ = some (.slice s.up.a s.up.n s.up.c) := (kc 0).trans (by simp [go_sem, *])
  have f2_0_0 : v2.frozen? ⟨w.heap.size, 0, none⟩ = false := (kf 0).trans (by simp [go_sem, *])
  have c2_0_1 : v2.cell? ⟨w.heap.size, 1, none⟩ = some (.int .i64 s.moment) := (kc 1).trans (by simp [go_sem, *])
  have f2_0_1 : v2.frozen? ⟨w.heap.size, 1, none⟩ = false := (kf 1).trans (by simp [go_sem, *])
  have c2_0_2 : v2.cell? ⟨w.heap.size, 2, none⟩ = some (.int .i64 s.clock) := (kc 2).trans (by simp [go_sem, *])
  have f2_0_2 : v2.frozen? ⟨w.heap.size, 2, none⟩ = false := (kf 2).trans (by simp [go_sem, *])
  have c2_0_3 : v2.cell? ⟨w.heap.size, 3, none⟩ = some (.int .i64 s.seq) := (kc 3).trans (by simp [go_sem, *])
  have f2_0_3 : v2.frozen? ⟨w.heap.size, 3, none⟩ = false := (kf 3).trans (by simp [go_sem, *])
  have c2_0_4 : v2.cell? ⟨w.heap.size, 4, none⟩ = some (.slice s.actors.a s.actors.n s.actors.c) := (kc 4).trans (by simp [go_sem, *])
  have f2_0_4 : v2.frozen? ⟨w.heap.size, 4, none⟩ = false := (kf 4).trans (by simp [go_sem, *])
  have c2_0_5 : v2.cell? ⟨w.heap.size, 5, none⟩ = some (.slice s.flights.a s.flights.n s.flights.c) := (kc 5).trans (by simp [go_sem, *])
  have f2_0_5 : v2.frozen? ⟨w.heap.size, 5, none⟩ = false := (kf 5).trans (by simp [go_sem, *])
  have c2_0_6 : v2.cell? ⟨w.heap.size, 6, none⟩ = some (.slice s.alarms.a s.alarms.n s.alarms.c) := (kc 6).trans (by simp [go_sem, *])
  have f2_0_6 : v2.frozen? ⟨w.heap.size, 6, none⟩ = false := (kf 6).trans (by simp [go_sem, *])
  have c2_0_7 : v2.cell? ⟨w.heap.size, 7, none⟩ = some (.slice s.asked.a s.asked.n s.asked.c) := (kc 7).trans (by simp [go_sem, *])
  have f2_0_7 : v2.frozen? ⟨w.heap.size, 7, none⟩ = false := (kf 7).trans (by simp [go_sem, *])
  have c2_0_8 : v2.cell? ⟨w.heap.size, 8, none⟩ = some (.int .i64 s.dead) := (kc 8).trans (by simp [go_sem, *])
  have f2_0_8 : v2.frozen? ⟨w.heap.size, 8, none⟩ = false := (kf 8).trans (by simp [go_sem, *])
  clear kc kf
  clear c1_0_0 f1_0_0 c1_0_1 f1_0_1 c1_0_2 f1_0_2 c1_0_3 f1_0_3 c1_0_4 f1_0_4 c1_0_5 f1_0_5 c1_0_6 f1_0_6 c1_0_7 f1_0_7 c1_0_8 f1_0_8
  cases x
  · go_wp2_with fail
    go_ret
    exact ⟨rfl, by with_reducible assumption⟩
  go_wp2_with fail
  refine (C1.out _ (by repeat (first | (with_reducible exact Below.refl _ _) | (with_reducible assumption) | refine Below.setCell ?_ (by first | omega | (simp; omega) | (simp; done)) _ | refine Below.alloc ?_ (by first | omega | (simp; omega) | (simp; done)) _ | refine Below.drew ?_))).mono ?_
  rintro e v3 ⟨rfl, h3⟩
  have z3 := h3.size
  try simp at z3
  have hB3 : Below w.heap.size w v3 := Below.call (w := w) (by repeat (first | (with_reducible exact Below.refl _ _) | (with_reducible assumption) | refine Below.setCell ?_ (by first | omega | (simp; omega) | (simp; done)) _ | refine Below.alloc ?_ (by first | omega | (simp; omega) | (simp; done)) _ | refine Below.drew ?_)) h3
  obtain ⟨k3_0, kc, kf⟩ := keepB h3 (w.heap.size) (by first | omega | (simp; omega) | (simp; done))
  have c3_0_0 : v3.cell? ⟨w.heap.size, 0, none⟩ = some (.slice s.up.a s.up.n s.up.c) := (kc 0).trans (by simp [go_sem, *])
  have f3_0_0 : v3.frozen? ⟨w.heap.size, 0, none⟩ = false := (kf 0).trans (by simp [go_sem, *])
  have c3_0_1 : v3.cell? ⟨w.heap.size, 1, none⟩ = some (.int .i64 s.moment) := (kc 1).trans (by simp [go_sem, *])
  have f3_0_1 : v3.frozen? ⟨w.heap.size, 1, none⟩ = false := (kf 1).trans (by simp [go_sem, *])
  have c3_0_2 : v3.cell? ⟨w.heap.size, 2, none⟩ = some (.int .i64 s.clock) := (kc 2).trans (by simp [go_sem, *])
  have f3_0_2 : v3.frozen? ⟨w.heap.size, 2, none⟩ = false := (kf 2).trans (by simp [go_sem, *])
  have c3_0_3 : v3.cell? ⟨w.heap.size, 3, none⟩ = some (.int .i64 s.seq) := (kc 3).trans (by simp [go_sem, *])
  have f3_0_3 : v3.frozen? ⟨w.heap.size, 3, none⟩ = false := (kf 3).trans (by simp [go_sem, *])
  have c3_0_4 : v3.cell? ⟨w.heap.size, 4, none⟩ = some (.slice s.actors.a s.actors.n s.actors.c) := (kc 4).trans (by simp [go_sem, *])
  have f3_0_4 : v3.frozen? ⟨w.heap.size, 4, none⟩ = false := (kf 4).trans (by simp [go_sem, *])
  have c3_0_5 : v3.cell? ⟨w.heap.size, 5, none⟩ = some (.slice s.flights.a s.flights.n s.flights.c) := (kc 5).trans (by simp [go_sem, *])
  have f3_0_5 : v3.frozen? ⟨w.heap.size, 5, none⟩ = false := (kf 5).trans (by simp [go_sem, *])
  have c3_0_6 : v3.cell? ⟨w.heap.size, 6, none⟩ = some (.slice s.alarms.a s.alarms.n s.alarms.c) := (kc 6).trans (by simp [go_sem, *])
  have f3_0_6 : v3.frozen? ⟨w.heap.size, 6, none⟩ = false := (kf 6).trans (by simp [go_sem, *])
  have c3_0_7 : v3.cell? ⟨w.heap.size, 7, none⟩ = some (.slice s.asked.a s.asked.n s.asked.c) := (kc 7).trans (by simp [go_sem, *])
  have f3_0_7 : v3.frozen? ⟨w.heap.size, 7, none⟩ = false := (kf 7).trans (by simp [go_sem, *])
  have c3_0_8 : v3.cell? ⟨w.heap.size, 8, none⟩ = some (.int .i64 s.dead) := (kc 8).trans (by simp [go_sem, *])
  have f3_0_8 : v3.frozen? ⟨w.heap.size, 8, none⟩ = false := (kf 8).trans (by simp [go_sem, *])
  clear kc kf
  clear c2_0_0 f2_0_0 c2_0_1 f2_0_1 c2_0_2 f2_0_2 c2_0_3 f2_0_3 c2_0_4 f2_0_4 c2_0_5 f2_0_5 c2_0_6 f2_0_6 c2_0_7 f2_0_7 c2_0_8 f2_0_8
  go_wp2_with fail
  refine (C2.out _ (by repeat (first | (with_reducible exact Below.refl _ _) | (with_reducible assumption) | refine Below.setCell ?_ (by first | omega | (simp; omega) | (simp; done)) _ | refine Below.alloc ?_ (by first | omega | (simp; omega) | (simp; done)) _ | refine Below.drew ?_))).mono ?_
  rintro e v4 ⟨rfl, h4⟩
  have z4 := h4.size
  try simp at z4
  have hB4 : Below w.heap.size w v4 := Below.call (w := w) (by repeat (first | (with_reducible exact Below.refl _ _) | (with_reducible assumption) | refine Below.setCell ?_ (by first | omega | (simp; omega) | (simp; done)) _ | refine Below.alloc ?_ (by first | omega | (simp; omega) | (simp; done)) _ | refine Below.drew ?_)) h4
  obtain ⟨k4_0, kc, kf⟩ := keepB h4 (w.heap.size) (by first | omega | (simp; omega) | (simp; done))
  have c4_0_0 : v4.cell? ⟨w.heap.size, 0, none⟩ = some (.slice s.up.a s.up.n s.up.c) := (kc 0).trans (by simp [go_sem, *])
  have f4_0_0 : v4.frozen? ⟨w.heap.size, 0, none⟩ = false := (kf 0).trans (by simp [go_sem, *])
  have c4_0_1 : v4.cell? ⟨w.heap.size, 1, none⟩ = some (.int .i64 s.moment) := (kc 1).trans (by simp [go_sem, *])
  have f4_0_1 : v4.frozen? ⟨w.heap.size, 1, none⟩ = false := (kf 1).trans (by simp [go_sem, *])
  have c4_0_2 : v4.cell? ⟨w.heap.size, 2, none⟩ = some (.int .i64 s.clock) := (kc 2).trans (by simp [go_sem, *])
  have f4_0_2 : v4.frozen? ⟨w.heap.size, 2, none⟩ = false := (kf 2).trans (by simp [go_sem, *])
  have c4_0_3 : v4.cell? ⟨w.heap.size, 3, none⟩ = some (.int .i64 s.seq) := (kc 3).trans (by simp [go_sem, *])
  have f4_0_3 : v4.frozen? ⟨w.heap.size, 3, none⟩ = false := (kf 3).trans (by simp [go_sem, *])
  have c4_0_4 : v4.cell? ⟨w.heap.size, 4, none⟩ = some (.slice s.actors.a s.actors.n s.actors.c) := (kc 4).trans (by simp [go_sem, *])
  have f4_0_4 : v4.frozen? ⟨w.heap.size, 4, none⟩ = false := (kf 4).trans (by simp [go_sem, *])
  have c4_0_5 : v4.cell? ⟨w.heap.size, 5, none⟩ = some (.slice s.flights.a s.flights.n s.flights.c) := (kc 5).trans (by simp [go_sem, *])
  have f4_0_5 : v4.frozen? ⟨w.heap.size, 5, none⟩ = false := (kf 5).trans (by simp [go_sem, *])
  have c4_0_6 : v4.cell? ⟨w.heap.size, 6, none⟩ = some (.slice s.alarms.a s.alarms.n s.alarms.c) := (kc 6).trans (by simp [go_sem, *])
  have f4_0_6 : v4.frozen? ⟨w.heap.size, 6, none⟩ = false := (kf 6).trans (by simp [go_sem, *])
  have c4_0_7 : v4.cell? ⟨w.heap.size, 7, none⟩ = some (.slice s.asked.a s.asked.n s.asked.c) := (kc 7).trans (by simp [go_sem, *])
  have f4_0_7 : v4.frozen? ⟨w.heap.size, 7, none⟩ = false := (kf 7).trans (by simp [go_sem, *])
  have c4_0_8 : v4.cell? ⟨w.heap.size, 8, none⟩ = some (.int .i64 s.dead) := (kc 8).trans (by simp [go_sem, *])
  have f4_0_8 : v4.frozen? ⟨w.heap.size, 8, none⟩ = false := (kf 8).trans (by simp [go_sem, *])
  clear kc kf
  obtain ⟨k4_1, kc, kf⟩ := keepB h4 (v3.heap.size) (by first | omega | (simp; omega) | (simp; done))
  have c4_1_0 : v4.cell? ⟨v3.heap.size, 0, none⟩ = some (.string c.path) := (kc 0).trans (by simp [go_sem, *])
  have f4_1_0 : v4.frozen? ⟨v3.heap.size, 0, none⟩ = false := (kf 0).trans (by simp [go_sem, *])
  have c4_1_1 : v4.cell? ⟨v3.heap.size, 1, none⟩ = some (.int .i64 c.x) := (kc 1).trans (by simp [go_sem, *])
  have f4_1_1 : v4.frozen? ⟨v3.heap.size, 1, none⟩ = false := (kf 1).trans (by simp [go_sem, *])
  have c4_1_2 : v4.cell? ⟨v3.heap.size, 2, none⟩ = some (.int .i64 c.y) := (kc 2).trans (by simp [go_sem, *])
  have f4_1_2 : v4.frozen? ⟨v3.heap.size, 2, none⟩ = false := (kf 2).trans (by simp [go_sem, *])
  clear kc kf
  clear c3_0_0 f3_0_0 c3_0_1 f3_0_1 c3_0_2 f3_0_2 c3_0_3 f3_0_3 c3_0_4 f3_0_4 c3_0_5 f3_0_5 c3_0_6 f3_0_6 c3_0_7 f3_0_7 c3_0_8 f3_0_8
  go_wp2_with fail
  go_region_held3 (fun w' => w'.cell? ⟨w.heap.size, 0, none⟩ = some (.slice s.up.a s.up.n s.up.c) ∧ w'.cell? ⟨w.heap.size, 1, none⟩ = some (.int .i64 s.moment) ∧ w'.cell? ⟨w.heap.size, 2, none⟩ = some (.int .i64 s.clock) ∧ w'.cell? ⟨w.heap.size, 3, none⟩ = some (.int .i64 s.seq) ∧ w'.cell? ⟨w.heap.size, 4, none⟩ = some (.slice s.actors.a s.actors.n s.actors.c) ∧ w'.cell? ⟨w.heap.size, 5, none⟩ = some (.slice s.flights.a s.flights.n s.flights.c) ∧ w'.cell? ⟨w.heap.size, 6, none⟩ = some (.slice s.alarms.a s.alarms.n s.alarms.c) ∧ w'.cell? ⟨w.heap.size, 7, none⟩ = some (.slice s.asked.a s.asked.n s.asked.c) ∧ w'.cell? ⟨w.heap.size, 8, none⟩ = some (.int .i64 s.dead) ∧ w'.cell? ⟨v3.heap.size, 0, none⟩ = some (.string c.path) ∧ w'.cell? ⟨v3.heap.size, 1, none⟩ = some (.int .i64 c.x) ∧ w'.cell? ⟨v3.heap.size, 2, none⟩ = some (.int .i64 c.y) ∧ w'.cell? ⟨v4.heap.size, 0, none⟩ = some (.string c.path) ∧ w'.cell? ⟨v4.heap.size, 1, none⟩ = some (.int .i64 c.x) ∧ w'.cell? ⟨v4.heap.size, 2, none⟩ = some (.int .i64 c.y)) (simp [go_sem, *])
    (first
    | (go_at_call 53; refine (C3.out _ (by repeat (first | (with_reducible exact Below.refl _ _) | (with_reducible assumption) | refine Below.setCell ?_ (by first | omega | (simp; omega) | (simp; done)) _ | refine Below.alloc ?_ (by first | omega | (simp; omega) | (simp; done)) _ | refine Below.drew ?_))).mono ?_; rintro e v5 ⟨l1, rfl, hr1, h5⟩; have HR1 := Lib.hid hr1; clear hr1; have z5 := h5.size; (try simp at z5); have hB5 : Below w.heap.size w v5 := Below.call (w := w) (by repeat (first | (with_reducible exact Below.refl _ _) | (with_reducible assumption) | refine Below.setCell ?_ (by first | omega | (simp; omega) | (simp; done)) _ | refine Below.alloc ?_ (by first | omega | (simp; omega) | (simp; done)) _ | refine Below.drew ?_)) h5; obtain ⟨k5_0, kc, kf⟩ := keepB h5 (w.heap.size) (by first | omega | (simp; omega) | (simp; done)); have c5_0_0 : v5.cell? ⟨w.heap.size, 0, none⟩ = some (.slice s.up.a s.up.n s.up.c) := (kc 0).trans (by simp [go_sem, *]); have f5_0_0 : v5.frozen? ⟨w.heap.size, 0, none⟩ = false := (kf 0).trans (by simp [go_sem, *]); have c5_0_1 : v5.cell? ⟨w.heap.size, 1, none⟩ = some (.int .i64 s.moment) := (kc 1).trans (by simp [go_sem, *]); have f5_0_1 : v5.frozen? ⟨w.heap.size, 1, none⟩ = false := (kf 1).trans (by simp [go_sem, *]); have c5_0_2 : v5.cell? ⟨w.heap.size, 2, none⟩ = some (.int .i64 s.clock) := (kc 2).trans (by simp [go_sem, *]); have f5_0_2 : v5.frozen? ⟨w.heap.size, 2, none⟩ = false := (kf 2).trans (by simp [go_sem, *]); have c5_0_3 : v5.cell? ⟨w.heap.size, 3, none⟩ = some (.int .i64 s.seq) := (kc 3).trans (by simp [go_sem, *]); have f5_0_3 : v5.frozen? ⟨w.heap.size, 3, none⟩ = false := (kf 3).trans (by simp [go_sem, *]); have c5_0_4 : v5.cell? ⟨w.heap.size, 4, none⟩ = some (.slice s.actors.a s.actors.n s.actors.c) := (kc 4).trans (by simp [go_sem, *]); have f5_0_4 : v5.frozen? ⟨w.heap.size, 4, none⟩ = false := (kf 4).trans (by simp [go_sem, *]); have c5_0_5 : v5.cell? ⟨w.heap.size, 5, none⟩ = some (.slice s.flights.a s.flights.n s.flights.c) := (kc 5).trans (by simp [go_sem, *]); have f5_0_5 : v5.frozen? ⟨w.heap.size, 5, none⟩ = false := (kf 5).trans (by simp [go_sem, *]); have c5_0_6 : v5.cell? ⟨w.heap.size, 6, none⟩ = some (.slice s.alarms.a s.alarms.n s.alarms.c) := (kc 6).trans (by simp [go_sem, *]); have f5_0_6 : v5.frozen? ⟨w.heap.size, 6, none⟩ = false := (kf 6).trans (by simp [go_sem, *]); have c5_0_7 : v5.cell? ⟨w.heap.size, 7, none⟩ = some (.slice s.asked.a s.asked.n s.asked.c) := (kc 7).trans (by simp [go_sem, *]); have f5_0_7 : v5.frozen? ⟨w.heap.size, 7, none⟩ = false := (kf 7).trans (by simp [go_sem, *]); have c5_0_8 : v5.cell? ⟨w.heap.size, 8, none⟩ = some (.int .i64 s.dead) := (kc 8).trans (by simp [go_sem, *]); have f5_0_8 : v5.frozen? ⟨w.heap.size, 8, none⟩ = false := (kf 8).trans (by simp [go_sem, *]); clear kc kf; obtain ⟨k5_1, kc, kf⟩ := keepB h5 (v3.heap.size) (by first | omega | (simp; omega) | (simp; done)); have c5_1_0 : v5.cell? ⟨v3.heap.size, 0, none⟩ = some (.string c.path) := (kc 0).trans (by simp [go_sem, *]); have f5_1_0 : v5.frozen? ⟨v3.heap.size, 0, none⟩ = false := (kf 0).trans (by simp [go_sem, *]); have c5_1_1 : v5.cell? ⟨v3.heap.size, 1, none⟩ = some (.int .i64 c.x) := (kc 1).trans (by simp [go_sem, *]); have f5_1_1 : v5.frozen? ⟨v3.heap.size, 1, none⟩ = false := (kf 1).trans (by simp [go_sem, *]); have c5_1_2 : v5.cell? ⟨v3.heap.size, 2, none⟩ = some (.int .i64 c.y) := (kc 2).trans (by simp [go_sem, *]); have f5_1_2 : v5.frozen? ⟨v3.heap.size, 2, none⟩ = false := (kf 2).trans (by simp [go_sem, *]); clear kc kf; obtain ⟨k5_2, kc, kf⟩ := keepB h5 (v4.heap.size) (by first | omega | (simp; omega) | (simp; done)); have c5_2_0 : v5.cell? ⟨v4.heap.size, 0, none⟩ = some (.string c.path) := (kc 0).trans (by simp [go_sem, *]); have f5_2_0 : v5.frozen? ⟨v4.heap.size, 0, none⟩ = false := (kf 0).trans (by simp [go_sem, *]); have c5_2_1 : v5.cell? ⟨v4.heap.size, 1, none⟩ = some (.int .i64 c.x) := (kc 1).trans (by simp [go_sem, *]); have f5_2_1 : v5.frozen? ⟨v4.heap.size, 1, none⟩ = false := (kf 1).trans (by simp [go_sem, *]); have c5_2_2 : v5.cell? ⟨v4.heap.size, 2, none⟩ = some (.int .i64 c.y) := (kc 2).trans (by simp [go_sem, *]); have f5_2_2 : v5.frozen? ⟨v4.heap.size, 2, none⟩ = false := (kf 2).trans (by simp [go_sem, *]); clear kc kf; clear c4_0_0 f4_0_0 c4_0_1 f4_0_1 c4_0_2 f4_0_2 c4_0_3 f4_0_3 c4_0_4 f4_0_4 c4_0_5 f4_0_5 c4_0_6 f4_0_6 c4_0_7 f4_0_7 c4_0_8 f4_0_8 c4_1_0 f4_1_0 c4_1_1 f4_1_1 c4_1_2 f4_1_2)
    | (go_at_call 54; refine (C4.out _ (by repeat (first | (with_reducible exact Below.refl _ _) | (with_reducible assumption) | refine Below.setCell ?_ (by first | omega | (simp; omega) | (simp; done)) _ | refine Below.alloc ?_ (by first | omega | (simp; omega) | (simp; done)) _ | refine Below.drew ?_))).mono ?_; rintro e v6 ⟨l2, rfl, hr2, h6⟩; have HR2 := Lib.hid hr2; clear hr2; have z6 := h6.size; (try simp at z6); have hB6 : Below w.heap.size w v6 := Below.call (w := w) (by repeat (first | (with_reducible exact Below.refl _ _) | (with_reducible assumption) | refine Below.setCell ?_ (by first | omega | (simp; omega) | (simp; done)) _ | refine Below.alloc ?_ (by first | omega | (simp; omega) | (simp; done)) _ | refine Below.drew ?_)) h6; obtain ⟨k6_0, kc, kf⟩ := keepB h6 (w.heap.size) (by first | omega | (simp; omega) | (simp; done)); have c6_0_0 : v6.cell? ⟨w.heap.size, 0, none⟩ = some (.slice s.up.a s.up.n s.up.c) := (kc 0).trans (by simp [go_sem, *]); have f6_0_0 : v6.frozen? ⟨w.heap.size, 0, none⟩ = false := (kf 0).trans (by simp [go_sem, *]); have c6_0_1 : v6.cell? ⟨w.heap.size, 1, none⟩ = some (.int .i64 s.moment) := (kc 1).trans (by simp [go_sem, *]); have f6_0_1 : v6.frozen? ⟨w.heap.size, 1, none⟩ = false := (kf 1).trans (by simp [go_sem, *]); have c6_0_2 : v6.cell? ⟨w.heap.size, 2, none⟩ = some (.int .i64 s.clock) := (kc 2).trans (by simp [go_sem, *]); have f6_0_2 : v6.frozen? ⟨w.heap.size, 2, none⟩ = false := (kf 2).trans (by simp [go_sem, *]); have c6_0_3 : v6.cell? ⟨w.heap.size, 3, none⟩ = some (.int .i64 s.seq) := (kc 3).trans (by simp [go_sem, *]); have f6_0_3 : v6.frozen? ⟨w.heap.size, 3, none⟩ = false := (kf 3).trans (by simp [go_sem, *]); have c6_0_4 : v6.cell? ⟨w.heap.size, 4, none⟩ = some (.slice s.actors.a s.actors.n s.actors.c) := (kc 4).trans (by simp [go_sem, *]); have f6_0_4 : v6.frozen? ⟨w.heap.size, 4, none⟩ = false := (kf 4).trans (by simp [go_sem, *]); have c6_0_5 : v6.cell? ⟨w.heap.size, 5, none⟩ = some (.slice s.flights.a s.flights.n s.flights.c) := (kc 5).trans (by simp [go_sem, *]); have f6_0_5 : v6.frozen? ⟨w.heap.size, 5, none⟩ = false := (kf 5).trans (by simp [go_sem, *]); have c6_0_6 : v6.cell? ⟨w.heap.size, 6, none⟩ = some (.slice s.alarms.a s.alarms.n s.alarms.c) := (kc 6).trans (by simp [go_sem, *]); have f6_0_6 : v6.frozen? ⟨w.heap.size, 6, none⟩ = false := (kf 6).trans (by simp [go_sem, *]); have c6_0_7 : v6.cell? ⟨w.heap.size, 7, none⟩ = some (.slice s.asked.a s.asked.n s.asked.c) := (kc 7).trans (by simp [go_sem, *]); have f6_0_7 : v6.frozen? ⟨w.heap.size, 7, none⟩ = false := (kf 7).trans (by simp [go_sem, *]); have c6_0_8 : v6.cell? ⟨w.heap.size, 8, none⟩ = some (.int .i64 s.dead) := (kc 8).trans (by simp [go_sem, *]); have f6_0_8 : v6.frozen? ⟨w.heap.size, 8, none⟩ = false := (kf 8).trans (by simp [go_sem, *]); clear kc kf; obtain ⟨k6_1, kc, kf⟩ := keepB h6 (v3.heap.size) (by first | omega | (simp; omega) | (simp; done)); have c6_1_0 : v6.cell? ⟨v3.heap.size, 0, none⟩ = some (.string c.path) := (kc 0).trans (by simp [go_sem, *]); have f6_1_0 : v6.frozen? ⟨v3.heap.size, 0, none⟩ = false := (kf 0).trans (by simp [go_sem, *]); have c6_1_1 : v6.cell? ⟨v3.heap.size, 1, none⟩ = some (.int .i64 c.x) := (kc 1).trans (by simp [go_sem, *]); have f6_1_1 : v6.frozen? ⟨v3.heap.size, 1, none⟩ = false := (kf 1).trans (by simp [go_sem, *]); have c6_1_2 : v6.cell? ⟨v3.heap.size, 2, none⟩ = some (.int .i64 c.y) := (kc 2).trans (by simp [go_sem, *]); have f6_1_2 : v6.frozen? ⟨v3.heap.size, 2, none⟩ = false := (kf 2).trans (by simp [go_sem, *]); clear kc kf; obtain ⟨k6_2, kc, kf⟩ := keepB h6 (v4.heap.size) (by first | omega | (simp; omega) | (simp; done)); have c6_2_0 : v6.cell? ⟨v4.heap.size, 0, none⟩ = some (.string c.path) := (kc 0).trans (by simp [go_sem, *]); have f6_2_0 : v6.frozen? ⟨v4.heap.size, 0, none⟩ = false := (kf 0).trans (by simp [go_sem, *]); have c6_2_1 : v6.cell? ⟨v4.heap.size, 1, none⟩ = some (.int .i64 c.x) := (kc 1).trans (by simp [go_sem, *]); have f6_2_1 : v6.frozen? ⟨v4.heap.size, 1, none⟩ = false := (kf 1).trans (by simp [go_sem, *]); have c6_2_2 : v6.cell? ⟨v4.heap.size, 2, none⟩ = some (.int .i64 c.y) := (kc 2).trans (by simp [go_sem, *]); have f6_2_2 : v6.frozen? ⟨v4.heap.size, 2, none⟩ = false := (kf 2).trans (by simp [go_sem, *]); clear kc kf; clear c5_0_0 f5_0_0 c5_0_1 f5_0_1 c5_0_2 f5_0_2 c5_0_3 f5_0_3 c5_0_4 f5_0_4 c5_0_5 f5_0_5 c5_0_6 f5_0_6 c5_0_7 f5_0_7 c5_0_8 f5_0_8 c5_1_0 f5_1_0 c5_1_1 f5_1_1 c5_1_2 f5_1_2 c5_2_0 f5_2_0 c5_2_1 f5_2_1 c5_2_2 f5_2_2)
    | (go_at_call 52; refine (sameA_true _ _ _ _ L _ ((HR1.out.below h6 (Nat.le_refl _)).more (by omega)) HR2.out hll).mono ?_; rintro e v7 ⟨rfl, h7⟩; have z7 := h7.size; (try simp at z7); have hB7 : Below w.heap.size w v7 := Below.call (w := w) (by repeat (first | (with_reducible exact Below.refl _ _) | (with_reducible assumption) | refine Below.setCell ?_ (by first | omega | (simp; omega) | (simp; done)) _ | refine Below.alloc ?_ (by first | omega | (simp; omega) | (simp; done)) _ | refine Below.drew ?_)) h7; obtain ⟨k7_0, kc, kf⟩ := keepB h7 (w.heap.size) (by first | omega | (simp; omega) | (simp; done)); have c7_0_0 : v7.cell? ⟨w.heap.size, 0, none⟩ = some (.slice s.up.a s.up.n s.up.c) := (kc 0).trans (by simp [go_sem, *]); have f7_0_0 : v7.frozen? ⟨w.heap.size, 0, none⟩ = false := (kf 0).trans (by simp [go_sem, *]); have c7_0_1 : v7.cell? ⟨w.heap.size, 1, none⟩ = some (.int .i64 s.moment) := (kc 1).trans (by simp [go_sem, *]); have f7_0_1 : v7.frozen? ⟨w.heap.size, 1, none⟩ = false := (kf 1).trans (by simp [go_sem, *]); have c7_0_2 : v7.cell? ⟨w.heap.size, 2, none⟩ = some (.int .i64 s.clock) := (kc 2).trans (by simp [go_sem, *]); have f7_0_2 : v7.frozen? ⟨w.heap.size, 2, none⟩ = false := (kf 2).trans (by simp [go_sem, *]); have c7_0_3 : v7.cell? ⟨w.heap.size, 3, none⟩ = some (.int .i64 s.seq) := (kc 3).trans (by simp [go_sem, *]); have f7_0_3 : v7.frozen? ⟨w.heap.size, 3, none⟩ = false := (kf 3).trans (by simp [go_sem, *]); have c7_0_4 : v7.cell? ⟨w.heap.size, 4, none⟩ = some (.slice s.actors.a s.actors.n s.actors.c) := (kc 4).trans (by simp [go_sem, *]); have f7_0_4 : v7.frozen? ⟨w.heap.size, 4, none⟩ = false := (kf 4).trans (by simp [go_sem, *]); have c7_0_5 : v7.cell? ⟨w.heap.size, 5, none⟩ = some (.slice s.flights.a s.flights.n s.flights.c) := (kc 5).trans (by simp [go_sem, *]); have f7_0_5 : v7.frozen? ⟨w.heap.size, 5, none⟩ = false := (kf 5).trans (by simp [go_sem, *]); have c7_0_6 : v7.cell? ⟨w.heap.size, 6, none⟩ = some (.slice s.alarms.a s.alarms.n s.alarms.c) := (kc 6).trans (by simp [go_sem, *]); have f7_0_6 : v7.frozen? ⟨w.heap.size, 6, none⟩ = false := (kf 6).trans (by simp [go_sem, *]); have c7_0_7 : v7.cell? ⟨w.heap.size, 7, none⟩ = some (.slice s.asked.a s.asked.n s.asked.c) := (kc 7).trans (by simp [go_sem, *]); have f7_0_7 : v7.frozen? ⟨w.heap.size, 7, none⟩ = false := (kf 7).trans (by simp [go_sem, *]); have c7_0_8 : v7.cell? ⟨w.heap.size, 8, none⟩ = some (.int .i64 s.dead) := (kc 8).trans (by simp [go_sem, *]); have f7_0_8 : v7.frozen? ⟨w.heap.size, 8, none⟩ = false := (kf 8).trans (by simp [go_sem, *]); clear kc kf; obtain ⟨k7_1, kc, kf⟩ := keepB h7 (v3.heap.size) (by first | omega | (simp; omega) | (simp; done)); have c7_1_0 : v7.cell? ⟨v3.heap.size, 0, none⟩ = some (.string c.path) := (kc 0).trans (by simp [go_sem, *]); have f7_1_0 : v7.frozen? ⟨v3.heap.size, 0, none⟩ = false := (kf 0).trans (by simp [go_sem, *]); have c7_1_1 : v7.cell? ⟨v3.heap.size, 1, none⟩ = some (.int .i64 c.x) := (kc 1).trans (by simp [go_sem, *]); have f7_1_1 : v7.frozen? ⟨v3.heap.size, 1, none⟩ = false := (kf 1).trans (by simp [go_sem, *]); have c7_1_2 : v7.cell? ⟨v3.heap.size, 2, none⟩ = some (.int .i64 c.y) := (kc 2).trans (by simp [go_sem, *]); have f7_1_2 : v7.frozen? ⟨v3.heap.size, 2, none⟩ = false := (kf 2).trans (by simp [go_sem, *]); clear kc kf; obtain ⟨k7_2, kc, kf⟩ := keepB h7 (v4.heap.size) (by first | omega | (simp; omega) | (simp; done)); have c7_2_0 : v7.cell? ⟨v4.heap.size, 0, none⟩ = some (.string c.path) := (kc 0).trans (by simp [go_sem, *]); have f7_2_0 : v7.frozen? ⟨v4.heap.size, 0, none⟩ = false := (kf 0).trans (by simp [go_sem, *]); have c7_2_1 : v7.cell? ⟨v4.heap.size, 1, none⟩ = some (.int .i64 c.x) := (kc 1).trans (by simp [go_sem, *]); have f7_2_1 : v7.frozen? ⟨v4.heap.size, 1, none⟩ = false := (kf 1).trans (by simp [go_sem, *]); have c7_2_2 : v7.cell? ⟨v4.heap.size, 2, none⟩ = some (.int .i64 c.y) := (kc 2).trans (by simp [go_sem, *]); have f7_2_2 : v7.frozen? ⟨v4.heap.size, 2, none⟩ = false := (kf 2).trans (by simp [go_sem, *]); clear kc kf; clear c6_0_0 f6_0_0 c6_0_1 f6_0_1 c6_0_2 f6_0_2 c6_0_3 f6_0_3 c6_0_4 f6_0_4 c6_0_5 f6_0_5 c6_0_6 f6_0_6 c6_0_7 f6_0_7 c6_0_8 f6_0_8 c6_1_0 f6_1_0 c6_1_1 f6_1_1 c6_1_2 f6_1_2 c6_2_0 f6_2_0 c6_2_1 f6_2_1 c6_2_2 f6_2_2))
  go_wp2_with fail
  go_ret
  exact ⟨rfl, by with_reducible assumption⟩
end Go.Proofs.Ytjdjfjokniingaa
