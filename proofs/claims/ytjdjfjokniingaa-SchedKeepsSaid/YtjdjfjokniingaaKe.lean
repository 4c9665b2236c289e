/- The walk of SchedKeeps. -/
import Derived.Test.YtjdjfjokniingaaOd
import Derived.Test.YtjdjfjokniingaaSy
import Derived.Test.YtjdjfjokniingaaSp
import Derived.Test.YtjdjfjokniingaaAp2
namespace Go.Proofs.Ytjdjfjokniingaa
open Go.RowKit

theorem Rd.set_other {w : World} {B k n : Nat} {A : Option Addr} {xs : List Value} (h : Rd w B k A n xs) (p : Addr) (v : Value) (hne : ∀ q, A = some q → q.block ≠ p.block) : Rd (w.setCell p v) B k A n xs := by
  refine ⟨h.1, fun hn => ?_⟩
  obtain ⟨b, off, e, hb, hc⟩ := h.2 hn
  refine ⟨b, off, e, hb, fun j u hu => ?_⟩
  have h1 : b ≠ p.block := hne _ e
  rw [World.cell?_of_block (w := w) (w' := w.setCell p v) (a := ⟨b, off + j, none⟩) (by simp [World.setCell, Array.getElem?_modify, h1.symm])]
  exact hc j u hu
theorem Rd.set_up {w : World} {k n : Nat} {A : Option Addr} {xs : List Value} (h : Rd w w.heap.size k A n xs) (p : Addr) (v : Value) (hne : ∀ q, A = some q → q.block ≠ p.block) : Rd (w.setCell p v) (w.setCell p v).heap.size k A n xs := (h.set_other p v hne).more (by simp)
theorem live_one (ls : List LiveC) : ∀ u ∈ ls.flatMap liveL, u.oneCell' = true := by
  intro u hu
  obtain ⟨a, _, h⟩ := List.mem_flatMap.1 hu
  simp at h
  rcases h with rfl | rfl | rfl | rfl | rfl | rfl | rfl | rfl | rfl <;> rfl
theorem fly_one (ls : List FlyC) : ∀ u ∈ ls.flatMap flyL, u.oneCell' = true := by
  intro u hu
  obtain ⟨a, _, h⟩ := List.mem_flatMap.1 hu
  simp at h
  rcases h with rfl | rfl | rfl | rfl | rfl | rfl | rfl <;> rfl
theorem info76 : (Try.prog.info? 76).map (fun i => (i.zero, i.size, i.bytes)) = some (some (.agg #[.string ⟨#[]⟩, .string ⟨#[]⟩, .int .i64 0, .slice none 0 0, .slice none 0 0, .int .i64 0, .int .i64 0, .bool false, .slice none 0 0]), 9, 136) := by kernel_rfl
theorem info66 : (Try.prog.info? 66).map (fun i => (i.zero, i.size, i.bytes)) = some (some (.agg #[.int .i64 0, .int .i64 0, .string ⟨#[]⟩, .string ⟨#[]⟩, .string ⟨#[]⟩, .slice none 0 0, .int .i64 0]), 7, 96) := by kernel_rfl

/-- Same of a state and a state with the same rows elsewhere -/
theorem same_self (s : SysC) (u v : Sl) (ups : List Bool) (ls : List LiveC) (fls als : List FlyC) (rs : List ReqC) (w : World) (h : SysD w s ups ls fls als rs) (hu : Rd w w.heap.size 9 u.a s.actors.n (ls.flatMap liveL)) (hv : Rd w w.heap.size 7 v.a s.flights.n (fls.flatMap flyL)) :
    Calls Try.prog 26 #[sysV s, .agg #[.slice s.up.a s.up.n s.up.c, .int .i64 s.moment, .int .i64 s.clock, .int .i64 s.seq, .slice u.a s.actors.n u.c, .slice v.a s.flights.n v.c, .slice s.alarms.a s.alarms.n s.alarms.c, .slice s.asked.a s.asked.n s.asked.c, .int .i64 s.dead]] w fun e w' => e = .returned (.bool true) ∧ Below w.heap.size w w' := by
  refine same_raw _ _ _ _ _ _ _ _ _ _ _ _ _ _ _ _ _ _ _ _ _ _ _ _ _ _ _ _ _ ups ls ls fls fls als als rs rs w h.up h.up h.ac hu h.fl hv h.al h.al h.rq h.rq h.nu h.na h.nf h.nl h.nr ?_ ?_ ?_ ?_
  · intro k x y hx hy; rw [hx] at hy; cases hy; exact (h.da x (List.mem_of_getElem? hx)).self
  · intro k x y hx hy; rw [hx] at hy; cases hy; exact (h.df x (List.mem_of_getElem? hx)).self
  · intro k x y hx hy; rw [hx] at hy; cases hy; exact (h.dl x (List.mem_of_getElem? hx)).self
  · intro k x y hx hy; rw [hx] at hy; cases hy; exact (h.dr x (List.mem_of_getElem? hx)).self

theorem en53o (s : SysC) (ls : List LiveC) (fls : List FlyC) (ups : List Bool) (w : World) (h : SysAt s ls fls ups w) (L : List ActnC) (hL : Sy.enabled ups ls (fls.map chOf) = L) :
    Calls Try.prog 53 #[sysV s] w fun e w' => ∃ v : Sl, e = .returned (.slice v.a L.length v.c) ∧ (Rd w' w'.heap.size 3 v.a L.length (L.flatMap actnL) ∧ ∀ p, v.a = some p → w.heap.size ≤ p.block) ∧ Below w.heap.size w w' := by
  have := enabled_own s ls fls ups w h.up h.ac h.fl h.ba h.bf h.wf
  rw [hL] at this
  refine this.mono fun e w' ⟨v, he, hv, hb, hp⟩ => ?_
  have hn : v.n = L.length := (hv.len (fun _ => rfl) (by omega)).symm
  rw [hn] at he hv
  exact ⟨v, he, ⟨hv, hp⟩, hb⟩

set_option maxRecDepth 100000 in
set_option maxHeartbeats 8000000 in
theorem keeps_walk (s t : SysC) (ups : List Bool) (ls : List LiveC) (fls als : List FlyC) (rs : List ReqC) (w : World) (hs : SysD w s ups ls fls als rs) :
    Calls Try.prog 15 #[sysV s, sysV t] w fun e w' => e = .returned (.bool true) ∧ Below w.heap.size w w' := by
  obtain ⟨L, hL⟩ : ∃ L, Sy.enabled ups ls (fls.map chOf) = L := ⟨_, rfl⟩
  have hwf : ∀ f ∈ fls, (Lit.int .i64 f.x).wf = true ∧ (Lit.int .i64 f.y).wf = true := fun f hf => by
    have h1 := (hs.df f hf).x
    have h2 := (hs.df f hf).y
    simp [WfI] at h1 h2
    have hm : IntKind.i64.min = -9223372036854775808 := by decide
    have hx : IntKind.i64.max = 9223372036854775807 := by decide
    constructor <;> simp [Lit.wf, hm] <;> omega
  have hat : ∀ (W : World) (q : SysC), Below w.heap.size w W → q.up = s.up → q.actors = s.actors → q.flights = s.flights → s.actors.n ≤ 100 → s.flights.n ≤ 100 → SysAt q ls fls ups W := fun W q hW h1 h2 h3 h4 h5 => by
    have h := hs.below hW
    refine ⟨by rw [h1]; exact h.up, by rw [h2]; exact h.ac, by rw [h3]; exact h.fl, by rw [h2]; omega, by rw [h3]; omega, hwf⟩
  have C0 := Lib.hid (fun (W : World) (hW : Below w.heap.size w W) => few_any s ls W (hs.below hW).ac)
  have C3 := Lib.hid (fun (W : World) (hW : Below w.heap.size w W) (h1 : s.actors.n ≤ 100) (h2 : s.flights.n ≤ 100) => en53o s ls fls ups W (hat W s hW rfl rfl rfl h1 h2) L hL)
  have C4 := Lib.hid (fun (W : World) (hW : Below w.heap.size w W) (h1 : s.actors.n ≤ 100) (h2 : s.flights.n ≤ 100) => en53o ⟨s.up, t.moment, t.clock, t.seq, s.actors, s.flights, t.alarms, t.asked, t.dead⟩ ls fls ups W (hat W _ hW rfl rfl rfl h1 h2) L hL)
  have C6 := Lib.hid (fun (W : World) (hW : Below w.heap.size w W) (u v : Sl) (hu : Rd W W.heap.size 9 u.a s.actors.n (ls.flatMap liveL)) (hv : Rd W W.heap.size 7 v.a s.flights.n (fls.flatMap flyL)) => same_self s u v ups ls fls als rs W (hs.below hW) hu hv)
  have HLL : Hid (s.actors.n ≤ 100 → s.flights.n ≤ 100 → L.length ≤ 281474976710656) := fun h1 h2 => by
    have hel := Sy.enabled_len ups ls (fls.map chOf)
    have hl1 := hs.ac.len (fun _ => rfl) (by omega)
    have hl2 := hs.fl.len (fun _ => rfl) (by omega)
    rw [hL] at hel; simp at hel; omega
  have HA := Lib.hid hs.ac
  have HF := Lib.hid hs.fl
  clear hL hs hat hwf
  obtain ⟨i7, hi7, hz70, hz71, hz72⟩ := info_parts info76
  obtain ⟨i6, hi6, hz60, hz61, hz62⟩ := info_parts info66
  go_enter Try.func15, Try.ntmps15
  go_wp2_with fail
  refine (small20 _).mono ?_
  rintro e v1 ⟨rfl, h1⟩
  have z1 := h1.size
  try simp at z1
  have hB1 : Below w.heap.size w v1 := Below.call (w := w) (by repeat (first | (with_reducible exact Below.refl _ _) | (with_reducible assumption) | refine Below.setCell ?_ (by first | omega | (simp; omega) | (simp; done)) _ | refine Below.alloc ?_ (by first | omega | (simp; omega) | (simp; done)) _ | refine Below.drew ?_)) h1
  obtain ⟨k1_0, kc, kf⟩ := keepB h1 (w.heap.size) (by first | omega | (simp; omega) | (simp; done))
  have c1_0_0 : v1.cell? ⟨w.heap.size, 0, none⟩ = some (.slice s.up.a s.up.n s.up.c) := (kc 0).trans (by simp [go_sem, *])
  have f1_0_0 : v1.frozen? ⟨w.heap.size, 0, none⟩ = false := (kf 0).trans (by simp [go_sem, *])
  have c1_0_1 : v1.cell? ⟨w.heap.size, 1, none⟩ = some (.int .i64 s.moment) := (kc 1).trans (by simp [go_sem, *])
  have f1_0_1 : v1.frozen? ⟨w.heap.size, 1, none⟩ = false := (kf 1).trans (by simp [go_sem, *])
  have c1_0_2 : v1.cell? ⟨w.heap.size, 2, none⟩ = some (.int .i64 s.clock) := (kc 2).trans (by simp [go_sem, *])
  have f1_0_2 : v1.frozen? ⟨w.heap.size, 2, none⟩ = false := (kf 2).trans (by simp [go_sem, *])
  have c1_0_3 : v1.cell? ⟨w.heap.size, 3, none⟩ = some (.int .i64 s.seq) := (kc 3).trans (by simp [go_sem, *])
  have f1_0_3 : v1.frozen? ⟨w.heap.size, 3, none⟩ = false := (kf 3).trans (by simp [go_sem, *])
  have c1_0_4 : v1.cell? ⟨w.heap.size, 4, none⟩ = some (.slice s.actors.a s.actors.n s.actors.c) := (kc 4).trans (by simp [go_sem, *])
  have f1_0_4 : v1.frozen? ⟨w.heap.size, 4, none⟩ = false := (kf 4).trans (by simp [go_sem, *])
  have c1_0_5 : v1.cell? ⟨w.heap.size, 5, none⟩ = some (.slice s.flights.a s.flights.n s.flights.c) := (kc 5).trans (by simp [go_sem, *])
  have f1_0_5 : v1.frozen? ⟨w.heap.size, 5, none⟩ = false := (kf 5).trans (by simp [go_sem, *])
  have c1_0_6 : v1.cell? ⟨w.heap.size, 6, none⟩ = some (.slice s.alarms.a s.alarms.n s.alarms.c) := (kc 6).trans (by simp [go_sem, *])
  have f1_0_6 : v1.frozen? ⟨w.heap.size, 6, none⟩ = false := (kf 6).trans (by simp [go_sem, *])
  have c1_0_7 : v1.cell? ⟨w.heap.size, 7, none⟩ = some (.slice s.asked.a s.asked.n s.asked.c) := (kc 7).trans (by simp [go_sem, *])
  have f1_0_7 : v1.frozen? ⟨w.heap.size, 7, none⟩ = false := (kf 7).trans (by simp [go_sem, *])
  have c1_0_8 : v1.cell? ⟨w.heap.size, 8, none⟩ = some (.int .i64 s.dead) := (kc 8).trans (by simp [go_sem, *])
  have f1_0_8 : v1.frozen? ⟨w.heap.size, 8, none⟩ = false := (kf 8).trans (by simp [go_sem, *])
  clear kc kf
  obtain ⟨k1_1, kc, kf⟩ := keepB h1 (w.heap.size + 1) (by first | omega | (simp; omega) | (simp; done))
  have c1_1_0 : v1.cell? ⟨w.heap.size + 1, 0, none⟩ = some (.slice t.up.a t.up.n t.up.c) := (kc 0).trans (by simp [go_sem, *])
  have f1_1_0 : v1.frozen? ⟨w.heap.size + 1, 0, none⟩ = false := (kf 0).trans (by simp [go_sem, *])
  have c1_1_1 : v1.cell? ⟨w.heap.size + 1, 1, none⟩ = some (.int .i64 t.moment) := (kc 1).trans (by simp [go_sem, *])
  have f1_1_1 : v1.frozen? ⟨w.heap.size + 1, 1, none⟩ = false := (kf 1).trans (by simp [go_sem, *])
  have c1_1_2 : v1.cell? ⟨w.heap.size + 1, 2, none⟩ = some (.int .i64 t.clock) := (kc 2).trans (by simp [go_sem, *])
  have f1_1_2 : v1.frozen? ⟨w.heap.size + 1, 2, none⟩ = false := (kf 2).trans (by simp [go_sem, *])
  have c1_1_3 : v1.cell? ⟨w.heap.size + 1, 3, none⟩ = some (.int .i64 t.seq) := (kc 3).trans (by simp [go_sem, *])
  have f1_1_3 : v1.frozen? ⟨w.heap.size + 1, 3, none⟩ = false := (kf 3).trans (by simp [go_sem, *])
  have c1_1_4 : v1.cell? ⟨w.heap.size + 1, 4, none⟩ = some (.slice t.actors.a t.actors.n t.actors.c) := (kc 4).trans (by simp [go_sem, *])
  have f1_1_4 : v1.frozen? ⟨w.heap.size + 1, 4, none⟩ = false := (kf 4).trans (by simp [go_sem, *])
  have c1_1_5 : v1.cell? ⟨w.heap.size + 1, 5, none⟩ = some (.slice t.flights.a t.flights.n t.flights.c) := (kc 5).trans (by simp [go_sem, *])
  have f1_1_5 : v1.frozen? ⟨w.heap.size + 1, 5, none⟩ = false := (kf 5).trans (by simp [go_sem, *])
  have c1_1_6 : v1.cell? ⟨w.heap.size + 1, 6, none⟩ = some (.slice t.alarms.a t.alarms.n t.alarms.c) := (kc 6).trans (by simp [go_sem, *])
  have f1_1_6 : v1.frozen? ⟨w.heap.size + 1, 6, none⟩ = false := (kf 6).trans (by simp [go_sem, *])
  have c1_1_7 : v1.cell? ⟨w.heap.size + 1, 7, none⟩ = some (.slice t.asked.a t.asked.n t.asked.c) := (kc 7).trans (by simp [go_sem, *])
  have f1_1_7 : v1.frozen? ⟨w.heap.size + 1, 7, none⟩ = false := (kf 7).trans (by simp [go_sem, *])
  have c1_1_8 : v1.cell? ⟨w.heap.size + 1, 8, none⟩ = some (.int .i64 t.dead) := (kc 8).trans (by simp [go_sem, *])
  have f1_1_8 : v1.frozen? ⟨w.heap.size + 1, 8, none⟩ = false := (kf 8).trans (by simp [go_sem, *])
  clear kc kf
  go_wp2_with fail
  refine (C0.out _ (by repeat (first | (with_reducible exact Below.refl _ _) | (with_reducible assumption) | refine Below.setCell ?_ (by first | omega | (simp; omega) | (simp; done)) _ | refine Below.alloc ?_ (by first | omega | (simp; omega) | (simp; done)) _ | refine Below.drew ?_))).mono ?_
  rintro e v2 ⟨x, rfl, hx, h2⟩
  have z2 := h2.size
  try simp at z2
  have hB2 : Below w.heap.size w v2 := Below.call (w := w) (by repeat (first | (with_reducible exact Below.refl _ _) | (with_reducible assumption) | refine Below.setCell ?_ (by first | omega | (simp; omega) | (simp; done)) _ | refine Below.alloc ?_ (by first | omega | (simp; omega) | (simp; done)) _ | refine Below.drew ?_)) h2
  obtain ⟨k2_0, kc, kf⟩ := keepB h2 (w.heap.size) (by first | omega | (simp; omega) | (simp; done))
  have c2_0_0 : v2.cell? ⟨w.heap.size, 0, none⟩ = some (.slice s.up.a s.up.n s.up.c) := (kc 0).trans (by simp [go_sem, *])
  have f2_0_0 : v2.frozen? ⟨w.heap.size, 0, none⟩ = false := (kf 0).trans (by simp [go_sem, *])
  have c2_0_1 : v2.cell? ⟨w.heap.size, 1, none⟩ = some (.int .i64 s.moment) := (kc 1).trans (by simp [go_sem, *])
  have f2_0_1 : v2.frozen? ⟨w.heap.size, 1, none⟩ = false := (kf 1).trans (by simp [go_sem, *])
  have c2_0_2 : v2.cell? ⟨w.heap.size, 2, none⟩ = some (.int .i64 s.clock) := (kc 2).trans (by simp [go_sem, *])
  have f2_0_2 : v2.frozen? ⟨w.heap.size, 2, none⟩ = false := (kf 2).trans (by simp [go_sem, *])
  have c2_0_3 : v2.cell? ⟨w.heap.size, 3, none⟩ = some (.int .i64 s.seq) := (kc 3).trans (by simp [go_sem, *])
  have f2_0_3 : v2.frozen? ⟨w.heap.size, 3, none⟩ = false := (kf 3).trans (by simp [go_sem, *])
  have c2_0_4 : v2.cell? ⟨w.heap.size, 4, none⟩ = some (.slice s.actors.a s.actors.n s.actors.c) := (kc 4).trans (by simp [go_sem, *])
  have f2_0_4 : v2.frozen? ⟨w.heap.size, 4, none⟩ = false := (kf 4).trans (by simp [go_sem, *])
  have c2_0_5 : v2.cell? ⟨w.heap.size, 5, none⟩ = some (.slice s.flights.a s.flights.n s.flights.c) := (kc 5).trans (by simp [go_sem, *])
  have f2_0_5 : v2.frozen? ⟨w.heap.size, 5, none⟩ = false := (kf 5).trans (by simp [go_sem, *])
  have c2_0_6 : v2.cell? ⟨w.heap.size, 6, none⟩ = some (.slice s.alarms.a s.alarms.n s.alarms.c) := (kc 6).trans (by simp [go_sem, *])
  have f2_0_6 : v2.frozen? ⟨w.heap.size, 6, none⟩ = false := (kf 6).trans (by simp [go_sem, *])
  have c2_0_7 : v2.cell? ⟨w.heap.size, 7, none⟩ = some (.slice s.asked.a s.asked.n s.asked.c) := (kc 7).trans (by simp [go_sem, *])
  have f2_0_7 : v2.frozen? ⟨w.heap.size, 7, none⟩ = false := (kf 7).trans (by simp [go_sem, *])
  have c2_0_8 : v2.cell? ⟨w.heap.size, 8, none⟩ = some (.int .i64 s.dead) := (kc 8).trans (by simp [go_sem, *])
  have f2_0_8 : v2.frozen? ⟨w.heap.size, 8, none⟩ = false := (kf 8).trans (by simp [go_sem, *])
  clear kc kf
  obtain ⟨k2_1, kc, kf⟩ := keepB h2 (w.heap.size + 1) (by first | omega | (simp; omega) | (simp; done))
  have c2_1_0 : v2.cell? ⟨w.heap.size + 1, 0, none⟩ = some (.slice t.up.a t.up.n t.up.c) := (kc 0).trans (by simp [go_sem, *])
  have f2_1_0 : v2.frozen? ⟨w.heap.size + 1, 0, none⟩ = false := (kf 0).trans (by simp [go_sem, *])
  have c2_1_1 : v2.cell? ⟨w.heap.size + 1, 1, none⟩ = some (.int .i64 t.moment) := (kc 1).trans (by simp [go_sem, *])
  have f2_1_1 : v2.frozen? ⟨w.heap.size + 1, 1, none⟩ = false := (kf 1).trans (by simp [go_sem, *])
  have c2_1_2 : v2.cell? ⟨w.heap.size + 1, 2, none⟩ = some (.int .i64 t.clock) := (kc 2).trans (by simp [go_sem, *])
  have f2_1_2 : v2.frozen? ⟨w.heap.size + 1, 2, none⟩ = false := (kf 2).trans (by simp [go_sem, *])
  have c2_1_3 : v2.cell? ⟨w.heap.size + 1, 3, none⟩ = some (.int .i64 t.seq) := (kc 3).trans (by simp [go_sem, *])
  have f2_1_3 : v2.frozen? ⟨w.heap.size + 1, 3, none⟩ = false := (kf 3).trans (by simp [go_sem, *])
  have c2_1_4 : v2.cell? ⟨w.heap.size + 1, 4, none⟩ = some (.slice t.actors.a t.actors.n t.actors.c) := (kc 4).trans (by simp [go_sem, *])
  have f2_1_4 : v2.frozen? ⟨w.heap.size + 1, 4, none⟩ = false := (kf 4).trans (by simp [go_sem, *])
  have c2_1_5 : v2.cell? ⟨w.heap.size + 1, 5, none⟩ = some (.slice t.flights.a t.flights.n t.flights.c) := (kc 5).trans (by simp [go_sem, *])
  have f2_1_5 : v2.frozen? ⟨w.heap.size + 1, 5, none⟩ = false := (kf 5).trans (by simp [go_sem, *])
  have c2_1_6 : v2.cell? ⟨w.heap.size + 1, 6, none⟩ = some (.slice t.alarms.a t.alarms.n t.alarms.c) := (kc 6).trans (by simp [go_sem, *])
  have f2_1_6 : v2.frozen? ⟨w.heap.size + 1, 6, none⟩ = false := (kf 6).trans (by simp [go_sem, *])
  have c2_1_7 : v2.cell? ⟨w.heap.size + 1, 7, none⟩ = some (.slice t.asked.a t.asked.n t.asked.c) := (kc 7).trans (by simp [go_sem, *])
  have f2_1_7 : v2.frozen? ⟨w.heap.size + 1, 7, none⟩ = false := (kf 7).trans (by simp [go_sem, *])
  have c2_1_8 : v2.cell? ⟨w.heap.size + 1, 8, none⟩ = some (.int .i64 t.dead) := (kc 8).trans (by simp [go_sem, *])
  have f2_1_8 : v2.frozen? ⟨w.heap.size + 1, 8, none⟩ = false := (kf 8).trans (by simp [go_sem, *])
  clear kc kf
  clear c1_0_0 f1_0_0 c1_0_1 f1_0_1 c1_0_2 f1_0_2 c1_0_3 f1_0_3 c1_0_4 f1_0_4 c1_0_5 f1_0_5 c1_0_6 f1_0_6 c1_0_7 f1_0_7 c1_0_8 f1_0_8 c1_1_0 f1_1_0 c1_1_1 f1_1_1 c1_1_2 f1_1_2 c1_1_3 f1_1_3 c1_1_4 f1_1_4 c1_1_5 f1_1_5 c1_1_6 f1_1_6 c1_1_7 f1_1_7 c1_1_8 f1_1_8
  cases x with
  | false =>
    clear hx
    go_wp2_with fail
    go_ret
    exact ⟨rfl, by with_reducible assumption⟩
  | true =>
  obtain ⟨ba, bf, _⟩ := hx rfl
  clear hx
  have hll := HLL.out ba bf
  go_wp2_with (first | ((at_builtin; refine wpList_append_lit _ 76 rfl (.tmp 14) (.tmp 16) 23 rfl i7 _ 9 136 Try.underlying23 hi7 hz70 hz71 hz72 rfl (by decide) _ rfl (by simp) _ _ _ _ (ls.flatMap liveL) rfl (HA.out.up (by repeat (first | (with_reducible exact Below.refl _ _) | (with_reducible assumption) | refine Below.setCell ?_ (by first | omega | (simp; omega) | (simp; done)) _ | refine Below.alloc ?_ (by first | omega | (simp; omega) | (simp; done)) _ | refine Below.drew ?_))) (Nat.le_refl _) (live_one ls) (by omega) (by omega) ?_; intro u3 v3 hr3 ho3 h3; have hlo3 := Lib.hid (row_base ho3); have HR3 := Lib.hid hr3; clear ho3 hr3; have z3 := h3.size; (try simp at z3); have hB3 : Below w.heap.size w v3 := Below.call (w := w) (by repeat (first | (with_reducible exact Below.refl _ _) | (with_reducible assumption) | refine Below.setCell ?_ (by first | omega | (simp; omega) | (simp; done)) _ | refine Below.alloc ?_ (by first | omega | (simp; omega) | (simp; done)) _ | refine Below.drew ?_)) h3; obtain ⟨k3_0, kc, kf⟩ := keepB h3 (w.heap.size) (by first | omega | (simp; omega) | (simp; done)); have c3_0_0 : v3.cell? ⟨w.heap.size, 0, none⟩ = some (.slice s.up.a s.up.n s.up.c) := (kc 0).trans (by simp [go_sem, *]); have f3_0_0 : v3.frozen? ⟨w.heap.size, 0, none⟩ = false := (kf 0).trans (by simp [go_sem, *]); have c3_0_1 : v3.cell? ⟨w.heap.size, 1, none⟩ = some (.int .i64 s.moment) := (kc 1).trans (by simp [go_sem, *]); have f3_0_1 : v3.frozen? ⟨w.heap.size, 1, none⟩ = false := (kf 1).trans (by simp [go_sem, *]); have c3_0_2 : v3.cell? ⟨w.heap.size, 2, none⟩ = some (.int .i64 s.clock) := (kc 2).trans (by simp [go_sem, *]); have f3_0_2 : v3.frozen? ⟨w.heap.size, 2, none⟩ = false := (kf 2).trans (by simp [go_sem, *]); have c3_0_3 : v3.cell? ⟨w.heap.size, 3, none⟩ = some (.int .i64 s.seq) := (kc 3).trans (by simp [go_sem, *]); have f3_0_3 : v3.frozen? ⟨w.heap.size, 3, none⟩ = false := (kf 3).trans (by simp [go_sem, *]); have c3_0_4 : v3.cell? ⟨w.heap.size, 4, none⟩ = some (.slice s.actors.a s.actors.n s.actors.c) := (kc 4).trans (by simp [go_sem, *]); have f3_0_4 : v3.frozen? ⟨w.heap.size, 4, none⟩ = false := (kf 4).trans (by simp [go_sem, *]); have c3_0_5 : v3.cell? ⟨w.heap.size, 5, none⟩ = some (.slice s.flights.a s.flights.n s.flights.c) := (kc 5).trans (by simp [go_sem, *]); have f3_0_5 : v3.frozen? ⟨w.heap.size, 5, none⟩ = false := (kf 5).trans (by simp [go_sem, *]); have c3_0_6 : v3.cell? ⟨w.heap.size, 6, none⟩ = some (.slice s.alarms.a s.alarms.n s.alarms.c) := (kc 6).trans (by simp [go_sem, *]); have f3_0_6 : v3.frozen? ⟨w.heap.size, 6, none⟩ = false := (kf 6).trans (by simp [go_sem, *]); have c3_0_7 : v3.cell? ⟨w.heap.size, 7, none⟩ = some (.slice s.asked.a s.asked.n s.asked.c) := (kc 7).trans (by simp [go_sem, *]); have f3_0_7 : v3.frozen? ⟨w.heap.size, 7, none⟩ = false := (kf 7).trans (by simp [go_sem, *]); have c3_0_8 : v3.cell? ⟨w.heap.size, 8, none⟩ = some (.int .i64 s.dead) := (kc 8).trans (by simp [go_sem, *]); have f3_0_8 : v3.frozen? ⟨w.heap.size, 8, none⟩ = false := (kf 8).trans (by simp [go_sem, *]); clear kc kf; obtain ⟨k3_1, kc, kf⟩ := keepB h3 (w.heap.size + 1) (by first | omega | (simp; omega) | (simp; done)); have c3_1_0 : v3.cell? ⟨w.heap.size + 1, 0, none⟩ = some (.slice t.up.a t.up.n t.up.c) := (kc 0).trans (by simp [go_sem, *]); have f3_1_0 : v3.frozen? ⟨w.heap.size + 1, 0, none⟩ = false := (kf 0).trans (by simp [go_sem, *]); have c3_1_1 : v3.cell? ⟨w.heap.size + 1, 1, none⟩ = some (.int .i64 t.moment) := (kc 1).trans (by simp [go_sem, *]); have f3_1_1 : v3.frozen? ⟨w.heap.size + 1, 1, none⟩ = false := (kf 1).trans (by simp [go_sem, *]); have c3_1_2 : v3.cell? ⟨w.heap.size + 1, 2, none⟩ = some (.int .i64 t.clock) := (kc 2).trans (by simp [go_sem, *]); have f3_1_2 : v3.frozen? ⟨w.heap.size + 1, 2, none⟩ = false := (kf 2).trans (by simp [go_sem, *]); have c3_1_3 : v3.cell? ⟨w.heap.size + 1, 3, none⟩ = some (.int .i64 t.seq) := (kc 3).trans (by simp [go_sem, *]); have f3_1_3 : v3.frozen? ⟨w.heap.size + 1, 3, none⟩ = false := (kf 3).trans (by simp [go_sem, *]); have c3_1_4 : v3.cell? ⟨w.heap.size + 1, 4, none⟩ = some (.slice t.actors.a t.actors.n t.actors.c) := (kc 4).trans (by simp [go_sem, *]); have f3_1_4 : v3.frozen? ⟨w.heap.size + 1, 4, none⟩ = false := (kf 4).trans (by simp [go_sem, *]); have c3_1_5 : v3.cell? ⟨w.heap.size + 1, 5, none⟩ = some (.slice t.flights.a t.flights.n t.flights.c) := (kc 5).trans (by simp [go_sem, *]); have f3_1_5 : v3.frozen? ⟨w.heap.size + 1, 5, none⟩ = false := (kf 5).trans (by simp [go_sem, *]); have c3_1_6 : v3.cell? ⟨w.heap.size + 1, 6, none⟩ = some (.slice t.alarms.a t.alarms.n t.alarms.c) := (kc 6).trans (by simp [go_sem, *]); have f3_1_6 : v3.frozen? ⟨w.heap.size + 1, 6, none⟩ = false := (kf 6).trans (by simp [go_sem, *]); have c3_1_7 : v3.cell? ⟨w.heap.size + 1, 7, none⟩ = some (.slice t.asked.a t.asked.n t.asked.c) := (kc 7).trans (by simp [go_sem, *]); have f3_1_7 : v3.frozen? ⟨w.heap.size + 1, 7, none⟩ = false := (kf 7).trans (by simp [go_sem, *]); have c3_1_8 : v3.cell? ⟨w.heap.size + 1, 8, none⟩ = some (.int .i64 t.dead) := (kc 8).trans (by simp [go_sem, *]); have f3_1_8 : v3.frozen? ⟨w.heap.size + 1, 8, none⟩ = false := (kf 8).trans (by simp [go_sem, *]); clear kc kf; obtain ⟨k3_2, kc, kf⟩ := keepB h3 (v2.heap.size) (by first | omega | (simp; omega) | (simp; done)); have c3_2_0 : v3.cell? ⟨v2.heap.size, 0, none⟩ = some (.slice s.up.a s.up.n s.up.c) := (kc 0).trans (by simp [go_sem, *]); have f3_2_0 : v3.frozen? ⟨v2.heap.size, 0, none⟩ = false := (kf 0).trans (by simp [go_sem, *]); have c3_2_1 : v3.cell? ⟨v2.heap.size, 1, none⟩ = some (.int .i64 s.moment) := (kc 1).trans (by simp [go_sem, *]); have f3_2_1 : v3.frozen? ⟨v2.heap.size, 1, none⟩ = false := (kf 1).trans (by simp [go_sem, *]); have c3_2_2 : v3.cell? ⟨v2.heap.size, 2, none⟩ = some (.int .i64 s.clock) := (kc 2).trans (by simp [go_sem, *]); have f3_2_2 : v3.frozen? ⟨v2.heap.size, 2, none⟩ = false := (kf 2).trans (by simp [go_sem, *]); have c3_2_3 : v3.cell? ⟨v2.heap.size, 3, none⟩ = some (.int .i64 s.seq) := (kc 3).trans (by simp [go_sem, *]); have f3_2_3 : v3.frozen? ⟨v2.heap.size, 3, none⟩ = false := (kf 3).trans (by simp [go_sem, *]); have c3_2_4 : v3.cell? ⟨v2.heap.size, 4, none⟩ = some (.slice s.actors.a s.actors.n s.actors.c) := (kc 4).trans (by simp [go_sem, *]); have f3_2_4 : v3.frozen? ⟨v2.heap.size, 4, none⟩ = false := (kf 4).trans (by simp [go_sem, *]); have c3_2_5 : v3.cell? ⟨v2.heap.size, 5, none⟩ = some (.slice s.flights.a s.flights.n s.flights.c) := (kc 5).trans (by simp [go_sem, *]); have f3_2_5 : v3.frozen? ⟨v2.heap.size, 5, none⟩ = false := (kf 5).trans (by simp [go_sem, *]); have c3_2_6 : v3.cell? ⟨v2.heap.size, 6, none⟩ = some (.slice s.alarms.a s.alarms.n s.alarms.c) := (kc 6).trans (by simp [go_sem, *]); have f3_2_6 : v3.frozen? ⟨v2.heap.size, 6, none⟩ = false := (kf 6).trans (by simp [go_sem, *]); have c3_2_7 : v3.cell? ⟨v2.heap.size, 7, none⟩ = some (.slice s.asked.a s.asked.n s.asked.c) := (kc 7).trans (by simp [go_sem, *]); have f3_2_7 : v3.frozen? ⟨v2.heap.size, 7, none⟩ = false := (kf 7).trans (by simp [go_sem, *]); have c3_2_8 : v3.cell? ⟨v2.heap.size, 8, none⟩ = some (.int .i64 s.dead) := (kc 8).trans (by simp [go_sem, *]); have f3_2_8 : v3.frozen? ⟨v2.heap.size, 8, none⟩ = false := (kf 8).trans (by simp [go_sem, *]); clear kc kf; clear c2_0_0 f2_0_0 c2_0_1 f2_0_1 c2_0_2 f2_0_2 c2_0_3 f2_0_3 c2_0_4 f2_0_4 c2_0_5 f2_0_5 c2_0_6 f2_0_6 c2_0_7 f2_0_7 c2_0_8 f2_0_8 c2_1_0 f2_1_0 c2_1_1 f2_1_1 c2_1_2 f2_1_2 c2_1_3 f2_1_3 c2_1_4 f2_1_4 c2_1_5 f2_1_5 c2_1_6 f2_1_6 c2_1_7 f2_1_7 c2_1_8 f2_1_8)) | ((at_builtin; refine wpList_append_lit _ 66 rfl (.tmp 19) (.tmp 21) 24 rfl i6 _ 7 96 Try.underlying24 hi6 hz60 hz61 hz62 rfl (by decide) _ rfl (by simp) _ _ _ _ (fls.flatMap flyL) rfl (HF.out.up (by repeat (first | (with_reducible exact Below.refl _ _) | (with_reducible assumption) | refine Below.setCell ?_ (by first | omega | (simp; omega) | (simp; done)) _ | refine Below.alloc ?_ (by first | omega | (simp; omega) | (simp; done)) _ | refine Below.drew ?_))) (Nat.le_refl _) (fly_one fls) (by omega) (by omega) ?_; intro u4 v4 hr4 ho4 h4; have hlo4 := Lib.hid (row_base ho4); have HR4 := Lib.hid hr4; clear ho4 hr4; have HR3 := Lib.hid ((HR3.out.set_up ⟨v2.heap.size, 4, none⟩ (.slice u3.a s.actors.n u3.c) (fun q hq => by have := hlo3.out q.block (by show Value.ownBlock (.slice u3.a s.actors.n u3.c) = _; rw [hq]; rfl); simp at this ⊢; omega)).up h4); have z4 := h4.size; (try simp at z4); have hB4 : Below w.heap.size w v4 := Below.call (w := w) (by repeat (first | (with_reducible exact Below.refl _ _) | (with_reducible assumption) | refine Below.setCell ?_ (by first | omega | (simp; omega) | (simp; done)) _ | refine Below.alloc ?_ (by first | omega | (simp; omega) | (simp; done)) _ | refine Below.drew ?_)) h4; obtain ⟨k4_0, kc, kf⟩ := keepB h4 (w.heap.size) (by first | omega | (simp; omega) | (simp; done)); have c4_0_0 : v4.cell? ⟨w.heap.size, 0, none⟩ = some (.slice s.up.a s.up.n s.up.c) := (kc 0).trans (by simp [go_sem, *]); have f4_0_0 : v4.frozen? ⟨w.heap.size, 0, none⟩ = false := (kf 0).trans (by simp [go_sem, *]); have c4_0_1 : v4.cell? ⟨w.heap.size, 1, none⟩ = some (.int .i64 s.moment) := (kc 1).trans (by simp [go_sem, *]); have f4_0_1 : v4.frozen? ⟨w.heap.size, 1, none⟩ = false := (kf 1).trans (by simp [go_sem, *]); have c4_0_2 : v4.cell? ⟨w.heap.size, 2, none⟩ = some (.int .i64 s.clock) := (kc 2).trans (by simp [go_sem, *]); have f4_0_2 : v4.frozen? ⟨w.heap.size, 2, none⟩ = false := (kf 2).trans (by simp [go_sem, *]); have c4_0_3 : v4.cell? ⟨w.heap.size, 3, none⟩ = some (.int .i64 s.seq) := (kc 3).trans (by simp [go_sem, *]); have f4_0_3 : v4.frozen? ⟨w.heap.size, 3, none⟩ = false := (kf 3).trans (by simp [go_sem, *]); have c4_0_4 : v4.cell? ⟨w.heap.size, 4, none⟩ = some (.slice s.actors.a s.actors.n s.actors.c) := (kc 4).trans (by simp [go_sem, *]); have f4_0_4 : v4.frozen? ⟨w.heap.size, 4, none⟩ = false := (kf 4).trans (by simp [go_sem, *]); have c4_0_5 : v4.cell? ⟨w.heap.size, 5, none⟩ = some (.slice s.flights.a s.flights.n s.flights.c) := (kc 5).trans (by simp [go_sem, *]); have f4_0_5 : v4.frozen? ⟨w.heap.size, 5, none⟩ = false := (kf 5).trans (by simp [go_sem, *]); have c4_0_6 : v4.cell? ⟨w.heap.size, 6, none⟩ = some (.slice s.alarms.a s.alarms.n s.alarms.c) := (kc 6).trans (by simp [go_sem, *]); have f4_0_6 : v4.frozen? ⟨w.heap.size, 6, none⟩ = false := (kf 6).trans (by simp [go_sem, *]); have c4_0_7 : v4.cell? ⟨w.heap.size, 7, none⟩ = some (.slice s.asked.a s.asked.n s.asked.c) := (kc 7).trans (by simp [go_sem, *]); have f4_0_7 : v4.frozen? ⟨w.heap.size, 7, none⟩ = false := (kf 7).trans (by simp [go_sem, *]); have c4_0_8 : v4.cell? ⟨w.heap.size, 8, none⟩ = some (.int .i64 s.dead) := (kc 8).trans (by simp [go_sem, *]); have f4_0_8 : v4.frozen? ⟨w.heap.size, 8, none⟩ = false := (kf 8).trans (by simp [go_sem, *]); clear kc kf; obtain ⟨k4_1, kc, kf⟩ := keepB h4 (w.heap.size + 1) (by first | omega | (simp; omega) | (simp; done)); have c4_1_0 : v4.cell? ⟨w.heap.size + 1, 0, none⟩ = some (.slice t.up.a t.up.n t.up.c) := (kc 0).trans (by simp [go_sem, *]); have f4_1_0 : v4.frozen? ⟨w.heap.size + 1, 0, none⟩ = false := (kf 0).trans (by simp [go_sem, *]); have c4_1_1 : v4.cell? ⟨w.heap.size + 1, 1, none⟩ = some (.int .i64 t.moment) := (kc 1).trans (by simp [go_sem, *]); have f4_1_1 : v4.frozen? ⟨w.heap.size + 1, 1, none⟩ = false := (kf 1).trans (by simp [go_sem, *]); have c4_1_2 : v4.cell? ⟨w.heap.size + 1, 2, none⟩ = some (.int .i64 t.clock) := (kc 2).trans (by simp [go_sem, *]); have f4_1_2 : v4.frozen? ⟨w.heap.size + 1, 2, none⟩ = false := (kf 2).trans (by simp [go_sem, *]); have c4_1_3 : v4.cell? ⟨w.heap.size + 1, 3, none⟩ = some (.int .i64 t.seq) := (kc 3).trans (by simp [go_sem, *]); have f4_1_3 : v4.frozen? ⟨w.heap.size + 1, 3, none⟩ = false := (kf 3).trans (by simp [go_sem, *]); have c4_1_4 : v4.cell? ⟨w.heap.size + 1, 4, none⟩ = some (.slice t.actors.a t.actors.n t.actors.c) := (kc 4).trans (by simp [go_sem, *]); have f4_1_4 : v4.frozen? ⟨w.heap.size + 1, 4, none⟩ = false := (kf 4).trans (by simp [go_sem, *]); have c4_1_5 : v4.cell? ⟨w.heap.size + 1, 5, none⟩ = some (.slice t.flights.a t.flights.n t.flights.c) := (kc 5).trans (by simp [go_sem, *]); have f4_1_5 : v4.frozen? ⟨w.heap.size + 1, 5, none⟩ = false := (kf 5).trans (by simp [go_sem, *]); have c4_1_6 : v4.cell? ⟨w.heap.size + 1, 6, none⟩ = some (.slice t.alarms.a t.alarms.n t.alarms.c) := (kc 6).trans (by simp [go_sem, *]); have f4_1_6 : v4.frozen? ⟨w.heap.size + 1, 6, none⟩ = false := (kf 6).trans (by simp [go_sem, *]); have c4_1_7 : v4.cell? ⟨w.heap.size + 1, 7, none⟩ = some (.slice t.asked.a t.asked.n t.asked.c) := (kc 7).trans (by simp [go_sem, *]); have f4_1_7 : v4.frozen? ⟨w.heap.size + 1, 7, none⟩ = false := (kf 7).trans (by simp [go_sem, *]); have c4_1_8 : v4.cell? ⟨w.heap.size + 1, 8, none⟩ = some (.int .i64 t.dead) := (kc 8).trans (by simp [go_sem, *]); have f4_1_8 : v4.frozen? ⟨w.heap.size + 1, 8, none⟩ = false := (kf 8).trans (by simp [go_sem, *]); clear kc kf; obtain ⟨k4_2, kc, kf⟩ := keepB h4 (v2.heap.size) (by first | omega | (simp; omega) | (simp; done)); have c4_2_0 : v4.cell? ⟨v2.heap.size, 0, none⟩ = some (.slice s.up.a s.up.n s.up.c) := (kc 0).trans (by simp [go_sem, *]); have f4_2_0 : v4.frozen? ⟨v2.heap.size, 0, none⟩ = false := (kf 0).trans (by simp [go_sem, *]); have c4_2_1 : v4.cell? ⟨v2.heap.size, 1, none⟩ = some (.int .i64 s.moment) := (kc 1).trans (by simp [go_sem, *]); have f4_2_1 : v4.frozen? ⟨v2.heap.size, 1, none⟩ = false := (kf 1).trans (by simp [go_sem, *]); have c4_2_2 : v4.cell? ⟨v2.heap.size, 2, none⟩ = some (.int .i64 s.clock) := (kc 2).trans (by simp [go_sem, *]); have f4_2_2 : v4.frozen? ⟨v2.heap.size, 2, none⟩ = false := (kf 2).trans (by simp [go_sem, *]); have c4_2_3 : v4.cell? ⟨v2.heap.size, 3, none⟩ = some (.int .i64 s.seq) := (kc 3).trans (by simp [go_sem, *]); have f4_2_3 : v4.frozen? ⟨v2.heap.size, 3, none⟩ = false := (kf 3).trans (by simp [go_sem, *]); have c4_2_4 : v4.cell? ⟨v2.heap.size, 4, none⟩ = some (.slice u3.a s.actors.n u3.c) := (kc 4).trans (by simp [go_sem, *]); have f4_2_4 : v4.frozen? ⟨v2.heap.size, 4, none⟩ = false := (kf 4).trans (by simp [go_sem, *]); have c4_2_5 : v4.cell? ⟨v2.heap.size, 5, none⟩ = some (.slice s.flights.a s.flights.n s.flights.c) := (kc 5).trans (by simp [go_sem, *]); have f4_2_5 : v4.frozen? ⟨v2.heap.size, 5, none⟩ = false := (kf 5).trans (by simp [go_sem, *]); have c4_2_6 : v4.cell? ⟨v2.heap.size, 6, none⟩ = some (.slice s.alarms.a s.alarms.n s.alarms.c) := (kc 6).trans (by simp [go_sem, *]); have f4_2_6 : v4.frozen? ⟨v2.heap.size, 6, none⟩ = false := (kf 6).trans (by simp [go_sem, *]); have c4_2_7 : v4.cell? ⟨v2.heap.size, 7, none⟩ = some (.slice s.asked.a s.asked.n s.asked.c) := (kc 7).trans (by simp [go_sem, *]); have f4_2_7 : v4.frozen? ⟨v2.heap.size, 7, none⟩ = false := (kf 7).trans (by simp [go_sem, *]); have c4_2_8 : v4.cell? ⟨v2.heap.size, 8, none⟩ = some (.int .i64 s.dead) := (kc 8).trans (by simp [go_sem, *]); have f4_2_8 : v4.frozen? ⟨v2.heap.size, 8, none⟩ = false := (kf 8).trans (by simp [go_sem, *]); clear kc kf; clear c3_0_0 f3_0_0 c3_0_1 f3_0_1 c3_0_2 f3_0_2 c3_0_3 f3_0_3 c3_0_4 f3_0_4 c3_0_5 f3_0_5 c3_0_6 f3_0_6 c3_0_7 f3_0_7 c3_0_8 f3_0_8 c3_1_0 f3_1_0 c3_1_1 f3_1_1 c3_1_2 f3_1_2 c3_1_3 f3_1_3 c3_1_4 f3_1_4 c3_1_5 f3_1_5 c3_1_6 f3_1_6 c3_1_7 f3_1_7 c3_1_8 f3_1_8 c3_2_0 f3_2_0 c3_2_1 f3_2_1 c3_2_2 f3_2_2 c3_2_3 f3_2_3 c3_2_4 f3_2_4 c3_2_5 f3_2_5 c3_2_6 f3_2_6 c3_2_7 f3_2_7 c3_2_8 f3_2_8)))
  refine (C3.out _ (by repeat (first | (with_reducible exact Below.refl _ _) | (with_reducible assumption) | refine Below.setCell ?_ (by first | omega | (simp; omega) | (simp; done)) _ | refine Below.alloc ?_ (by first | omega | (simp; omega) | (simp; done)) _ | refine Below.drew ?_)) ba bf).mono ?_
  rintro e v5 ⟨lv, rfl, ⟨hl5, hlo5⟩, h5⟩
  have HR3 := Lib.hid ((HR3.out.set_up ⟨v2.heap.size, 5, none⟩ (.slice u4.a s.flights.n u4.c) (fun q hq => by have := hlo3.out q.block (by show Value.ownBlock (.slice u3.a s.actors.n u3.c) = _; rw [hq]; rfl); simp at this ⊢; omega)).up h5)
  have HR4 := Lib.hid ((HR4.out.set_up ⟨v2.heap.size, 5, none⟩ (.slice u4.a s.flights.n u4.c) (fun q hq => by have := hlo4.out q.block (by show Value.ownBlock (.slice u4.a s.flights.n u4.c) = _; rw [hq]; rfl); simp at this ⊢; omega)).up h5)
  have HL5 := Lib.hid hl5; have HLO5 := Lib.hid hlo5; clear hl5 hlo5
  have z5 := h5.size
  try simp at z5
  have hB5 : Below w.heap.size w v5 := Below.call (w := w) (by repeat (first | (with_reducible exact Below.refl _ _) | (with_reducible assumption) | refine Below.setCell ?_ (by first | omega | (simp; omega) | (simp; done)) _ | refine Below.alloc ?_ (by first | omega | (simp; omega) | (simp; done)) _ | refine Below.drew ?_)) h5
  obtain ⟨k5_0, kc, kf⟩ := keepB h5 (w.heap.size) (by first | omega | (simp; omega) | (simp; done))
  have c5_0_0 : v5.cell? ⟨w.heap.size, 0, none⟩ = some (.slice s.up.a s.up.n s.up.c) := (kc 0).trans (by simp [go_sem, *])
  have f5_0_0 : v5.frozen? ⟨w.heap.size, 0, none⟩ = false := (kf 0).trans (by simp [go_sem, *])
  have c5_0_1 : v5.cell? ⟨w.heap.size, 1, none⟩ = some (.int .i64 s.moment) := (kc 1).trans (by simp [go_sem, *])
  have f5_0_1 : v5.frozen? ⟨w.heap.size, 1, none⟩ = false := (kf 1).trans (by simp [go_sem, *])
  have c5_0_2 : v5.cell? ⟨w.heap.size, 2, none⟩ = some (.int .i64 s.clock) := (kc 2).trans (by simp [go_sem, *])
  have f5_0_2 : v5.frozen? ⟨w.heap.size, 2, none⟩ = false := (kf 2).trans (by simp [go_sem, *])
  have c5_0_3 : v5.cell? ⟨w.heap.size, 3, none⟩ = some (.int .i64 s.seq) := (kc 3).trans (by simp [go_sem, *])
  have f5_0_3 : v5.frozen? ⟨w.heap.size, 3, none⟩ = false := (kf 3).trans (by simp [go_sem, *])
  have c5_0_4 : v5.cell? ⟨w.heap.size, 4, none⟩ = some (.slice s.actors.a s.actors.n s.actors.c) := (kc 4).trans (by simp [go_sem, *])
  have f5_0_4 : v5.frozen? ⟨w.heap.size, 4, none⟩ = false := (kf 4).trans (by simp [go_sem, *])
  have c5_0_5 : v5.cell? ⟨w.heap.size, 5, none⟩ = some (.slice s.flights.a s.flights.n s.flights.c) := (kc 5).trans (by simp [go_sem, *])
  have f5_0_5 : v5.frozen? ⟨w.heap.size, 5, none⟩ = false := (kf 5).trans (by simp [go_sem, *])
  have c5_0_6 : v5.cell? ⟨w.heap.size, 6, none⟩ = some (.slice s.alarms.a s.alarms.n s.alarms.c) := (kc 6).trans (by simp [go_sem, *])
  have f5_0_6 : v5.frozen? ⟨w.heap.size, 6, none⟩ = false := (kf 6).trans (by simp [go_sem, *])
  have c5_0_7 : v5.cell? ⟨w.heap.size, 7, none⟩ = some (.slice s.asked.a s.asked.n s.asked.c) := (kc 7).trans (by simp [go_sem, *])
  have f5_0_7 : v5.frozen? ⟨w.heap.size, 7, none⟩ = false := (kf 7).trans (by simp [go_sem, *])
  have c5_0_8 : v5.cell? ⟨w.heap.size, 8, none⟩ = some (.int .i64 s.dead) := (kc 8).trans (by simp [go_sem, *])
  have f5_0_8 : v5.frozen? ⟨w.heap.size, 8, none⟩ = false := (kf 8).trans (by simp [go_sem, *])
  clear kc kf
  obtain ⟨k5_1, kc, kf⟩ := keepB h5 (w.heap.size + 1) (by first | omega | (simp; omega) | (simp; done))
  have c5_1_0 : v5.cell? ⟨w.heap.size + 1, 0, none⟩ = some (.slice t.up.a t.up.n t.up.c) := (kc 0).trans (by simp [go_sem, *])
  have f5_1_0 : v5.frozen? ⟨w.heap.size + 1, 0, none⟩ = false := (kf 0).trans (by simp [go_sem, *])
  have c5_1_1 : v5.cell? ⟨w.heap.size + 1, 1, none⟩ = some (.int .i64 t.moment) := (kc 1).trans (by simp [go_sem, *])
  have f5_1_1 : v5.frozen? ⟨w.heap.size + 1, 1, none⟩ = false := (kf 1).trans (by simp [go_sem, *])
  have c5_1_2 : v5.cell? ⟨w.heap.size + 1, 2, none⟩ = some (.int .i64 t.clock) := (kc 2).trans (by simp [go_sem, *])
  have f5_1_2 : v5.frozen? ⟨w.heap.size + 1, 2, none⟩ = false := (kf 2).trans (by simp [go_sem, *])
  have c5_1_3 : v5.cell? ⟨w.heap.size + 1, 3, none⟩ = some (.int .i64 t.seq) := (kc 3).trans (by simp [go_sem, *])
  have f5_1_3 : v5.frozen? ⟨w.heap.size + 1, 3, none⟩ = false := (kf 3).trans (by simp [go_sem, *])
  have c5_1_4 : v5.cell? ⟨w.heap.size + 1, 4, none⟩ = some (.slice t.actors.a t.actors.n t.actors.c) := (kc 4).trans (by simp [go_sem, *])
  have f5_1_4 : v5.frozen? ⟨w.heap.size + 1, 4, none⟩ = false := (kf 4).trans (by simp [go_sem, *])
  have c5_1_5 : v5.cell? ⟨w.heap.size + 1, 5, none⟩ = some (.slice t.flights.a t.flights.n t.flights.c) := (kc 5).trans (by simp [go_sem, *])
  have f5_1_5 : v5.frozen? ⟨w.heap.size + 1, 5, none⟩ = false := (kf 5).trans (by simp [go_sem, *])
  have c5_1_6 : v5.cell? ⟨w.heap.size + 1, 6, none⟩ = some (.slice t.alarms.a t.alarms.n t.alarms.c) := (kc 6).trans (by simp [go_sem, *])
  have f5_1_6 : v5.frozen? ⟨w.heap.size + 1, 6, none⟩ = false := (kf 6).trans (by simp [go_sem, *])
  have c5_1_7 : v5.cell? ⟨w.heap.size + 1, 7, none⟩ = some (.slice t.asked.a t.asked.n t.asked.c) := (kc 7).trans (by simp [go_sem, *])
  have f5_1_7 : v5.frozen? ⟨w.heap.size + 1, 7, none⟩ = false := (kf 7).trans (by simp [go_sem, *])
  have c5_1_8 : v5.cell? ⟨w.heap.size + 1, 8, none⟩ = some (.int .i64 t.dead) := (kc 8).trans (by simp [go_sem, *])
  have f5_1_8 : v5.frozen? ⟨w.heap.size + 1, 8, none⟩ = false := (kf 8).trans (by simp [go_sem, *])
  clear kc kf
  obtain ⟨k5_2, kc, kf⟩ := keepB h5 (v2.heap.size) (by first | omega | (simp; omega) | (simp; done))
  have c5_2_0 : v5.cell? ⟨v2.heap.size, 0, none⟩ = some (.slice s.up.a s.up.n s.up.c) := (kc 0).trans (by simp [go_sem, *])
  have f5_2_0 : v5.frozen? ⟨v2.heap.size, 0, none⟩ = false := (kf 0).trans (by simp [go_sem, *])
  have c5_2_1 : v5.cell? ⟨v2.heap.size, 1, none⟩ = some (.int .i64 s.moment) := (kc 1).trans (by simp [go_sem, *])
  have f5_2_1 : v5.frozen? ⟨v2.heap.size, 1, none⟩ = false := (kf 1).trans (by simp [go_sem, *])
  have c5_2_2 : v5.cell? ⟨v2.heap.size, 2, none⟩ = some (.int .i64 s.clock) := (kc 2).trans (by simp [go_sem, *])
  have f5_2_2 : v5.frozen? ⟨v2.heap.size, 2, none⟩ = false := (kf 2).trans (by simp [go_sem, *])
  have c5_2_3 : v5.cell? ⟨v2.heap.size, 3, none⟩ = some (.int .i64 s.seq) := (kc 3).trans (by simp [go_sem, *])
  have f5_2_3 : v5.frozen? ⟨v2.heap.size, 3, none⟩ = false := (kf 3).trans (by simp [go_sem, *])
  have c5_2_4 : v5.cell? ⟨v2.heap.size, 4, none⟩ = some (.slice u3.a s.actors.n u3.c) := (kc 4).trans (by simp [go_sem, *])
  have f5_2_4 : v5.frozen? ⟨v2.heap.size, 4, none⟩ = false := (kf 4).trans (by simp [go_sem, *])
  have c5_2_5 : v5.cell? ⟨v2.heap.size, 5, none⟩ = some (.slice u4.a s.flights.n u4.c) := (kc 5).trans (by simp [go_sem, *])
  have f5_2_5 : v5.frozen? ⟨v2.heap.size, 5, none⟩ = false := (kf 5).trans (by simp [go_sem, *])
  have c5_2_6 : v5.cell? ⟨v2.heap.size, 6, none⟩ = some (.slice s.alarms.a s.alarms.n s.alarms.c) := (kc 6).trans (by simp [go_sem, *])
  have f5_2_6 : v5.frozen? ⟨v2.heap.size, 6, none⟩ = false := (kf 6).trans (by simp [go_sem, *])
  have c5_2_7 : v5.cell? ⟨v2.heap.size, 7, none⟩ = some (.slice s.asked.a s.asked.n s.asked.c) := (kc 7).trans (by simp [go_sem, *])
  have f5_2_7 : v5.frozen? ⟨v2.heap.size, 7, none⟩ = false := (kf 7).trans (by simp [go_sem, *])
  have c5_2_8 : v5.cell? ⟨v2.heap.size, 8, none⟩ = some (.int .i64 s.dead) := (kc 8).trans (by simp [go_sem, *])
  have f5_2_8 : v5.frozen? ⟨v2.heap.size, 8, none⟩ = false := (kf 8).trans (by simp [go_sem, *])
  clear kc kf
  clear c4_0_0 f4_0_0 c4_0_1 f4_0_1 c4_0_2 f4_0_2 c4_0_3 f4_0_3 c4_0_4 f4_0_4 c4_0_5 f4_0_5 c4_0_6 f4_0_6 c4_0_7 f4_0_7 c4_0_8 f4_0_8 c4_1_0 f4_1_0 c4_1_1 f4_1_1 c4_1_2 f4_1_2 c4_1_3 f4_1_3 c4_1_4 f4_1_4 c4_1_5 f4_1_5 c4_1_6 f4_1_6 c4_1_7 f4_1_7 c4_1_8 f4_1_8 c4_2_0 f4_2_0 c4_2_1 f4_2_1 c4_2_2 f4_2_2 c4_2_3 f4_2_3 c4_2_4 f4_2_4 c4_2_5 f4_2_5 c4_2_6 f4_2_6 c4_2_7 f4_2_7 c4_2_8 f4_2_8
  go_wp2_with fail
  refine (C4.out _ (by repeat (first | (with_reducible exact Below.refl _ _) | (with_reducible assumption) | refine Below.setCell ?_ (by first | omega | (simp; omega) | (simp; done)) _ | refine Below.alloc ?_ (by first | omega | (simp; omega) | (simp; done)) _ | refine Below.drew ?_)) ba bf).mono ?_
  rintro e v6 ⟨lw, rfl, ⟨hl6, _⟩, h6⟩
  have HR3 := Lib.hid ((((HR3.out.set_up ⟨w.heap.size + 1, 4, none⟩ (.slice s.actors.a s.actors.n s.actors.c) (fun q hq => by have := hlo3.out q.block (by show Value.ownBlock (.slice u3.a s.actors.n u3.c) = _; rw [hq]; rfl); simp at this ⊢; omega)).set_up ⟨w.heap.size + 1, 5, none⟩ (.slice s.flights.a s.flights.n s.flights.c) (fun q hq => by have := hlo3.out q.block (by show Value.ownBlock (.slice u3.a s.actors.n u3.c) = _; rw [hq]; rfl); simp at this ⊢; omega)).set_up ⟨w.heap.size + 1, 0, none⟩ (.slice s.up.a s.up.n s.up.c) (fun q hq => by have := hlo3.out q.block (by show Value.ownBlock (.slice u3.a s.actors.n u3.c) = _; rw [hq]; rfl); simp at this ⊢; omega)).up h6)
  have HR4 := Lib.hid ((((HR4.out.set_up ⟨w.heap.size + 1, 4, none⟩ (.slice s.actors.a s.actors.n s.actors.c) (fun q hq => by have := hlo4.out q.block (by show Value.ownBlock (.slice u4.a s.flights.n u4.c) = _; rw [hq]; rfl); simp at this ⊢; omega)).set_up ⟨w.heap.size + 1, 5, none⟩ (.slice s.flights.a s.flights.n s.flights.c) (fun q hq => by have := hlo4.out q.block (by show Value.ownBlock (.slice u4.a s.flights.n u4.c) = _; rw [hq]; rfl); simp at this ⊢; omega)).set_up ⟨w.heap.size + 1, 0, none⟩ (.slice s.up.a s.up.n s.up.c) (fun q hq => by have := hlo4.out q.block (by show Value.ownBlock (.slice u4.a s.flights.n u4.c) = _; rw [hq]; rfl); simp at this ⊢; omega)).up h6)
  have HL5 := Lib.hid ((((HL5.out.set_up ⟨w.heap.size + 1, 4, none⟩ (.slice s.actors.a s.actors.n s.actors.c) (fun q hq => by have := HLO5.out q hq; simp at this ⊢; omega)).set_up ⟨w.heap.size + 1, 5, none⟩ (.slice s.flights.a s.flights.n s.flights.c) (fun q hq => by have := HLO5.out q hq; simp at this ⊢; omega)).set_up ⟨w.heap.size + 1, 0, none⟩ (.slice s.up.a s.up.n s.up.c) (fun q hq => by have := HLO5.out q hq; simp at this ⊢; omega)).up h6)
  have HL6 := Lib.hid hl6; clear hl6
  have z6 := h6.size
  try simp at z6
  have hB6 : Below w.heap.size w v6 := Below.call (w := w) (by repeat (first | (with_reducible exact Below.refl _ _) | (with_reducible assumption) | refine Below.setCell ?_ (by first | omega | (simp; omega) | (simp; done)) _ | refine Below.alloc ?_ (by first | omega | (simp; omega) | (simp; done)) _ | refine Below.drew ?_)) h6
  obtain ⟨k6_0, kc, kf⟩ := keepB h6 (w.heap.size) (by first | omega | (simp; omega) | (simp; done))
  have c6_0_0 : v6.cell? ⟨w.heap.size, 0, none⟩ = some (.slice s.up.a s.up.n s.up.c) := (kc 0).trans (by simp [go_sem, *])
  have f6_0_0 : v6.frozen? ⟨w.heap.size, 0, none⟩ = false := (kf 0).trans (by simp [go_sem, *])
  have c6_0_1 : v6.cell? ⟨w.heap.size, 1, none⟩ = some (.int .i64 s.moment) := (kc 1).trans (by simp [go_sem, *])
  have f6_0_1 : v6.frozen? ⟨w.heap.size, 1, none⟩ = false := (kf 1).trans (by simp [go_sem, *])
  have c6_0_2 : v6.cell? ⟨w.heap.size, 2, none⟩ = some (.int .i64 s.clock) := (kc 2).trans (by simp [go_sem, *])
  have f6_0_2 : v6.frozen? ⟨w.heap.size, 2, none⟩ = false := (kf 2).trans (by simp [go_sem, *])
  have c6_0_3 : v6.cell? ⟨w.heap.size, 3, none⟩ = some (.int .i64 s.seq) := (kc 3).trans (by simp [go_sem, *])
  have f6_0_3 : v6.frozen? ⟨w.heap.size, 3, none⟩ = false := (kf 3).trans (by simp [go_sem, *])
  have c6_0_4 : v6.cell? ⟨w.heap.size, 4, none⟩ = some (.slice s.actors.a s.actors.n s.actors.c) := (kc 4).trans (by simp [go_sem, *])
  have f6_0_4 : v6.frozen? ⟨w.heap.size, 4, none⟩ = false := (kf 4).trans (by simp [go_sem, *])
  have c6_0_5 : v6.cell? ⟨w.heap.size, 5, none⟩ = some (.slice s.flights.a s.flights.n s.flights.c) := (kc 5).trans (by simp [go_sem, *])
  have f6_0_5 : v6.frozen? ⟨w.heap.size, 5, none⟩ = false := (kf 5).trans (by simp [go_sem, *])
  have c6_0_6 : v6.cell? ⟨w.heap.size, 6, none⟩ = some (.slice s.alarms.a s.alarms.n s.alarms.c) := (kc 6).trans (by simp [go_sem, *])
  have f6_0_6 : v6.frozen? ⟨w.heap.size, 6, none⟩ = false := (kf 6).trans (by simp [go_sem, *])
  have c6_0_7 : v6.cell? ⟨w.heap.size, 7, none⟩ = some (.slice s.asked.a s.asked.n s.asked.c) := (kc 7).trans (by simp [go_sem, *])
  have f6_0_7 : v6.frozen? ⟨w.heap.size, 7, none⟩ = false := (kf 7).trans (by simp [go_sem, *])
  have c6_0_8 : v6.cell? ⟨w.heap.size, 8, none⟩ = some (.int .i64 s.dead) := (kc 8).trans (by simp [go_sem, *])
  have f6_0_8 : v6.frozen? ⟨w.heap.size, 8, none⟩ = false := (kf 8).trans (by simp [go_sem, *])
  clear kc kf
  obtain ⟨k6_1, kc, kf⟩ := keepB h6 (w.heap.size + 1) (by first | omega | (simp; omega) | (simp; done))
  have c6_1_0 : v6.cell? ⟨w.heap.size + 1, 0, none⟩ = some (.slice s.up.a s.up.n s.up.c) := (kc 0).trans (by simp [go_sem, *])
  have f6_1_0 : v6.frozen? ⟨w.heap.size + 1, 0, none⟩ = false := (kf 0).trans (by simp [go_sem, *])
  have c6_1_1 : v6.cell? ⟨w.heap.size + 1, 1, none⟩ = some (.int .i64 t.moment) := (kc 1).trans (by simp [go_sem, *])
  have f6_1_1 : v6.frozen? ⟨w.heap.size + 1, 1, none⟩ = false := (kf 1).trans (by simp [go_sem, *])
  have c6_1_2 : v6.cell? ⟨w.heap.size + 1, 2, none⟩ = some (.int .i64 t.clock) := (kc 2).trans (by simp [go_sem, *])
  have f6_1_2 : v6.frozen? ⟨w.heap.size + 1, 2, none⟩ = false := (kf 2).trans (by simp [go_sem, *])
  have c6_1_3 : v6.cell? ⟨w.heap.size + 1, 3, none⟩ = some (.int .i64 t.seq) := (kc 3).trans (by simp [go_sem, *])
  have f6_1_3 : v6.frozen? ⟨w.heap.size + 1, 3, none⟩ = false := (kf 3).trans (by simp [go_sem, *])
  have c6_1_4 : v6.cell? ⟨w.heap.size + 1, 4, none⟩ = some (.slice s.actors.a s.actors.n s.actors.c) := (kc 4).trans (by simp [go_sem, *])
  have f6_1_4 : v6.frozen? ⟨w.heap.size + 1, 4, none⟩ = false := (kf 4).trans (by simp [go_sem, *])
  have c6_1_5 : v6.cell? ⟨w.heap.size + 1, 5, none⟩ = some (.slice s.flights.a s.flights.n s.flights.c) := (kc 5).trans (by simp [go_sem, *])
  have f6_1_5 : v6.frozen? ⟨w.heap.size + 1, 5, none⟩ = false := (kf 5).trans (by simp [go_sem, *])
  have c6_1_6 : v6.cell? ⟨w.heap.size + 1, 6, none⟩ = some (.slice t.alarms.a t.alarms.n t.alarms.c) := (kc 6).trans (by simp [go_sem, *])
  have f6_1_6 : v6.frozen? ⟨w.heap.size + 1, 6, none⟩ = false := (kf 6).trans (by simp [go_sem, *])
  have c6_1_7 : v6.cell? ⟨w.heap.size + 1, 7, none⟩ = some (.slice t.asked.a t.asked.n t.asked.c) := (kc 7).trans (by simp [go_sem, *])
  have f6_1_7 : v6.frozen? ⟨w.heap.size + 1, 7, none⟩ = false := (kf 7).trans (by simp [go_sem, *])
  have c6_1_8 : v6.cell? ⟨w.heap.size + 1, 8, none⟩ = some (.int .i64 t.dead) := (kc 8).trans (by simp [go_sem, *])
  have f6_1_8 : v6.frozen? ⟨w.heap.size + 1, 8, none⟩ = false := (kf 8).trans (by simp [go_sem, *])
  clear kc kf
  obtain ⟨k6_2, kc, kf⟩ := keepB h6 (v2.heap.size) (by first | omega | (simp; omega) | (simp; done))
  have c6_2_0 : v6.cell? ⟨v2.heap.size, 0, none⟩ = some (.slice s.up.a s.up.n s.up.c) := (kc 0).trans (by simp [go_sem, *])
  have f6_2_0 : v6.frozen? ⟨v2.heap.size, 0, none⟩ = false := (kf 0).trans (by simp [go_sem, *])
  have c6_2_1 : v6.cell? ⟨v2.heap.size, 1, none⟩ = some (.int .i64 s.moment) := (kc 1).trans (by simp [go_sem, *])
  have f6_2_1 : v6.frozen? ⟨v2.heap.size, 1, none⟩ = false := (kf 1).trans (by simp [go_sem, *])
  have c6_2_2 : v6.cell? ⟨v2.heap.size, 2, none⟩ = some (.int .i64 s.clock) := (kc 2).trans (by simp [go_sem, *])
  have f6_2_2 : v6.frozen? ⟨v2.heap.size, 2, none⟩ = false := (kf 2).trans (by simp [go_sem, *])
  have c6_2_3 : v6.cell? ⟨v2.heap.size, 3, none⟩ = some (.int .i64 s.seq) := (kc 3).trans (by simp [go_sem, *])
  have f6_2_3 : v6.frozen? ⟨v2.heap.size, 3, none⟩ = false := (kf 3).trans (by simp [go_sem, *])
  have c6_2_4 : v6.cell? ⟨v2.heap.size, 4, none⟩ = some (.slice u3.a s.actors.n u3.c) := (kc 4).trans (by simp [go_sem, *])
  have f6_2_4 : v6.frozen? ⟨v2.heap.size, 4, none⟩ = false := (kf 4).trans (by simp [go_sem, *])
  have c6_2_5 : v6.cell? ⟨v2.heap.size, 5, none⟩ = some (.slice u4.a s.flights.n u4.c) := (kc 5).trans (by simp [go_sem, *])
  have f6_2_5 : v6.frozen? ⟨v2.heap.size, 5, none⟩ = false := (kf 5).trans (by simp [go_sem, *])
  have c6_2_6 : v6.cell? ⟨v2.heap.size, 6, none⟩ = some (.slice s.alarms.a s.alarms.n s.alarms.c) := (kc 6).trans (by simp [go_sem, *])
  have f6_2_6 : v6.frozen? ⟨v2.heap.size, 6, none⟩ = false := (kf 6).trans (by simp [go_sem, *])
  have c6_2_7 : v6.cell? ⟨v2.heap.size, 7, none⟩ = some (.slice s.asked.a s.asked.n s.asked.c) := (kc 7).trans (by simp [go_sem, *])
  have f6_2_7 : v6.frozen? ⟨v2.heap.size, 7, none⟩ = false := (kf 7).trans (by simp [go_sem, *])
  have c6_2_8 : v6.cell? ⟨v2.heap.size, 8, none⟩ = some (.int .i64 s.dead) := (kc 8).trans (by simp [go_sem, *])
  have f6_2_8 : v6.frozen? ⟨v2.heap.size, 8, none⟩ = false := (kf 8).trans (by simp [go_sem, *])
  clear kc kf
  clear c5_0_0 f5_0_0 c5_0_1 f5_0_1 c5_0_2 f5_0_2 c5_0_3 f5_0_3 c5_0_4 f5_0_4 c5_0_5 f5_0_5 c5_0_6 f5_0_6 c5_0_7 f5_0_7 c5_0_8 f5_0_8 c5_1_0 f5_1_0 c5_1_1 f5_1_1 c5_1_2 f5_1_2 c5_1_3 f5_1_3 c5_1_4 f5_1_4 c5_1_5 f5_1_5 c5_1_6 f5_1_6 c5_1_7 f5_1_7 c5_1_8 f5_1_8 c5_2_0 f5_2_0 c5_2_1 f5_2_1 c5_2_2 f5_2_2 c5_2_3 f5_2_3 c5_2_4 f5_2_4 c5_2_5 f5_2_5 c5_2_6 f5_2_6 c5_2_7 f5_2_7 c5_2_8 f5_2_8
  go_wp2_with fail
  refine (sameA_true _ _ _ _ L _ HL5.out HL6.out hll).mono ?_
  rintro e v7 ⟨rfl, h7⟩
  have z7 := h7.size
  try simp at z7
  have hB7 : Below w.heap.size w v7 := Below.call (w := w) (by repeat (first | (with_reducible exact Below.refl _ _) | (with_reducible assumption) | refine Below.setCell ?_ (by first | omega | (simp; omega) | (simp; done)) _ | refine Below.alloc ?_ (by first | omega | (simp; omega) | (simp; done)) _ | refine Below.drew ?_)) h7
  obtain ⟨k7_0, kc, kf⟩ := keepB h7 (w.heap.size) (by first | omega | (simp; omega) | (simp; done))
  have c7_0_0 : v7.cell? ⟨w.heap.size, 0, none⟩ = some (.slice s.up.a s.up.n s.up.c) := (kc 0).trans (by simp [go_sem, *])
  have f7_0_0 : v7.frozen? ⟨w.heap.size, 0, none⟩ = false := (kf 0).trans (by simp [go_sem, *])
  have c7_0_1 : v7.cell? ⟨w.heap.size, 1, none⟩ = some (.int .i64 s.moment) := (kc 1).trans (by simp [go_sem, *])
  have f7_0_1 : v7.frozen? ⟨w.heap.size, 1, none⟩ = false := (kf 1).trans (by simp [go_sem, *])
  have c7_0_2 : v7.cell? ⟨w.heap.size, 2, none⟩ = some (.int .i64 s.clock) := (kc 2).trans (by simp [go_sem, *])
  have f7_0_2 : v7.frozen? ⟨w.heap.size, 2, none⟩ = false := (kf 2).trans (by simp [go_sem, *])
  have c7_0_3 : v7.cell? ⟨w.heap.size, 3, none⟩ = some (.int .i64 s.seq) := (kc 3).trans (by simp [go_sem, *])
  have f7_0_3 : v7.frozen? ⟨w.heap.size, 3, none⟩ = false := (kf 3).trans (by simp [go_sem, *])
  have c7_0_4 : v7.cell? ⟨w.heap.size, 4, none⟩ = some (.slice s.actors.a s.actors.n s.actors.c) := (kc 4).trans (by simp [go_sem, *])
  have f7_0_4 : v7.frozen? ⟨w.heap.size, 4, none⟩ = false := (kf 4).trans (by simp [go_sem, *])
  have c7_0_5 : v7.cell? ⟨w.heap.size, 5, none⟩ = some (.slice s.flights.a s.flights.n s.flights.c) := (kc 5).trans (by simp [go_sem, *])
  have f7_0_5 : v7.frozen? ⟨w.heap.size, 5, none⟩ = false := (kf 5).trans (by simp [go_sem, *])
  have c7_0_6 : v7.cell? ⟨w.heap.size, 6, none⟩ = some (.slice s.alarms.a s.alarms.n s.alarms.c) := (kc 6).trans (by simp [go_sem, *])
  have f7_0_6 : v7.frozen? ⟨w.heap.size, 6, none⟩ = false := (kf 6).trans (by simp [go_sem, *])
  have c7_0_7 : v7.cell? ⟨w.heap.size, 7, none⟩ = some (.slice s.asked.a s.asked.n s.asked.c) := (kc 7).trans (by simp [go_sem, *])
  have f7_0_7 : v7.frozen? ⟨w.heap.size, 7, none⟩ = false := (kf 7).trans (by simp [go_sem, *])
  have c7_0_8 : v7.cell? ⟨w.heap.size, 8, none⟩ = some (.int .i64 s.dead) := (kc 8).trans (by simp [go_sem, *])
  have f7_0_8 : v7.frozen? ⟨w.heap.size, 8, none⟩ = false := (kf 8).trans (by simp [go_sem, *])
  clear kc kf
  obtain ⟨k7_1, kc, kf⟩ := keepB h7 (w.heap.size + 1) (by first | omega | (simp; omega) | (simp; done))
  have c7_1_0 : v7.cell? ⟨w.heap.size + 1, 0, none⟩ = some (.slice s.up.a s.up.n s.up.c) := (kc 0).trans (by simp [go_sem, *])
  have f7_1_0 : v7.frozen? ⟨w.heap.size + 1, 0, none⟩ = false := (kf 0).trans (by simp [go_sem, *])
  have c7_1_1 : v7.cell? ⟨w.heap.size + 1, 1, none⟩ = some (.int .i64 t.moment) := (kc 1).trans (by simp [go_sem, *])
  have f7_1_1 : v7.frozen? ⟨w.heap.size + 1, 1, none⟩ = false := (kf 1).trans (by simp [go_sem, *])
  have c7_1_2 : v7.cell? ⟨w.heap.size + 1, 2, none⟩ = some (.int .i64 t.clock) := (kc 2).trans (by simp [go_sem, *])
  have f7_1_2 : v7.frozen? ⟨w.heap.size + 1, 2, none⟩ = false := (kf 2).trans (by simp [go_sem, *])
  have c7_1_3 : v7.cell? ⟨w.heap.size + 1, 3, none⟩ = some (.int .i64 t.seq) := (kc 3).trans (by simp [go_sem, *])
  have f7_1_3 : v7.frozen? ⟨w.heap.size + 1, 3, none⟩ = false := (kf 3).trans (by simp [go_sem, *])
  have c7_1_4 : v7.cell? ⟨w.heap.size + 1, 4, none⟩ = some (.slice s.actors.a s.actors.n s.actors.c) := (kc 4).trans (by simp [go_sem, *])
  have f7_1_4 : v7.frozen? ⟨w.heap.size + 1, 4, none⟩ = false := (kf 4).trans (by simp [go_sem, *])
  have c7_1_5 : v7.cell? ⟨w.heap.size + 1, 5, none⟩ = some (.slice s.flights.a s.flights.n s.flights.c) := (kc 5).trans (by simp [go_sem, *])
  have f7_1_5 : v7.frozen? ⟨w.heap.size + 1, 5, none⟩ = false := (kf 5).trans (by simp [go_sem, *])
  have c7_1_6 : v7.cell? ⟨w.heap.size + 1, 6, none⟩ = some (.slice t.alarms.a t.alarms.n t.alarms.c) := (kc 6).trans (by simp [go_sem, *])
  have f7_1_6 : v7.frozen? ⟨w.heap.size + 1, 6, none⟩ = false := (kf 6).trans (by simp [go_sem, *])
  have c7_1_7 : v7.cell? ⟨w.heap.size + 1, 7, none⟩ = some (.slice t.asked.a t.asked.n t.asked.c) := (kc 7).trans (by simp [go_sem, *])
  have f7_1_7 : v7.frozen? ⟨w.heap.size + 1, 7, none⟩ = false := (kf 7).trans (by simp [go_sem, *])
  have c7_1_8 : v7.cell? ⟨w.heap.size + 1, 8, none⟩ = some (.int .i64 t.dead) := (kc 8).trans (by simp [go_sem, *])
  have f7_1_8 : v7.frozen? ⟨w.heap.size + 1, 8, none⟩ = false := (kf 8).trans (by simp [go_sem, *])
  clear kc kf
  obtain ⟨k7_2, kc, kf⟩ := keepB h7 (v2.heap.size) (by first | omega | (simp; omega) | (simp; done))
  have c7_2_0 : v7.cell? ⟨v2.heap.size, 0, none⟩ = some (.slice s.up.a s.up.n s.up.c) := (kc 0).trans (by simp [go_sem, *])
  have f7_2_0 : v7.frozen? ⟨v2.heap.size, 0, none⟩ = false := (kf 0).trans (by simp [go_sem, *])
  have c7_2_1 : v7.cell? ⟨v2.heap.size, 1, none⟩ = some (.int .i64 s.moment) := (kc 1).trans (by simp [go_sem, *])
  have f7_2_1 : v7.frozen? ⟨v2.heap.size, 1, none⟩ = false := (kf 1).trans (by simp [go_sem, *])
  have c7_2_2 : v7.cell? ⟨v2.heap.size, 2, none⟩ = some (.int .i64 s.clock) := (kc 2).trans (by simp [go_sem, *])
  have f7_2_2 : v7.frozen? ⟨v2.heap.size, 2, none⟩ = false := (kf 2).trans (by simp [go_sem, *])
  have c7_2_3 : v7.cell? ⟨v2.heap.size, 3, none⟩ = some (.int .i64 s.seq) := (kc 3).trans (by simp [go_sem, *])
  have f7_2_3 : v7.frozen? ⟨v2.heap.size, 3, none⟩ = false := (kf 3).trans (by simp [go_sem, *])
  have c7_2_4 : v7.cell? ⟨v2.heap.size, 4, none⟩ = some (.slice u3.a s.actors.n u3.c) := (kc 4).trans (by simp [go_sem, *])
  have f7_2_4 : v7.frozen? ⟨v2.heap.size, 4, none⟩ = false := (kf 4).trans (by simp [go_sem, *])
  have c7_2_5 : v7.cell? ⟨v2.heap.size, 5, none⟩ = some (.slice u4.a s.flights.n u4.c) := (kc 5).trans (by simp [go_sem, *])
  have f7_2_5 : v7.frozen? ⟨v2.heap.size, 5, none⟩ = false := (kf 5).trans (by simp [go_sem, *])
  have c7_2_6 : v7.cell? ⟨v2.heap.size, 6, none⟩ = some (.slice s.alarms.a s.alarms.n s.alarms.c) := (kc 6).trans (by simp [go_sem, *])
  have f7_2_6 : v7.frozen? ⟨v2.heap.size, 6, none⟩ = false := (kf 6).trans (by simp [go_sem, *])
  have c7_2_7 : v7.cell? ⟨v2.heap.size, 7, none⟩ = some (.slice s.asked.a s.asked.n s.asked.c) := (kc 7).trans (by simp [go_sem, *])
  have f7_2_7 : v7.frozen? ⟨v2.heap.size, 7, none⟩ = false := (kf 7).trans (by simp [go_sem, *])
  have c7_2_8 : v7.cell? ⟨v2.heap.size, 8, none⟩ = some (.int .i64 s.dead) := (kc 8).trans (by simp [go_sem, *])
  have f7_2_8 : v7.frozen? ⟨v2.heap.size, 8, none⟩ = false := (kf 8).trans (by simp [go_sem, *])
  clear kc kf
  clear c6_0_0 f6_0_0 c6_0_1 f6_0_1 c6_0_2 f6_0_2 c6_0_3 f6_0_3 c6_0_4 f6_0_4 c6_0_5 f6_0_5 c6_0_6 f6_0_6 c6_0_7 f6_0_7 c6_0_8 f6_0_8 c6_1_0 f6_1_0 c6_1_1 f6_1_1 c6_1_2 f6_1_2 c6_1_3 f6_1_3 c6_1_4 f6_1_4 c6_1_5 f6_1_5 c6_1_6 f6_1_6 c6_1_7 f6_1_7 c6_1_8 f6_1_8 c6_2_0 f6_2_0 c6_2_1 f6_2_1 c6_2_2 f6_2_2 c6_2_3 f6_2_3 c6_2_4 f6_2_4 c6_2_5 f6_2_5 c6_2_6 f6_2_6 c6_2_7 f6_2_7 c6_2_8 f6_2_8
  go_wp2_with fail
  refine (C6.out _ (by repeat (first | (with_reducible exact Below.refl _ _) | (with_reducible assumption) | refine Below.setCell ?_ (by first | omega | (simp; omega) | (simp; done)) _ | refine Below.alloc ?_ (by first | omega | (simp; omega) | (simp; done)) _ | refine Below.drew ?_)) u3 u4 (HR3.out.up h7) (HR4.out.up h7)).mono ?_
  rintro e v8 ⟨rfl, h8⟩
  have z8 := h8.size
  try simp at z8
  have hB8 : Below w.heap.size w v8 := Below.call (w := w) (by repeat (first | (with_reducible exact Below.refl _ _) | (with_reducible assumption) | refine Below.setCell ?_ (by first | omega | (simp; omega) | (simp; done)) _ | refine Below.alloc ?_ (by first | omega | (simp; omega) | (simp; done)) _ | refine Below.drew ?_)) h8
  obtain ⟨k8_0, kc, kf⟩ := keepB h8 (w.heap.size) (by first | omega | (simp; omega) | (simp; done))
  have c8_0_0 : v8.cell? ⟨w.heap.size, 0, none⟩ = some (.slice s.up.a s.up.n s.up.c) := (kc 0).trans (by simp [go_sem, *])
  have f8_0_0 : v8.frozen? ⟨w.heap.size, 0, none⟩ = false := (kf 0).trans (by simp [go_sem, *])
  have c8_0_1 : v8.cell? ⟨w.heap.size, 1, none⟩ = some (.int .i64 s.moment) := (kc 1).trans (by simp [go_sem, *])
  have f8_0_1 : v8.frozen? ⟨w.heap.size, 1, none⟩ = false := (kf 1).trans (by simp [go_sem, *])
  have c8_0_2 : v8.cell? ⟨w.heap.size, 2, none⟩ = some (.int .i64 s.clock) := (kc 2).trans (by simp [go_sem, *])
  have f8_0_2 : v8.frozen? ⟨w.heap.size, 2, none⟩ = false := (kf 2).trans (by simp [go_sem, *])
  have c8_0_3 : v8.cell? ⟨w.heap.size, 3, none⟩ = some (.int .i64 s.seq) := (kc 3).trans (by simp [go_sem, *])
  have f8_0_3 : v8.frozen? ⟨w.heap.size, 3, none⟩ = false := (kf 3).trans (by simp [go_sem, *])
  have c8_0_4 : v8.cell? ⟨w.heap.size, 4, none⟩ = some (.slice s.actors.a s.actors.n s.actors.c) := (kc 4).trans (by simp [go_sem, *])
  have f8_0_4 : v8.frozen? ⟨w.heap.size, 4, none⟩ = false := (kf 4).trans (by simp [go_sem, *])
  have c8_0_5 : v8.cell? ⟨w.heap.size, 5, none⟩ = some (.slice s.flights.a s.flights.n s.flights.c) := (kc 5).trans (by simp [go_sem, *])
  have f8_0_5 : v8.frozen? ⟨w.heap.size, 5, none⟩ = false := (kf 5).trans (by simp [go_sem, *])
  have c8_0_6 : v8.cell? ⟨w.heap.size, 6, none⟩ = some (.slice s.alarms.a s.alarms.n s.alarms.c) := (kc 6).trans (by simp [go_sem, *])
  have f8_0_6 : v8.frozen? ⟨w.heap.size, 6, none⟩ = false := (kf 6).trans (by simp [go_sem, *])
  have c8_0_7 : v8.cell? ⟨w.heap.size, 7, none⟩ = some (.slice s.asked.a s.asked.n s.asked.c) := (kc 7).trans (by simp [go_sem, *])
  have f8_0_7 : v8.frozen? ⟨w.heap.size, 7, none⟩ = false := (kf 7).trans (by simp [go_sem, *])
  have c8_0_8 : v8.cell? ⟨w.heap.size, 8, none⟩ = some (.int .i64 s.dead) := (kc 8).trans (by simp [go_sem, *])
  have f8_0_8 : v8.frozen? ⟨w.heap.size, 8, none⟩ = false := (kf 8).trans (by simp [go_sem, *])
  clear kc kf
  obtain ⟨k8_1, kc, kf⟩ := keepB h8 (w.heap.size + 1) (by first | omega | (simp; omega) | (simp; done))
  have c8_1_0 : v8.cell? ⟨w.heap.size + 1, 0, none⟩ = some (.slice s.up.a s.up.n s.up.c) := (kc 0).trans (by simp [go_sem, *])
  have f8_1_0 : v8.frozen? ⟨w.heap.size + 1, 0, none⟩ = false := (kf 0).trans (by simp [go_sem, *])
  have c8_1_1 : v8.cell? ⟨w.heap.size + 1, 1, none⟩ = some (.int .i64 t.moment) := (kc 1).trans (by simp [go_sem, *])
  have f8_1_1 : v8.frozen? ⟨w.heap.size + 1, 1, none⟩ = false := (kf 1).trans (by simp [go_sem, *])
  have c8_1_2 : v8.cell? ⟨w.heap.size + 1, 2, none⟩ = some (.int .i64 t.clock) := (kc 2).trans (by simp [go_sem, *])
  have f8_1_2 : v8.frozen? ⟨w.heap.size + 1, 2, none⟩ = false := (kf 2).trans (by simp [go_sem, *])
  have c8_1_3 : v8.cell? ⟨w.heap.size + 1, 3, none⟩ = some (.int .i64 t.seq) := (kc 3).trans (by simp [go_sem, *])
  have f8_1_3 : v8.frozen? ⟨w.heap.size + 1, 3, none⟩ = false := (kf 3).trans (by simp [go_sem, *])
  have c8_1_4 : v8.cell? ⟨w.heap.size + 1, 4, none⟩ = some (.slice s.actors.a s.actors.n s.actors.c) := (kc 4).trans (by simp [go_sem, *])
  have f8_1_4 : v8.frozen? ⟨w.heap.size + 1, 4, none⟩ = false := (kf 4).trans (by simp [go_sem, *])
  have c8_1_5 : v8.cell? ⟨w.heap.size + 1, 5, none⟩ = some (.slice s.flights.a s.flights.n s.flights.c) := (kc 5).trans (by simp [go_sem, *])
  have f8_1_5 : v8.frozen? ⟨w.heap.size + 1, 5, none⟩ = false := (kf 5).trans (by simp [go_sem, *])
  have c8_1_6 : v8.cell? ⟨w.heap.size + 1, 6, none⟩ = some (.slice t.alarms.a t.alarms.n t.alarms.c) := (kc 6).trans (by simp [go_sem, *])
  have f8_1_6 : v8.frozen? ⟨w.heap.size + 1, 6, none⟩ = false := (kf 6).trans (by simp [go_sem, *])
  have c8_1_7 : v8.cell? ⟨w.heap.size + 1, 7, none⟩ = some (.slice t.asked.a t.asked.n t.asked.c) := (kc 7).trans (by simp [go_sem, *])
  have f8_1_7 : v8.frozen? ⟨w.heap.size + 1, 7, none⟩ = false := (kf 7).trans (by simp [go_sem, *])
  have c8_1_8 : v8.cell? ⟨w.heap.size + 1, 8, none⟩ = some (.int .i64 t.dead) := (kc 8).trans (by simp [go_sem, *])
  have f8_1_8 : v8.frozen? ⟨w.heap.size + 1, 8, none⟩ = false := (kf 8).trans (by simp [go_sem, *])
  clear kc kf
  obtain ⟨k8_2, kc, kf⟩ := keepB h8 (v2.heap.size) (by first | omega | (simp; omega) | (simp; done))
  have c8_2_0 : v8.cell? ⟨v2.heap.size, 0, none⟩ = some (.slice s.up.a s.up.n s.up.c) := (kc 0).trans (by simp [go_sem, *])
  have f8_2_0 : v8.frozen? ⟨v2.heap.size, 0, none⟩ = false := (kf 0).trans (by simp [go_sem, *])
  have c8_2_1 : v8.cell? ⟨v2.heap.size, 1, none⟩ = some (.int .i64 s.moment) := (kc 1).trans (by simp [go_sem, *])
  have f8_2_1 : v8.frozen? ⟨v2.heap.size, 1, none⟩ = false := (kf 1).trans (by simp [go_sem, *])
  have c8_2_2 : v8.cell? ⟨v2.heap.size, 2, none⟩ = some (.int .i64 s.clock) := (kc 2).trans (by simp [go_sem, *])
  have f8_2_2 : v8.frozen? ⟨v2.heap.size, 2, none⟩ = false := (kf 2).trans (by simp [go_sem, *])
  have c8_2_3 : v8.cell? ⟨v2.heap.size, 3, none⟩ = some (.int .i64 s.seq) := (kc 3).trans (by simp [go_sem, *])
  have f8_2_3 : v8.frozen? ⟨v2.heap.size, 3, none⟩ = false := (kf 3).trans (by simp [go_sem, *])
  have c8_2_4 : v8.cell? ⟨v2.heap.size, 4, none⟩ = some (.slice u3.a s.actors.n u3.c) := (kc 4).trans (by simp [go_sem, *])
  have f8_2_4 : v8.frozen? ⟨v2.heap.size, 4, none⟩ = false := (kf 4).trans (by simp [go_sem, *])
  have c8_2_5 : v8.cell? ⟨v2.heap.size, 5, none⟩ = some (.slice u4.a s.flights.n u4.c) := (kc 5).trans (by simp [go_sem, *])
  have f8_2_5 : v8.frozen? ⟨v2.heap.size, 5, none⟩ = false := (kf 5).trans (by simp [go_sem, *])
  have c8_2_6 : v8.cell? ⟨v2.heap.size, 6, none⟩ = some (.slice s.alarms.a s.alarms.n s.alarms.c) := (kc 6).trans (by simp [go_sem, *])
  have f8_2_6 : v8.frozen? ⟨v2.heap.size, 6, none⟩ = false := (kf 6).trans (by simp [go_sem, *])
  have c8_2_7 : v8.cell? ⟨v2.heap.size, 7, none⟩ = some (.slice s.asked.a s.asked.n s.asked.c) := (kc 7).trans (by simp [go_sem, *])
  have f8_2_7 : v8.frozen? ⟨v2.heap.size, 7, none⟩ = false := (kf 7).trans (by simp [go_sem, *])
  have c8_2_8 : v8.cell? ⟨v2.heap.size, 8, none⟩ = some (.int .i64 s.dead) := (kc 8).trans (by simp [go_sem, *])
  have f8_2_8 : v8.frozen? ⟨v2.heap.size, 8, none⟩ = false := (kf 8).trans (by simp [go_sem, *])
  clear kc kf
  clear c7_0_0 f7_0_0 c7_0_1 f7_0_1 c7_0_2 f7_0_2 c7_0_3 f7_0_3 c7_0_4 f7_0_4 c7_0_5 f7_0_5 c7_0_6 f7_0_6 c7_0_7 f7_0_7 c7_0_8 f7_0_8 c7_1_0 f7_1_0 c7_1_1 f7_1_1 c7_1_2 f7_1_2 c7_1_3 f7_1_3 c7_1_4 f7_1_4 c7_1_5 f7_1_5 c7_1_6 f7_1_6 c7_1_7 f7_1_7 c7_1_8 f7_1_8 c7_2_0 f7_2_0 c7_2_1 f7_2_1 c7_2_2 f7_2_2 c7_2_3 f7_2_3 c7_2_4 f7_2_4 c7_2_5 f7_2_5 c7_2_6 f7_2_6 c7_2_7 f7_2_7 c7_2_8 f7_2_8
  go_wp2_with fail
  go_ret
  exact ⟨rfl, hB8⟩
end Go.Proofs.Ytjdjfjokniingaa
