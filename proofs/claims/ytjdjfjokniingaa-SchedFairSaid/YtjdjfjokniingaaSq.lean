/- The walk of SchedFair. -/
import Derived.Test.YtjdjfjokniingaaSp
namespace Go.Proofs.Ytjdjfjokniingaa
open Go.RowKit

/-- no two enabled actions without a path are one -/
def Apart (L : List ActnC) : Prop := ∀ (i k : Nat) (a : ActnC), k < i → L[i]? = some a → L[k]? = some a → a.path.toList.isEmpty = false

theorem toList_inj {a b : ByteArray} (h : a.toList = b.toList) : a = b := by
  rw [ByteArray.toList_eq, ByteArray.toList_eq] at h
  exact ByteArray.ext (Array.toList_inj.1 h)
theorem actn_eq_no {a b : ActnC} (h : a ≠ b) (W : World) : Sem.run Try.prog (binOp .eql 81 (.agg #[.string a.path, .int .i64 a.x, .int .i64 a.y]) (.agg #[.string b.path, .int .i64 b.x, .int .i64 b.y])) W = .ok (.bool false) W := by
  go_simp
  intro h1 h2 h3
  obtain ⟨p, x, y⟩ := a
  obtain ⟨p', x', y'⟩ := b
  simp only at h1 h2 h3
  exact h (by rw [toList_inj h1, h2, h3])

set_option maxRecDepth 100000 in
set_option maxHeartbeats 8000000 in
theorem fair_walk (s : SysC) (ls : List LiveC) (fls : List FlyC) (ups : List Bool) (n : Int) (w : World) (hs : SysAt s ls fls ups w) (hn1 : -9223372036854775808 ≤ n) (hn2 : n ≤ 9223372036854775807)
    (hap : (∀ a ∈ ls, a.path.toList.isEmpty = false) → Apart (Sy.enabled ups ls (fls.map chOf))) :
    Calls Try.prog 14 #[sysV s, .int .i64 n] w fun e w' => e = .returned (.bool true) ∧ Below w.heap.size w w' := by
  obtain ⟨L, hL⟩ : ∃ L, Sy.enabled ups ls (fls.map chOf) = L := ⟨_, rfl⟩
  rw [hL] at hap
  have hel := Sy.enabled_len ups ls (fls.map chOf)
  have hl1 := hs.ac.len (fun _ => rfl) (by omega)
  have hl2 := hs.fl.len (fun _ => rfl) (by omega)
  have hll : L.length ≤ 281474976710656 := by have := hs.ba; have := hs.bf; rw [hL] at hel; simp at hel; omega
  have C1 : Hid (∀ (W : World) (m : Int) (c : ActnC), Below w.heap.size w W → 0 < L.length → Sy.choose L m = c → -9223372036854775808 ≤ m → m ≤ 9223372036854775807 → Calls Try.prog 50 #[sysV s, .int .i64 m] W fun e w' => e = .returned (.tuple #[.agg #[.string c.path, .int .i64 c.x, .int .i64 c.y], .bool true]) ∧ Below W.heap.size W w') := fun W m c hW h0 hc h1 h2 => by
    have h := hs.below hW
    have := choose_any s ls fls ups m W h.up h.ac h.fl h.ba h.bf h.wf h1 h2
    have hne : (!L.isEmpty) = true := by cases L <;> simp at h0 ⊢
    rw [hL, hc, hne] at this
    exact this
  have C3 := Lib.hid (fun (W : World) (hW : Below w.heap.size w W) => by
    have h := hs.below hW
    exact en53 s ls fls ups W h.up h.ac h.fl h.ba h.bf h.wf L hL)
  have C0 := Lib.hid (fun (W : World) (hW : Below w.heap.size w W) => few_any s ls W (hs.below hW).ac)
  have C5 := Lib.hid (fun (W : World) (hW : Below w.heap.size w W) (hb : s.actors.n ≤ 100) => named_any s ls W (hs.below hW).ac hb)
  have HAP := Lib.hid hap
  clear hL hel hl1 hl2 hs hap
  go_enter Try.func14, Try.ntmps14
  go_wp2_with fail
  refine (small20 _).mono ?_
  rintro e v1 ⟨rfl, h1⟩
  have z1 := h1.size
  try simp at z1
  have hB1 : Below w.heap.size w v1 := Below.call (w := w) (by repeat (first | (with_reducible exact Below.refl _ _) | (with_reducible assumption) | refine Below.setCell ?_ (by first | omega | (simp; omega) | (simp; done)) _ | refine Below.alloc ?_ (by first | omega | (simp; omega) | (simp; done)) _ | refine Below.drew ?_)) h1
  obtain ⟨k1_0, kc, kf⟩ := keepB h1 (w.heap.size) (by first | omega | (simp; omega) | (simp; done))
  have c1_0_0 : v1.cell? ⟨w.heap.size, 0, none⟩ = some (.slice s.up.a s.up.n s.up.c) := (kc 0).trans (by simp [go_sem, *])
  have f1_0_0 : v1.frozen? ⟨w.heap.size, 0, none⟩ = false := (kf 0).trans (by simp [go_sem, *])
  have c1_0_1 : v1.cell? ⟨w.heap.size, 1, none⟩ = some (.int .i64 s.moment) := (kc 1).trans (by simp [go_sem, *])
  have f1_0_1 : v1.frozen? ⟨w.heap.size, 1, none⟩ = false := (kf 1).trans (by simp [go_sem, *])
  have c1_0_2 : v1.cell? ⟨w.heap.size, 2, none⟩ = some (.int .i64 s.clock) := (kc 2).trans (by simp [go_sem, *])
  have f1_0_2 : v1.frozen? ⟨w.heap.size, 2, none⟩ = false := (kf 2).trans (by simp [go_sem, *])
  have c1_0_3 : v1.cell? ⟨w.heap.size, 3, none⟩ = some (.int .i64 s.seq) := (kc 3).trans (by simp [go_sem, *])
  have f1_0_3 : v1.frozen? ⟨w.heap.size, 3, none⟩ = false := (kf 3).trans (by simp [go_sem, *])
  have c1_0_4 : v1.cell? ⟨w.heap.size, 4, none⟩ = some (.slice s.actors.a s.actors.n s.actors.c) := (kc 4).trans (by simp [go_sem, *])
  have f1_0_4 : v1.frozen? ⟨w.heap.size, 4, none⟩ = false := (kf 4).trans (by simp [go_sem, *])
  have c1_0_5 : v1.cell? ⟨w.heap.size, 5, none⟩ = some (.slice s.flights.a s.flights.n s.flights.c) := (kc 5).trans (by simp [go_sem, *])
  have f1_0_5 : v1.frozen? ⟨w.heap.size, 5, none⟩ = false := (kf 5).trans (by simp [go_sem, *])
  have c1_0_6 : v1.cell? ⟨w.heap.size, 6, none⟩ = some (.slice s.alarms.a s.alarms.n s.alarms.c) := (kc 6).trans (by simp [go_sem, *])
  have f1_0_6 : v1.frozen? ⟨w.heap.size, 6, none⟩ = false := (kf 6).trans (by simp [go_sem, *])
  have c1_0_7 : v1.cell? ⟨w.heap.size, 7, none⟩ = some (.slice s.asked.a s.asked.n s.asked.c) := (kc 7).trans (by simp [go_sem, *])
  have f1_0_7 : v1.frozen? ⟨w.heap.size, 7, none⟩ = false := (kf 7).trans (by simp [go_sem, *])
  have c1_0_8 : v1.cell? ⟨w.heap.size, 8, none⟩ = some (.int .i64 s.dead) := (kc 8).trans (by simp [go_sem, *])
  have f1_0_8 : v1.frozen? ⟨w.heap.size, 8, none⟩ = false := (kf 8).trans (by simp [go_sem, *])
  clear kc kf
  go_wp2_with fail
  refine (C3.out _ (by repeat (first | (with_reducible exact Below.refl _ _) | (with_reducible assumption) | refine Below.setCell ?_ (by first | omega | (simp; omega) | (simp; done)) _ | refine Below.alloc ?_ (by first | omega | (simp; omega) | (simp; done)) _ | refine Below.drew ?_))).mono ?_
  rintro e v2 ⟨lv, rfl, hlv, h2⟩
  have z2 := h2.size
  try simp at z2
  have hB2 : Below w.heap.size w v2 := Below.call (w := w) (by repeat (first | (with_reducible exact Below.refl _ _) | (with_reducible assumption) | refine Below.setCell ?_ (by first | omega | (simp; omega) | (simp; done)) _ | refine Below.alloc ?_ (by first | omega | (simp; omega) | (simp; done)) _ | refine Below.drew ?_)) h2
  obtain ⟨k2_0, kc, kf⟩ := keepB h2 (w.heap.size) (by first | omega | (simp; omega) | (simp; done))
  have c2_0_0 : v2.cell? ⟨w.heap.size, 0, none⟩ = some (.slice s.up.a s.up.n s.up.c) := (kc 0).trans (by simp [go_sem, *])
  have f2_0_0 : v2.frozen? ⟨w.heap.size, 0, none⟩ = false := (kf 0).trans (by simp [go_sem, *])
  have c2_0_1 : v2.cell? ⟨w.heap.size, 1, none⟩ = some (.int .i64 s.moment) := (kc 1).trans (by simp [go_sem, *])
  have f2_0_1 : v2.frozen? ⟨w.heap.size, 1, none⟩ = false := (kf 1).trans (by simp [go_sem, *])
  have c2_0_2 : v2.cell? ⟨w.heap.size, 2, none⟩ = some (.int .i64 s.clock) := (kc 2).trans (by simp [go_sem, *])
  have f2_0_2 : v2.frozen? ⟨w.heap.size, 2, none⟩ = false := (kf 2).trans (by simp [go_sem, *])
  have c2_0_3 : v2.cell? ⟨w.heap.size, 3, none⟩ = some (.int .i64 s.seq) := (kc 3).trans (by simp [go_sem, *])
  have f2_0_3 : v2.frozen? ⟨w.heap.size, 3, none⟩ = false := (kf 3).trans (by simp [go_sem, *])
  have c2_0_4 : v2.cell? ⟨w.heap.size, 4, none⟩ = some (.slice s.actors.a s.actors.n s.actors.c) := (kc 4).trans (by simp [go_sem, *])
  have f2_0_4 : v2.frozen? ⟨w.heap.size, 4, none⟩ = false := (kf 4).trans (by simp [go_sem, *])
  have c2_0_5 : v2.cell? ⟨w.heap.size, 5, none⟩ = some (.slice s.flights.a s.flights.n s.flights.c) := (kc 5).trans (by simp [go_sem, *])
  have f2_0_5 : v2.frozen? ⟨w.heap.size, 5, none⟩ = false := (kf 5).trans (by simp [go_sem, *])
  have c2_0_6 : v2.cell? ⟨w.heap.size, 6, none⟩ = some (.slice s.alarms.a s.alarms.n s.alarms.c) := (kc 6).trans (by simp [go_sem, *])
  have f2_0_6 : v2.frozen? ⟨w.heap.size, 6, none⟩ = false := (kf 6).trans (by simp [go_sem, *])
  have c2_0_7 : v2.cell? ⟨w.heap.size, 7, none⟩ = some (.slice s.asked.a s.asked.n s.asked.c) := (kc 7).trans (by simp [go_sem, *])
  have f2_0_7 : v2.frozen? ⟨w.heap.size, 7, none⟩ = false := (kf 7).trans (by simp [go_sem, *])
  have c2_0_8 : v2.cell? ⟨w.heap.size, 8, none⟩ = some (.int .i64 s.dead) := (kc 8).trans (by simp [go_sem, *])
  have f2_0_8 : v2.frozen? ⟨w.heap.size, 8, none⟩ = false := (kf 8).trans (by simp [go_sem, *])
  clear kc kf
  clear c1_0_0 f1_0_0 c1_0_1 f1_0_1 c1_0_2 f1_0_2 c1_0_3 f1_0_3 c1_0_4 f1_0_4 c1_0_5 f1_0_5 c1_0_6 f1_0_6 c1_0_7 f1_0_7 c1_0_8 f1_0_8
  have HLV := Lib.hid hlv; clear hlv
  go_wp2_with fail
  refine (C0.out _ (by repeat (first | (with_reducible exact Below.refl _ _) | (with_reducible assumption) | refine Below.setCell ?_ (by first | omega | (simp; omega) | (simp; done)) _ | refine Below.alloc ?_ (by first | omega | (simp; omega) | (simp; done)) _ | refine Below.drew ?_))).mono ?_
  rintro e v3 ⟨x, rfl, hx, h3⟩
  have z3 := h3.size
  try simp at z3
  have hB3 : Below w.heap.size w v3 := Below.call (w := w) (by repeat (first | (with_reducible exact Below.refl _ _) | (with_reducible assumption) | refine Below.setCell ?_ (by first | omega | (simp; omega) | (simp; done)) _ | refine Below.alloc ?_ (by first | omega | (simp; omega) | (simp; done)) _ | refine Below.drew ?_)) h3
  obtain ⟨k3_0, kc, kf⟩ := keepB h3 (w.heap.size) (by first | omega | (simp; omega) | (simp; done))
  have c3_0_0 : v3.cell? ⟨w.heap.size, 0, none⟩ = some (.slice s.up.a s.up.n s.up.c) := (kc 0).trans (by simp [go_sem, *])
  have f3_0_0 : v3.frozen? ⟨w.heap.size, 0, none⟩ = false := (kf 0).trans (by simp [go_sem, *])
  have c3_0_1 : v3.cell? ⟨w.heap.size, 1, none⟩ = some (.int .i64 s.moment) := (kc 1).trans (by simp [go_sem, *])
  have f3_0_1 : v3.frozen? ⟨w.heap.size, 1, none⟩ = false := (kf 1).trans (by simp [go_sem, *])
  have c3_0_2 : v3.cell? ⟨w.heap.size, 2, none⟩ = some (.int .i64 s.clock) := (kc 2).trans (by simp [go_sem, *])
  have f3_0_2 : v3.frozen? ⟨w.heap.size, 2, none⟩ = false := (kf 2).trans (by simp [go_sem, *])
  have c3_0_3 : v3.cell? ⟨w.heap.size, 3, none⟩ = some (.int .i64 s.seq) := (kc 3).trans (by simp [go_sem, *])
  have f3_0_3 : v3.frozen? ⟨w.heap.size, 3, none⟩ = false := (kf 3).trans (by simp [go_sem, *])
  have c3_0_4 : v3.cell? ⟨w.heap.size, 4, none⟩ = some (.slice s.actors.a s.actors.n s.actors.c) := (kc 4).trans (by simp [go_sem, *])
  have f3_0_4 : v3.frozen? ⟨w.heap.size, 4, none⟩ = false := (kf 4).trans (by simp [go_sem, *])
  have c3_0_5 : v3.cell? ⟨w.heap.size, 5, none⟩ = some (.slice s.flights.a s.flights.n s.flights.c) := (kc 5).trans (by simp [go_sem, *])
  have f3_0_5 : v3.frozen? ⟨w.heap.size, 5, none⟩ = false := (kf 5).trans (by simp [go_sem, *])
  have c3_0_6 : v3.cell? ⟨w.heap.size, 6, none⟩ = some (.slice s.alarms.a s.alarms.n s.alarms.c) := (kc 6).trans (by simp [go_sem, *])
  have f3_0_6 : v3.frozen? ⟨w.heap.size, 6, none⟩ = false := (kf 6).trans (by simp [go_sem, *])
  have c3_0_7 : v3.cell? ⟨w.heap.size, 7, none⟩ = some (.slice s.asked.a s.asked.n s.asked.c) := (kc 7).trans (by simp [go_sem, *])
  have f3_0_7 : v3.frozen? ⟨w.heap.size, 7, none⟩ = false := (kf 7).trans (by simp [go_sem, *])
  have c3_0_8 : v3.cell? ⟨w.heap.size, 8, none⟩ = some (.int .i64 s.dead) := (kc 8).trans (by simp [go_sem, *])
  have f3_0_8 : v3.frozen? ⟨w.heap.size, 8, none⟩ = false := (kf 8).trans (by simp [go_sem, *])
  clear kc kf
  clear c2_0_0 f2_0_0 c2_0_1 f2_0_1 c2_0_2 f2_0_2 c2_0_3 f2_0_3 c2_0_4 f2_0_4 c2_0_5 f2_0_5 c2_0_6 f2_0_6 c2_0_7 f2_0_7 c2_0_8 f2_0_8
  have HX := Lib.hid hx; clear hx
  cases x
  · go_wp2_with fail
    go_ret
    exact ⟨rfl, by with_reducible assumption⟩
  cases t1 : decide ((1152921504606846976 : Int) < n)
  rotate_left
  · go_wp2_with fail
    go_ret
    exact ⟨rfl, by with_reducible assumption⟩
  cases t2 : decide (n < (-1152921504606846976 : Int))
  rotate_left
  · go_wp2_with fail
    go_ret
    exact ⟨rfl, by with_reducible assumption⟩
  go_wp2_with fail
  refine (C5.out _ (by repeat (first | (with_reducible exact Below.refl _ _) | (with_reducible assumption) | refine Below.setCell ?_ (by first | omega | (simp; omega) | (simp; done)) _ | refine Below.alloc ?_ (by first | omega | (simp; omega) | (simp; done)) _ | refine Below.drew ?_)) (HX.out (by first | rfl | trivial)).1).mono ?_
  rintro e v4 ⟨y, rfl, hy, h4⟩
  have z4 := h4.size
  try simp at z4
  have hB4 : Below w.heap.size w v4 := Below.call (w := w) (by repeat (first | (with_reducible exact Below.refl _ _) | (with_reducible assumption) | refine Below.setCell ?_ (by first | omega | (simp; omega) | (simp; done)) _ | refine Below.alloc ?_ (by first | omega | (simp; omega) | (simp; done)) _ | refine Below.drew ?_)) h4
  obtain ⟨k4_0, kc, kf⟩ := keepB h4 (w.heap.size) (by first | omega | (simp; omega) | (simp; done))
  have c4_0_0 : v4.cell? ⟨w.heap.size, 0, none⟩ = some (.slice s.up.a s.up.n s.up.c) := (kc 0).trans (by simp [go_sem, *])
  have f4_0_0 : v4.frozen? ⟨w.heap.size, 0, none⟩ = false := (kf 0).trans (by simp [go_sem, *])
  have c4_0_1 : v4.cell? ⟨w.heap.size, 1, none⟩ = some (.int .i64 s.moment) := (kc 1).trans (by simp [go_sem, *])
  have f4_0_1 : v4.frozen? ⟨w.heap.size, 1, none⟩ = false := (kf 1).trans (by simp [go_sem, *])
  have c4_0_2 : v4.cell? ⟨w.heap.size, 2, none⟩ = some (.int .i64 s.clock) := (kc 2).trans (by simp [go_sem, *])
  have f4_0_2 : v4.frozen? ⟨w.heap.size, 2, none⟩ = false := (kf 2).trans (by simp [go_sem, *])
  have c4_0_3 : v4.cell? ⟨w.heap.size, 3, none⟩ = some (.int .i64 s.seq) := (kc 3).trans (by simp [go_sem, *])
  have f4_0_3 : v4.frozen? ⟨w.heap.size, 3, none⟩ = false := (kf 3).trans (by simp [go_sem, *])
  have c4_0_4 : v4.cell? ⟨w.heap.size, 4, none⟩ = some (.slice s.actors.a s.actors.n s.actors.c) := (kc 4).trans (by simp [go_sem, *])
  have f4_0_4 : v4.frozen? ⟨w.heap.size, 4, none⟩ = false := (kf 4).trans (by simp [go_sem, *])
  have c4_0_5 : v4.cell? ⟨w.heap.size, 5, none⟩ = some (.slice s.flights.a s.flights.n s.flights.c) := (kc 5).trans (by simp [go_sem, *])
  have f4_0_5 : v4.frozen? ⟨w.heap.size, 5, none⟩ = false := (kf 5).trans (by simp [go_sem, *])
  have c4_0_6 : v4.cell? ⟨w.heap.size, 6, none⟩ = some (.slice s.alarms.a s.alarms.n s.alarms.c) := (kc 6).trans (by simp [go_sem, *])
  have f4_0_6 : v4.frozen? ⟨w.heap.size, 6, none⟩ = false := (kf 6).trans (by simp [go_sem, *])
  have c4_0_7 : v4.cell? ⟨w.heap.size, 7, none⟩ = some (.slice s.asked.a s.asked.n s.asked.c) := (kc 7).trans (by simp [go_sem, *])
  have f4_0_7 : v4.frozen? ⟨w.heap.size, 7, none⟩ = false := (kf 7).trans (by simp [go_sem, *])
  have c4_0_8 : v4.cell? ⟨w.heap.size, 8, none⟩ = some (.int .i64 s.dead) := (kc 8).trans (by simp [go_sem, *])
  have f4_0_8 : v4.frozen? ⟨w.heap.size, 8, none⟩ = false := (kf 8).trans (by simp [go_sem, *])
  clear kc kf
  clear c3_0_0 f3_0_0 c3_0_1 f3_0_1 c3_0_2 f3_0_2 c3_0_3 f3_0_3 c3_0_4 f3_0_4 c3_0_5 f3_0_5 c3_0_6 f3_0_6 c3_0_7 f3_0_7 c3_0_8 f3_0_8
  have HY := Lib.hid hy; clear hy
  cases y
  rotate_left
  · go_wp2_with fail
    go_ret
    exact ⟨rfl, by with_reducible assumption⟩
  have HAPT := Lib.hid (HAP.out (HY.out (by first | rfl | trivial)))
  have HL4 := Lib.hid ((HLV.out.below (Below.call (w := v2) (Below.call (w := v2) (Below.refl _ _) h3) h4) (Nat.le_refl _)).more (show v2.heap.size ≤ v4.heap.size by omega))
  simp only [decide_eq_false_iff_not] at t1 t2
  have n1 : n ≤ 1152921504606846976 := by omega
  have n2 : -1152921504606846976 ≤ n := by omega
  clear t1 t2
  go_wp2_with fail
  go_loopw [7] (fun i wr => ∃ k : Nat, k ≤ L.length ∧ i = .int .i64 k ∧ Below v4.heap.size v4 wr) (fun i _ => L.length - (intOf i).toNat)
  case atStart => exact ⟨0, Nat.zero_le _, rfl, Below.refl _ _⟩
  case round =>
    obtain ⟨k, hk, rfl, hB⟩ := hrel
    have zr := hB.size
    have HBw := Lib.hid (hB4.trans (hB.mono (by omega)))
    by_cases hlt : k < L.length
    · obtain ⟨b, off, ak, hA, hb, hak, hck⟩ := HL4.out.at_ (fun _ => rfl) (by omega) hlt
      have q0 : wr.cell? ⟨w.heap.size, 0, none⟩ = some (.slice s.up.a s.up.n s.up.c) := (hB.cell (p := ⟨w.heap.size, 0, none⟩) (show w.heap.size < v4.heap.size by omega)).trans c4_0_0
      have q1 : wr.cell? ⟨w.heap.size, 1, none⟩ = some (.int .i64 s.moment) := (hB.cell (p := ⟨w.heap.size, 1, none⟩) (show w.heap.size < v4.heap.size by omega)).trans c4_0_1
      have q2 : wr.cell? ⟨w.heap.size, 2, none⟩ = some (.int .i64 s.clock) := (hB.cell (p := ⟨w.heap.size, 2, none⟩) (show w.heap.size < v4.heap.size by omega)).trans c4_0_2
      have q3 : wr.cell? ⟨w.heap.size, 3, none⟩ = some (.int .i64 s.seq) := (hB.cell (p := ⟨w.heap.size, 3, none⟩) (show w.heap.size < v4.heap.size by omega)).trans c4_0_3
      have q4 : wr.cell? ⟨w.heap.size, 4, none⟩ = some (.slice s.actors.a s.actors.n s.actors.c) := (hB.cell (p := ⟨w.heap.size, 4, none⟩) (show w.heap.size < v4.heap.size by omega)).trans c4_0_4
      have q5 : wr.cell? ⟨w.heap.size, 5, none⟩ = some (.slice s.flights.a s.flights.n s.flights.c) := (hB.cell (p := ⟨w.heap.size, 5, none⟩) (show w.heap.size < v4.heap.size by omega)).trans c4_0_5
      have q6 : wr.cell? ⟨w.heap.size, 6, none⟩ = some (.slice s.alarms.a s.alarms.n s.alarms.c) := (hB.cell (p := ⟨w.heap.size, 6, none⟩) (show w.heap.size < v4.heap.size by omega)).trans c4_0_6
      have q7 : wr.cell? ⟨w.heap.size, 7, none⟩ = some (.slice s.asked.a s.asked.n s.asked.c) := (hB.cell (p := ⟨w.heap.size, 7, none⟩) (show w.heap.size < v4.heap.size by omega)).trans c4_0_7
      have q8 : wr.cell? ⟨w.heap.size, 8, none⟩ = some (.int .i64 s.dead) := (hB.cell (p := ⟨w.heap.size, 8, none⟩) (show w.heap.size < v4.heap.size by omega)).trans c4_0_8
      clear c4_0_0 f4_0_0 c4_0_1 f4_0_1 c4_0_2 f4_0_2 c4_0_3 f4_0_3 c4_0_4 f4_0_4 c4_0_5 f4_0_5 c4_0_6 f4_0_6 c4_0_7 f4_0_7 c4_0_8 f4_0_8
      have kp : ∀ o, wr.cell? ⟨b, o, none⟩ = v4.cell? ⟨b, o, none⟩ := fun o => hB.cell (p := ⟨b, o, none⟩) hb
      have y0 : wr.cell? ⟨b, off + k * 3, none⟩ = some (.string ak.path) := (kp _).trans (hck 0 _ rfl)
      have y1 : wr.cell? ⟨b, off + k * 3 + 1, none⟩ = some (.int .i64 ak.x) := (kp _).trans (hck 1 _ rfl)
      have y2 : wr.cell? ⟨b, off + k * 3 + 2, none⟩ = some (.int .i64 ak.y) := (kp _).trans (hck 2 _ rfl)
      have hixk : ∀ W : World, Sem.run Try.prog (Instr.indexAt 85 (.slice lv.a L.length lv.c) (.int .i64 (k : Int))) W = .ok (.pointer (some ⟨b, off + k * 3, none⟩)) W := by intro W; rw [hA]; go_simp
      have HAk := Lib.hid hA
      have HK := Lib.hid hak
      have HKP := Lib.hid kp
      clear hA hak hck kp
      go_wp2_with fail
      obtain ⟨wo, hwo⟩ : ∃ wo : World, wo = wr := ⟨_, rfl⟩
      subst hwo
      go_loopw [8] (fun i wr => ∃ j : Nat, j ≤ k ∧ i = .int .i64 j ∧ ∃ m, wr = wo.drewN m) (fun i _ => k - (intOf i).toNat)
      case atStart => exact ⟨0, Nat.zero_le _, rfl, 0, rfl⟩
      case round =>
        obtain ⟨j, hj, rfl, m, rfl⟩ := hrel
        by_cases hjk : j < k
        · obtain ⟨b', off', aj, hA', hb', haj, hcj⟩ := HL4.out.at_ (fun _ => rfl) (by omega) (show j < L.length by omega)
          have e := HAk.out
          rw [hA'] at e
          simp only [Option.some.injEq, Addr.mk.injEq] at e
          obtain ⟨rfl, rfl, _⟩ := e
          have x0 : wo.cell? ⟨b', off' + j * 3, none⟩ = some (.string aj.path) := (HKP.out _).trans (hcj 0 _ rfl)
          have x1 : wo.cell? ⟨b', off' + j * 3 + 1, none⟩ = some (.int .i64 aj.x) := (HKP.out _).trans (hcj 1 _ rfl)
          have x2 : wo.cell? ⟨b', off' + j * 3 + 2, none⟩ = some (.int .i64 aj.y) := (HKP.out _).trans (hcj 2 _ rfl)
          have hjl : j < L.length := by omega
          have hixj : ∀ W : World, Sem.run Try.prog (Instr.indexAt 85 (.slice lv.a L.length lv.c) (.int .i64 (j : Int))) W = .ok (.pointer (some ⟨b', off' + j * 3, none⟩)) W := by intro W; rw [hA']; go_simp
          have HJ := Lib.hid haj
          clear hA' haj hcj
          by_cases hjeq : aj = ak
          · have hpe : ak.path.toList.isEmpty = false := HAPT.out k j ak hjk HK.out (by rw [← hjeq]; exact HJ.out)
            subst hjeq
            go_wp2_with fail
            go_quiet (fail)
            go_wp2_with fail
            go_roundw
            case rel => exact ⟨j + 1, by omega, by go_num, _, rfl⟩
            case measure => simp [intOf]; omega
          · have heq := fun (W : World) => actn_eq_no hjeq W
            go_wp2_with fail
            go_quiet (fail)
            go_wp2_with fail
            go_roundw
            case rel => exact ⟨j + 1, by omega, by go_num, _, rfl⟩
            case measure => simp [intOf]; omega
        · obtain ⟨i, hi, hm, c, hci, hcc⟩ := Sy.choose_idx L (n + (k : Int)) (by omega)
          have hcc2 : Sy.choose L (n + (k : Int) + (L.length : Int)) = c := by rw [← hcc]; simp [Sy.choose]
          obtain ⟨b', off', ai, hA', hb', hai, hcj⟩ := HL4.out.at_ (fun _ => rfl) (by omega) hi
          have e := HAk.out
          rw [hA'] at e
          simp only [Option.some.injEq, Addr.mk.injEq] at e
          obtain ⟨rfl, rfl, _⟩ := e
          have ea : ai = c := by rw [hai] at hci; injection hci
          subst ea
          have x0 : wo.cell? ⟨b', off' + i * 3, none⟩ = some (.string ai.path) := (HKP.out _).trans (hcj 0 _ rfl)
          have x1 : wo.cell? ⟨b', off' + i * 3 + 1, none⟩ = some (.int .i64 ai.x) := (HKP.out _).trans (hcj 1 _ rfl)
          have x2 : wo.cell? ⟨b', off' + i * 3 + 2, none⟩ = some (.int .i64 ai.y) := (HKP.out _).trans (hcj 2 _ rfl)
          have hixi : ∀ W : World, Sem.run Try.prog (Instr.indexAt 85 (.slice lv.a L.length lv.c) (.int .i64 (i : Int))) W = .ok (.pointer (some ⟨b', off' + i * 3, none⟩)) W := by intro W; rw [hA']; go_simp
          have HM := Lib.hid hm
          have HC1 := Lib.hid hcc
          have HC2 := Lib.hid hcc2
          have hBd : Below w.heap.size w (wo.drewN m) := below_drewN HBw.out m
          have hBe : Below v4.heap.size v4 (wo.drewN m) := below_drewN hB m
          have zd : v4.heap.size ≤ (wo.drewN m).heap.size := zr
          have r0 : (wo.drewN m).cell? ⟨w.heap.size, 0, none⟩ = some (.slice s.up.a s.up.n s.up.c) := q0
          have r1 : (wo.drewN m).cell? ⟨w.heap.size, 1, none⟩ = some (.int .i64 s.moment) := q1
          have r2 : (wo.drewN m).cell? ⟨w.heap.size, 2, none⟩ = some (.int .i64 s.clock) := q2
          have r3 : (wo.drewN m).cell? ⟨w.heap.size, 3, none⟩ = some (.int .i64 s.seq) := q3
          have r4 : (wo.drewN m).cell? ⟨w.heap.size, 4, none⟩ = some (.slice s.actors.a s.actors.n s.actors.c) := q4
          have r5 : (wo.drewN m).cell? ⟨w.heap.size, 5, none⟩ = some (.slice s.flights.a s.flights.n s.flights.c) := q5
          have r6 : (wo.drewN m).cell? ⟨w.heap.size, 6, none⟩ = some (.slice s.alarms.a s.alarms.n s.alarms.c) := q6
          have r7 : (wo.drewN m).cell? ⟨w.heap.size, 7, none⟩ = some (.slice s.asked.a s.asked.n s.asked.c) := q7
          have r8 : (wo.drewN m).cell? ⟨w.heap.size, 8, none⟩ = some (.int .i64 s.dead) := q8
          have g0 : (wo.drewN m).cell? ⟨b', off' + i * 3, none⟩ = some (.string ai.path) := x0
          have g1 : (wo.drewN m).cell? ⟨b', off' + i * 3 + 1, none⟩ = some (.int .i64 ai.x) := x1
          have g2 : (wo.drewN m).cell? ⟨b', off' + i * 3 + 2, none⟩ = some (.int .i64 ai.y) := x2
          clear hm hcc hcc2 hA' hai hcj hci x0 x1 x2 y0 y1 y2 q0 q1 q2 q3 q4 q5 q6 q7 q8 hixk
          generalize wo.drewN m = wd at *
          go_wp2_with fail
          refine (C1.out _ _ ai (by repeat (first | (with_reducible exact Below.refl _ _) | (with_reducible assumption) | refine Below.setCell ?_ (by first | omega | (simp; omega) | (simp; done)) _ | refine Below.alloc ?_ (by first | omega | (simp; omega) | (simp; done)) _ | refine Below.drew ?_)) (by omega) HC1.out (by omega) (by omega)).mono ?_
          rintro e v5 ⟨rfl, h5⟩
          have z5 := h5.size
          try simp at z5
          have hB5 : Below w.heap.size w v5 := Below.call (w := w) (by repeat (first | (with_reducible exact Below.refl _ _) | (with_reducible assumption) | refine Below.setCell ?_ (by first | omega | (simp; omega) | (simp; done)) _ | refine Below.alloc ?_ (by first | omega | (simp; omega) | (simp; done)) _ | refine Below.drew ?_)) h5
          obtain ⟨k5_0, kc, kf⟩ := keepB h5 (w.heap.size) (by first | omega | (simp; omega) | (simp; done))
          have c5_0_0 : v5.cell? ⟨w.heap.size, 0, none⟩ = some (.slice s.up.a s.up.n s.up.c) := (kc 0).trans (by simp [go_sem, *])
          have c5_0_1 : v5.cell? ⟨w.heap.size, 1, none⟩ = some (.int .i64 s.moment) := (kc 1).trans (by simp [go_sem, *])
          have c5_0_2 : v5.cell? ⟨w.heap.size, 2, none⟩ = some (.int .i64 s.clock) := (kc 2).trans (by simp [go_sem, *])
          have c5_0_3 : v5.cell? ⟨w.heap.size, 3, none⟩ = some (.int .i64 s.seq) := (kc 3).trans (by simp [go_sem, *])
          have c5_0_4 : v5.cell? ⟨w.heap.size, 4, none⟩ = some (.slice s.actors.a s.actors.n s.actors.c) := (kc 4).trans (by simp [go_sem, *])
          have c5_0_5 : v5.cell? ⟨w.heap.size, 5, none⟩ = some (.slice s.flights.a s.flights.n s.flights.c) := (kc 5).trans (by simp [go_sem, *])
          have c5_0_6 : v5.cell? ⟨w.heap.size, 6, none⟩ = some (.slice s.alarms.a s.alarms.n s.alarms.c) := (kc 6).trans (by simp [go_sem, *])
          have c5_0_7 : v5.cell? ⟨w.heap.size, 7, none⟩ = some (.slice s.asked.a s.asked.n s.asked.c) := (kc 7).trans (by simp [go_sem, *])
          have c5_0_8 : v5.cell? ⟨w.heap.size, 8, none⟩ = some (.int .i64 s.dead) := (kc 8).trans (by simp [go_sem, *])
          clear kc kf
          clear r0 r1 r2 r3 r4 r5 r6 r7 r8
          have zz5 : v4.heap.size ≤ v5.heap.size := by omega
          obtain ⟨_, kc, _⟩ := keepB h5 b' (by first | omega | (simp; omega))
          have g5_0 : v5.cell? ⟨b', off' + i * 3, none⟩ = some (.string ai.path) := (kc _).trans (by simp [go_sem, *])
          have g5_1 : v5.cell? ⟨b', off' + i * 3 + 1, none⟩ = some (.int .i64 ai.x) := (kc _).trans (by simp [go_sem, *])
          have g5_2 : v5.cell? ⟨b', off' + i * 3 + 2, none⟩ = some (.int .i64 ai.y) := (kc _).trans (by simp [go_sem, *])
          clear kc g0 g1 g2
          go_wp2_with fail
          refine (C1.out _ _ ai (by repeat (first | (with_reducible exact Below.refl _ _) | (with_reducible assumption) | refine Below.setCell ?_ (by first | omega | (simp; omega) | (simp; done)) _ | refine Below.alloc ?_ (by first | omega | (simp; omega) | (simp; done)) _ | refine Below.drew ?_)) (by omega) HC2.out (by omega) (by omega)).mono ?_
          rintro e v6 ⟨rfl, h6⟩
          have z6 := h6.size
          try simp at z6
          have hB6 : Below w.heap.size w v6 := Below.call (w := w) (by repeat (first | (with_reducible exact Below.refl _ _) | (with_reducible assumption) | refine Below.setCell ?_ (by first | omega | (simp; omega) | (simp; done)) _ | refine Below.alloc ?_ (by first | omega | (simp; omega) | (simp; done)) _ | refine Below.drew ?_)) h6
          obtain ⟨k6_0, kc, kf⟩ := keepB h6 (w.heap.size) (by first | omega | (simp; omega) | (simp; done))
          have c6_0_0 : v6.cell? ⟨w.heap.size, 0, none⟩ = some (.slice s.up.a s.up.n s.up.c) := (kc 0).trans (by simp [go_sem, *])
          have c6_0_1 : v6.cell? ⟨w.heap.size, 1, none⟩ = some (.int .i64 s.moment) := (kc 1).trans (by simp [go_sem, *])
          have c6_0_2 : v6.cell? ⟨w.heap.size, 2, none⟩ = some (.int .i64 s.clock) := (kc 2).trans (by simp [go_sem, *])
          have c6_0_3 : v6.cell? ⟨w.heap.size, 3, none⟩ = some (.int .i64 s.seq) := (kc 3).trans (by simp [go_sem, *])
          have c6_0_4 : v6.cell? ⟨w.heap.size, 4, none⟩ = some (.slice s.actors.a s.actors.n s.actors.c) := (kc 4).trans (by simp [go_sem, *])
          have c6_0_5 : v6.cell? ⟨w.heap.size, 5, none⟩ = some (.slice s.flights.a s.flights.n s.flights.c) := (kc 5).trans (by simp [go_sem, *])
          have c6_0_6 : v6.cell? ⟨w.heap.size, 6, none⟩ = some (.slice s.alarms.a s.alarms.n s.alarms.c) := (kc 6).trans (by simp [go_sem, *])
          have c6_0_7 : v6.cell? ⟨w.heap.size, 7, none⟩ = some (.slice s.asked.a s.asked.n s.asked.c) := (kc 7).trans (by simp [go_sem, *])
          have c6_0_8 : v6.cell? ⟨w.heap.size, 8, none⟩ = some (.int .i64 s.dead) := (kc 8).trans (by simp [go_sem, *])
          clear kc kf
          obtain ⟨k6_1, kc, kf⟩ := keepB h6 (v5.heap.size) (by first | omega | (simp; omega) | (simp; done))
          have c6_1_0 : v6.cell? ⟨v5.heap.size, 0, none⟩ = some (.string ai.path) := (kc 0).trans (by simp [go_sem, *])
          have f6_1_0 : v6.frozen? ⟨v5.heap.size, 0, none⟩ = false := (kf 0).trans (by simp [go_sem, *])
          have c6_1_1 : v6.cell? ⟨v5.heap.size, 1, none⟩ = some (.int .i64 ai.x) := (kc 1).trans (by simp [go_sem, *])
          have f6_1_1 : v6.frozen? ⟨v5.heap.size, 1, none⟩ = false := (kf 1).trans (by simp [go_sem, *])
          have c6_1_2 : v6.cell? ⟨v5.heap.size, 2, none⟩ = some (.int .i64 ai.y) := (kc 2).trans (by simp [go_sem, *])
          have f6_1_2 : v6.frozen? ⟨v5.heap.size, 2, none⟩ = false := (kf 2).trans (by simp [go_sem, *])
          clear kc kf
          clear c5_0_0 c5_0_1 c5_0_2 c5_0_3 c5_0_4 c5_0_5 c5_0_6 c5_0_7 c5_0_8
          have zz6 : v4.heap.size ≤ v6.heap.size := by omega
          obtain ⟨_, kc, _⟩ := keepB h6 b' (by first | omega | (simp; omega))
          have g6_0 : v6.cell? ⟨b', off' + i * 3, none⟩ = some (.string ai.path) := (kc _).trans (by simp [go_sem, *])
          have g6_1 : v6.cell? ⟨b', off' + i * 3 + 1, none⟩ = some (.int .i64 ai.x) := (kc _).trans (by simp [go_sem, *])
          have g6_2 : v6.cell? ⟨b', off' + i * 3 + 2, none⟩ = some (.int .i64 ai.y) := (kc _).trans (by simp [go_sem, *])
          clear kc g5_0 g5_1 g5_2
          have HMD := Lib.hid (fun (W : World) => (mod_any (n + (k : Int)) L.length i W (by omega) hll HM.out).mono fun _ _ h => And.intro h.1 h.2.symm)
          go_wp2_with fail
          go_quiet ((go_at_call 56; exact Calls.quiet_of_same (HMD.out _)))
          go_wp2_with fail
          go_roundw
          case rel => exact ⟨k + 1, by omega, by go_num, below_drewN ((Below.call (w := v4) ((Below.call (w := v4) hBe h5).alloc (by omega) _) h6).alloc (by omega) _) nq⟩
          case measure => simp [intOf]; omega
    · go_wp2_with fail
      go_ret
      exact ⟨rfl, HBw.out⟩
end Go.Proofs.Ytjdjfjokniingaa
