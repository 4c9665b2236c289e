/- law16.small. -/
import Derived.Test.YtjdjfjokniingaaPg
namespace Go.Proofs.Ytjdjfjokniingaa
open Go.RowKit

theorem fiveAll {w : World} {o0 o1 o2 o3 o4 : Obj} : let W := ((((w.alloc o0).alloc o1).alloc o2).alloc o3).alloc o4
    W.heap[w.heap.size]? = some o0 ∧ W.heap[w.heap.size + 1]? = some o1 ∧ W.heap[w.heap.size + 1 + 1]? = some o2 ∧ W.heap[w.heap.size + 1 + 1 + 1]? = some o3 ∧ W.heap[w.heap.size + 1 + 1 + 1 + 1]? = some o4 := by
  intro W
  have a0 := World.alloc_heap_new w o0
  have a1 := World.alloc_heap_new (w.alloc o0) o1
  have a2 := World.alloc_heap_new ((w.alloc o0).alloc o1) o2
  have a3 := World.alloc_heap_new (((w.alloc o0).alloc o1).alloc o2) o3
  have a4 := World.alloc_heap_new ((((w.alloc o0).alloc o1).alloc o2).alloc o3) o4
  simp only [World.size_alloc] at a1 a2 a3 a4
  have up : ∀ {A : World} {k : Nat} {o p : Obj}, A.heap[k]? = some p → (A.alloc o).heap[k]? = some p := fun {A k o p} h => (Below.heap_alloc A o k (lt_of_block h)).trans h
  exact ⟨up (up (up (up a0))), up (up (up a1)), up (up a2), up a3, a4⟩

theorem small_blocks (w W : World) (hW : W = ((((w.alloc (.cells #[.bool true, .bool true] 4)).alloc (.cells (S16.ls.flatMap liveL).toArray 76)).alloc (.cells (S16.als.flatMap flyL).toArray 47)).alloc (.cells #[.slice (some ⟨w.heap.size, 0, none⟩) 2 2, .int .i64 0, .int .i64 0, .int .i64 0, .slice (some ⟨w.heap.size + 1, 0, none⟩) 3 3, .slice none 0 0, .slice (some ⟨w.heap.size + 1 + 1, 0, none⟩) 2 2, .slice none 0 0, .int .i64 0] 28)).alloc (.cells #[.string ⟨#[]⟩, .string ⟨#[65]⟩, .slice none 0 0, .int .i64 0] 34)) :
    W.heap[w.heap.size]? = some (.cells #[.bool true, .bool true] 4 (0, 0)) ∧ W.heap[w.heap.size + 1]? = some (.cells (S16.ls.flatMap liveL).toArray 76 (0, 0)) ∧ W.heap[w.heap.size + 1 + 1]? = some (.cells (S16.als.flatMap flyL).toArray 47 (0, 0)) ∧ SBox W (w.heap.size + 1 + 1 + 1) (S16.st w.heap.size) ∧ LBox W (w.heap.size + 1 + 1 + 1 + 1) S16.let0 := by
  subst hW
  exact fiveAll

theorem below_al (w : World) (o : Obj) : Below w.heap.size w (w.alloc o) := (Below.refl _ w).alloc (Nat.le_refl _) _

namespace S16
def σ1 : PS := (Ml.post σ0 p0 let0).1
def σ2 : PS := (Ml.send σ1 0 p02 let0).1
def σ3 : PS := (Ml.send σ2 0 p010 let0).1
def σ4 : PS := (Ml.arrive σ3 0 1).1
def f4 : FlyC := (Ml.arrive σ3 0 1).2.1
def σ5 : PS := (Ml.take σ4 p02).1
def g5 : LetC := (Ml.take σ4 p02).2.1
def σ6 : PS := (Ml.take σ5 p02).1
def g6 : LetC := (Ml.take σ5 p02).2.1
def σ7 : PS := Ml.drop σ2 1
end S16

/-- an actor's mail, as the code reads it -/
theorem mail_at {P : Nat → Prop} {w : World} {s : SysC} {σ : PS} (h : SysR P w s σ) {i : Nat} {a : PL} (hi : σ.acts[i]? = some a) :
    ∃ b off A c, (∀ W, Sem.run Try.prog (Instr.indexAt 23 (.slice s.actors.a s.actors.n s.actors.c) (.int .i64 (i : Int))) W = .ok (.pointer (some ⟨b, off, none⟩)) W) ∧ w.cell? ⟨b, off + 8, none⟩ = some (.slice A a.mail.length c) := by
  have hn := h.na
  have hlt : i < σ.acts.length := (List.getElem?_eq_some_iff.1 hi).1
  obtain ⟨qs, h1, h2, h3⟩ := h.ac
  obtain ⟨b, off, r, hA, hb, hr, hc⟩ := h1.at_ (fun _ => rfl) (by omega) (i := i) (by omega)
  rw [List.getElem?_map] at hr
  cases hq : qs[i]? with
  | none => rw [hq] at hr; simp at hr
  | some q =>
    rw [hq] at hr
    have hr : q.1 = r := by simpa using hr
    have hp : plOf q = a := by
      rw [← h3, List.getElem?_map, hq] at hi
      simpa using hi
    have hm := h2 q (List.mem_of_getElem? hq)
    have hml := hm.rd.len (fun _ => rfl) (by omega)
    refine ⟨b, off + i * 9, q.1.mail.a, q.1.mail.c, ?_, ?_⟩
    · intro W
      rw [hA]
      have : (i : Int) < s.actors.n := by omega
      go_simp
    · have := hc 8 (.slice r.mail.a r.mail.n r.mail.c) rfl
      rw [this, ← hr, ← hp, ← hml]
      rfl
theorem find_R {P : Nat → Prop} (s : SysC) (σ : PS) (p : ByteArray) (w : World) (h : SysR P w s σ) (hna : s.actors.n ≤ 1000000) :
    Calls Try.prog 44 #[sysV s, .string p] w fun e w' => e = .returned (.tuple #[.int .i64 ((Ml.find (σ.acts.map (·.path)) p).getD 0 : Nat), .bool (Ml.find (σ.acts.map (·.path)) p).isSome]) ∧ Below w.heap.size w w' := by
  obtain ⟨qs, h1, _, h3⟩ := h.ac
  have := find_any s (qs.map (·.1)) p w h1 (by omega)
  have e : (qs.map (·.1)).map (·.path) = σ.acts.map (·.path) := by rw [← h3]; simp [plOf]
  rw [e] at this
  exact this
theorem fly_at {w : World} {u : Sl} {fs : List FlyC} {f : FlyC} (h : Rd w w.heap.size 7 u.a u.n (fs.flatMap flyL)) (hi : fs[0]? = some f) :
    ∃ b off, u.a = some ⟨b, off, none⟩ ∧ 0 < u.n ∧ w.cell? ⟨b, off + 2, none⟩ = some (.string f.path) := by
  have hl := h.len (fun _ => rfl) (by omega)
  have hlt : 0 < fs.length := (List.getElem?_eq_some_iff.1 hi).1
  obtain ⟨b, off, r, hA, hb, hr, hc⟩ := h.at_ (fun _ => rfl) (by omega) (i := 0) (by omega)
  rw [hi] at hr
  obtain rfl : f = r := by simpa using hr
  exact ⟨b, off, hA, by omega, by have := hc 2 (.string f.path) rfl; simpa using this⟩

/-- an actor's mail, its length known -/
theorem mail_is {P : Nat → Prop} {w : World} {s : SysC} {σ : PS} (h : SysR P w s σ) (i : Nat) (j : Int) (m N : Nat) (hj : j = (i : Int)) (hi : (σ.acts[i]?).map (fun a => a.mail.length) = some m) (hN : σ.acts.length = N) :
    ∃ b off A c, (∀ W, Sem.run Try.prog (Instr.indexAt 23 (.slice s.actors.a N s.actors.c) (.int .i64 j)) W = .ok (.pointer (some ⟨b, off, none⟩)) W) ∧ w.cell? ⟨b, off + 8, none⟩ = some (.slice A m c) := by
  subst hj
  cases hq : σ.acts[i]? with
  | none => rw [hq] at hi; cases hi
  | some a =>
    rw [hq] at hi
    obtain rfl : a.mail.length = m := by simpa using hi
    obtain ⟨b, off, A, c, h1, h2⟩ := mail_at h hq
    rw [h.na, hN] at h1
    exact ⟨b, off, A, c, h1, h2⟩
theorem fly24 {w : World} {u : Sl} {fs : List FlyC} {p : ByteArray} (N : Nat) (h : Rd w w.heap.size 7 u.a u.n (fs.flatMap flyL)) (hi : (fs[0]?).map (fun f => f.path) = some p) (hN : u.n = N) :
    ∃ b off, (∀ W, Sem.run Try.prog (Instr.indexAt 24 (.slice u.a N u.c) (.int .i64 0)) W = .ok (.pointer (some ⟨b, off, none⟩)) W) ∧ w.cell? ⟨b, off + 2, none⟩ = some (.string p) := by
  cases hq : fs[0]? with
  | none => rw [hq] at hi; cases hi
  | some f =>
    rw [hq] at hi
    obtain rfl : f.path = p := by simpa using hi
    obtain ⟨b, off, hA, hn, h2⟩ := fly_at h hq
    subst hN
    refine ⟨b, off, fun W => ?_, h2⟩
    rw [hA]
    have : (0 : Int) < u.n := by omega
    go_simp
theorem fly25 {w : World} {u : Sl} {fs : List FlyC} {p : ByteArray} (N : Nat) (h : Rd w w.heap.size 7 u.a u.n (fs.flatMap flyL)) (hi : (fs[0]?).map (fun f => f.path) = some p) (hN : u.n = N) :
    ∃ b off, (∀ W, Sem.run Try.prog (Instr.indexAt 25 (.slice u.a N u.c) (.int .i64 0)) W = .ok (.pointer (some ⟨b, off, none⟩)) W) ∧ w.cell? ⟨b, off + 2, none⟩ = some (.string p) := by
  cases hq : fs[0]? with
  | none => rw [hq] at hi; cases hi
  | some f =>
    rw [hq] at hi
    obtain rfl : f.path = p := by simpa using hi
    obtain ⟨b, off, hA, hn, h2⟩ := fly_at h hq
    subst hN
    refine ⟨b, off, fun W => ?_, h2⟩
    rw [hA]
    have : (0 : Int) < u.n := by omega
    go_simp
theorem FBox.y_ {W : World} {B : Nat} {f : FlyC} (h : FBox W B f) : W.cell? ⟨B, 1, none⟩ = some (.int .i64 f.y) := by
  simp [World.cell?, show W.heap[B]? = _ from h]

set_option linter.unusedSimpArgs false in
set_option linter.unusedVariables false in
set_option maxRecDepth 100000 in
set_option maxHeartbeats 64000000 in
theorem small27 (w : World) : Calls Try.prog 27 #[] w fun e w' => e = .returned (.bool true) ∧ Below w.heap.size w w' := by
  obtain ⟨v0, hW⟩ : ∃ W, W = ((((w.alloc (.cells #[.bool true, .bool true] 4)).alloc (.cells (S16.ls.flatMap liveL).toArray 76)).alloc (.cells (S16.als.flatMap flyL).toArray 47)).alloc (.cells #[.slice (some ⟨w.heap.size, 0, none⟩) 2 2, .int .i64 0, .int .i64 0, .int .i64 0, .slice (some ⟨w.heap.size + 1, 0, none⟩) 3 3, .slice none 0 0, .slice (some ⟨w.heap.size + 1 + 1, 0, none⟩) 2 2, .slice none 0 0, .int .i64 0] 28)).alloc (.cells #[.string ⟨#[]⟩, .string ⟨#[65]⟩, .slice none 0 0, .int .i64 0] 34) := ⟨_, rfl⟩
  have hb : Below w.heap.size w v0 := by
    rw [hW]
    exact (((((Below.refl _ w).alloc (Nat.le_refl _) _).alloc (by simp) _).alloc (by simp; omega) _).alloc (by simp; omega) _).alloc (by simp; omega) _
  have hsz : w.heap.size + 5 ≤ v0.heap.size := by rw [hW]; simp
  obtain ⟨h0, h1, h2, xs, xl⟩ := small_blocks w v0 hW
  have r0 := small_st v0 _ h0 h1 h2
  have R0 := Lib.hid r0
  have BS := Lib.hid xs
  have BL := Lib.hid xl
  have HB := Lib.hid hb
  clear h0 h1 h2 xs xl r0 hb
  go_enter Try.func27, Try.ntmps27
  go_wp2_with fail
  have ee := @post_any (fun _ => True) (S16.st w.heap.size) S16.σ0 S16.p0 S16.let0 v0 R0.out (by simp [S16.st]) (by simp [S16.st])
  rw [hW] at ee
  refine ee.mono ?_
  clear ee
  rw [← hW]
  rintro e w1 ⟨s1, rfl, rr, hb⟩
  rw [show (Ml.post S16.σ0 S16.p0 S16.let0).2 = true from rfl]
  have R1 : Hid (SysR (fun _ => True) w1 s1 S16.σ1) := Lib.hid (rr.mono (fun _ _ => trivial))
  clear rr
  replace R0 := Lib.hid (R0.out.below hb)
  replace BS := Lib.hid (BS.out.below hb)
  replace BL := Lib.hid (BL.out.below hb)
  replace HB := Lib.hid (HB.out.trans (hb.mono HB.out.size))
  have hsz1 : v0.heap.size ≤ w1.heap.size := hb.size
  clear hW hb
  obtain ⟨l0, l1, l2, l3⟩ := BL.out.cells
  dsimp only [S16.let0, S16.em] at l0 l1 l2 l3
  have n1 : ¬ w.heap.size + 1 + 1 + 1 + 1 = w1.heap.size := by omega
  have n2 : w.heap.size + 1 + 1 + 1 + 1 < w1.heap.size := by omega
  obtain ⟨v1, hW⟩ : ∃ W, W = (w1).alloc (.cells #[.slice s1.up.a s1.up.n s1.up.c, .int .i64 s1.moment, .int .i64 s1.clock, .int .i64 s1.seq, .slice s1.actors.a s1.actors.n s1.actors.c, .slice s1.flights.a s1.flights.n s1.flights.c, .slice s1.alarms.a s1.alarms.n s1.alarms.c, .slice s1.asked.a s1.asked.n s1.asked.c, .int .i64 s1.dead] 28) := ⟨_, rfl⟩
  have hb : Below w1.heap.size w1 v1 := by rw [hW]; exact below_al w1 _
  have hvz1 : w1.heap.size + 1 ≤ v1.heap.size := by rw [hW]; simp
  replace R0 := Lib.hid (R0.out.below hb)
  replace BS := Lib.hid (BS.out.below hb)
  replace BL := Lib.hid (BL.out.below hb)
  replace R1 := Lib.hid (R1.out.below hb)
  replace HB := Lib.hid (HB.out.trans (hb.mono HB.out.size))
  have BA : Hid (SBox v1 w1.heap.size s1) := Lib.hid (by rw [hW]; exact World.alloc_heap_new w1 _)
  clear hb
  go_wp2_with fail
  have ee := @send_any (fun _ => True) s1 S16.σ1 0 S16.p02 S16.let0 v1 R1.out (by rw [R1.out.na]; decide) (by rw [← R1.out.nu]; decide) (by rw [← R1.out.nfl]; decide)
  rw [hW] at ee
  refine ee.mono ?_
  clear ee
  rw [← hW]
  clear l0 l1 l2 l3 n1 n2
  rintro e w2 ⟨s2, rfl, rr, hb⟩
  rw [show (Ml.send S16.σ1 0 S16.p02 S16.let0).2 = true from rfl]
  have R2 : Hid (SysR (fun _ => True) w2 s2 S16.σ2) := Lib.hid (rr.mono (fun _ _ => trivial))
  clear rr
  replace R0 := Lib.hid (R0.out.below hb)
  replace BS := Lib.hid (BS.out.below hb)
  replace BL := Lib.hid (BL.out.below hb)
  replace R1 := Lib.hid (R1.out.below hb)
  replace BA := Lib.hid (BA.out.below hb)
  replace HB := Lib.hid (HB.out.trans (hb.mono HB.out.size))
  have hsz2 : v1.heap.size ≤ w2.heap.size := hb.size
  clear hW hb
  obtain ⟨l0, l1, l2, l3⟩ := BL.out.cells
  dsimp only [S16.let0, S16.em] at l0 l1 l2 l3
  have n1 : ¬ w.heap.size + 1 + 1 + 1 + 1 = w2.heap.size := by omega
  have n2 : w.heap.size + 1 + 1 + 1 + 1 < w2.heap.size := by omega
  obtain ⟨v2, hW⟩ : ∃ W, W = (w2).alloc (.cells #[.slice s2.up.a s2.up.n s2.up.c, .int .i64 s2.moment, .int .i64 s2.clock, .int .i64 s2.seq, .slice s2.actors.a s2.actors.n s2.actors.c, .slice s2.flights.a s2.flights.n s2.flights.c, .slice s2.alarms.a s2.alarms.n s2.alarms.c, .slice s2.asked.a s2.asked.n s2.asked.c, .int .i64 s2.dead] 28) := ⟨_, rfl⟩
  have hb : Below w2.heap.size w2 v2 := by rw [hW]; exact below_al w2 _
  have hvz2 : w2.heap.size + 1 ≤ v2.heap.size := by rw [hW]; simp
  replace R0 := Lib.hid (R0.out.below hb)
  replace BS := Lib.hid (BS.out.below hb)
  replace BL := Lib.hid (BL.out.below hb)
  replace R1 := Lib.hid (R1.out.below hb)
  replace BA := Lib.hid (BA.out.below hb)
  replace R2 := Lib.hid (R2.out.below hb)
  replace HB := Lib.hid (HB.out.trans (hb.mono HB.out.size))
  have BB : Hid (SBox v2 w2.heap.size s2) := Lib.hid (by rw [hW]; exact World.alloc_heap_new w2 _)
  clear hb
  go_wp2_with fail
  have ee := @send_any (fun _ => True) s2 S16.σ2 0 S16.p010 S16.let0 v2 R2.out (by rw [R2.out.na]; decide) (by rw [← R2.out.nu]; decide) (by rw [← R2.out.nfl]; decide)
  rw [hW] at ee
  refine ee.mono ?_
  clear ee
  rw [← hW]
  clear l0 l1 l2 l3 n1 n2
  rintro e w3 ⟨s3, rfl, rr, hb⟩
  rw [show (Ml.send S16.σ2 0 S16.p010 S16.let0).2 = false from rfl]
  have R3 : Hid (SysR (fun _ => True) w3 s3 S16.σ3) := Lib.hid (rr.mono (fun _ _ => trivial))
  clear rr
  replace R0 := Lib.hid (R0.out.below hb)
  replace BS := Lib.hid (BS.out.below hb)
  replace BL := Lib.hid (BL.out.below hb)
  replace R1 := Lib.hid (R1.out.below hb)
  replace BA := Lib.hid (BA.out.below hb)
  replace R2 := Lib.hid (R2.out.below hb)
  replace BB := Lib.hid (BB.out.below hb)
  replace HB := Lib.hid (HB.out.trans (hb.mono HB.out.size))
  have hsz3 : v2.heap.size ≤ w3.heap.size := hb.size
  clear hW hb
  obtain ⟨v3, hW⟩ : ∃ W, W = (w3).alloc (.cells #[.slice s3.up.a s3.up.n s3.up.c, .int .i64 s3.moment, .int .i64 s3.clock, .int .i64 s3.seq, .slice s3.actors.a s3.actors.n s3.actors.c, .slice s3.flights.a s3.flights.n s3.flights.c, .slice s3.alarms.a s3.alarms.n s3.alarms.c, .slice s3.asked.a s3.asked.n s3.asked.c, .int .i64 s3.dead] 28) := ⟨_, rfl⟩
  have hb : Below w3.heap.size w3 v3 := by rw [hW]; exact below_al w3 _
  have hvz3 : w3.heap.size + 1 ≤ v3.heap.size := by rw [hW]; simp
  replace R0 := Lib.hid (R0.out.below hb)
  replace BS := Lib.hid (BS.out.below hb)
  replace BL := Lib.hid (BL.out.below hb)
  replace R1 := Lib.hid (R1.out.below hb)
  replace BA := Lib.hid (BA.out.below hb)
  replace R2 := Lib.hid (R2.out.below hb)
  replace BB := Lib.hid (BB.out.below hb)
  replace R3 := Lib.hid (R3.out.below hb)
  replace HB := Lib.hid (HB.out.trans (hb.mono HB.out.size))
  have BC : Hid (SBox v3 w3.heap.size s3) := Lib.hid (by rw [hW]; exact World.alloc_heap_new w3 _)
  clear hb
  go_wp2_with fail
  have ee := @arrive_any (fun _ => True) s3 S16.σ3 0 1 v3 R3.out (by rw [R3.out.na]; decide) (by rw [← R3.out.nu]; decide) (by rw [← R3.out.nfl]; decide)
  rw [hW] at ee
  refine ee.mono ?_
  clear ee
  rw [← hW]
  rintro e w4 ⟨s4, rfl, rr, hb⟩
  rw [show (Ml.arrive S16.σ3 0 1).2.2 = true from rfl, show (Ml.arrive S16.σ3 0 1).2.1 = S16.f4 from rfl]
  have R4 : Hid (SysR (fun _ => True) w4 s4 S16.σ4) := Lib.hid (rr.mono (fun _ _ => trivial))
  clear rr
  replace R0 := Lib.hid (R0.out.below hb)
  replace BS := Lib.hid (BS.out.below hb)
  replace BL := Lib.hid (BL.out.below hb)
  replace R1 := Lib.hid (R1.out.below hb)
  replace BA := Lib.hid (BA.out.below hb)
  replace R2 := Lib.hid (R2.out.below hb)
  replace BB := Lib.hid (BB.out.below hb)
  replace R3 := Lib.hid (R3.out.below hb)
  replace BC := Lib.hid (BC.out.below hb)
  replace HB := Lib.hid (HB.out.trans (hb.mono HB.out.size))
  have hsz4 : v3.heap.size ≤ w4.heap.size := hb.size
  clear hW hb
  obtain ⟨v4, hW⟩ : ∃ W, W = ((w4).alloc (.cells #[.slice s4.up.a s4.up.n s4.up.c, .int .i64 s4.moment, .int .i64 s4.clock, .int .i64 s4.seq, .slice s4.actors.a s4.actors.n s4.actors.c, .slice s4.flights.a s4.flights.n s4.flights.c, .slice s4.alarms.a s4.alarms.n s4.alarms.c, .slice s4.asked.a s4.asked.n s4.asked.c, .int .i64 s4.dead] 28)).alloc (.cells #[.int .i64 S16.f4.x, .int .i64 S16.f4.y, .string S16.f4.path, .string S16.f4.l.src, .string S16.f4.l.msg, .slice S16.f4.l.args.a S16.f4.l.args.n S16.f4.l.args.c, .int .i64 S16.f4.l.sent] 66) := ⟨_, rfl⟩
  have hb : Below w4.heap.size w4 v4 := by rw [hW]; exact (below_al w4 _).alloc (by simp) _
  have hvz4 : w4.heap.size + 2 ≤ v4.heap.size := by rw [hW]; simp
  replace R0 := Lib.hid (R0.out.below hb)
  replace BS := Lib.hid (BS.out.below hb)
  replace BL := Lib.hid (BL.out.below hb)
  replace R1 := Lib.hid (R1.out.below hb)
  replace BA := Lib.hid (BA.out.below hb)
  replace R2 := Lib.hid (R2.out.below hb)
  replace BB := Lib.hid (BB.out.below hb)
  replace R3 := Lib.hid (R3.out.below hb)
  replace BC := Lib.hid (BC.out.below hb)
  replace R4 := Lib.hid (R4.out.below hb)
  replace HB := Lib.hid (HB.out.trans (hb.mono HB.out.size))
  have BF : Hid (FBox v4 (w4.heap.size + 1) S16.f4) := Lib.hid (by rw [hW]; have := World.alloc_heap_new (w4.alloc (.cells #[.slice s4.up.a s4.up.n s4.up.c, .int .i64 s4.moment, .int .i64 s4.clock, .int .i64 s4.seq, .slice s4.actors.a s4.actors.n s4.actors.c, .slice s4.flights.a s4.flights.n s4.flights.c, .slice s4.alarms.a s4.alarms.n s4.alarms.c, .slice s4.asked.a s4.asked.n s4.asked.c, .int .i64 s4.dead] 28)) (.cells #[.int .i64 S16.f4.x, .int .i64 S16.f4.y, .string S16.f4.path, .string S16.f4.l.src, .string S16.f4.l.msg, .slice S16.f4.l.args.a S16.f4.l.args.n S16.f4.l.args.c, .int .i64 S16.f4.l.sent] 66); rw [World.size_alloc] at this; exact this)
  have BD : Hid (SBox v4 w4.heap.size s4) := Lib.hid (by rw [hW]; exact (Below.heap_alloc _ _ _ (by simp)).trans (World.alloc_heap_new w4 _))
  clear hb
  go_wp2_with fail
  have ee := @take_any (fun _ => True) s4 S16.σ4 S16.p02 v4 R4.out (by rw [R4.out.na]; decide)
  rw [hW] at ee
  refine ee.mono ?_
  clear ee
  rw [← hW]
  rintro e w5 ⟨s5, rfl, rr, hb⟩
  rw [show (Ml.take S16.σ4 S16.p02).2.2 = true from rfl, show (Ml.take S16.σ4 S16.p02).2.1 = S16.g5 from rfl]
  have R5 : Hid (SysR (fun _ => True) w5 s5 S16.σ5) := Lib.hid (rr.mono (fun _ _ => trivial))
  clear rr
  replace R0 := Lib.hid (R0.out.below hb)
  replace BS := Lib.hid (BS.out.below hb)
  replace BL := Lib.hid (BL.out.below hb)
  replace R1 := Lib.hid (R1.out.below hb)
  replace BA := Lib.hid (BA.out.below hb)
  replace R2 := Lib.hid (R2.out.below hb)
  replace BB := Lib.hid (BB.out.below hb)
  replace R3 := Lib.hid (R3.out.below hb)
  replace BC := Lib.hid (BC.out.below hb)
  replace R4 := Lib.hid (R4.out.below hb)
  replace BD := Lib.hid (BD.out.below hb)
  replace BF := Lib.hid (BF.out.below hb)
  replace HB := Lib.hid (HB.out.trans (hb.mono HB.out.size))
  have hsz5 : v4.heap.size ≤ w5.heap.size := hb.size
  clear hW hb
  obtain ⟨v5, hW⟩ : ∃ W, W = ((w5).alloc (.cells #[.slice s5.up.a s5.up.n s5.up.c, .int .i64 s5.moment, .int .i64 s5.clock, .int .i64 s5.seq, .slice s5.actors.a s5.actors.n s5.actors.c, .slice s5.flights.a s5.flights.n s5.flights.c, .slice s5.alarms.a s5.alarms.n s5.alarms.c, .slice s5.asked.a s5.asked.n s5.asked.c, .int .i64 s5.dead] 28)).alloc (.cells #[.string S16.g5.src, .string S16.g5.msg, .slice S16.g5.args.a S16.g5.args.n S16.g5.args.c, .int .i64 S16.g5.sent] 34) := ⟨_, rfl⟩
  have hb : Below w5.heap.size w5 v5 := by rw [hW]; exact (below_al w5 _).alloc (by simp) _
  have hvz5 : w5.heap.size + 2 ≤ v5.heap.size := by rw [hW]; simp
  replace R0 := Lib.hid (R0.out.below hb)
  replace BS := Lib.hid (BS.out.below hb)
  replace BL := Lib.hid (BL.out.below hb)
  replace R1 := Lib.hid (R1.out.below hb)
  replace BA := Lib.hid (BA.out.below hb)
  replace R2 := Lib.hid (R2.out.below hb)
  replace BB := Lib.hid (BB.out.below hb)
  replace R3 := Lib.hid (R3.out.below hb)
  replace BC := Lib.hid (BC.out.below hb)
  replace R4 := Lib.hid (R4.out.below hb)
  replace BD := Lib.hid (BD.out.below hb)
  replace BF := Lib.hid (BF.out.below hb)
  replace R5 := Lib.hid (R5.out.below hb)
  replace HB := Lib.hid (HB.out.trans (hb.mono HB.out.size))
  have BG : Hid (LBox v5 (w5.heap.size + 1) S16.g5) := Lib.hid (by rw [hW]; have := World.alloc_heap_new (w5.alloc (.cells #[.slice s5.up.a s5.up.n s5.up.c, .int .i64 s5.moment, .int .i64 s5.clock, .int .i64 s5.seq, .slice s5.actors.a s5.actors.n s5.actors.c, .slice s5.flights.a s5.flights.n s5.flights.c, .slice s5.alarms.a s5.alarms.n s5.alarms.c, .slice s5.asked.a s5.asked.n s5.asked.c, .int .i64 s5.dead] 28)) (.cells #[.string S16.g5.src, .string S16.g5.msg, .slice S16.g5.args.a S16.g5.args.n S16.g5.args.c, .int .i64 S16.g5.sent] 34); rw [World.size_alloc] at this; exact this)
  have BE : Hid (SBox v5 w5.heap.size s5) := Lib.hid (by rw [hW]; exact (Below.heap_alloc _ _ _ (by simp)).trans (World.alloc_heap_new w5 _))
  clear hb
  go_wp2_with fail
  have ee := @take_any (fun _ => True) s5 S16.σ5 S16.p02 v5 R5.out (by rw [R5.out.na]; decide)
  rw [hW] at ee
  refine ee.mono ?_
  clear ee
  rw [← hW]
  rintro e w6 ⟨s6, rfl, rr, hb⟩
  rw [show (Ml.take S16.σ5 S16.p02).2.2 = false from rfl, show (Ml.take S16.σ5 S16.p02).2.1 = S16.g6 from rfl]
  clear rr
  replace R0 := Lib.hid (R0.out.below hb)
  replace BS := Lib.hid (BS.out.below hb)
  replace BL := Lib.hid (BL.out.below hb)
  replace R1 := Lib.hid (R1.out.below hb)
  replace BA := Lib.hid (BA.out.below hb)
  replace R2 := Lib.hid (R2.out.below hb)
  replace BB := Lib.hid (BB.out.below hb)
  replace R3 := Lib.hid (R3.out.below hb)
  replace BC := Lib.hid (BC.out.below hb)
  replace R4 := Lib.hid (R4.out.below hb)
  replace BD := Lib.hid (BD.out.below hb)
  replace BF := Lib.hid (BF.out.below hb)
  replace R5 := Lib.hid (R5.out.below hb)
  replace BE := Lib.hid (BE.out.below hb)
  replace BG := Lib.hid (BG.out.below hb)
  replace HB := Lib.hid (HB.out.trans (hb.mono HB.out.size))
  have hsz6 : v5.heap.size ≤ w6.heap.size := hb.size
  clear hW hb
  obtain ⟨b0, b1, b2, b3, b4, b5, b6, b7, b8⟩ := BB.out.cells
  have n1 : ¬ w2.heap.size = w6.heap.size := by omega
  have n2 : ¬ w2.heap.size = w6.heap.size + 1 := by omega
  have n3 : w2.heap.size < w6.heap.size := by omega
  have n4 : w2.heap.size < w6.heap.size + 1 := by omega
  obtain ⟨v6, hW⟩ : ∃ W, W = ((w6).alloc (.cells #[.slice s6.up.a s6.up.n s6.up.c, .int .i64 s6.moment, .int .i64 s6.clock, .int .i64 s6.seq, .slice s6.actors.a s6.actors.n s6.actors.c, .slice s6.flights.a s6.flights.n s6.flights.c, .slice s6.alarms.a s6.alarms.n s6.alarms.c, .slice s6.asked.a s6.asked.n s6.asked.c, .int .i64 s6.dead] 28)).alloc (.cells #[.string S16.g6.src, .string S16.g6.msg, .slice S16.g6.args.a S16.g6.args.n S16.g6.args.c, .int .i64 S16.g6.sent] 34) := ⟨_, rfl⟩
  have hb : Below w6.heap.size w6 v6 := by rw [hW]; exact (below_al w6 _).alloc (by simp) _
  have hvz6 : w6.heap.size + 2 ≤ v6.heap.size := by rw [hW]; simp
  replace R0 := Lib.hid (R0.out.below hb)
  replace BS := Lib.hid (BS.out.below hb)
  replace BL := Lib.hid (BL.out.below hb)
  replace R1 := Lib.hid (R1.out.below hb)
  replace BA := Lib.hid (BA.out.below hb)
  replace R2 := Lib.hid (R2.out.below hb)
  replace BB := Lib.hid (BB.out.below hb)
  replace R3 := Lib.hid (R3.out.below hb)
  replace BC := Lib.hid (BC.out.below hb)
  replace R4 := Lib.hid (R4.out.below hb)
  replace BD := Lib.hid (BD.out.below hb)
  replace BF := Lib.hid (BF.out.below hb)
  replace R5 := Lib.hid (R5.out.below hb)
  replace BE := Lib.hid (BE.out.below hb)
  replace BG := Lib.hid (BG.out.below hb)
  replace HB := Lib.hid (HB.out.trans (hb.mono HB.out.size))
  clear hb
  go_wp2_with fail
  have ee := @drop_any (fun _ => True) s2 S16.σ2 1 v6 R2.out (by rw [R2.out.na]; decide) (by rw [← R2.out.nal]; decide) (by rw [← R2.out.nfl]; decide) (by decide) (by decide)
  rw [hW] at ee
  refine ee.mono ?_
  clear ee
  rw [← hW]
  clear b0 b1 b2 b3 b4 b5 b6 b7 b8 n1 n2 n3 n4
  rintro e w7 ⟨s7, rfl, rr, hb⟩
  have R7 : Hid (SysR (fun _ => True) w7 s7 S16.σ7) := Lib.hid (rr.mono (fun _ _ => trivial))
  clear rr
  replace R0 := Lib.hid (R0.out.below hb)
  replace BS := Lib.hid (BS.out.below hb)
  replace BL := Lib.hid (BL.out.below hb)
  replace R1 := Lib.hid (R1.out.below hb)
  replace BA := Lib.hid (BA.out.below hb)
  replace R2 := Lib.hid (R2.out.below hb)
  replace BB := Lib.hid (BB.out.below hb)
  replace R3 := Lib.hid (R3.out.below hb)
  replace BC := Lib.hid (BC.out.below hb)
  replace R4 := Lib.hid (R4.out.below hb)
  replace BD := Lib.hid (BD.out.below hb)
  replace BF := Lib.hid (BF.out.below hb)
  replace R5 := Lib.hid (R5.out.below hb)
  replace BE := Lib.hid (BE.out.below hb)
  replace BG := Lib.hid (BG.out.below hb)
  replace HB := Lib.hid (HB.out.trans (hb.mono HB.out.size))
  have hsz7 : v6.heap.size ≤ w7.heap.size := hb.size
  clear hW hb
  obtain ⟨b0, b1, b2, b3, b4, b5, b6, b7, b8⟩ := BS.out.cells
  dsimp only [S16.st] at b0 b1 b2 b3 b4 b5 b6 b7 b8
  have n1 : ¬ w.heap.size + 1 + 1 + 1 = w7.heap.size := by omega
  have n3 : w.heap.size + 1 + 1 + 1 < w7.heap.size := by omega
  obtain ⟨v7, hW⟩ : ∃ W, W = (w7).alloc (.cells #[.slice s7.up.a s7.up.n s7.up.c, .int .i64 s7.moment, .int .i64 s7.clock, .int .i64 s7.seq, .slice s7.actors.a s7.actors.n s7.actors.c, .slice s7.flights.a s7.flights.n s7.flights.c, .slice s7.alarms.a s7.alarms.n s7.alarms.c, .slice s7.asked.a s7.asked.n s7.asked.c, .int .i64 s7.dead] 28) := ⟨_, rfl⟩
  have hb : Below w7.heap.size w7 v7 := by rw [hW]; exact below_al w7 _
  have hvz7 : w7.heap.size + 1 ≤ v7.heap.size := by rw [hW]; simp
  replace R0 := Lib.hid (R0.out.below hb)
  replace BS := Lib.hid (BS.out.below hb)
  replace BL := Lib.hid (BL.out.below hb)
  replace R1 := Lib.hid (R1.out.below hb)
  replace BA := Lib.hid (BA.out.below hb)
  replace R2 := Lib.hid (R2.out.below hb)
  replace BB := Lib.hid (BB.out.below hb)
  replace R3 := Lib.hid (R3.out.below hb)
  replace BC := Lib.hid (BC.out.below hb)
  replace R4 := Lib.hid (R4.out.below hb)
  replace BD := Lib.hid (BD.out.below hb)
  replace BF := Lib.hid (BF.out.below hb)
  replace R5 := Lib.hid (R5.out.below hb)
  replace BE := Lib.hid (BE.out.below hb)
  replace BG := Lib.hid (BG.out.below hb)
  replace R7 := Lib.hid (R7.out.below hb)
  replace HB := Lib.hid (HB.out.trans (hb.mono HB.out.size))
  have BX : Hid (SBox v7 w7.heap.size s7) := Lib.hid (by rw [hW]; exact World.alloc_heap_new w7 _)
  clear hb
  go_wp2_with fail
  have ee := @find_R (fun _ => True) (S16.st w.heap.size) S16.σ0 S16.p02 v7 R0.out (by rw [R0.out.na]; decide)
  rw [hW] at ee
  refine ee.mono ?_
  clear ee
  rw [← hW]
  clear b0 b1 b2 b3 b4 b5 b6 b7 b8 n1 n3
  rintro e w8 ⟨rfl, hb⟩
  rw [show Ml.find (S16.σ0.acts.map (·.path)) S16.p02 = some 1 from rfl]
  replace R0 := Lib.hid (R0.out.below hb)
  replace BS := Lib.hid (BS.out.below hb)
  replace BL := Lib.hid (BL.out.below hb)
  replace R1 := Lib.hid (R1.out.below hb)
  replace BA := Lib.hid (BA.out.below hb)
  replace R2 := Lib.hid (R2.out.below hb)
  replace BB := Lib.hid (BB.out.below hb)
  replace R3 := Lib.hid (R3.out.below hb)
  replace BC := Lib.hid (BC.out.below hb)
  replace R4 := Lib.hid (R4.out.below hb)
  replace BD := Lib.hid (BD.out.below hb)
  replace BF := Lib.hid (BF.out.below hb)
  replace R5 := Lib.hid (R5.out.below hb)
  replace BE := Lib.hid (BE.out.below hb)
  replace BG := Lib.hid (BG.out.below hb)
  replace R7 := Lib.hid (R7.out.below hb)
  replace BX := Lib.hid (BX.out.below hb)
  replace HB := Lib.hid (HB.out.trans (hb.mono HB.out.size))
  have hsz8 : v7.heap.size ≤ w8.heap.size := hb.size
  clear hW hb
  obtain ⟨-, -, -, -, a4, -, -, -, -⟩ := BA.out.cells
  rw [show s1.actors.n = 3 from R1.out.na] at a4
  obtain ⟨-, -, -, -, -, b5, -, -, -⟩ := BB.out.cells
  rw [show s2.flights.n = 1 from R2.out.nfl.symm] at b5
  obtain ⟨-, -, -, -, d4, -, -, -, -⟩ := BD.out.cells
  rw [show s4.actors.n = 3 from R4.out.na] at d4
  obtain ⟨-, -, -, -, -, -, x6, -, -⟩ := BX.out.cells
  rw [show s7.alarms.n = 1 from R7.out.nal.symm] at x6
  go_wp2_with fail
  clear a4 b5 d4 x6
  obtain ⟨v8, hV⟩ : ∃ v, v = w8 := ⟨_, rfl⟩
  have HC : Hid (Below w8.heap.size w8 w8) := Lib.hid (Below.refl _ _)
  refine (less30 S16.p02 S16.p010 w8 (by decide) (by decide)).mono ?_
  rintro e w9 ⟨rfl, hb⟩
  rw [show Ml.lessP S16.p02 S16.p010 = true from rfl]
  replace HC := Lib.hid (HC.out.trans (hb.mono HC.out.size))
  clear hb
  go_wp2_with fail
  refine (less30 S16.p02 ⟨#[48, 46, 50, 46, 48]⟩ w9 (by decide) (by decide)).mono ?_
  rintro e w10 ⟨rfl, hb⟩
  rw [show Ml.lessP S16.p02 ⟨#[48, 46, 50, 46, 48]⟩ = true from rfl]
  replace HC := Lib.hid (HC.out.trans (hb.mono HC.out.size))
  clear hb
  go_wp2_with fail
  refine (less30 S16.p02 S16.p02 w10 (by decide) (by decide)).mono ?_
  rintro e w11 ⟨rfl, hb⟩
  rw [show Ml.lessP S16.p02 S16.p02 = false from rfl]
  replace HC := Lib.hid (HC.out.trans (hb.mono HC.out.size))
  clear hb
  go_wp2_with fail
  refine (valid28 S16.p0 w11 (by decide)).mono ?_
  rintro e w12 ⟨rfl, hb⟩
  rw [show (Ml.splitP S16.p0).isSome = true from rfl]
  replace HC := Lib.hid (HC.out.trans (hb.mono HC.out.size))
  clear hb
  go_wp2_with fail
  refine (valid28 ⟨#[49]⟩ w12 (by decide)).mono ?_
  rintro e w13 ⟨rfl, hb⟩
  rw [show (Ml.splitP ⟨#[49]⟩).isSome = false from rfl]
  replace HC := Lib.hid (HC.out.trans (hb.mono HC.out.size))
  clear hb
  go_wp2_with fail
  refine (valid28 ⟨#[48, 46, 48, 49]⟩ w13 (by decide)).mono ?_
  rintro e w14 ⟨rfl, hb⟩
  rw [show (Ml.splitP ⟨#[48, 46, 48, 49]⟩).isSome = false from rfl]
  replace HC := Lib.hid (HC.out.trans (hb.mono HC.out.size))
  clear hb
  go_wp2_with fail
  refine (valid28 ⟨#[48, 46]⟩ w14 (by decide)).mono ?_
  rintro e w15 ⟨rfl, hb⟩
  rw [show (Ml.splitP ⟨#[48, 46]⟩).isSome = false from rfl]
  replace HC := Lib.hid (HC.out.trans (hb.mono HC.out.size))
  clear hb
  go_wp2_with fail
  refine (valid28 ⟨#[]⟩ w15 (by decide)).mono ?_
  rintro e w16 ⟨rfl, hb⟩
  rw [show (Ml.splitP ⟨#[]⟩).isSome = false from rfl]
  replace HC := Lib.hid (HC.out.trans (hb.mono HC.out.size))
  clear hb
  replace R0 := Lib.hid (R0.out.below HC.out)
  replace R1 := Lib.hid (R1.out.below HC.out)
  replace R2 := Lib.hid (R2.out.below HC.out)
  replace R3 := Lib.hid (R3.out.below HC.out)
  replace R4 := Lib.hid (R4.out.below HC.out)
  replace R7 := Lib.hid (R7.out.below HC.out)
  replace BS := Lib.hid (BS.out.below HC.out)
  replace BA := Lib.hid (BA.out.below HC.out)
  replace BB := Lib.hid (BB.out.below HC.out)
  replace BC := Lib.hid (BC.out.below HC.out)
  replace BD := Lib.hid (BD.out.below HC.out)
  replace BF := Lib.hid (BF.out.below HC.out)
  replace BG := Lib.hid (BG.out.below HC.out)
  replace BX := Lib.hid (BX.out.below HC.out)
  replace HB := Lib.hid (HB.out.trans (HC.out.mono HB.out.size))
  clear HC
  obtain ⟨-, -, -, -, a4, -, -, -, -⟩ := BA.out.cells
  rw [show s1.actors.n = 3 from R1.out.na] at a4
  obtain ⟨ab, ao, aA, ac, ai, am⟩ := mail_is R1.out 0 0 1 3 rfl rfl rfl
  obtain ⟨-, -, -, -, -, b5, -, -, -⟩ := BB.out.cells
  rw [show s2.flights.n = 1 from R2.out.nfl.symm] at b5
  obtain ⟨bb, bo, bi, bm⟩ := fly24 (u := s2.flights) (p := ⟨#[48, 46, 50]⟩) 1 R2.out.fl rfl R2.out.nfl.symm
  obtain ⟨-, -, -, -, -, -, -, -, c8⟩ := BC.out.cells
  rw [show s3.dead = 1 from R3.out.dd.trans (by kernel_rfl)] at c8
  obtain ⟨-, -, -, -, d4, -, -, -, -⟩ := BD.out.cells
  rw [show s4.actors.n = 3 from R4.out.na] at d4
  obtain ⟨db, doff, dA, dc, di, dm⟩ := mail_is R4.out 1 1 1 3 rfl rfl rfl
  have f1 := BF.out.y_
  rw [show S16.f4.y = 1 from rfl] at f1
  obtain ⟨-, g1, -, -⟩ := BG.out.cells
  rw [show S16.g5.msg = ⟨#[65]⟩ from rfl] at g1
  obtain ⟨-, -, -, -, x4, x5, x6, -, -⟩ := BX.out.cells
  rw [show s7.alarms.n = 1 from R7.out.nal.symm] at x6
  rw [show s7.actors.n = 3 from R7.out.na] at x4
  rw [show s7.flights.n = 0 from R7.out.nfl.symm] at x5
  obtain ⟨xb, xo, xA, xc, xi, xm⟩ := mail_is R7.out 0 0 1 3 rfl rfl rfl
  obtain ⟨yb, yo, yi, ym⟩ := fly25 (u := s7.alarms) (p := ⟨#[48, 46, 50]⟩) 1 R7.out.al rfl R7.out.nal.symm
  obtain ⟨-, -, -, -, t4, -, -, -, -⟩ := BS.out.cells
  obtain ⟨tb, toff, tA, tc, ti, tm⟩ := mail_is R0.out 0 0 0 3 rfl rfl rfl
  dsimp only [S16.st] at t4 ti
  clear R0 R1 R2 R3 R4 R5 R7 BS BA BB BC BD BE BF BG BX BL
  go_wp2_with fail
  go_ret
  exact ⟨rfl, HB.out⟩
end Go.Proofs.Ytjdjfjokniingaa
