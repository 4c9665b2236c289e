/- The walk of MailCounts. -/
import Derived.Test.YtjdjfjokniingaaRb
namespace Go.Proofs.Ytjdjfjokniingaa
open Go.RowKit

theorem below_al' (w : World) (o : Obj) : Below w.heap.size w (w.alloc o) := (Below.refl _ w).alloc (Nat.le_refl _) _
structure CoSame (σ τ : PS) (k : Nat) : Prop where
  ac : τ.acts.length = σ.acts.length
  al : τ.als.length = σ.als.length
  up : τ.ups = σ.ups
  le : Ml.held τ ≤ 60 + k
theorem CoSame.step {σ τ υ : PS} {k : Nat} {d : Int} (h : CoSame σ τ k) (g : Ml.Grows τ υ d) : CoSame σ υ (k + 1) := ⟨g.ac.trans h.ac, g.al.trans h.al, g.up.trans h.up, by have := h.le; have := g.le; omega⟩
theorem CoSame.stay {σ τ : PS} {k : Nat} (h : CoSame σ τ k) : CoSame σ τ (k + 1) := ⟨h.ac, h.al, h.up, by have := h.le; omega⟩
theorem CoSame.arr {σ τ : PS} {k : Nat} (h : CoSame σ τ k) (x y : Int) : CoSame σ (Ml.arrive τ x y).1 (k + 1) := by
  obtain ⟨_, h1, h2, h3, h4⟩ := Ml.arrive_grows τ x y
  exact ⟨h1.trans h.ac, h2.trans h.al, h3.trans h.up, by have := h.le; omega⟩
/-- what the loop keeps -/
def CoRel (w : World) (X : Nat) (s : SysC) (σ : PS) (m : Nat) (n i : Value) (wr : World) : Prop :=
  ∃ (k : Nat) (sx : SysC) (τ : PS), k ≤ m ∧ i = .int .i64 k ∧ n = .int .i64 (Ml.cnt τ) ∧ Below w.heap.size w wr ∧ BoxAt wr w.heap.size (sysL s) ∧ BoxAt wr X (sysL sx) ∧ SysR (fun b => b ≠ X) wr sx τ ∧ CoSame σ τ k

set_option linter.unusedSimpArgs false in
set_option linter.unusedVariables false in
set_option maxRecDepth 100000 in
set_option maxHeartbeats 64000000 in
theorem counts_walk (s : SysC) (σ : PS) (l : Sl) (ops : List OpC) (w : World) (hr : SysR (fun b => b < w.heap.size) w s σ) (hz : PSZ 140737488355328 σ) (ho : Rd w w.heap.size 8 l.a l.n (ops.flatMap opL)) (hln : l.n ≤ 9223372036854775807) :
    Calls Try.prog 10 #[sysV s, .slice l.a l.n l.c] w fun e w' => e = .returned (.bool true) ∧ Below w.heap.size w w' := by
  have R0 := Lib.hid hr
  have Z0 := Lib.hid hz
  have RO := Lib.hid ho
  clear hr hz ho
  go_enter Try.func10, Try.ntmps10
  go_wp2_with fail
  refine (small27 _).mono ?_
  rintro e w1 ⟨rfl, hb⟩
  have HB : Hid (Below w.heap.size w w1) := Lib.hid (Below.call (below_al' w _) hb)
  have BS : Hid (BoxAt w1 w.heap.size (sysL s)) := Lib.hid ((BoxAt.new w 28 (sysL s) _ rfl).call hb)
  have hs1 : w.heap.size < w1.heap.size := BS.out.1
  clear hb
  obtain ⟨c0, c1, c2, c3, c4, c5, c6, c7, c8⟩ := sbox_cells BS.out
  go_wp2_with fail
  refine (few_R s σ w1 (R0.out.below HB.out) Z0.out).mono ?_
  rintro e w2 ⟨x, rfl, hx, hb⟩
  replace HB := Lib.hid (Below.call HB.out hb)
  replace BS := Lib.hid (BS.out.call hb)
  have hs2 : w.heap.size < w2.heap.size := BS.out.1
  clear hb c0 c1 c2 c3 c4 c5 c6 c7 c8
  cases x with
  | false =>
    clear hx
    go_wp2_with fail
    go_ret
    exact ⟨rfl, HB.out⟩
  | true =>
  have ht := hx rfl
  clear hx
  cases k3 : decide ((30 : Int) < (l.n : Int)) with
  | true =>
    go_wp2_with fail
    go_ret
    exact ⟨rfl, HB.out⟩
  | false =>
  have hl30 : l.n ≤ 30 := by simp at k3; omega
  have hhe : Ml.held σ ≤ 60 := by unfold Ml.total at ht; unfold Ml.held; omega
  have hac : σ.acts.length ≤ 60 := by unfold Ml.total at ht; omega
  have hup : σ.ups.length ≤ 60 := by unfold Ml.total at ht; omega
  clear ht Z0
  obtain ⟨c0, c1, c2, c3, c4, c5, c6, c7, c8⟩ := sbox_cells BS.out
  have CH := Lib.hid (fun (W : World) (hW : Below w.heap.size w W) => held_R s σ W (R0.out.below hW) (by omega) (by omega))
  have hcnt : IntKind.i64.wrap ((Ml.held σ : Int) + s.dead) = Ml.cnt σ := by
    rw [show s.dead = σ.dead from R0.out.dd, IntWalk.i64_left]
    rfl
  go_wp2_with fail
  have n1 : ¬ w.heap.size = w2.heap.size := by omega
  have HB3 : Hid (Below w.heap.size w (w2.alloc (.cells #[.slice s.up.a s.up.n s.up.c, .int .i64 s.moment, .int .i64 s.clock, .int .i64 s.seq, .slice s.actors.a s.actors.n s.actors.c, .slice s.flights.a s.flights.n s.flights.c, .slice s.alarms.a s.alarms.n s.alarms.c, .slice s.asked.a s.asked.n s.asked.c, .int .i64 s.dead] 28))) := Lib.hid (HB.out.alloc (Nat.le_of_lt hs2) _)
  go_region_held3 (fun w' => w'.cell? ⟨w.heap.size, 0, none⟩ = some (.slice s.up.a s.up.n s.up.c) ∧ w'.cell? ⟨w.heap.size, 1, none⟩ = some (.int .i64 s.moment) ∧ w'.cell? ⟨w.heap.size, 2, none⟩ = some (.int .i64 s.clock) ∧ w'.cell? ⟨w.heap.size, 3, none⟩ = some (.int .i64 s.seq) ∧ w'.cell? ⟨w.heap.size, 4, none⟩ = some (.slice s.actors.a s.actors.n s.actors.c) ∧ w'.cell? ⟨w.heap.size, 5, none⟩ = some (.slice s.flights.a s.flights.n s.flights.c) ∧ w'.cell? ⟨w.heap.size, 6, none⟩ = some (.slice s.alarms.a s.alarms.n s.alarms.c) ∧ w'.cell? ⟨w.heap.size, 7, none⟩ = some (.slice s.asked.a s.asked.n s.asked.c) ∧ w'.cell? ⟨w.heap.size, 8, none⟩ = some (.int .i64 s.dead)) (simp [go_sem, *])
    (first | (go_at_call 46; refine (CH.out _ HB3.out.drew).mono ?_; rintro e w3 ⟨rfl, h1⟩; have HH : Hid (Below w2.heap.size w2 w3) := Lib.hid (Below.call (below_al' w2 _).drew h1); have z1 := h1.size; simp at z1; obtain ⟨k1, k2, k3⟩ := keepB h1 w.heap.size (by simp; omega); have BX : Hid (BoxAt w3 w2.heap.size (sysL s)) := Lib.hid ((BoxAt.new w2 28 (sysL s) _ rfl).drew.call h1); clear h1))
  replace HB := Lib.hid (Below.call HB.out HH.out)
  replace BS := Lib.hid (BS.out.call HH.out)
  clear HH k1 k2 k3 n1 HB3 hcnt c0 c1 c2 c3 c4 c5 c6 c7 c8
  obtain ⟨c0, c1, c2, c3, c4, c5, c6, c7, c8⟩ := sbox_cells BS.out
  go_wp2_with fail
  refine (CH.out _ HB.out).mono ?_
  rintro e w4 ⟨rfl, h1⟩
  replace HB := Lib.hid (Below.call HB.out h1)
  replace BS := Lib.hid (BS.out.call h1)
  replace BX := Lib.hid (BX.out.call h1)
  have hX : w.heap.size < w2.heap.size := hs2
  have hs4 : w2.heap.size < w4.heap.size := BX.out.1
  clear h1 c0 c1 c2 c3 c4 c5 c6 c7 c8 z1 hs1 hs2
  have RX : Hid (SysR (fun b => b ≠ w2.heap.size) w4 s σ) := Lib.hid ((R0.out.below HB.out).mono (fun b hb => by have h : b < w.heap.size := hb; omega))
  obtain ⟨X, hXX⟩ : ∃ X, X = w2.heap.size := ⟨_, rfl⟩
  rw [← hXX] at BX RX hX hs4
  go_wp2_with fail
  rw [← hXX]
  clear hXX
  go_loopw [7, 9] (fun n i wr => CoRel w X s σ l.n n i wr) (fun _ i _ => l.n - (intOf i).toNat)
  case atStart => exact ⟨0, s, σ, Nat.zero_le _, rfl, rfl, HB.out, BS.out, BX.out, RX.out, ⟨rfl, rfl, rfl, by omega⟩⟩
  case round =>
    clear HB BS BX RX hs4
    obtain ⟨k, sx, τ, hk, rfl, rfl, hB, hS, hXb, hR, hC⟩ := hrel
    have HB := Lib.hid hB
    have BS := Lib.hid hS
    have BX := Lib.hid hXb
    have RX := Lib.hid hR
    have CO := Lib.hid hC
    clear hB hS hXb hR hC
    by_cases hlt : k < l.n
    · obtain ⟨b, off, p, hA, hb, hpk, hc⟩ := RO.out.at_ (fun _ => rfl) (by omega) hlt
      have hix : ∀ W : World, Sem.run Try.prog (Instr.indexAt 55 (.slice l.a l.n l.c) (.int .i64 (k : Int))) W = .ok (.pointer (some ⟨b, off + k * 8, none⟩)) W := by intro W; rw [hA]; go_simp
      have x0 : wr.cell? ⟨b, off + k * 8, none⟩ = some (.int .i64 p.op) := (HB.out.cell (p := ⟨b, off + k * 8, none⟩) hb).trans (hc 0 _ rfl)
      have x1 : wr.cell? ⟨b, off + k * 8 + 1, none⟩ = some (.int .i64 p.x) := (HB.out.cell (p := ⟨b, off + k * 8 + 1, none⟩) hb).trans (hc 1 _ rfl)
      have x2 : wr.cell? ⟨b, off + k * 8 + 2, none⟩ = some (.int .i64 p.y) := (HB.out.cell (p := ⟨b, off + k * 8 + 2, none⟩) hb).trans (hc 2 _ rfl)
      have x3 : wr.cell? ⟨b, off + k * 8 + 3, none⟩ = some (.string p.path) := (HB.out.cell (p := ⟨b, off + k * 8 + 3, none⟩) hb).trans (hc 3 _ rfl)
      have x4 : wr.cell? ⟨b, off + k * 8 + 4, none⟩ = some (.string p.l.src) := (HB.out.cell (p := ⟨b, off + k * 8 + 4, none⟩) hb).trans (hc 4 _ rfl)
      have x5 : wr.cell? ⟨b, off + k * 8 + 5, none⟩ = some (.string p.l.msg) := (HB.out.cell (p := ⟨b, off + k * 8 + 5, none⟩) hb).trans (hc 5 _ rfl)
      have x6 : wr.cell? ⟨b, off + k * 8 + 6, none⟩ = some (.slice p.l.args.a p.l.args.n p.l.args.c) := (HB.out.cell (p := ⟨b, off + k * 8 + 6, none⟩) hb).trans (hc 6 _ rfl)
      have x7 : wr.cell? ⟨b, off + k * 8 + 7, none⟩ = some (.int .i64 p.l.sent) := (HB.out.cell (p := ⟨b, off + k * 8 + 7, none⟩) hb).trans (hc 7 _ rfl)
      have hwr : w.heap.size < wr.heap.size := BS.out.1
      have hxr : X < wr.heap.size := BX.out.1
      have n1 : ¬ b = wr.heap.size := by omega
      have n2 : ¬ X = wr.heap.size := by omega
      clear hA hpk hc
      have hta : τ.acts.length ≤ 60 := by rw [CO.out.ac]; exact hac
      have htu : τ.ups.length ≤ 60 := by rw [CO.out.up]; exact hup
      have hth : Ml.held τ ≤ 60 + k := CO.out.le
      have htf : τ.fls.length ≤ 90 := by unfold Ml.held at hth; omega
      have B1 : sx.actors.n ≤ 1000000 := by rw [RX.out.na]; omega
      have B2 : sx.up.n ≤ 9223372036854775807 := by rw [← RX.out.nu]; omega
      have B3 : sx.flights.n ≤ 1000000 := by rw [← RX.out.nfl]; omega
      have CP := Lib.hid (fun (W : World) (hW : Below wr.heap.size wr W) => post_any sx τ p.path p.l W (RX.out.below hW) B1 B2)
      have CS := Lib.hid (fun (W : World) (hW : Below wr.heap.size wr W) => send_any sx τ p.x p.path p.l W (RX.out.below hW) B1 B2 B3)
      have CT := Lib.hid (fun (W : World) (hW : Below wr.heap.size wr W) => take_any sx τ p.path W (RX.out.below hW) B1)
      have CA := Lib.hid (fun (W : World) (hW : Below wr.heap.size wr W) => arrive_any sx τ p.x p.y W (RX.out.below hW) B1 B2 B3)
      clear B1 B2 B3
      obtain ⟨y0, y1, y2, y3, y4, y5, y6, y7, y8⟩ := sbox_cells BX.out
      by_cases e1 : p.op = 1
      · have t1 : (p.op == 1) = true := by simp [e1]
        clear e1
        go_wp2_with fail
        refine (CP.out _ (below_al' wr _)).mono ?_
        rintro e w5 ⟨s1, rfl, rr, hb5⟩
        have G := Lib.hid (Ml.post_grows τ p.path p.l)
        generalize (Ml.post τ p.path p.l).2 = ok at *
        generalize (Ml.post τ p.path p.l).1 = υ at *
        have H5 := Lib.hid (Below.call (below_al' wr _) hb5)
        have R1 : Hid (SysR (fun b => b ≠ X) w5 s1 υ) := Lib.hid (rr.mono (fun b h => h.elim id (fun h => by simp at h; omega)))
        replace HB := Lib.hid (Below.call HB.out H5.out)
        replace BS := Lib.hid (BS.out.call H5.out)
        replace BX := Lib.hid (BX.out.call H5.out)
        have C1 : Hid (CoSame σ υ (k + 1)) := Lib.hid (CO.out.step G.out)
        have hn : IntKind.i64.wrap (Ml.cnt τ + 1) = Ml.cnt υ := by rw [IntWalk.i64_left, G.out.cnt]
        have hx5 : X < w5.heap.size := BX.out.1
        have n5 : ¬ X = w5.heap.size := by omega
        clear hb5 rr CP CS CT CA H5 x0 x1 x2 x3 x4 x5 x6 x7 y0 y1 y2 y3 y4 y5 y6 y7 y8 RX
        obtain ⟨y0, y1, y2, y3, y4, y5, y6, y7, y8⟩ := sbox_cells BX.out
        obtain ⟨f0, f1, f2, f3, f4, f5, f6, f7, f8⟩ := sbox_free BX.out
        go_wp2_with fail
        obtain ⟨v2, hV⟩ : ∃ v, v = (putSys w5 X s1).alloc (.cells #[.slice s1.up.a s1.up.n s1.up.c, .int .i64 s1.moment, .int .i64 s1.clock, .int .i64 s1.seq, .slice s1.actors.a s1.actors.n s1.actors.c, .slice s1.flights.a s1.flights.n s1.flights.c, .slice s1.alarms.a s1.alarms.n s1.alarms.c, .slice s1.asked.a s1.asked.n s1.asked.c, .int .i64 s1.dead] 28) := ⟨_, rfl⟩
        replace HB : Hid (Below w.heap.size w v2) := Lib.hid (by rw [hV]; exact ((putSys_below HB.out (by omega)).alloc (by rw [(putSys_off w5 X s1).1]; omega) _))
        replace BS : Hid (BoxAt v2 w.heap.size (sysL s)) := Lib.hid (by rw [hV]; exact ((putSys_other BS.out (by omega)).alloc _))
        replace BX : Hid (BoxAt v2 X (sysL s1)) := Lib.hid (by rw [hV]; exact ((putSys_box BX.out).alloc _))
        replace R1 : Hid (SysR (fun b => b ≠ X) v2 s1 υ) := Lib.hid (by rw [hV]; exact (putSys_R R1.out).below (below_al' _ _))
        rw [← hV]
        clear hV y0 y1 y2 y3 y4 y5 y6 y7 y8 f0 f1 f2 f3 f4 f5 f6 f7 f8 n5 hx5 CO hix n1 n2 hwr hxr hta htu hth htf
        have la : s1.actors.n = s.actors.n := by rw [R1.out.na, C1.out.ac, ← R0.out.na]
        have ll : s1.alarms.n = s.alarms.n := by rw [← R1.out.nal, C1.out.al, R0.out.nal]
        have hcu : IntKind.i64.wrap ((Ml.held υ : Int) + s1.dead) = Ml.cnt υ := by
          rw [show s1.dead = υ.dead from R1.out.dd, IntWalk.i64_left]
          rfl
        have hg1 : Ml.held υ ≤ 140737488355328 := by have := C1.out.le; omega
        have hg2 : υ.acts.length ≤ 140737488355328 := by rw [C1.out.ac]; omega
        have CX := Lib.hid (fun (W : World) (hW : Below v2.heap.size v2 W) => held_R s1 υ W (R1.out.below hW) hg2 hg1)
        dsimp only [sysV] at CX
        rw [la, ll] at CX
        have hw2 : w.heap.size < v2.heap.size := BS.out.1
        have hx2 : X < v2.heap.size := BX.out.1
        obtain ⟨d0, d1, d2, d3, d4, d5, d6, d7, d8⟩ := sbox_cells BX.out
        rw [la] at d4
        rw [ll] at d6
        clear la ll hg1 hg2
        obtain ⟨c0, c1, c2, c3, c4, c5, c6, c7, c8⟩ := sbox_cells BS.out
        go_region_held3 (fun w' => w'.cell? ⟨X, 0, none⟩ = some (.slice s1.up.a s1.up.n s1.up.c) ∧ w'.cell? ⟨X, 1, none⟩ = some (.int .i64 s1.moment) ∧ w'.cell? ⟨X, 2, none⟩ = some (.int .i64 s1.clock) ∧ w'.cell? ⟨X, 3, none⟩ = some (.int .i64 s1.seq) ∧ w'.cell? ⟨X, 4, none⟩ = some (.slice s1.actors.a s.actors.n s1.actors.c) ∧ w'.cell? ⟨X, 5, none⟩ = some (.slice s1.flights.a s1.flights.n s1.flights.c) ∧ w'.cell? ⟨X, 6, none⟩ = some (.slice s1.alarms.a s.alarms.n s1.alarms.c) ∧ w'.cell? ⟨X, 7, none⟩ = some (.slice s1.asked.a s1.asked.n s1.asked.c) ∧ w'.cell? ⟨X, 8, none⟩ = some (.int .i64 s1.dead) ∧ w'.cell? ⟨w.heap.size, 0, none⟩ = some (.slice s.up.a s.up.n s.up.c) ∧ w'.cell? ⟨w.heap.size, 1, none⟩ = some (.int .i64 s.moment) ∧ w'.cell? ⟨w.heap.size, 2, none⟩ = some (.int .i64 s.clock) ∧ w'.cell? ⟨w.heap.size, 3, none⟩ = some (.int .i64 s.seq) ∧ w'.cell? ⟨w.heap.size, 4, none⟩ = some (.slice s.actors.a s.actors.n s.actors.c) ∧ w'.cell? ⟨w.heap.size, 5, none⟩ = some (.slice s.flights.a s.flights.n s.flights.c) ∧ w'.cell? ⟨w.heap.size, 6, none⟩ = some (.slice s.alarms.a s.alarms.n s.alarms.c) ∧ w'.cell? ⟨w.heap.size, 7, none⟩ = some (.slice s.asked.a s.asked.n s.asked.c) ∧ w'.cell? ⟨w.heap.size, 8, none⟩ = some (.int .i64 s.dead)) (simp [go_sem, *])
          (first
          | (go_at_call 46; with_reducible refine (CX.out _ (Below.refl _ v2).drew).mono ?_; rintro e w6 ⟨rfl, h6⟩; have H6 : Hid (Below v2.heap.size v2 w6) := Lib.hid (Below.call (Below.refl _ v2).drew h6); have z6 := h6.size; simp at z6; obtain ⟨k1, k2, k3⟩ := keepB h6 w.heap.size (by simp; omega); obtain ⟨m1, m2, m3⟩ := keepB h6 X (by simp; omega); clear h6)
          | (go_at_call 46; with_reducible refine (CH.out _ (Below.call HB.out H6.out)).mono ?_; rintro e w7 ⟨rfl, h7⟩; have H7 : Hid (Below v2.heap.size v2 w7) := Lib.hid (Below.call H6.out h7); have z7 := h7.size; (try simp at z7); obtain ⟨k4, k5, k6⟩ := keepB h7 w.heap.size (by omega); obtain ⟨m4, m5, m6⟩ := keepB h7 X (by omega); clear h7))
        go_wp2_with fail
        go_roundw
        case rel => exact ⟨k + 1, s1, υ, by omega, by go_num, rfl, Below.call HB.out H7.out, BS.out.call H7.out, BX.out.call H7.out, R1.out.below H7.out, C1.out⟩
        case measure => simp [intOf]; omega
      · have t1 : (p.op == 1) = false := by simp [e1]
        clear e1
        by_cases e2 : p.op = 2
        · have t2 : (p.op == 2) = true := by simp [e2]
          clear e2
          go_wp2_with fail
          refine (CS.out _ (below_al' wr _)).mono ?_
          rintro e w5 ⟨s1, rfl, rr, hb5⟩
          have G := Lib.hid (Ml.send_grows τ p.x p.path p.l)
          generalize (Ml.send τ p.x p.path p.l).2 = ok at *
          generalize (Ml.send τ p.x p.path p.l).1 = υ at *
          have H5 := Lib.hid (Below.call (below_al' wr _) hb5)
          have R1 : Hid (SysR (fun b => b ≠ X) w5 s1 υ) := Lib.hid (rr.mono (fun b h => h.elim id (fun h => by simp at h; omega)))
          replace HB := Lib.hid (Below.call HB.out H5.out)
          replace BS := Lib.hid (BS.out.call H5.out)
          replace BX := Lib.hid (BX.out.call H5.out)
          have C1 : Hid (CoSame σ υ (k + 1)) := Lib.hid (CO.out.step G.out)
          have hn : IntKind.i64.wrap (Ml.cnt τ + 1) = Ml.cnt υ := by rw [IntWalk.i64_left, G.out.cnt]
          have hx5 : X < w5.heap.size := BX.out.1
          have n5 : ¬ X = w5.heap.size := by omega
          clear hb5 rr CP CS CT CA H5 x0 x1 x2 x3 x4 x5 x6 x7 y0 y1 y2 y3 y4 y5 y6 y7 y8 RX
          obtain ⟨y0, y1, y2, y3, y4, y5, y6, y7, y8⟩ := sbox_cells BX.out
          obtain ⟨f0, f1, f2, f3, f4, f5, f6, f7, f8⟩ := sbox_free BX.out
          go_wp2_with fail
          obtain ⟨v2, hV⟩ : ∃ v, v = (putSys w5 X s1).alloc (.cells #[.slice s1.up.a s1.up.n s1.up.c, .int .i64 s1.moment, .int .i64 s1.clock, .int .i64 s1.seq, .slice s1.actors.a s1.actors.n s1.actors.c, .slice s1.flights.a s1.flights.n s1.flights.c, .slice s1.alarms.a s1.alarms.n s1.alarms.c, .slice s1.asked.a s1.asked.n s1.asked.c, .int .i64 s1.dead] 28) := ⟨_, rfl⟩
          replace HB : Hid (Below w.heap.size w v2) := Lib.hid (by rw [hV]; exact ((putSys_below HB.out (by omega)).alloc (by rw [(putSys_off w5 X s1).1]; omega) _))
          replace BS : Hid (BoxAt v2 w.heap.size (sysL s)) := Lib.hid (by rw [hV]; exact ((putSys_other BS.out (by omega)).alloc _))
          replace BX : Hid (BoxAt v2 X (sysL s1)) := Lib.hid (by rw [hV]; exact ((putSys_box BX.out).alloc _))
          replace R1 : Hid (SysR (fun b => b ≠ X) v2 s1 υ) := Lib.hid (by rw [hV]; exact (putSys_R R1.out).below (below_al' _ _))
          rw [← hV]
          clear hV y0 y1 y2 y3 y4 y5 y6 y7 y8 f0 f1 f2 f3 f4 f5 f6 f7 f8 n5 hx5 CO hix n1 n2 hwr hxr hta htu hth htf
          have la : s1.actors.n = s.actors.n := by rw [R1.out.na, C1.out.ac, ← R0.out.na]
          have ll : s1.alarms.n = s.alarms.n := by rw [← R1.out.nal, C1.out.al, R0.out.nal]
          have hcu : IntKind.i64.wrap ((Ml.held υ : Int) + s1.dead) = Ml.cnt υ := by
            rw [show s1.dead = υ.dead from R1.out.dd, IntWalk.i64_left]
            rfl
          have hg1 : Ml.held υ ≤ 140737488355328 := by have := C1.out.le; omega
          have hg2 : υ.acts.length ≤ 140737488355328 := by rw [C1.out.ac]; omega
          have CX := Lib.hid (fun (W : World) (hW : Below v2.heap.size v2 W) => held_R s1 υ W (R1.out.below hW) hg2 hg1)
          dsimp only [sysV] at CX
          rw [la, ll] at CX
          have hw2 : w.heap.size < v2.heap.size := BS.out.1
          have hx2 : X < v2.heap.size := BX.out.1
          obtain ⟨d0, d1, d2, d3, d4, d5, d6, d7, d8⟩ := sbox_cells BX.out
          rw [la] at d4
          rw [ll] at d6
          clear la ll hg1 hg2
          obtain ⟨c0, c1, c2, c3, c4, c5, c6, c7, c8⟩ := sbox_cells BS.out
          go_region_held3 (fun w' => w'.cell? ⟨X, 0, none⟩ = some (.slice s1.up.a s1.up.n s1.up.c) ∧ w'.cell? ⟨X, 1, none⟩ = some (.int .i64 s1.moment) ∧ w'.cell? ⟨X, 2, none⟩ = some (.int .i64 s1.clock) ∧ w'.cell? ⟨X, 3, none⟩ = some (.int .i64 s1.seq) ∧ w'.cell? ⟨X, 4, none⟩ = some (.slice s1.actors.a s.actors.n s1.actors.c) ∧ w'.cell? ⟨X, 5, none⟩ = some (.slice s1.flights.a s1.flights.n s1.flights.c) ∧ w'.cell? ⟨X, 6, none⟩ = some (.slice s1.alarms.a s.alarms.n s1.alarms.c) ∧ w'.cell? ⟨X, 7, none⟩ = some (.slice s1.asked.a s1.asked.n s1.asked.c) ∧ w'.cell? ⟨X, 8, none⟩ = some (.int .i64 s1.dead) ∧ w'.cell? ⟨w.heap.size, 0, none⟩ = some (.slice s.up.a s.up.n s.up.c) ∧ w'.cell? ⟨w.heap.size, 1, none⟩ = some (.int .i64 s.moment) ∧ w'.cell? ⟨w.heap.size, 2, none⟩ = some (.int .i64 s.clock) ∧ w'.cell? ⟨w.heap.size, 3, none⟩ = some (.int .i64 s.seq) ∧ w'.cell? ⟨w.heap.size, 4, none⟩ = some (.slice s.actors.a s.actors.n s.actors.c) ∧ w'.cell? ⟨w.heap.size, 5, none⟩ = some (.slice s.flights.a s.flights.n s.flights.c) ∧ w'.cell? ⟨w.heap.size, 6, none⟩ = some (.slice s.alarms.a s.alarms.n s.alarms.c) ∧ w'.cell? ⟨w.heap.size, 7, none⟩ = some (.slice s.asked.a s.asked.n s.asked.c) ∧ w'.cell? ⟨w.heap.size, 8, none⟩ = some (.int .i64 s.dead)) (simp [go_sem, *])
            (first
            | (go_at_call 46; with_reducible refine (CX.out _ (Below.refl _ v2).drew).mono ?_; rintro e w6 ⟨rfl, h6⟩; have H6 : Hid (Below v2.heap.size v2 w6) := Lib.hid (Below.call (Below.refl _ v2).drew h6); have z6 := h6.size; simp at z6; obtain ⟨k1, k2, k3⟩ := keepB h6 w.heap.size (by simp; omega); obtain ⟨m1, m2, m3⟩ := keepB h6 X (by simp; omega); clear h6)
            | (go_at_call 46; with_reducible refine (CH.out _ (Below.call HB.out H6.out)).mono ?_; rintro e w7 ⟨rfl, h7⟩; have H7 : Hid (Below v2.heap.size v2 w7) := Lib.hid (Below.call H6.out h7); have z7 := h7.size; (try simp at z7); obtain ⟨k4, k5, k6⟩ := keepB h7 w.heap.size (by omega); obtain ⟨m4, m5, m6⟩ := keepB h7 X (by omega); clear h7))
          go_wp2_with fail
          go_roundw
          case rel => exact ⟨k + 1, s1, υ, by omega, by go_num, rfl, Below.call HB.out H7.out, BS.out.call H7.out, BX.out.call H7.out, R1.out.below H7.out, C1.out⟩
          case measure => simp [intOf]; omega
        · have t2 : (p.op == 2) = false := by simp [e2]
          clear e2
          by_cases e3 : p.op = 3
          · have t3 : (p.op == 3) = true := by simp [e3]
            clear e3
            cases hok : (Ml.take τ p.path).2.2 with
            | true =>
              go_wp2_with fail
              refine (CT.out _ (below_al' wr _)).mono ?_
              rintro e w5 ⟨s1, rfl, rr, hb5⟩
              have G := Lib.hid (Ml.take_yes hok)
              rw [hok]
              clear hok
              generalize (Ml.take τ p.path).2.1 = lt at *
              generalize (Ml.take τ p.path).1 = υ at *
              have H5 := Lib.hid (Below.call (below_al' wr _) hb5)
              have R1 : Hid (SysR (fun b => b ≠ X) w5 s1 υ) := Lib.hid (rr.mono (fun b h => h.elim id (fun h => by simp at h; omega)))
              replace HB := Lib.hid (Below.call HB.out H5.out)
              replace BS := Lib.hid (BS.out.call H5.out)
              replace BX := Lib.hid (BX.out.call H5.out)
              have C1 : Hid (CoSame σ υ (k + 1)) := Lib.hid (CO.out.step G.out)
              have hn : IntKind.i64.wrap (Ml.cnt τ - 1) = Ml.cnt υ := by rw [IntWalk.i64_left, G.out.cnt]; rfl
              have hx5 : X < w5.heap.size := BX.out.1
              have n5 : ¬ X = w5.heap.size := by omega
              clear hb5 rr CP CS CT CA H5 x0 x1 x2 x3 x4 x5 x6 x7 y0 y1 y2 y3 y4 y5 y6 y7 y8 RX
              obtain ⟨y0, y1, y2, y3, y4, y5, y6, y7, y8⟩ := sbox_cells BX.out
              obtain ⟨f0, f1, f2, f3, f4, f5, f6, f7, f8⟩ := sbox_free BX.out
              go_wp2_with fail
              obtain ⟨v2, hV⟩ : ∃ v, v = ((putSys w5 X s1).alloc (.cells #[.slice s1.up.a s1.up.n s1.up.c, .int .i64 s1.moment, .int .i64 s1.clock, .int .i64 s1.seq, .slice s1.actors.a s1.actors.n s1.actors.c, .slice s1.flights.a s1.flights.n s1.flights.c, .slice s1.alarms.a s1.alarms.n s1.alarms.c, .slice s1.asked.a s1.asked.n s1.asked.c, .int .i64 s1.dead] 28)).alloc (.cells #[.string lt.src, .string lt.msg, .slice lt.args.a lt.args.n lt.args.c, .int .i64 lt.sent] 34) := ⟨_, rfl⟩
              replace HB : Hid (Below w.heap.size w v2) := Lib.hid (by rw [hV]; exact ((putSys_below HB.out (by omega)).alloc (by rw [(putSys_off w5 X s1).1]; omega) _).alloc (by simp; omega) _)
              replace BS : Hid (BoxAt v2 w.heap.size (sysL s)) := Lib.hid (by rw [hV]; exact ((putSys_other BS.out (by omega)).alloc _).alloc _)
              replace BX : Hid (BoxAt v2 X (sysL s1)) := Lib.hid (by rw [hV]; exact ((putSys_box BX.out).alloc _).alloc _)
              replace R1 : Hid (SysR (fun b => b ≠ X) v2 s1 υ) := Lib.hid (by rw [hV]; exact ((putSys_R R1.out).below (below_al' _ _)).below (below_al' _ _))
              rw [← hV]
              clear hV y0 y1 y2 y3 y4 y5 y6 y7 y8 f0 f1 f2 f3 f4 f5 f6 f7 f8 n5 hx5 CO hix n1 n2 hwr hxr hta htu hth htf
              have la : s1.actors.n = s.actors.n := by rw [R1.out.na, C1.out.ac, ← R0.out.na]
              have ll : s1.alarms.n = s.alarms.n := by rw [← R1.out.nal, C1.out.al, R0.out.nal]
              have hcu : IntKind.i64.wrap ((Ml.held υ : Int) + s1.dead) = Ml.cnt υ := by
                rw [show s1.dead = υ.dead from R1.out.dd, IntWalk.i64_left]
                rfl
              have hg1 : Ml.held υ ≤ 140737488355328 := by have := C1.out.le; omega
              have hg2 : υ.acts.length ≤ 140737488355328 := by rw [C1.out.ac]; omega
              have CX := Lib.hid (fun (W : World) (hW : Below v2.heap.size v2 W) => held_R s1 υ W (R1.out.below hW) hg2 hg1)
              dsimp only [sysV] at CX
              rw [la, ll] at CX
              have hw2 : w.heap.size < v2.heap.size := BS.out.1
              have hx2 : X < v2.heap.size := BX.out.1
              obtain ⟨d0, d1, d2, d3, d4, d5, d6, d7, d8⟩ := sbox_cells BX.out
              rw [la] at d4
              rw [ll] at d6
              clear la ll hg1 hg2
              obtain ⟨c0, c1, c2, c3, c4, c5, c6, c7, c8⟩ := sbox_cells BS.out
              go_region_held3 (fun w' => w'.cell? ⟨X, 0, none⟩ = some (.slice s1.up.a s1.up.n s1.up.c) ∧ w'.cell? ⟨X, 1, none⟩ = some (.int .i64 s1.moment) ∧ w'.cell? ⟨X, 2, none⟩ = some (.int .i64 s1.clock) ∧ w'.cell? ⟨X, 3, none⟩ = some (.int .i64 s1.seq) ∧ w'.cell? ⟨X, 4, none⟩ = some (.slice s1.actors.a s.actors.n s1.actors.c) ∧ w'.cell? ⟨X, 5, none⟩ = some (.slice s1.flights.a s1.flights.n s1.flights.c) ∧ w'.cell? ⟨X, 6, none⟩ = some (.slice s1.alarms.a s.alarms.n s1.alarms.c) ∧ w'.cell? ⟨X, 7, none⟩ = some (.slice s1.asked.a s1.asked.n s1.asked.c) ∧ w'.cell? ⟨X, 8, none⟩ = some (.int .i64 s1.dead) ∧ w'.cell? ⟨w.heap.size, 0, none⟩ = some (.slice s.up.a s.up.n s.up.c) ∧ w'.cell? ⟨w.heap.size, 1, none⟩ = some (.int .i64 s.moment) ∧ w'.cell? ⟨w.heap.size, 2, none⟩ = some (.int .i64 s.clock) ∧ w'.cell? ⟨w.heap.size, 3, none⟩ = some (.int .i64 s.seq) ∧ w'.cell? ⟨w.heap.size, 4, none⟩ = some (.slice s.actors.a s.actors.n s.actors.c) ∧ w'.cell? ⟨w.heap.size, 5, none⟩ = some (.slice s.flights.a s.flights.n s.flights.c) ∧ w'.cell? ⟨w.heap.size, 6, none⟩ = some (.slice s.alarms.a s.alarms.n s.alarms.c) ∧ w'.cell? ⟨w.heap.size, 7, none⟩ = some (.slice s.asked.a s.asked.n s.asked.c) ∧ w'.cell? ⟨w.heap.size, 8, none⟩ = some (.int .i64 s.dead)) (simp [go_sem, *])
                (first
                | (go_at_call 46; with_reducible refine (CX.out _ (Below.refl _ v2).drew).mono ?_; rintro e w6 ⟨rfl, h6⟩; have H6 : Hid (Below v2.heap.size v2 w6) := Lib.hid (Below.call (Below.refl _ v2).drew h6); have z6 := h6.size; simp at z6; obtain ⟨k1, k2, k3⟩ := keepB h6 w.heap.size (by simp; omega); obtain ⟨m1, m2, m3⟩ := keepB h6 X (by simp; omega); clear h6)
                | (go_at_call 46; with_reducible refine (CH.out _ (Below.call HB.out H6.out)).mono ?_; rintro e w7 ⟨rfl, h7⟩; have H7 : Hid (Below v2.heap.size v2 w7) := Lib.hid (Below.call H6.out h7); have z7 := h7.size; (try simp at z7); obtain ⟨k4, k5, k6⟩ := keepB h7 w.heap.size (by omega); obtain ⟨m4, m5, m6⟩ := keepB h7 X (by omega); clear h7))
              go_wp2_with fail
              go_roundw
              case rel => exact ⟨k + 1, s1, υ, by omega, by go_num, rfl, Below.call HB.out H7.out, BS.out.call H7.out, BX.out.call H7.out, R1.out.below H7.out, C1.out⟩
              case measure => simp [intOf]; omega
            | false =>
              go_wp2_with fail
              refine (CT.out _ (below_al' wr _)).mono ?_
              rintro e w5 ⟨s1, rfl, rr, hb5⟩
              rw [Ml.take_no hok] at rr
              rw [hok]
              clear hok
              generalize (Ml.take τ p.path).2.1 = lt at *
              have H5 := Lib.hid (Below.call (below_al' wr _) hb5)
              have R1 : Hid (SysR (fun b => b ≠ X) w5 s1 τ) := Lib.hid (rr.mono (fun b h => h.elim id (fun h => by simp at h; omega)))
              replace HB := Lib.hid (Below.call HB.out H5.out)
              replace BS := Lib.hid (BS.out.call H5.out)
              replace BX := Lib.hid (BX.out.call H5.out)
              have C1 : Hid (CoSame σ τ (k + 1)) := Lib.hid (CO.out.stay)
              skip
              have hx5 : X < w5.heap.size := BX.out.1
              have n5 : ¬ X = w5.heap.size := by omega
              clear hb5 rr CP CS CT CA H5 x0 x1 x2 x3 x4 x5 x6 x7 y0 y1 y2 y3 y4 y5 y6 y7 y8 RX
              obtain ⟨y0, y1, y2, y3, y4, y5, y6, y7, y8⟩ := sbox_cells BX.out
              obtain ⟨f0, f1, f2, f3, f4, f5, f6, f7, f8⟩ := sbox_free BX.out
              go_wp2_with fail
              obtain ⟨v2, hV⟩ : ∃ v, v = ((putSys w5 X s1).alloc (.cells #[.slice s1.up.a s1.up.n s1.up.c, .int .i64 s1.moment, .int .i64 s1.clock, .int .i64 s1.seq, .slice s1.actors.a s1.actors.n s1.actors.c, .slice s1.flights.a s1.flights.n s1.flights.c, .slice s1.alarms.a s1.alarms.n s1.alarms.c, .slice s1.asked.a s1.asked.n s1.asked.c, .int .i64 s1.dead] 28)).alloc (.cells #[.string lt.src, .string lt.msg, .slice lt.args.a lt.args.n lt.args.c, .int .i64 lt.sent] 34) := ⟨_, rfl⟩
              replace HB : Hid (Below w.heap.size w v2) := Lib.hid (by rw [hV]; exact ((putSys_below HB.out (by omega)).alloc (by rw [(putSys_off w5 X s1).1]; omega) _).alloc (by simp; omega) _)
              replace BS : Hid (BoxAt v2 w.heap.size (sysL s)) := Lib.hid (by rw [hV]; exact ((putSys_other BS.out (by omega)).alloc _).alloc _)
              replace BX : Hid (BoxAt v2 X (sysL s1)) := Lib.hid (by rw [hV]; exact ((putSys_box BX.out).alloc _).alloc _)
              replace R1 : Hid (SysR (fun b => b ≠ X) v2 s1 τ) := Lib.hid (by rw [hV]; exact ((putSys_R R1.out).below (below_al' _ _)).below (below_al' _ _))
              rw [← hV]
              clear hV y0 y1 y2 y3 y4 y5 y6 y7 y8 f0 f1 f2 f3 f4 f5 f6 f7 f8 n5 hx5 CO hix n1 n2 hwr hxr hta htu hth htf
              have la : s1.actors.n = s.actors.n := by rw [R1.out.na, C1.out.ac, ← R0.out.na]
              have ll : s1.alarms.n = s.alarms.n := by rw [← R1.out.nal, C1.out.al, R0.out.nal]
              have hcu : IntKind.i64.wrap ((Ml.held τ : Int) + s1.dead) = Ml.cnt τ := by
                rw [show s1.dead = τ.dead from R1.out.dd, IntWalk.i64_left]
                rfl
              have hg1 : Ml.held τ ≤ 140737488355328 := by have := C1.out.le; omega
              have hg2 : τ.acts.length ≤ 140737488355328 := by rw [C1.out.ac]; omega
              have CX := Lib.hid (fun (W : World) (hW : Below v2.heap.size v2 W) => held_R s1 τ W (R1.out.below hW) hg2 hg1)
              dsimp only [sysV] at CX
              rw [la, ll] at CX
              have hw2 : w.heap.size < v2.heap.size := BS.out.1
              have hx2 : X < v2.heap.size := BX.out.1
              obtain ⟨d0, d1, d2, d3, d4, d5, d6, d7, d8⟩ := sbox_cells BX.out
              rw [la] at d4
              rw [ll] at d6
              clear la ll hg1 hg2
              obtain ⟨c0, c1, c2, c3, c4, c5, c6, c7, c8⟩ := sbox_cells BS.out
              go_region_held3 (fun w' => w'.cell? ⟨X, 0, none⟩ = some (.slice s1.up.a s1.up.n s1.up.c) ∧ w'.cell? ⟨X, 1, none⟩ = some (.int .i64 s1.moment) ∧ w'.cell? ⟨X, 2, none⟩ = some (.int .i64 s1.clock) ∧ w'.cell? ⟨X, 3, none⟩ = some (.int .i64 s1.seq) ∧ w'.cell? ⟨X, 4, none⟩ = some (.slice s1.actors.a s.actors.n s1.actors.c) ∧ w'.cell? ⟨X, 5, none⟩ = some (.slice s1.flights.a s1.flights.n s1.flights.c) ∧ w'.cell? ⟨X, 6, none⟩ = some (.slice s1.alarms.a s.alarms.n s1.alarms.c) ∧ w'.cell? ⟨X, 7, none⟩ = some (.slice s1.asked.a s1.asked.n s1.asked.c) ∧ w'.cell? ⟨X, 8, none⟩ = some (.int .i64 s1.dead) ∧ w'.cell? ⟨w.heap.size, 0, none⟩ = some (.slice s.up.a s.up.n s.up.c) ∧ w'.cell? ⟨w.heap.size, 1, none⟩ = some (.int .i64 s.moment) ∧ w'.cell? ⟨w.heap.size, 2, none⟩ = some (.int .i64 s.clock) ∧ w'.cell? ⟨w.heap.size, 3, none⟩ = some (.int .i64 s.seq) ∧ w'.cell? ⟨w.heap.size, 4, none⟩ = some (.slice s.actors.a s.actors.n s.actors.c) ∧ w'.cell? ⟨w.heap.size, 5, none⟩ = some (.slice s.flights.a s.flights.n s.flights.c) ∧ w'.cell? ⟨w.heap.size, 6, none⟩ = some (.slice s.alarms.a s.alarms.n s.alarms.c) ∧ w'.cell? ⟨w.heap.size, 7, none⟩ = some (.slice s.asked.a s.asked.n s.asked.c) ∧ w'.cell? ⟨w.heap.size, 8, none⟩ = some (.int .i64 s.dead)) (simp [go_sem, *])
                (first
                | (go_at_call 46; with_reducible refine (CX.out _ (Below.refl _ v2).drew).mono ?_; rintro e w6 ⟨rfl, h6⟩; have H6 : Hid (Below v2.heap.size v2 w6) := Lib.hid (Below.call (Below.refl _ v2).drew h6); have z6 := h6.size; simp at z6; obtain ⟨k1, k2, k3⟩ := keepB h6 w.heap.size (by simp; omega); obtain ⟨m1, m2, m3⟩ := keepB h6 X (by simp; omega); clear h6)
                | (go_at_call 46; with_reducible refine (CH.out _ (Below.call HB.out H6.out)).mono ?_; rintro e w7 ⟨rfl, h7⟩; have H7 : Hid (Below v2.heap.size v2 w7) := Lib.hid (Below.call H6.out h7); have z7 := h7.size; (try simp at z7); obtain ⟨k4, k5, k6⟩ := keepB h7 w.heap.size (by omega); obtain ⟨m4, m5, m6⟩ := keepB h7 X (by omega); clear h7))
              go_wp2_with fail
              go_roundw
              case rel => exact ⟨k + 1, s1, τ, by omega, by go_num, rfl, Below.call HB.out H7.out, BS.out.call H7.out, BX.out.call H7.out, R1.out.below H7.out, C1.out⟩
              case measure => simp [intOf]; omega
          · have t3 : (p.op == 3) = false := by simp [e3]
            clear e3
            by_cases e4 : p.op = 4
            · have t4 : (p.op == 4) = true := by simp [e4]
              clear e4
              go_wp2_with fail
              refine (CA.out _ (below_al' wr _)).mono ?_
              rintro e w5 ⟨s1, rfl, rr, hb5⟩
              have G := Lib.hid (Ml.arrive_grows τ p.x p.y).1
              have C0 := Lib.hid (CO.out.arr p.x p.y)
              generalize (Ml.arrive τ p.x p.y).2.2 = ok at *
              generalize (Ml.arrive τ p.x p.y).2.1 = fl at *
              generalize (Ml.arrive τ p.x p.y).1 = υ at *
              have H5 := Lib.hid (Below.call (below_al' wr _) hb5)
              have R1 : Hid (SysR (fun b => b ≠ X) w5 s1 υ) := Lib.hid (rr.mono (fun b h => h.elim id (fun h => by simp at h; omega)))
              replace HB := Lib.hid (Below.call HB.out H5.out)
              replace BS := Lib.hid (BS.out.call H5.out)
              replace BX := Lib.hid (BX.out.call H5.out)
              have C1 : Hid (CoSame σ υ (k + 1)) := Lib.hid (C0.out)
              rw [← G.out]
              have hx5 : X < w5.heap.size := BX.out.1
              have n5 : ¬ X = w5.heap.size := by omega
              clear hb5 rr CP CS CT CA H5 x0 x1 x2 x3 x4 x5 x6 x7 y0 y1 y2 y3 y4 y5 y6 y7 y8 RX
              obtain ⟨y0, y1, y2, y3, y4, y5, y6, y7, y8⟩ := sbox_cells BX.out
              obtain ⟨f0, f1, f2, f3, f4, f5, f6, f7, f8⟩ := sbox_free BX.out
              go_wp2_with fail
              obtain ⟨v2, hV⟩ : ∃ v, v = ((putSys w5 X s1).alloc (.cells #[.slice s1.up.a s1.up.n s1.up.c, .int .i64 s1.moment, .int .i64 s1.clock, .int .i64 s1.seq, .slice s1.actors.a s1.actors.n s1.actors.c, .slice s1.flights.a s1.flights.n s1.flights.c, .slice s1.alarms.a s1.alarms.n s1.alarms.c, .slice s1.asked.a s1.asked.n s1.asked.c, .int .i64 s1.dead] 28)).alloc (.cells #[.int .i64 fl.x, .int .i64 fl.y, .string fl.path, .string fl.l.src, .string fl.l.msg, .slice fl.l.args.a fl.l.args.n fl.l.args.c, .int .i64 fl.l.sent] 66) := ⟨_, rfl⟩
              replace HB : Hid (Below w.heap.size w v2) := Lib.hid (by rw [hV]; exact ((putSys_below HB.out (by omega)).alloc (by rw [(putSys_off w5 X s1).1]; omega) _).alloc (by simp; omega) _)
              replace BS : Hid (BoxAt v2 w.heap.size (sysL s)) := Lib.hid (by rw [hV]; exact ((putSys_other BS.out (by omega)).alloc _).alloc _)
              replace BX : Hid (BoxAt v2 X (sysL s1)) := Lib.hid (by rw [hV]; exact ((putSys_box BX.out).alloc _).alloc _)
              replace R1 : Hid (SysR (fun b => b ≠ X) v2 s1 υ) := Lib.hid (by rw [hV]; exact ((putSys_R R1.out).below (below_al' _ _)).below (below_al' _ _))
              rw [← hV]
              clear hV y0 y1 y2 y3 y4 y5 y6 y7 y8 f0 f1 f2 f3 f4 f5 f6 f7 f8 n5 hx5 CO hix n1 n2 hwr hxr hta htu hth htf
              have la : s1.actors.n = s.actors.n := by rw [R1.out.na, C1.out.ac, ← R0.out.na]
              have ll : s1.alarms.n = s.alarms.n := by rw [← R1.out.nal, C1.out.al, R0.out.nal]
              have hcu : IntKind.i64.wrap ((Ml.held υ : Int) + s1.dead) = Ml.cnt υ := by
                rw [show s1.dead = υ.dead from R1.out.dd, IntWalk.i64_left]
                rfl
              have hg1 : Ml.held υ ≤ 140737488355328 := by have := C1.out.le; omega
              have hg2 : υ.acts.length ≤ 140737488355328 := by rw [C1.out.ac]; omega
              have CX := Lib.hid (fun (W : World) (hW : Below v2.heap.size v2 W) => held_R s1 υ W (R1.out.below hW) hg2 hg1)
              dsimp only [sysV] at CX
              rw [la, ll] at CX
              have hw2 : w.heap.size < v2.heap.size := BS.out.1
              have hx2 : X < v2.heap.size := BX.out.1
              obtain ⟨d0, d1, d2, d3, d4, d5, d6, d7, d8⟩ := sbox_cells BX.out
              rw [la] at d4
              rw [ll] at d6
              clear la ll hg1 hg2
              obtain ⟨c0, c1, c2, c3, c4, c5, c6, c7, c8⟩ := sbox_cells BS.out
              go_region_held3 (fun w' => w'.cell? ⟨X, 0, none⟩ = some (.slice s1.up.a s1.up.n s1.up.c) ∧ w'.cell? ⟨X, 1, none⟩ = some (.int .i64 s1.moment) ∧ w'.cell? ⟨X, 2, none⟩ = some (.int .i64 s1.clock) ∧ w'.cell? ⟨X, 3, none⟩ = some (.int .i64 s1.seq) ∧ w'.cell? ⟨X, 4, none⟩ = some (.slice s1.actors.a s.actors.n s1.actors.c) ∧ w'.cell? ⟨X, 5, none⟩ = some (.slice s1.flights.a s1.flights.n s1.flights.c) ∧ w'.cell? ⟨X, 6, none⟩ = some (.slice s1.alarms.a s.alarms.n s1.alarms.c) ∧ w'.cell? ⟨X, 7, none⟩ = some (.slice s1.asked.a s1.asked.n s1.asked.c) ∧ w'.cell? ⟨X, 8, none⟩ = some (.int .i64 s1.dead) ∧ w'.cell? ⟨w.heap.size, 0, none⟩ = some (.slice s.up.a s.up.n s.up.c) ∧ w'.cell? ⟨w.heap.size, 1, none⟩ = some (.int .i64 s.moment) ∧ w'.cell? ⟨w.heap.size, 2, none⟩ = some (.int .i64 s.clock) ∧ w'.cell? ⟨w.heap.size, 3, none⟩ = some (.int .i64 s.seq) ∧ w'.cell? ⟨w.heap.size, 4, none⟩ = some (.slice s.actors.a s.actors.n s.actors.c) ∧ w'.cell? ⟨w.heap.size, 5, none⟩ = some (.slice s.flights.a s.flights.n s.flights.c) ∧ w'.cell? ⟨w.heap.size, 6, none⟩ = some (.slice s.alarms.a s.alarms.n s.alarms.c) ∧ w'.cell? ⟨w.heap.size, 7, none⟩ = some (.slice s.asked.a s.asked.n s.asked.c) ∧ w'.cell? ⟨w.heap.size, 8, none⟩ = some (.int .i64 s.dead)) (simp [go_sem, *])
                (first
                | (go_at_call 46; with_reducible refine (CX.out _ (Below.refl _ v2).drew).mono ?_; rintro e w6 ⟨rfl, h6⟩; have H6 : Hid (Below v2.heap.size v2 w6) := Lib.hid (Below.call (Below.refl _ v2).drew h6); have z6 := h6.size; simp at z6; obtain ⟨k1, k2, k3⟩ := keepB h6 w.heap.size (by simp; omega); obtain ⟨m1, m2, m3⟩ := keepB h6 X (by simp; omega); clear h6)
                | (go_at_call 46; with_reducible refine (CH.out _ (Below.call HB.out H6.out)).mono ?_; rintro e w7 ⟨rfl, h7⟩; have H7 : Hid (Below v2.heap.size v2 w7) := Lib.hid (Below.call H6.out h7); have z7 := h7.size; (try simp at z7); obtain ⟨k4, k5, k6⟩ := keepB h7 w.heap.size (by omega); obtain ⟨m4, m5, m6⟩ := keepB h7 X (by omega); clear h7))
              go_wp2_with fail
              go_roundw
              case rel => exact ⟨k + 1, s1, υ, by omega, by go_num, rfl, Below.call HB.out H7.out, BS.out.call H7.out, BX.out.call H7.out, R1.out.below H7.out, C1.out⟩
              case measure => simp [intOf]; omega
            · have t4 : (p.op == 4) = false := by simp [e4]
              clear e4
              go_wp2_with fail
              obtain ⟨v2, hV⟩ : ∃ v, v = wr.alloc (.cells #[.int .i64 p.op, .int .i64 p.x, .int .i64 p.y, .string p.path, .string p.l.src, .string p.l.msg, .slice p.l.args.a p.l.args.n p.l.args.c, .int .i64 p.l.sent] 58) := ⟨_, rfl⟩
              replace HB : Hid (Below w.heap.size w v2) := Lib.hid (by rw [hV]; exact HB.out.alloc (by omega) _)
              replace BS : Hid (BoxAt v2 w.heap.size (sysL s)) := Lib.hid (by rw [hV]; exact BS.out.alloc _)
              replace BX : Hid (BoxAt v2 X (sysL sx)) := Lib.hid (by rw [hV]; exact BX.out.alloc _)
              have R1 : Hid (SysR (fun b => b ≠ X) v2 sx τ) := Lib.hid (by rw [hV]; exact RX.out.below (below_al' _ _))
              have C1 := Lib.hid CO.out.stay
              rw [← hV]
              clear hV y0 y1 y2 y3 y4 y5 y6 y7 y8 x0 x1 x2 x3 x4 x5 x6 x7 RX CO CP CS CT CA hix n1 n2 hwr hxr hta htu hth htf
              have la : sx.actors.n = s.actors.n := by rw [R1.out.na, C1.out.ac, ← R0.out.na]
              have ll : sx.alarms.n = s.alarms.n := by rw [← R1.out.nal, C1.out.al, R0.out.nal]
              have hcu : IntKind.i64.wrap ((Ml.held τ : Int) + sx.dead) = Ml.cnt τ := by
                rw [show sx.dead = τ.dead from R1.out.dd, IntWalk.i64_left]
                rfl
              have hg1 : Ml.held τ ≤ 140737488355328 := by have := C1.out.le; omega
              have hg2 : τ.acts.length ≤ 140737488355328 := by rw [C1.out.ac]; omega
              have CX := Lib.hid (fun (W : World) (hW : Below v2.heap.size v2 W) => held_R sx τ W (R1.out.below hW) hg2 hg1)
              dsimp only [sysV] at CX
              rw [la, ll] at CX
              have hw2 : w.heap.size < v2.heap.size := BS.out.1
              have hx2 : X < v2.heap.size := BX.out.1
              obtain ⟨d0, d1, d2, d3, d4, d5, d6, d7, d8⟩ := sbox_cells BX.out
              rw [la] at d4
              rw [ll] at d6
              clear la ll hg1 hg2
              obtain ⟨c0, c1, c2, c3, c4, c5, c6, c7, c8⟩ := sbox_cells BS.out
              go_region_held3 (fun w' => w'.cell? ⟨X, 0, none⟩ = some (.slice sx.up.a sx.up.n sx.up.c) ∧ w'.cell? ⟨X, 1, none⟩ = some (.int .i64 sx.moment) ∧ w'.cell? ⟨X, 2, none⟩ = some (.int .i64 sx.clock) ∧ w'.cell? ⟨X, 3, none⟩ = some (.int .i64 sx.seq) ∧ w'.cell? ⟨X, 4, none⟩ = some (.slice sx.actors.a s.actors.n sx.actors.c) ∧ w'.cell? ⟨X, 5, none⟩ = some (.slice sx.flights.a sx.flights.n sx.flights.c) ∧ w'.cell? ⟨X, 6, none⟩ = some (.slice sx.alarms.a s.alarms.n sx.alarms.c) ∧ w'.cell? ⟨X, 7, none⟩ = some (.slice sx.asked.a sx.asked.n sx.asked.c) ∧ w'.cell? ⟨X, 8, none⟩ = some (.int .i64 sx.dead) ∧ w'.cell? ⟨w.heap.size, 0, none⟩ = some (.slice s.up.a s.up.n s.up.c) ∧ w'.cell? ⟨w.heap.size, 1, none⟩ = some (.int .i64 s.moment) ∧ w'.cell? ⟨w.heap.size, 2, none⟩ = some (.int .i64 s.clock) ∧ w'.cell? ⟨w.heap.size, 3, none⟩ = some (.int .i64 s.seq) ∧ w'.cell? ⟨w.heap.size, 4, none⟩ = some (.slice s.actors.a s.actors.n s.actors.c) ∧ w'.cell? ⟨w.heap.size, 5, none⟩ = some (.slice s.flights.a s.flights.n s.flights.c) ∧ w'.cell? ⟨w.heap.size, 6, none⟩ = some (.slice s.alarms.a s.alarms.n s.alarms.c) ∧ w'.cell? ⟨w.heap.size, 7, none⟩ = some (.slice s.asked.a s.asked.n s.asked.c) ∧ w'.cell? ⟨w.heap.size, 8, none⟩ = some (.int .i64 s.dead)) (simp [go_sem, *])
                (first
                | (go_at_call 46; with_reducible refine (CX.out _ (Below.refl _ v2).drew).mono ?_; rintro e w6 ⟨rfl, h6⟩; have H6 : Hid (Below v2.heap.size v2 w6) := Lib.hid (Below.call (Below.refl _ v2).drew h6); have z6 := h6.size; simp at z6; obtain ⟨k1, k2, k3⟩ := keepB h6 w.heap.size (by simp; omega); obtain ⟨m1, m2, m3⟩ := keepB h6 X (by simp; omega); clear h6)
                | (go_at_call 46; with_reducible refine (CH.out _ (Below.call HB.out H6.out)).mono ?_; rintro e w7 ⟨rfl, h7⟩; have H7 : Hid (Below v2.heap.size v2 w7) := Lib.hid (Below.call H6.out h7); have z7 := h7.size; (try simp at z7); obtain ⟨k4, k5, k6⟩ := keepB h7 w.heap.size (by omega); obtain ⟨m4, m5, m6⟩ := keepB h7 X (by omega); clear h7))
              go_wp2_with fail
              go_roundw
              case rel => exact ⟨k + 1, sx, τ, by omega, by go_num, rfl, Below.call HB.out H7.out, BS.out.call H7.out, BX.out.call H7.out, R1.out.below H7.out, C1.out⟩
              case measure => simp [intOf]; omega
    · go_wp2_with fail
      go_ret
      exact ⟨rfl, HB.out⟩
end Go.Proofs.Ytjdjfjokniingaa
