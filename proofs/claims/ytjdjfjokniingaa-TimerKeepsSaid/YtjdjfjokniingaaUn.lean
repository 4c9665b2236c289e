/- The walk of TimerKeeps. -/
import Derived.Test.YtjdjfjokniingaaUl
namespace Go.Proofs.Ytjdjfjokniingaa
open Go.RowKit Go.ChangeShapes Go.WideShapes Go.Deep

section
variable {H : Type} {enc : TypeId × Value → H} {w : World} {base : Nat} {spare : Nat → Bool} {held : Bool}
set_option maxRecDepth 100000 in
/-- an operation of the timer's statements, opened -/
theorem open_act {v : Value} {d : DataW H} {p : List MemPlace} {r : Reach} {b0 : Nat} (hz : ∀ y ∈ d.weights Try.prog 36, y ≤ N0) (hv : Value.okWide Try.prog w r b0 36 v) (h : DataW.Trod enc Try.prog w base spare held 36 v d p) :
    ∃ f : FlyC, v = flyV f ∧ FlyZ w f := by
  obtain ⟨cs, rfl, hsz⟩ := okWide_struct Try.underlying36 hv
  obtain ⟨l⟩ := cs
  obtain ⟨fuel, hf0⟩ := h
  obtain ⟨f, hf, e⟩ := act_z fuel l (d, p) hf0 hz
  subst e
  exact ⟨f, rfl, hf⟩
end
namespace Tm
theorem tick_seq (σ : TS) : (tickS σ).seq = σ.seq := by
  unfold tickS
  split <;> rfl
end Tm
/-- what the loop of TimerKeeps keeps -/
structure KpRel (w : World) (s : SysC) (T : List SysC) (B : Nat) (bs : List (Nat × List Value)) (wr : World) : Prop where
  b : Below w.heap.size w wr
  x : BoxAt wr w.heap.size (stL s)
  row : Rd wr wr.heap.size 9 (some ⟨B, 0, none⟩) 3 (T.flatMap stL)
  bx : ∀ p ∈ bs, BoxAt wr p.1 p.2
theorem KpRel.below {w : World} {s : SysC} {T : List SysC} {B : Nat} {bs : List (Nat × List Value)} {wr W : World} (h : KpRel w s T B bs wr) (hb : Below wr.heap.size wr W) : KpRel w s T B bs W :=
  ⟨Below.call h.b hb, h.x.call hb, h.row.up hb, fun p hp => (h.bx p hp).call hb⟩
set_option linter.unusedSimpArgs false in
set_option linter.unusedVariables false in
set_option maxRecDepth 100000 in
set_option maxHeartbeats 64000000 in
theorem keeps6_walk (s : SysC) (ats : List AT) (f : FlyC) (w : World) (hal : Als (fun b => b < w.heap.size) w s.alarms ats) (hst : Still w s) (hf : FlyZ w f) :
    Calls Try.prog 6 #[sysV s, flyV f] w fun e w' => e = .returned (.bool true) ∧ Below w.heap.size w w' := by
  obtain ⟨ts, hlv⟩ := hf.2
  have A0 := Lib.hid hal
  have ST := Lib.hid hst
  have HL := Lib.hid hlv
  clear hal hst hf hlv
  obtain ⟨i6, hi6, hz60, hz61, hz62⟩ := info_parts info47
  go_enter Try.func6, Try.ntmps6
  go_wp2_with fail
  refine (small17 _).mono ?_
  rintro e w1 ⟨rfl, hb⟩
  have BS := Lib.hid (((BoxAt.new w 28 (stL s) _ rfl).alloc (.cells (flyL f).toArray 36)).call hb)
  have BF := Lib.hid ((BoxAt.new (w.alloc (.cells (stL s).toArray 28)) 36 (flyL f) (w.heap.size + 1) (by simp)).call hb)
  have HB := Lib.hid (Below.call ((below_new w (.cells (stL s).toArray 28)).alloc (by simp) (.cells (flyL f).toArray 36)) hb)
  clear hb
  obtain ⟨c0, c1, c2, c3, c4, c5, c6, c7, c8⟩ := st_cells BS.out
  go_wp2_with fail
  refine (few18 s ⟨none, 0, 0⟩ w1).mono ?_
  rintro e w2 ⟨y, rfl, hy, hb⟩
  replace BS := Lib.hid (BS.out.call hb)
  replace BF := Lib.hid (BF.out.call hb)
  replace HB := Lib.hid (Below.call HB.out hb)
  clear hb c0 c1 c2 c3 c4 c5 c6 c7 c8
  obtain ⟨c0, c1, c2, c3, c4, c5, c6, c7, c8⟩ := st_cells BS.out
  obtain ⟨z0, z1, z2, z3, z4, z5, z6⟩ := fbox_cells BF.out
  cases y with
  | false =>
    clear hy
    go_wp2_with fail
    go_ret
    exact ⟨rfl, HB.out⟩
  | true =>
  have ha100 := (hy rfl).al
  clear hy
  have n1 : w.heap.size < w2.heap.size := BS.out.1
  have n2 : w.heap.size + 1 < w2.heap.size := BF.out.1
  obtain ⟨ps, hps, hsn⟩ := A0.out
  have RD0 := Lib.hid hps.rd
  have HPS := Lib.hid hps
  have HSN := Lib.hid hsn
  clear hps hsn
  go_wp2_with (at_builtin; refine wpList_append_lit w2 47 rfl (.tmp 19) (.tmp 21) 25 rfl i6 _ 7 96 Try.underlying25 hi6 hz60 hz61 hz62 rfl (by decide) _ rfl (by simp) _ _ _ _ ((ps.map (·.1)).flatMap flyL) rfl (RD0.out.up HB.out) (Nat.le_refl _) (fly_one _) (by omega) (by omega) ?_; intro u3 w3 hr3 ho3 hb; have AW : Hid (Als (fun _ => True) w3 ⟨u3.a, s.alarms.n, u3.c⟩ ats) := Lib.hid ⟨ps, ⟨hr3, fun p hp => ((HPS.out.al p hp).below (Below.call HB.out hb)).mono (fun _ _ => trivial), fun _ _ _ => trivial, own_cap ho3⟩, HSN.out⟩; have BS3 := Lib.hid (BS.out.call hb); have BF3 := Lib.hid (BF.out.call hb); have HB3 := Lib.hid (Below.call HB.out hb); clear hb hr3 ho3 c0 c1 c2 c3 c4 c5 c6 c7 c8 z0 z1 z2 z3 z4 z5 z6; obtain ⟨c0, c1, c2, c3, c4, c5, c6, c7, c8⟩ := st_cells BS3.out; obtain ⟨z0, z1, z2, z3, z4, z5, z6⟩ := fbox_cells BF3.out)
  have hw3 := HB3.out.size
  refine (set19 (P := fun b => b < w.heap.size) s ⟨s.clock, s.seq, ats⟩ f.y f.path f.l ts w3 ⟨A0.out.below HB3.out, rfl, rfl⟩ (HL.out.below HB3.out) (by omega)).mono ?_
  rintro e w4 ⟨ua, rfl, _, hb⟩
  have BS4 := Lib.hid (BS3.out.call hb)
  have BF4 := Lib.hid (BF3.out.call hb)
  have HB4 := Lib.hid (Below.call HB3.out hb)
  have AW4 := Lib.hid (AW.out.below hb)
  clear c0 c1 c2 c3 c4 c5 c6 c7 c8 z0 z1 z2 z3 z4 z5 z6
  clear hb
  obtain ⟨c0, c1, c2, c3, c4, c5, c6, c7, c8⟩ := st_cells BS4.out
  obtain ⟨z0, z1, z2, z3, z4, z5, z6⟩ := fbox_cells BF4.out
  have n4 : w.heap.size < w4.heap.size := BS4.out.1
  have q4 : w.heap.size + 1 < w4.heap.size := BF4.out.1
  go_wp2_with fail
  have hw4 := HB4.out.size
  have BA4 := BoxAt.new w4 28 (stL (sysT s (Tm.set ⟨s.clock, s.seq, ats⟩ f.y f.path f.l.src f.l.msg ts f.l.sent) ua)) _ rfl
  refine (tick21 (P := fun b => b < w.heap.size) s ⟨s.clock, s.seq, ats⟩ (w4.alloc (.cells (stL (sysT s (Tm.set ⟨s.clock, s.seq, ats⟩ f.y f.path f.l.src f.l.msg ts f.l.sent) ua)).toArray 28)) ⟨A0.out.below (HB4.out.alloc hw4 _), rfl, rfl⟩ (by omega)).mono ?_
  rintro e w5 ⟨ub, vd, rfl, _, _, hb⟩
  have BS5 := Lib.hid ((BS4.out.alloc _).call hb)
  have BF5 := Lib.hid ((BF4.out.alloc _).call hb)
  have BA5 := Lib.hid (BA4.call hb)
  have HB5 := Lib.hid (Below.call (HB4.out.alloc hw4 _) hb)
  have AW5 := Lib.hid ((AW4.out.below (below_new w4 _)).below hb)
  have m5 := hb.size
  simp at m5
  clear c0 c1 c2 c3 c4 c5 c6 c7 c8 z0 z1 z2 z3 z4 z5 z6
  clear hb BA4
  obtain ⟨c0, c1, c2, c3, c4, c5, c6, c7, c8⟩ := st_cells BS5.out
  obtain ⟨z0, z1, z2, z3, z4, z5, z6⟩ := fbox_cells BF5.out
  have n5 : w.heap.size < w5.heap.size := BS5.out.1
  have q5 : w.heap.size + 1 < w5.heap.size := BF5.out.1
  go_wp2_with fail
  have hw5 := HB5.out.size
  have BB5 := BoxAt.new w5 28 (stL (sysT s (Tm.tickS ⟨s.clock, s.seq, ats⟩) ub)) _ rfl
  refine (clear24 (P := fun b => b < w.heap.size) s ⟨s.clock, s.seq, ats⟩ f.path (w5.alloc (.cells (stL (sysT s (Tm.tickS ⟨s.clock, s.seq, ats⟩) ub)).toArray 28)) ⟨A0.out.below (HB5.out.alloc hw5 _), rfl, rfl⟩ (by omega)).mono ?_
  rintro e w6 ⟨uc, rfl, _, hb⟩
  have BS6 := Lib.hid ((BS5.out.alloc _).call hb)
  have BA6 := Lib.hid ((BA5.out.alloc _).call hb)
  have BB6 := Lib.hid (BB5.call hb)
  have HB6 := Lib.hid (Below.call (HB5.out.alloc hw5 _) hb)
  have AW6 := Lib.hid ((AW5.out.below (below_new w5 _)).below hb)
  have m6 := hb.size
  simp at m6
  clear c0 c1 c2 c3 c4 c5 c6 c7 c8 z0 z1 z2 z3 z4 z5 z6
  clear hb BB5
  obtain ⟨c0, c1, c2, c3, c4, c5, c6, c7, c8⟩ := st_cells BS6.out
  have n6 : w.heap.size < w6.heap.size := BS6.out.1
  go_wp2_with fail
  have hw6 := HB6.out.size
  have BC6 := BoxAt.new w6 28 (stL (sysT s (Tm.clear ⟨s.clock, s.seq, ats⟩ f.path) uc)) _ rfl
  refine (alarms23 ⟨u3.a, s.alarms.n, u3.c⟩ s.alarms ats (w6.alloc (.cells (stL (sysT s (Tm.clear ⟨s.clock, s.seq, ats⟩ f.path) uc)).toArray 28)) (AW6.out.below (below_new w6 _)) (A0.out.below (HB6.out.alloc hw6 _)) (by show s.alarms.n ≤ _; omega)).mono ?_
  rintro e w7 ⟨rfl, hb⟩
  have BS7 := Lib.hid ((BS6.out.alloc _).call hb)
  have BA7 := Lib.hid ((BA6.out.alloc _).call hb)
  have BB7 := Lib.hid ((BB6.out.alloc _).call hb)
  have BC7 := Lib.hid (BC6.call hb)
  have HB7 := Lib.hid (Below.call (HB6.out.alloc hw6 _) hb)
  have m7 := hb.size
  simp at m7
  clear hb BC6 c0 c1 c2 c3 c4 c5 c6 c7 c8
  obtain ⟨r0, r1, r2, r3, r4, r5, r6, r7, r8⟩ := st_cells BA7.out
  obtain ⟨s0, s1, s2, s3, s4, s5, s6, s7, s8⟩ := st_cells BB7.out
  obtain ⟨t0, t1, t2, t3, t4, t5, t6, t7, t8⟩ := st_cells BC7.out
  go_wp2_with fail
  have hw7 := HB7.out.size
  have hall : ∀ t ∈ [sysT s (Tm.set ⟨s.clock, s.seq, ats⟩ f.y f.path f.l.src f.l.msg ts f.l.sent) ua, sysT s (Tm.tickS ⟨s.clock, s.seq, ats⟩) ub, sysT s (Tm.clear ⟨s.clock, s.seq, ats⟩ f.path) uc], ∃ (c q : Int) (u : Sl), t = { s with clock := c, seq := q, alarms := u } := fun t ht => by
    rcases List.mem_cons.1 ht with rfl | ht
    · exact ⟨_, _, _, rfl⟩
    rcases List.mem_cons.1 ht with rfl | ht
    · exact ⟨_, _, _, rfl⟩
    rw [List.mem_singleton] at ht
    subst ht
    exact ⟨_, _, _, rfl⟩
  obtain ⟨T3, hT3⟩ : ∃ T, T = [sysT s (Tm.set ⟨s.clock, s.seq, ats⟩ f.y f.path f.l.src f.l.msg ts f.l.sent) ua, sysT s (Tm.tickS ⟨s.clock, s.seq, ats⟩) ub, sysT s (Tm.clear ⟨s.clock, s.seq, ats⟩ f.path) uc] := ⟨_, rfl⟩
  rw [← hT3] at hall
  have KR : KpRel w s T3 w7.heap.size [(w4.heap.size, stL (sysT s (Tm.set ⟨s.clock, s.seq, ats⟩ f.y f.path f.l.src f.l.msg ts f.l.sent) ua)), (w5.heap.size, stL (sysT s (Tm.tickS ⟨s.clock, s.seq, ats⟩) ub)), (w6.heap.size, stL (sysT s (Tm.clear ⟨s.clock, s.seq, ats⟩ f.path) uc))] (w7.alloc (.cells (T3.flatMap stL).toArray 28)) :=
    ⟨HB7.out.alloc hw7 _, BS7.out.alloc _, by
      have h := BoxAt.new w7 28 (T3.flatMap stL) _ rfl
      refine ⟨by rw [hT3]; rfl, fun _ => ⟨w7.heap.size, 0, rfl, h.1, fun j u hu => ?_⟩⟩
      rw [Nat.zero_add]
      exact h.2.1 j u hu, fun p hp => by
      rcases List.mem_cons.1 hp with rfl | hp
      · exact BA7.out.alloc _
      rcases List.mem_cons.1 hp with rfl | hp
      · exact BB7.out.alloc _
      rw [List.mem_singleton] at hp
      subst hp
      exact BC7.out.alloc _⟩
  rw [hT3] at KR
  have KR0 := Lib.hid KR
  have HT3 := Lib.hid hT3
  have HALL := Lib.hid hall
  clear KR hT3 hall r0 r1 r2 r3 r4 r5 r6 r7 r8 s0 s1 s2 s3 s4 s5 s6 s7 s8 t0 t1 t2 t3 t4 t5 t6 t7 t8
  go_loopw [12] (fun i wr => ∃ k : Nat, k ≤ 3 ∧ i = .int .i64 k ∧ KpRel w s [sysT s (Tm.set ⟨s.clock, s.seq, ats⟩ f.y f.path f.l.src f.l.msg ts f.l.sent) ua, sysT s (Tm.tickS ⟨s.clock, s.seq, ats⟩) ub, sysT s (Tm.clear ⟨s.clock, s.seq, ats⟩ f.path) uc] w7.heap.size [(w4.heap.size, stL (sysT s (Tm.set ⟨s.clock, s.seq, ats⟩ f.y f.path f.l.src f.l.msg ts f.l.sent) ua)), (w5.heap.size, stL (sysT s (Tm.tickS ⟨s.clock, s.seq, ats⟩) ub)), (w6.heap.size, stL (sysT s (Tm.clear ⟨s.clock, s.seq, ats⟩ f.path) uc))] wr) (fun i _ => 3 - (intOf i).toNat)
  case atStart => exact ⟨0, Nat.zero_le _, rfl, KR0.out⟩
  case round =>
    clear KR0
    obtain ⟨k, hk, rfl, hK⟩ := hrel
    have K := Lib.hid hK
    clear hK
    have BX := K.out.x
    obtain ⟨c0, c1, c2, c3, c4, c5, c6, c7, c8⟩ := st_cells BX
    have n9 : w.heap.size < wr.heap.size := BX.1
    clear BX
    by_cases hlt : k < 3
    · obtain ⟨b, off, t, hA, hb, ht, hc⟩ := K.out.row.at_ (fun _ => rfl) (by omega) hlt
      simp only [Option.some.injEq, Addr.mk.injEq, and_true] at hA
      obtain ⟨rfl, rfl⟩ := hA
      rw [← HT3.out] at ht
      obtain ⟨tc, tq, tu, rfl⟩ := HALL.out t (List.mem_of_getElem? ht)
      have x0 : wr.cell? ⟨w7.heap.size, k * 9, none⟩ = some (.slice s.up.a s.up.n s.up.c) := by have := hc 0 _ rfl; rw [Nat.zero_add] at this; exact this
      have x1 : wr.cell? ⟨w7.heap.size, k * 9 + 1, none⟩ = some (.int .i64 s.moment) := by have := hc 1 _ rfl; rw [Nat.zero_add] at this; exact this
      have x2 : wr.cell? ⟨w7.heap.size, k * 9 + 2, none⟩ = some (.int .i64 tc) := by have := hc 2 _ rfl; rw [Nat.zero_add] at this; exact this
      have x3 : wr.cell? ⟨w7.heap.size, k * 9 + 3, none⟩ = some (.int .i64 tq) := by have := hc 3 _ rfl; rw [Nat.zero_add] at this; exact this
      have x4 : wr.cell? ⟨w7.heap.size, k * 9 + 4, none⟩ = some (.slice s.actors.a s.actors.n s.actors.c) := by have := hc 4 _ rfl; rw [Nat.zero_add] at this; exact this
      have x5 : wr.cell? ⟨w7.heap.size, k * 9 + 5, none⟩ = some (.slice s.flights.a s.flights.n s.flights.c) := by have := hc 5 _ rfl; rw [Nat.zero_add] at this; exact this
      have x6 : wr.cell? ⟨w7.heap.size, k * 9 + 6, none⟩ = some (.slice tu.a tu.n tu.c) := by have := hc 6 _ rfl; rw [Nat.zero_add] at this; exact this
      have x7 : wr.cell? ⟨w7.heap.size, k * 9 + 7, none⟩ = some (.slice s.asked.a s.asked.n s.asked.c) := by have := hc 7 _ rfl; rw [Nat.zero_add] at this; exact this
      have x8 : wr.cell? ⟨w7.heap.size, k * 9 + 8, none⟩ = some (.int .i64 s.dead) := by have := hc 8 _ rfl; rw [Nat.zero_add] at this; exact this
      clear hc ht
      go_wp2_with fail
      refine (same_still s s.clock s.seq s.alarms s.alarms ats (wr.alloc (.cells (stL s).toArray 28)) (ST.out.below (K.out.b.alloc K.out.b.size _)) (A0.out.below (K.out.b.alloc K.out.b.size _)) (A0.out.below (K.out.b.alloc K.out.b.size _)) (by omega)).mono ?_
      rintro e w9 ⟨rfl, hb9⟩
      have K9 := Lib.hid ((K.out.below (below_new wr _)).below hb9)
      clear hb9
      go_wp2_with fail
      go_roundw
      case rel => exact ⟨k + 1, by omega, by go_num, K9.out⟩
      case measure => simp [intOf]; omega
    · have B1 := K.out.bx (w4.heap.size, stL (sysT s (Tm.set ⟨s.clock, s.seq, ats⟩ f.y f.path f.l.src f.l.msg ts f.l.sent) ua)) (by simp)
      have B2 := K.out.bx (w5.heap.size, stL (sysT s (Tm.tickS ⟨s.clock, s.seq, ats⟩) ub)) (by simp)
      have B3 := K.out.bx (w6.heap.size, stL (sysT s (Tm.clear ⟨s.clock, s.seq, ats⟩ f.path) uc)) (by simp)
      have y1 : wr.cell? ⟨w4.heap.size, 2, none⟩ = some (.int .i64 s.clock) := B1.2.1 2 _ rfl
      have y2 : wr.cell? ⟨w4.heap.size, 3, none⟩ = some (.int .i64 (wrap64 (s.seq + 1))) := B1.2.1 3 _ rfl
      have y3 : wr.cell? ⟨w5.heap.size, 3, none⟩ = some (.int .i64 s.seq) := (B2.2.1 3 _ rfl).trans (by show some (Value.int .i64 (Tm.tickS ⟨s.clock, s.seq, ats⟩).seq) = _; rw [Tm.tick_seq])
      have y4 : wr.cell? ⟨w6.heap.size, 2, none⟩ = some (.int .i64 s.clock) := B3.2.1 2 _ rfl
      have y5 : wr.cell? ⟨w6.heap.size, 3, none⟩ = some (.int .i64 s.seq) := B3.2.1 3 _ rfl
      clear B1 B2 B3
      go_wp2_with fail
      go_ret
      exact ⟨rfl, K.out.b⟩
end Go.Proofs.Ytjdjfjokniingaa
