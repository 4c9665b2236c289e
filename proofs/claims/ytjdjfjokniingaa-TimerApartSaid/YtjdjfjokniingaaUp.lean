/- The walk of TimerApart. -/
import Derived.Test.YtjdjfjokniingaaUo
namespace Go.Proofs.Ytjdjfjokniingaa
open Go.RowKit

theorem Als.mid {P : Nat → Prop} {w : World} {u : Sl} {ats : List AT} (h : Als P w u ats) {k : Nat} {a : AT} (hk : ats[k]? = some a) :
    ∃ b off f, (∀ W : World, Sem.run Try.prog (Instr.indexAt 25 (.slice u.a u.n u.c) (.int .i64 (k : Int))) W = .ok (.pointer (some ⟨b, off, none⟩)) W) ∧ (∀ W, Sem.run Try.prog (Instr.sliceAt 25 (.slice u.a u.n u.c) (some (.int .i64 (k : Int))) (some (.int .i64 ((k : Int) + 1))) none) W = .ok (.slice (some ⟨b, off, none⟩) 1 (u.c - k)) W) ∧
      b < w.heap.size ∧ AlR P w f a ∧ Rd w w.heap.size 7 (some ⟨b, off, none⟩) 1 (flyL f) ∧ ∀ j x, (flyL f)[j]? = some x → w.cell? ⟨b, off + j, none⟩ = some x := by
  have hl := h.len
  have hkl := (List.getElem?_eq_some_iff.1 hk).1
  obtain ⟨ps, g1, e1⟩ := h
  obtain ⟨b, off, f, hA, hb, hf, hc⟩ := g1.rd.at_ (fun _ => rfl) (by omega) (i := k) (by omega)
  rw [List.getElem?_map] at hf
  obtain ⟨p, hp, rfl⟩ := Option.map_eq_some_iff.1 hf
  have e : p.2 = a := by
    have a1 : ats[k]? = some p.2 := by rw [← e1, List.getElem?_map, hp]; rfl
    rw [a1] at hk
    injection hk
  have hkn : k < u.n := by omega
  have hcap := g1.cap
  have h1 : (k : Int) ≤ (k : Int) + 1 := by omega
  have h2 : (k : Int) + 1 ≤ (u.c : Int) := by omega
  have h3 : ¬ u.c = k := by omega
  refine ⟨b, off + k * 7, p.1, fun W => by rw [hA]; go_simp, fun W => by rw [hA]; go_simp, hb, e ▸ g1.al p (List.mem_of_getElem? hp), ⟨by simp, fun _ => ⟨b, off + k * 7, rfl, hb, hc⟩⟩, hc⟩

set_option linter.unusedSimpArgs false in
set_option linter.unusedVariables false in
set_option maxRecDepth 100000 in
set_option maxHeartbeats 64000000 in
theorem apart5_walk (s : SysC) (ats : List AT) (pa pb : ByteArray) (w : World) (hal : Als (fun b => b < w.heap.size) w s.alarms ats) (hst : Still w s) :
    Calls Try.prog 5 #[sysV s, .string pa, .string pb] w fun e w' => e = .returned (.bool true) ∧ Below w.heap.size w w' := by
  have A0 : Hid (Als (fun _ => True) w s.alarms ats) := Lib.hid (hal.mono (fun _ _ => trivial))
  have ST := Lib.hid hst
  clear hal hst
  go_enter Try.func5, Try.ntmps5
  go_wp2_with fail
  refine (small17 _).mono ?_
  rintro e w1 ⟨rfl, hb⟩
  have BS := Lib.hid ((BoxAt.new w 28 (stL s) _ rfl).call hb)
  have HB := Lib.hid (Below.call (below_new w (.cells (stL s).toArray 28)) hb)
  clear hb
  obtain ⟨c0, c1, c2, c3, c4, c5, c6, c7, c8⟩ := st_cells BS.out
  go_wp2_with fail
  refine (few18 s ⟨none, 0, 0⟩ w1).mono ?_
  rintro e w2 ⟨y, rfl, hy, hb⟩
  replace BS := Lib.hid (BS.out.call hb)
  replace HB := Lib.hid (Below.call HB.out hb)
  clear hb c0 c1 c2 c3 c4 c5 c6 c7 c8
  obtain ⟨c0, c1, c2, c3, c4, c5, c6, c7, c8⟩ := st_cells BS.out
  cases y with
  | false =>
    clear hy
    go_wp2_with fail
    go_ret
    exact ⟨rfl, HB.out⟩
  | true =>
  have ha100 := (hy rfl).al
  clear hy
  by_cases hab : pa = pb
  · have t1 := str_yes hab
    clear hab
    go_wp2_with fail
    go_ret
    exact ⟨rfl, HB.out⟩
  have t1 := str_no hab
  clear hab
  obtain ⟨σ0, hσ0⟩ : ∃ σ : Tm.TS, σ = ⟨s.clock, s.seq, ats⟩ := ⟨_, rfl⟩
  have hla : ats.length ≤ 100 := by rw [A0.out.len]; exact ha100
  have hl0 : σ0.als.length ≤ 100 := by rw [hσ0]; exact hla
  have T0 : Hid (∀ (W : World), Below w.heap.size w W → TmR (fun _ => True) W s σ0) := Lib.hid (fun W hW => by rw [hσ0]; exact ⟨A0.out.below hW, rfl, rfl⟩)
  have hq0 : σ0.seq = s.seq := by rw [hσ0]
  have HQ := Lib.hid hq0
  clear hσ0 hla hq0
  go_wp2_with fail
  have n2 := HB.out.size
  refine (clear24 s σ0 pa w2 (T0.out w2 HB.out) (by omega)).mono ?_
  rintro e w3 ⟨u1, rfl, hu1, hb⟩
  have U1 : Hid (Als (fun _ => True) w3 u1 (Tm.clear σ0 pa).als) := Lib.hid (hu1.mono (fun _ _ => trivial))
  have BS3 := Lib.hid (BS.out.call hb)
  have HB3 := Lib.hid (Below.call HB.out hb)
  have hn1 : u1.n ≤ 100 := by rw [← U1.out.len]; have := Tm.clear_le σ0 pa; omega
  clear hb hu1 c0 c1 c2 c3 c4 c5 c6 c7 c8
  obtain ⟨c0, c1, c2, c3, c4, c5, c6, c7, c8⟩ := st_cells BS3.out
  have n3 : w.heap.size < w3.heap.size := BS3.out.1
  go_wp2_with fail
  have hw3 := HB3.out.size
  have B83 := BoxAt.new w3 28 (stL (sysT s (Tm.clear σ0 pa) u1)) _ rfl
  refine (clear24 (P := fun _ => True) (sysT s (Tm.clear σ0 pa) u1) (Tm.clear σ0 pa) pb (w3.alloc (.cells (stL (sysT s (Tm.clear σ0 pa) u1)).toArray 28)) ⟨U1.out.below (below_new w3 _), rfl, rfl⟩ (by show u1.n ≤ 1000000; omega)).mono ?_
  rintro e w4 ⟨u2, rfl, hu2, hb⟩
  have U2 : Hid (Als (fun _ => True) w4 u2 (Tm.clear (Tm.clear σ0 pa) pb).als) := Lib.hid (hu2.mono (fun _ _ => trivial))
  have U14 := Lib.hid ((U1.out.below (below_new w3 _)).below hb)
  have BS4 := Lib.hid ((BS3.out.alloc _).call hb)
  have B84 := Lib.hid (B83.call hb)
  have HB4 := Lib.hid (Below.call (HB3.out.alloc hw3 _) hb)
  have hn2 : u2.n ≤ 100 := by rw [← U2.out.len]; have := Tm.clear_le σ0 pa; have := Tm.clear_le (Tm.clear σ0 pa) pb; omega
  clear hb hu2 c0 c1 c2 c3 c4 c5 c6 c7 c8 B83
  obtain ⟨c0, c1, c2, c3, c4, c5, c6, c7, c8⟩ := st_cells BS4.out
  have n4 : w.heap.size < w4.heap.size := BS4.out.1
  go_wp2_with fail
  have hw4 := HB4.out.size
  have B94 := BoxAt.new w4 28 (stL (sysT s (Tm.clear (Tm.clear σ0 pa) pb) u2)) _ rfl
  refine (clear24 s σ0 pb (w4.alloc (.cells (stL (sysT s (Tm.clear (Tm.clear σ0 pa) pb) u2)).toArray 28)) (T0.out _ (HB4.out.alloc hw4 _)) (by omega)).mono ?_
  rintro e w5 ⟨u3, rfl, hu3, hb⟩
  have U3 : Hid (Als (fun _ => True) w5 u3 (Tm.clear σ0 pb).als) := Lib.hid (hu3.mono (fun _ _ => trivial))
  have U15 := Lib.hid ((U14.out.below (below_new w4 _)).below hb)
  have U25 := Lib.hid ((U2.out.below (below_new w4 _)).below hb)
  have BS5 := Lib.hid ((BS4.out.alloc _).call hb)
  have B85 := Lib.hid ((B84.out.alloc _).call hb)
  have B95 := Lib.hid (B94.call hb)
  have HB5 := Lib.hid (Below.call (HB4.out.alloc hw4 _) hb)
  have hn3 : u3.n ≤ 100 := by rw [← U3.out.len]; have := Tm.clear_le σ0 pb; omega
  clear hb hu3 c0 c1 c2 c3 c4 c5 c6 c7 c8 B94
  go_wp2_with fail
  refine (clear24 (P := fun _ => True) (sysT s (Tm.clear σ0 pb) u3) (Tm.clear σ0 pb) pa w5 ⟨U3.out, rfl, rfl⟩ (by show u3.n ≤ 1000000; omega)).mono ?_
  rintro e w6 ⟨u4, rfl, hu4, hb⟩
  have U4 : Hid (Als (fun _ => True) w6 u4 (Tm.clear (Tm.clear σ0 pa) pb).als) := Lib.hid (by rw [Tm.clear_clear]; exact hu4.mono (fun _ _ => trivial))
  have U16 := Lib.hid (U15.out.below hb)
  have U26 := Lib.hid (U25.out.below hb)
  have BS6 := Lib.hid (BS5.out.call hb)
  have B86 := Lib.hid (B85.out.call hb)
  have B96 := Lib.hid (B95.out.call hb)
  have HB6 := Lib.hid (Below.call HB5.out hb)
  clear hb hu4
  have n5 : w.heap.size < w6.heap.size := BS6.out.1
  have n6 : w3.heap.size < w6.heap.size := B86.out.1
  have n7 : w4.heap.size < w6.heap.size := B96.out.1
  obtain ⟨c0, c1, c2, c3, c4, c5, c6, c7, c8⟩ := st_cells B86.out
  obtain ⟨d0, d1, d2, d3, d4, d5, d6, d7, d8⟩ := st_cells B96.out
  go_wp2_with fail
  obtain ⟨v0, hv0⟩ : ∃ W, W = w6.alloc (.cells (stL (sysT s (Tm.clear (Tm.clear σ0 pb) pa) u4)).toArray 28) := ⟨_, rfl⟩
  obtain ⟨B10, hB10⟩ : ∃ B, B = w6.heap.size := ⟨_, rfl⟩
  have B0 : Hid (BoxAt v0 B10 (stL (sysT s (Tm.clear (Tm.clear σ0 pb) pa) u4))) := Lib.hid (by rw [hv0, hB10]; exact BoxAt.new w6 28 _ _ rfl)
  have hbl : Below w6.heap.size w6 v0 := by rw [hv0]; exact below_new w6 _
  have U17 := Lib.hid (U16.out.below hbl)
  have U27 := Lib.hid (U26.out.below hbl)
  have U47 := Lib.hid (U4.out.below hbl)
  have BS7 := Lib.hid (BS6.out.call hbl)
  have B87 := Lib.hid (B86.out.call hbl)
  have B97 := Lib.hid (B96.out.call hbl)
  have HB7 := Lib.hid (Below.call HB6.out hbl)
  clear hbl c0 c1 c2 c3 c4 c5 c6 c7 c8 d0 d1 d2 d3 d4 d5 d6 d7 d8
  have hl1 := Tm.clear_le σ0 pa
  have C1 : Hid (∀ (W : World), Below v0.heap.size v0 W → Calls Try.prog 26 #[sysV (sysT s (Tm.clear (Tm.clear σ0 pa) pb) u2), sysV (sysT s (Tm.clear (Tm.clear σ0 pb) pa) u4)] W fun e w' => e = .returned (.bool true) ∧ Below W.heap.size W w') := Lib.hid (fun W hW => same_still s σ0.clock σ0.seq u2 u4 (Tm.clear (Tm.clear σ0 pa) pb).als W (ST.out.below (Below.call HB7.out hW)) (U27.out.below hW) (U47.out.below hW) (by omega))
  have C2 : Hid (∀ (W : World), Below v0.heap.size v0 W → Calls Try.prog 24 #[sysV (sysT s (Tm.clear σ0 pa) u1), .string pa] W (TmPost (fun _ => True) W (sysT s (Tm.clear σ0 pa) u1) (Tm.clear (Tm.clear σ0 pa) pa))) := Lib.hid (fun W hW => clear24 (P := fun _ => True) (sysT s (Tm.clear σ0 pa) u1) (Tm.clear σ0 pa) pa W ⟨U17.out.below hW, rfl, rfl⟩ (by show u1.n ≤ 1000000; omega))
  have C3 : Hid (∀ (u5 : Sl) (W : World), Below v0.heap.size v0 W → Als (fun _ => True) W u5 (Tm.clear (Tm.clear σ0 pa) pa).als → Calls Try.prog 26 #[sysV (sysT (sysT s (Tm.clear σ0 pa) u1) (Tm.clear (Tm.clear σ0 pa) pa) u5), sysV (sysT s (Tm.clear σ0 pa) u1)] W fun e w' => e = .returned (.bool true) ∧ Below W.heap.size W w') := Lib.hid (fun u5 W hW h5 => by
    rw [Tm.clear_idem] at h5
    exact same_still s σ0.clock σ0.seq u5 u1 (Tm.clear σ0 pa).als W (ST.out.below (Below.call HB7.out hW)) h5 (U17.out.below hW) (by rw [← h5.len]; omega))
  have n8 : w3.heap.size < v0.heap.size := B87.out.1
  have n9 : w4.heap.size < v0.heap.size := B97.out.1
  have n10 : B10 < v0.heap.size := B0.out.1
  have n11 : w.heap.size < v0.heap.size := BS7.out.1
  rw [← hB10]
  obtain ⟨c0, c1, c2, c3, c4, c5, c6, c7, c8⟩ := st_cells B87.out
  obtain ⟨d0, d1, d2, d3, d4, d5, d6, d7, d8⟩ := st_cells B97.out
  obtain ⟨e0, e1, e2, e3, e4, e5, e6, e7, e8⟩ := st_cells B0.out
  show Code.wp _ _ _ _ (w6.alloc (.cells (stL (sysT s (Tm.clear (Tm.clear σ0 pb) pa) u4)).toArray 28))
  rw [← hv0]
  clear hv0 hB10
  go_region_held3 (fun w' => w'.cell? ⟨w3.heap.size, 0, none⟩ = some (.slice s.up.a s.up.n s.up.c) ∧ w'.cell? ⟨w3.heap.size, 1, none⟩ = some (.int .i64 s.moment) ∧ w'.cell? ⟨w3.heap.size, 2, none⟩ = some (.int .i64 (Tm.clear σ0 pa).clock) ∧ w'.cell? ⟨w3.heap.size, 3, none⟩ = some (.int .i64 (Tm.clear σ0 pa).seq) ∧ w'.cell? ⟨w3.heap.size, 4, none⟩ = some (.slice s.actors.a s.actors.n s.actors.c) ∧ w'.cell? ⟨w3.heap.size, 5, none⟩ = some (.slice s.flights.a s.flights.n s.flights.c) ∧ w'.cell? ⟨w3.heap.size, 6, none⟩ = some (.slice u1.a u1.n u1.c) ∧ w'.cell? ⟨w3.heap.size, 7, none⟩ = some (.slice s.asked.a s.asked.n s.asked.c) ∧ w'.cell? ⟨w3.heap.size, 8, none⟩ = some (.int .i64 s.dead) ∧ w'.cell? ⟨w4.heap.size, 0, none⟩ = some (.slice s.up.a s.up.n s.up.c) ∧ w'.cell? ⟨w4.heap.size, 1, none⟩ = some (.int .i64 s.moment) ∧ w'.cell? ⟨w4.heap.size, 2, none⟩ = some (.int .i64 (Tm.clear (Tm.clear σ0 pa) pb).clock) ∧ w'.cell? ⟨w4.heap.size, 3, none⟩ = some (.int .i64 (Tm.clear (Tm.clear σ0 pa) pb).seq) ∧ w'.cell? ⟨w4.heap.size, 4, none⟩ = some (.slice s.actors.a s.actors.n s.actors.c) ∧ w'.cell? ⟨w4.heap.size, 5, none⟩ = some (.slice s.flights.a s.flights.n s.flights.c) ∧ w'.cell? ⟨w4.heap.size, 6, none⟩ = some (.slice u2.a u2.n u2.c) ∧ w'.cell? ⟨w4.heap.size, 7, none⟩ = some (.slice s.asked.a s.asked.n s.asked.c) ∧ w'.cell? ⟨w4.heap.size, 8, none⟩ = some (.int .i64 s.dead) ∧ w'.cell? ⟨B10, 0, none⟩ = some (.slice s.up.a s.up.n s.up.c) ∧ w'.cell? ⟨B10, 1, none⟩ = some (.int .i64 s.moment) ∧ w'.cell? ⟨B10, 2, none⟩ = some (.int .i64 (Tm.clear (Tm.clear σ0 pb) pa).clock) ∧ w'.cell? ⟨B10, 3, none⟩ = some (.int .i64 (Tm.clear (Tm.clear σ0 pb) pa).seq) ∧ w'.cell? ⟨B10, 4, none⟩ = some (.slice s.actors.a s.actors.n s.actors.c) ∧ w'.cell? ⟨B10, 5, none⟩ = some (.slice s.flights.a s.flights.n s.flights.c) ∧ w'.cell? ⟨B10, 6, none⟩ = some (.slice u4.a u4.n u4.c) ∧ w'.cell? ⟨B10, 7, none⟩ = some (.slice s.asked.a s.asked.n s.asked.c) ∧ w'.cell? ⟨B10, 8, none⟩ = some (.int .i64 s.dead)) (simp [go_sem, *])
    (first
      | (go_at_call 24; (with_reducible refine (C2.out _ HV1.out).mono ?_); rintro e v2 ⟨u5, rfl, hu5, hb2⟩; have HV2 := Lib.hid (Below.call HV1.out hb2); have U5 : Hid (Als (fun _ => True) v2 u5 (Tm.clear (Tm.clear σ0 pa) pa).als) := Lib.hid (hu5.mono (fun _ _ => trivial)); obtain ⟨c0, c1, c2, c3, c4, c5, c6, c7, c8⟩ := st_cells (B87.out.call HV2.out); obtain ⟨d0, d1, d2, d3, d4, d5, d6, d7, d8⟩ := st_cells (B97.out.call HV2.out); obtain ⟨e0, e1, e2, e3, e4, e5, e6, e7, e8⟩ := st_cells (B0.out.call HV2.out))
      | (go_at_call 26; (with_reducible refine (C1.out _ (Below.refl _ _).drew).mono ?_); rintro e v1 ⟨rfl, hb1⟩; have HV1 := Lib.hid (Below.call (w := v0) (Below.refl _ _).drew hb1); obtain ⟨c0, c1, c2, c3, c4, c5, c6, c7, c8⟩ := st_cells (B87.out.call HV1.out); obtain ⟨d0, d1, d2, d3, d4, d5, d6, d7, d8⟩ := st_cells (B97.out.call HV1.out); obtain ⟨e0, e1, e2, e3, e4, e5, e6, e7, e8⟩ := st_cells (B0.out.call HV1.out))
      | (go_at_call 26; (with_reducible refine (C3.out u5 _ HV2.out U5.out).mono ?_); rintro e v3 ⟨rfl, hb3⟩; have HV3 := Lib.hid (Below.call HV2.out hb3); obtain ⟨c0, c1, c2, c3, c4, c5, c6, c7, c8⟩ := st_cells (B87.out.call HV3.out); obtain ⟨d0, d1, d2, d3, d4, d5, d6, d7, d8⟩ := st_cells (B97.out.call HV3.out); obtain ⟨e0, e1, e2, e3, e4, e5, e6, e7, e8⟩ := st_cells (B0.out.call HV3.out)))
  have BS8 := Lib.hid (BS7.out.call HV3.out)
  have B88 := Lib.hid (B87.out.call HV3.out)
  have HB8 := Lib.hid (Below.call HB7.out HV3.out)
  have U18 := Lib.hid (U17.out.below HV3.out)
  clear C1 C2 C3
  have m1 : w.heap.size < v3.heap.size := BS8.out.1
  have m2 : w3.heap.size < v3.heap.size := B88.out.1
  obtain ⟨g0, g1, g2, g3, g4, g5, g6, g7, g8⟩ := st_cells BS8.out
  go_wp2_with fail
  refine (tick21 s σ0 v3 (T0.out v3 HB8.out) (by omega)).mono ?_
  rintro e w9 ⟨xu6, d6', rfl, hu6, hd6, hb⟩
  have UT : Hid (Als (fun _ => True) w9 xu6 (Tm.tickS σ0).als) := Lib.hid (hu6.mono (fun _ _ => trivial))
  have DT : Hid (Als (fun _ => True) w9 d6' (Tm.tickD σ0)) := Lib.hid (hd6.mono (fun _ _ => trivial))
  have U19 := Lib.hid (U18.out.below hb)
  have B89 := Lib.hid (B88.out.call hb)
  have HB9 := Lib.hid (Below.call HB8.out hb)
  have m3 : w3.heap.size < w9.heap.size := B89.out.1
  clear hb hu6 hd6 g0 g1 g2 g3 g4 g5 g6 g7 g8
  obtain ⟨g0, g1, g2, g3, g4, g5, g6, g7, g8⟩ := st_cells B89.out
  go_wp2_with fail
  have hw9 := HB9.out.size
  have BT9 := BoxAt.new w9 28 (stL (sysT s (Tm.tickS σ0) xu6)) _ rfl
  refine (tick21 (P := fun _ => True) (sysT s (Tm.clear σ0 pa) u1) (Tm.clear σ0 pa) (w9.alloc (.cells (stL (sysT s (Tm.tickS σ0) xu6)).toArray 28)) ⟨U19.out.below (below_new w9 _), rfl, rfl⟩ (by show u1.n ≤ 100000; omega)).mono ?_
  rintro e w10 ⟨xu7, d7', rfl, hu7, hd7, hb⟩
  have UU : Hid (Als (fun _ => True) w10 xu7 (Tm.tickS (Tm.clear σ0 pa)).als) := Lib.hid (hu7.mono (fun _ _ => trivial))
  have DU : Hid (Als (fun _ => True) w10 d7' (Tm.tickD (Tm.clear σ0 pa))) := Lib.hid (hd7.mono (fun _ _ => trivial))
  have UT1 := Lib.hid ((UT.out.below (below_new w9 _)).below hb)
  have DT1 := Lib.hid ((DT.out.below (below_new w9 _)).below hb)
  have BT1 := Lib.hid (BT9.call hb)
  have HB1' := Lib.hid (Below.call (HB9.out.alloc hw9 _) hb)
  clear hb hu7 hd7 BT9 g0 g1 g2 g3 g4 g5 g6 g7 g8
  go_wp2_with fail
  obtain ⟨v9, hv9⟩ : ∃ W, W = w10.alloc (.cells (stL (sysT s (Tm.tickS (Tm.clear σ0 pa)) xu7)).toArray 28) := ⟨_, rfl⟩
  obtain ⟨D, hD⟩ : ∃ D, D = Tm.tickD σ0 := ⟨_, rfl⟩
  have hbl : Below w10.heap.size w10 v9 := by rw [hv9]; exact below_new w10 _
  have BU2 : Hid (BoxAt v9 w10.heap.size (stL (sysT s (Tm.tickS (Tm.clear σ0 pa)) xu7))) := Lib.hid (by rw [hv9]; exact BoxAt.new w10 28 _ _ rfl)
  have BT2 := Lib.hid (BT1.out.call hbl)
  have UT2 := Lib.hid (UT1.out.below hbl)
  have UU2 := Lib.hid (UU.out.below hbl)
  have DT2 : Hid (Als (fun _ => True) v9 d6' D) := Lib.hid (by rw [hD]; exact DT1.out.below hbl)
  have DU2 : Hid (Als (fun _ => True) v9 d7' (D.filter fun x => decide (x.src ≠ pa))) := Lib.hid (by rw [hD, ← Tm.tickD_clear]; exact DU.out.below hbl)
  have HB2 := Lib.hid (Below.call HB1'.out hbl)
  have hdl : D.length = d6'.n := DT2.out.len
  have hel : (D.filter fun x => decide (x.src ≠ pa)).length = d7'.n := DU2.out.len
  have HDL := Lib.hid hdl
  have HEL := Lib.hid hel
  have hd100 : d6'.n ≤ 100 := by rw [← hdl, hD]; have := Tm.tickD_le σ0; omega
  have hd7n : d7'.n ≤ 100 := by rw [← hel]; exact Nat.le_trans (List.length_filter_le _ _) (by omega)
  have hB13 : w10.heap.size < v9.heap.size := BU2.out.1
  have hB11 : w9.heap.size < v9.heap.size := BT2.out.1
  clear hbl hD hdl hel
  go_loopw [15, 16] (fun kv iv wr => ∃ i m : Nat, i ≤ d6'.n ∧ iv = .int .i64 i ∧ kv = .int .i64 m ∧ Hid (m = ((D.take i).filter fun x => decide (x.src ≠ pa)).length) ∧ m ≤ i ∧ Below v9.heap.size v9 wr) (fun _ iv _ => d6'.n - (intOf iv).toNat)
  case atStart => exact ⟨0, 0, Nat.zero_le _, rfl, rfl, Lib.hid rfl, Nat.le_refl _, by rw [hv9]; exact Below.refl _ _⟩
  case round =>
    clear hv9
    obtain ⟨i, m, hi, rfl, rfl, HM, hmi, hB⟩ := hrel
    have hsz := hB.size
    by_cases hlt : i < d6'.n
    · obtain ⟨a, ha⟩ : ∃ a, D[i]? = some a := ⟨_, List.getElem?_eq_getElem (by have := HDL.out; omega)⟩
      obtain ⟨b, off, f, hix, hsl, hbw, har, hrd, hcl⟩ := (DT2.out.below hB).mid ha
      have x3 : wr.cell? ⟨b, off + 3, none⟩ = some (.string a.src) := (hcl 3 _ rfl).trans (by rw [har.src])
      have HA := Lib.hid ha
      have HT := Lib.hid (take_one ha)
      by_cases hs : a.src = pa
      · have t3 := str_yes hs
        have HN : Hid (m = ((D.take (i + 1)).filter fun x => decide (x.src ≠ pa)).length) := Lib.hid (by rw [HT.out, List.filter_append, List.length_append, ← HM.out]; simp [hs])
        clear hs ha hsl hrd hcl har
        go_wp2_with fail
        go_roundw
        case rel => exact ⟨i + 1, m, by omega, by go_num, rfl, HN, by omega, hB⟩
        case measure => simp [intOf]; omega
      · have t3 := str_no hs
        have HN : Hid (m + 1 = ((D.take (i + 1)).filter fun x => decide (x.src ≠ pa)).length) := Lib.hid (by rw [HT.out, List.filter_append, List.length_append, ← HM.out]; simp [hs])
        have hk : (D.filter fun x => decide (x.src ≠ pa))[m]? = some a := by rw [HM.out]; exact nth_filter _ D i a ha (by simp [hs])
        have hmd : m < d7'.n := by rw [← HEL.out]; exact (List.getElem?_eq_some_iff.1 hk).1
        have hmd' : ¬ d7'.n ≤ m := by omega
        obtain ⟨b2, off2, f2, -, hsl2, hbw2, har2, hrd2, -⟩ := (DU2.out.below hB).mid hk
        have CA : Hid (∀ (W : World), Below wr.heap.size wr W → Calls Try.prog 23 #[.slice (some ⟨b, off, none⟩) 1 (d6'.c - i), .slice (some ⟨b2, off2, none⟩) 1 (d7'.c - m)] W fun e w' => e = .returned (.bool true) ∧ Below W.heap.size W w') := Lib.hid (fun W hW => alarms23_raw _ _ 1 _ _ [f] [f2] W (by simpa using hrd.up hW) (by simpa using hrd2.up hW) (by omega) (fun k x y hx hy => by
          cases k with
          | zero =>
            simp at hx hy
            subst hx hy
            exact (har.below hW).same (har2.below hW)
          | succ k => simp at hx))
        have e1 : IntKind.i64.wrap ((i : Int) + 1) = (i : Int) + 1 := by rw [IntWalk.i64_left, IntWalk.wrap64_in _ (by omega)]
        have e2 : IntKind.i64.wrap ((m : Int) + 1) = (m : Int) + 1 := by rw [IntWalk.i64_left, IntWalk.wrap64_in _ (by omega)]
        have HB3 := Lib.hid hB
        clear hs ha hrd hcl har hk hrd2 har2 hB
        go_wp2_with fail
        go_region_held3 (fun _ => True) (trivial)
          (first | (go_at_call 23; refine (CA.out _ (Below.refl _ _).drew).mono ?_; rintro e v10 ⟨rfl, h1⟩; have HV := Lib.hid (Below.call (w := v9) HB3.out.drew h1)))
        go_wp2_with fail
        go_roundw
        case rel => exact ⟨i + 1, m + 1, by omega, by go_num, by go_num, HN, by omega, HV.out⟩
        case measure => simp [intOf]; omega
    · have hmn : m = d7'.n := by rw [HM.out, List.take_of_length_le (by have := HDL.out; omega)]; exact HEL.out
      clear hmi HM
      subst hmn
      have BT3 := Lib.hid (BT2.out.call hB)
      have BU3 := Lib.hid (BU2.out.call hB)
      have UT3 := Lib.hid (UT2.out.below hB)
      have UU3 := Lib.hid (UU2.out.below hB)
      have HB3 := Lib.hid (Below.call HB2.out hB)
      have hun6 : xu6.n ≤ 100 := by rw [← UT3.out.len]; have := Tm.tick_le σ0; omega
      have C1 : Hid (∀ (W : World), Below wr.heap.size wr W → Calls Try.prog 24 #[sysV (sysT s (Tm.tickS σ0) xu6), .string pa] W (TmPost (fun _ => True) W (sysT s (Tm.tickS σ0) xu6) (Tm.clear (Tm.tickS σ0) pa))) := Lib.hid (fun W hW => clear24 (P := fun _ => True) (sysT s (Tm.tickS σ0) xu6) (Tm.tickS σ0) pa W ⟨UT3.out.below hW, rfl, rfl⟩ (by show xu6.n ≤ 1000000; omega))
      have C2 : Hid (∀ (xu9 : Sl) (W : World), Below wr.heap.size wr W → Als (fun _ => True) W xu9 (Tm.clear (Tm.tickS σ0) pa).als → Calls Try.prog 26 #[sysV (sysT (sysT s (Tm.tickS σ0) xu6) (Tm.clear (Tm.tickS σ0) pa) xu9), sysV (sysT s (Tm.tickS (Tm.clear σ0 pa)) xu7)] W fun e w' => e = .returned (.bool true) ∧ Below W.heap.size W w') := Lib.hid (fun xu9 W hW h9 => by
        have h7 := UU3.out.below hW
        rw [Tm.tickS_clear] at h7 ⊢
        exact same_still s (Tm.clear (Tm.tickS σ0) pa).clock (Tm.clear (Tm.tickS σ0) pa).seq xu9 xu7 _ W (ST.out.below (Below.call HB3.out hW)) h9 h7 (by rw [← h9.len]; have := Tm.clear_le (Tm.tickS σ0) pa; have := Tm.tick_le σ0; omega))
      have k1 : w9.heap.size < wr.heap.size := BT3.out.1
      have k2 : w10.heap.size < wr.heap.size := BU3.out.1
      obtain ⟨g0, g1, g2, g3, g4, g5, g6, g7, g8⟩ := st_cells BT3.out
      obtain ⟨j0, j1, j2, j3, j4, j5, j6, j7, j8⟩ := st_cells BU3.out
      go_wp2_with fail
      go_region_held3 (fun w' => w'.cell? ⟨w9.heap.size, 0, none⟩ = some (.slice s.up.a s.up.n s.up.c) ∧ w'.cell? ⟨w9.heap.size, 1, none⟩ = some (.int .i64 s.moment) ∧ w'.cell? ⟨w9.heap.size, 2, none⟩ = some (.int .i64 (Tm.tickS σ0).clock) ∧ w'.cell? ⟨w9.heap.size, 3, none⟩ = some (.int .i64 (Tm.tickS σ0).seq) ∧ w'.cell? ⟨w9.heap.size, 4, none⟩ = some (.slice s.actors.a s.actors.n s.actors.c) ∧ w'.cell? ⟨w9.heap.size, 5, none⟩ = some (.slice s.flights.a s.flights.n s.flights.c) ∧ w'.cell? ⟨w9.heap.size, 6, none⟩ = some (.slice xu6.a xu6.n xu6.c) ∧ w'.cell? ⟨w9.heap.size, 7, none⟩ = some (.slice s.asked.a s.asked.n s.asked.c) ∧ w'.cell? ⟨w9.heap.size, 8, none⟩ = some (.int .i64 s.dead) ∧ w'.cell? ⟨w10.heap.size, 0, none⟩ = some (.slice s.up.a s.up.n s.up.c) ∧ w'.cell? ⟨w10.heap.size, 1, none⟩ = some (.int .i64 s.moment) ∧ w'.cell? ⟨w10.heap.size, 2, none⟩ = some (.int .i64 (Tm.tickS (Tm.clear σ0 pa)).clock) ∧ w'.cell? ⟨w10.heap.size, 3, none⟩ = some (.int .i64 (Tm.tickS (Tm.clear σ0 pa)).seq) ∧ w'.cell? ⟨w10.heap.size, 4, none⟩ = some (.slice s.actors.a s.actors.n s.actors.c) ∧ w'.cell? ⟨w10.heap.size, 5, none⟩ = some (.slice s.flights.a s.flights.n s.flights.c) ∧ w'.cell? ⟨w10.heap.size, 6, none⟩ = some (.slice xu7.a xu7.n xu7.c) ∧ w'.cell? ⟨w10.heap.size, 7, none⟩ = some (.slice s.asked.a s.asked.n s.asked.c) ∧ w'.cell? ⟨w10.heap.size, 8, none⟩ = some (.int .i64 s.dead)) (simp [go_sem, *])
        (first
          | (go_at_call 24; (with_reducible refine (C1.out _ (Below.refl _ _).drew).mono ?_); rintro e v10 ⟨xu9, rfl, hu9, hb1⟩; have HV := Lib.hid (Below.call (w := wr) (Below.refl _ _).drew hb1); have U9 : Hid (Als (fun _ => True) v10 xu9 (Tm.clear (Tm.tickS σ0) pa).als) := Lib.hid (hu9.mono (fun _ _ => trivial)); obtain ⟨g0, g1, g2, g3, g4, g5, g6, g7, g8⟩ := st_cells (BT3.out.call HV.out); obtain ⟨j0, j1, j2, j3, j4, j5, j6, j7, j8⟩ := st_cells (BU3.out.call HV.out))
          | (go_at_call 26; (with_reducible refine (C2.out xu9 _ HV.out U9.out).mono ?_); rintro e v11 ⟨rfl, hb2⟩; have HW := Lib.hid (Below.call HV.out hb2); obtain ⟨g0, g1, g2, g3, g4, g5, g6, g7, g8⟩ := st_cells (BT3.out.call HW.out); obtain ⟨j0, j1, j2, j3, j4, j5, j6, j7, j8⟩ := st_cells (BU3.out.call HW.out)))
      go_wp2_with fail
      go_ret
      exact ⟨rfl, Below.call HB3.out HW.out⟩
end Go.Proofs.Ytjdjfjokniingaa
