/- The walk of MailCrash. -/
import Derived.Test.YtjdjfjokniingaaRf
namespace Go.Proofs.Ytjdjfjokniingaa
open Go.RowKit

theorem below_al' (w : World) (o : Obj) : Below w.heap.size w (w.alloc o) := (Below.refl _ w).alloc (Nat.le_refl _) _

theorem live_zap {P : Nat → Prop} {w : World} {u u2 : LiveC × List LetC} {node : Int} (hm2 : MailAt P w u2.1 u2.2) (hpz : Ml.zap node (plOf u) = plOf u2) (hn : u.1.node = node) (hpd : PLD w (plOf u2)) (hpl : (plOf u2).mail.length ≤ 9223372036854775807) : LiveSame w u2.1 { u.1 with mail := ⟨none, 0, 0⟩ } :=
  live_same (Q := fun _ => True) (q' := ({ u.1 with mail := ⟨none, 0, 0⟩ }, [])) hm2 ⟨Rd.none_, Nat.le_refl _, fun _ _ _ => trivial⟩ (by rw [← hpz]; unfold Ml.zap; rw [if_pos (show (plOf u).node = node from hn)]; rfl) hpd hpl
theorem live_keep {P Q : Nat → Prop} {w : World} {u u2 : LiveC × List LetC} {node : Int} (hm : MailAt Q w u.1 u.2) (hm2 : MailAt P w u2.1 u2.2) (hpz : Ml.zap node (plOf u) = plOf u2) (hn : ¬ u.1.node = node) (hpd : PLD w (plOf u2)) (hpl : (plOf u2).mail.length ≤ 9223372036854775807) : LiveSame w u2.1 u.1 :=
  live_same hm2 hm (by rw [← hpz]; unfold Ml.zap; rw [if_neg (show ¬ (plOf u).node = node from hn)]) hpd hpl

set_option linter.unusedSimpArgs false in
set_option linter.unusedVariables false in
set_option maxRecDepth 100000 in
set_option maxHeartbeats 64000000 in
theorem crash_walk (s : SysC) (σ : PS) (node : Int) (w : World) (hr : SysR (fun b => b < w.heap.size) w s σ) (hd : PSD w σ) (hz : PSZ 140737488355328 σ) :
    Calls Try.prog 12 #[sysV s, .int .i64 node] w fun e w' => e = .returned (.bool true) ∧ Below w.heap.size w w' := by
  have R0 : Hid (SysR (fun _ => True) w s σ) := Lib.hid (hr.mono (fun _ _ => trivial))
  have Z0 := Lib.hid hz
  have D0 := Lib.hid hd
  clear hr hz hd
  go_enter Try.func12, Try.ntmps12
  go_wp2_with fail
  refine (small27 _).mono ?_
  rintro e w1 ⟨rfl, hb⟩
  have HB : Hid (Below w.heap.size w w1) := Lib.hid (Below.call (below_al' w _) hb)
  have BS : Hid (BoxAt w1 w.heap.size (sysL s)) := Lib.hid ((BoxAt.new w 28 (sysL s) _ rfl).call hb)
  clear hb
  obtain ⟨c0, c1, c2, c3, c4, c5, c6, c7, c8⟩ := sbox_cells BS.out
  go_wp2_with fail
  refine (few_R s σ w1 (R0.out.below HB.out) Z0.out).mono ?_
  rintro e w2 ⟨x, rfl, hx, hb⟩
  replace HB := Lib.hid (Below.call HB.out hb)
  replace BS := Lib.hid (BS.out.call hb)
  clear hb c0 c1 c2 c3 c4 c5 c6 c7 c8
  cases x with
  | false =>
    clear hx
    go_wp2_with fail
    go_ret
    exact ⟨rfl, HB.out⟩
  | true =>
  have ht := hx rfl
  clear hx
  have hac : σ.acts.length ≤ 60 := by unfold Ml.total at ht; omega
  have hfl : σ.fls.length ≤ 60 := by unfold Ml.total at ht; omega
  have hal : σ.als.length ≤ 60 := by unfold Ml.total at ht; omega
  clear ht
  have hw0 : w.heap.size < w2.heap.size := BS.out.1
  replace R0 := Lib.hid (R0.out.below HB.out)
  replace D0 := Lib.hid (D0.out.below HB.out)
  obtain ⟨c0, c1, c2, c3, c4, c5, c6, c7, c8⟩ := sbox_cells BS.out
  go_wp2_with fail
  refine (drop_any s σ node w2 R0.out (by rw [R0.out.na]; omega) (by rw [← R0.out.nal]; omega) (by rw [← R0.out.nfl]; omega) (fun a ha => (D0.out.ac a ha).path) (fun f hf => (D0.out.al f hf).l.src)).mono ?_
  rintro e w3 ⟨s1, rfl, rr, hb⟩
  have R1 : Hid (SysR (fun _ => True) w3 s1 (Ml.drop σ node)) := Lib.hid (rr.mono (fun _ _ => trivial))
  obtain ⟨v3, hV⟩ : ∃ v, v = w3.alloc (.cells #[.slice s1.up.a s1.up.n s1.up.c, .int .i64 s1.moment, .int .i64 s1.clock, .int .i64 s1.seq, .slice s1.actors.a s1.actors.n s1.actors.c, .slice s1.flights.a s1.flights.n s1.flights.c, .slice s1.alarms.a s1.alarms.n s1.alarms.c, .slice s1.asked.a s1.asked.n s1.asked.c, .int .i64 s1.dead] 28) := ⟨_, rfl⟩
  have H3 : Hid (Below w2.heap.size w2 v3) := Lib.hid (by rw [hV]; exact Below.call (Below.refl _ _) (hb.alloc hb.size _))
  have BX : Hid (BoxAt v3 w3.heap.size (sysL s1)) := Lib.hid (by rw [hV]; exact BoxAt.new w3 28 (sysL s1) _ rfl)
  replace HB := Lib.hid (Below.call HB.out H3.out)
  replace BS := Lib.hid (BS.out.call H3.out)
  replace R0 := Lib.hid (R0.out.below H3.out)
  replace D0 := Lib.hid (D0.out.below H3.out)
  replace R1 : Hid (SysR (fun _ => True) v3 s1 (Ml.drop σ node)) := Lib.hid (by rw [hV]; exact R1.out.below (below_al' w3 _))
  have D1 := Lib.hid (D0.out.drop node)
  have Z1 := Lib.hid (Z0.out.drop node)
  have hX : w.heap.size < w3.heap.size := by have h1 := hb.size; omega
  clear hb rr H3 c0 c1 c2 c3 c4 c5 c6 c7 c8
  obtain ⟨X, hXX⟩ : ∃ X, X = w3.heap.size := ⟨_, rfl⟩
  rw [← hXX] at BX hX
  have la : s1.actors.n = s.actors.n := by rw [R1.out.na, Ml.drop_acts, List.length_map, ← R0.out.na]
  have ld : s1.dead = s.dead := by rw [R1.out.dd, R0.out.dd]; rfl
  have hsn : s.actors.n ≤ 60 := by rw [R0.out.na]; exact hac
  have hfn : s.flights.n ≤ 60 := by rw [← R0.out.nfl]; exact hfl
  have A1 : s1.actors.n ≤ 1000000 := by rw [la, R0.out.na]; omega
  have A2 : s1.alarms.n ≤ 1000000 := by rw [← R1.out.nal]; have : (Ml.drop σ node).als.length ≤ σ.als.length := List.length_filter_le _ _; omega
  have A3 : s1.flights.n ≤ 1000000 := by rw [← R1.out.nfl]; have : (Ml.drop σ node).fls.length ≤ σ.fls.length := List.length_filter_le _ _; omega
  have C42 : Hid (∀ W, Below v3.heap.size v3 W → Calls Try.prog 42 #[sysV s1, .int .i64 node] W fun e w' => ∃ t, e = .returned (sysV t) ∧ SysR (fun _ => True) w' t (Ml.drop σ node) ∧ Below W.heap.size W w') := Lib.hid (fun W hW => by
    refine (drop_any s1 (Ml.drop σ node) node W (R1.out.below hW) A1 A2 A3 (fun a ha => (D1.out.ac a ha).path) (fun f hf => (D1.out.al f hf).l.src)).mono ?_
    rintro e w' ⟨t, he, h1, h2⟩
    rw [Ml.drop_drop] at h1
    exact ⟨t, he, h1.mono (fun _ _ => trivial), h2⟩)
  have C26 : Hid (∀ W t, Below v3.heap.size v3 W → SysR (fun _ => True) W t (Ml.drop σ node) → Calls Try.prog 26 #[sysV t, sysV s1] W fun e w' => e = .returned (.bool true) ∧ Below W.heap.size W w') := Lib.hid (fun W t hW ht => same_R t s1 _ W ht (R1.out.below hW) (D1.out.below hW) (Z1.out.mono (by omega)))
  dsimp only [sysV] at C42 C26
  rw [la, ld] at C42 C26
  obtain ⟨c0, c1, c2, c3, c4, c5, c6, c7, c8⟩ := sbox_cells BS.out
  obtain ⟨d0, d1, d2, d3, d4, d5, d6, d7, d8⟩ := sbox_cells BX.out
  rw [la] at d4
  rw [ld] at d8
  have LA := Lib.hid la
  clear la ld A1 A2 A3
  have hw2 : w.heap.size < v3.heap.size := BS.out.1
  have hx2 : X < v3.heap.size := BX.out.1
  go_wp2_with fail
  rw [← hV, ← hXX]
  clear hV hXX
  go_region_held3 (fun w' => w'.cell? ⟨X, 0, none⟩ = some (.slice s1.up.a s1.up.n s1.up.c) ∧ w'.cell? ⟨X, 1, none⟩ = some (.int .i64 s1.moment) ∧ w'.cell? ⟨X, 2, none⟩ = some (.int .i64 s1.clock) ∧ w'.cell? ⟨X, 3, none⟩ = some (.int .i64 s1.seq) ∧ w'.cell? ⟨X, 4, none⟩ = some (.slice s1.actors.a s.actors.n s1.actors.c) ∧ w'.cell? ⟨X, 5, none⟩ = some (.slice s1.flights.a s1.flights.n s1.flights.c) ∧ w'.cell? ⟨X, 6, none⟩ = some (.slice s1.alarms.a s1.alarms.n s1.alarms.c) ∧ w'.cell? ⟨X, 7, none⟩ = some (.slice s1.asked.a s1.asked.n s1.asked.c) ∧ w'.cell? ⟨X, 8, none⟩ = some (.int .i64 s.dead) ∧ w'.cell? ⟨w.heap.size, 0, none⟩ = some (.slice s.up.a s.up.n s.up.c) ∧ w'.cell? ⟨w.heap.size, 1, none⟩ = some (.int .i64 s.moment) ∧ w'.cell? ⟨w.heap.size, 2, none⟩ = some (.int .i64 s.clock) ∧ w'.cell? ⟨w.heap.size, 3, none⟩ = some (.int .i64 s.seq) ∧ w'.cell? ⟨w.heap.size, 4, none⟩ = some (.slice s.actors.a s.actors.n s.actors.c) ∧ w'.cell? ⟨w.heap.size, 5, none⟩ = some (.slice s.flights.a s.flights.n s.flights.c) ∧ w'.cell? ⟨w.heap.size, 6, none⟩ = some (.slice s.alarms.a s.alarms.n s.alarms.c) ∧ w'.cell? ⟨w.heap.size, 7, none⟩ = some (.slice s.asked.a s.asked.n s.asked.c) ∧ w'.cell? ⟨w.heap.size, 8, none⟩ = some (.int .i64 s.dead)) (simp [go_sem, *])
    (first
    | (go_at_call 42; with_reducible refine (C42.out _ (Below.refl _ v3).drew).mono ?_; rintro e w6 ⟨t, rfl, ht, h6⟩; have RT := Lib.hid ht; clear ht; have H6 : Hid (Below v3.heap.size v3 w6) := Lib.hid (Below.call (Below.refl _ v3).drew h6); have z6 := h6.size; simp at z6; obtain ⟨k1, k2, k3⟩ := keepB h6 w.heap.size (by simp; omega); obtain ⟨m1, m2, m3⟩ := keepB h6 X (by simp; omega); clear h6)
    | (go_at_call 26; with_reducible refine (C26.out _ t H6.out RT.out).mono ?_; rintro e w7 ⟨rfl, h7⟩; have H7 : Hid (Below v3.heap.size v3 w7) := Lib.hid (Below.call H6.out h7); have z7 := h7.size; (try simp at z7); obtain ⟨k4, k5, k6⟩ := keepB h7 w.heap.size (by omega); obtain ⟨m4, m5, m6⟩ := keepB h7 X (by omega); clear h7))
  clear C42 C26 RT H6 k1 k2 k3 k4 k5 k6 m1 m2 m3 m4 m5 m6 c0 c1 c2 c3 c4 c5 c6 c7 c8 d0 d1 d2 d3 d4 d5 d6 d7 d8
  replace HB := Lib.hid (Below.call HB.out H7.out)
  replace BS := Lib.hid (BS.out.call H7.out)
  replace BX := Lib.hid (BX.out.call H7.out)
  replace R0 := Lib.hid (R0.out.below H7.out)
  replace R1 := Lib.hid (R1.out.below H7.out)
  replace D0 := Lib.hid (D0.out.below H7.out)
  replace D1 := Lib.hid (D1.out.below H7.out)
  have hw7 : w.heap.size < w7.heap.size := BS.out.1
  have hx7 : X < w7.heap.size := BX.out.1
  clear H7 z6 z7 hw2 hx2 hw0
  go_wp2_with fail
  go_loopw [7] (fun i wr => ∃ k : Nat, k ≤ s.actors.n ∧ i = .int .i64 k ∧ Below w7.heap.size w7 wr) (fun i _ => s.actors.n - (intOf i).toNat)
  case atStart => exact ⟨0, Nat.zero_le _, rfl, Below.refl _ _⟩
  case round =>
    obtain ⟨k, hk, rfl, hB⟩ := hrel
    have HR := Lib.hid hB
    have zr := hB.size
    clear hB
    have QX := Lib.hid (BX.out.call HR.out)
    have QS := Lib.hid (BS.out.call HR.out)
    obtain ⟨-, -, -, -, d4, -, -, -, -⟩ := sbox_cells QX.out
    rw [LA.out] at d4
    by_cases hlt : k < s.actors.n
    · obtain ⟨-, -, -, -, c4, -, -, -, -⟩ := sbox_cells QS.out
      have r0 := R0.out.below HR.out
      have r1 := R1.out.below HR.out
      obtain ⟨b, of, u, hix, hb, hc, hm, ha⟩ := act_at r0 hlt _ rfl
      obtain ⟨b2, of2, u2, hix2, hb2, hc2, hm2, ha2⟩ := act_at r1 (k := k) (by rw [LA.out]; exact hlt) _ LA.out
      obtain ⟨x0, x1, x2, x3, x4, x5, x6, x7, x8⟩ := hc
      obtain ⟨y0, y1, y2, y3, y4, y5, y6, y7, y8⟩ := hc2
      have n1 : ¬ b = wr.heap.size := by omega
      have n2 : ¬ b2 = wr.heap.size := by omega
      have n3 : ¬ X = wr.heap.size := by omega
      have n4 : X < wr.heap.size := by omega
      have hpd : PLD wr (plOf u2) := (D1.out.ac _ (List.mem_of_getElem? ha2)).below HR.out
      have hpl : (plOf u2).mail.length ≤ 9223372036854775807 := Nat.le_trans (Z1.out.ml _ (List.mem_of_getElem? ha2)) (by omega)
      rw [Ml.drop_acts, List.getElem?_map, ha] at ha2
      have hpz : Ml.zap node (plOf u) = plOf u2 := by simpa using ha2
      clear ha ha2 r0 r1
      by_cases hn : u.1.node = node
      · have t1 : (u.1.node == node) = true := by simp [hn]
        have LS := Lib.hid (live_zap hm2 hpz hn hpd hpl)
        clear hm hm2 hpd hpl hpz hn
        go_wp2_with fail
        obtain ⟨v8, hV⟩ : ∃ v, v = wr.alloc (.cells #[.string u.1.path, .string u.1.type, .int .i64 u.1.node, .slice u.1.init.a u.1.init.n u.1.init.c, .slice u.1.vars.a u.1.vars.n u.1.vars.c, .int .i64 u.1.kids, .int .i64 u.1.rest, .bool u.1.stopped, .slice none 0 0] 76) := ⟨_, rfl⟩
        have H8 : Hid (Below wr.heap.size wr v8) := Lib.hid (by rw [hV]; exact below_al' wr _)
        have BA : Hid (BoxAt v8 wr.heap.size [.string u.1.path, .string u.1.type, .int .i64 u.1.node, .slice u.1.init.a u.1.init.n u.1.init.c, .slice u.1.vars.a u.1.vars.n u.1.vars.c, .int .i64 u.1.kids, .int .i64 u.1.rest, .bool u.1.stopped, .slice none 0 0]) := Lib.hid (by rw [hV]; exact BoxAt.new wr 76 [.string u.1.path, .string u.1.type, .int .i64 u.1.node, .slice u.1.init.a u.1.init.n u.1.init.c, .slice u.1.vars.a u.1.vars.n u.1.vars.c, .int .i64 u.1.kids, .int .i64 u.1.rest, .bool u.1.stopped, .slice none 0 0] _ rfl)
        have z8 : wr.heap.size < v8.heap.size := BA.out.1
        have a0 := BA.out.2.1 0 _ rfl
        have a1 := BA.out.2.1 1 _ rfl
        have a2 := BA.out.2.1 2 _ rfl
        have a3 := BA.out.2.1 3 _ rfl
        have a4 := BA.out.2.1 4 _ rfl
        have a5 := BA.out.2.1 5 _ rfl
        have a6 := BA.out.2.1 6 _ rfl
        have a7 := BA.out.2.1 7 _ rfl
        have a8 := BA.out.2.1 8 _ rfl
        replace y0 := (H8.out.cell (p := ⟨b2, of2, none⟩) hb2).trans y0
        replace y1 := (H8.out.cell (p := ⟨b2, of2 + 1, none⟩) hb2).trans y1
        replace y2 := (H8.out.cell (p := ⟨b2, of2 + 2, none⟩) hb2).trans y2
        replace y3 := (H8.out.cell (p := ⟨b2, of2 + 3, none⟩) hb2).trans y3
        replace y4 := (H8.out.cell (p := ⟨b2, of2 + 4, none⟩) hb2).trans y4
        replace y5 := (H8.out.cell (p := ⟨b2, of2 + 5, none⟩) hb2).trans y5
        replace y6 := (H8.out.cell (p := ⟨b2, of2 + 6, none⟩) hb2).trans y6
        replace y7 := (H8.out.cell (p := ⟨b2, of2 + 7, none⟩) hb2).trans y7
        replace y8 := (H8.out.cell (p := ⟨b2, of2 + 8, none⟩) hb2).trans y8
        replace d4 := (H8.out.cell (p := ⟨X, 4, none⟩) n4).trans d4
        have m1 : b2 < v8.heap.size := by omega
        have m2 : X < v8.heap.size := by omega
        rw [← hV]
        clear hV x0 x1 x2 x3 x4 x5 x6 x7 x8 n1 n2 n3 n4 c4 hix t1
        go_region_held3 (fun w' => w'.cell? ⟨X, 4, none⟩ = some (.slice s1.actors.a s.actors.n s1.actors.c) ∧ w'.cell? ⟨b2, of2, none⟩ = some (.string u2.1.path) ∧ w'.cell? ⟨b2, of2 + 1, none⟩ = some (.string u2.1.type) ∧ w'.cell? ⟨b2, of2 + 2, none⟩ = some (.int .i64 u2.1.node) ∧ w'.cell? ⟨b2, of2 + 3, none⟩ = some (.slice u2.1.init.a u2.1.init.n u2.1.init.c) ∧ w'.cell? ⟨b2, of2 + 4, none⟩ = some (.slice u2.1.vars.a u2.1.vars.n u2.1.vars.c) ∧ w'.cell? ⟨b2, of2 + 5, none⟩ = some (.int .i64 u2.1.kids) ∧ w'.cell? ⟨b2, of2 + 6, none⟩ = some (.int .i64 u2.1.rest) ∧ w'.cell? ⟨b2, of2 + 7, none⟩ = some (.bool u2.1.stopped) ∧ w'.cell? ⟨b2, of2 + 8, none⟩ = some (.slice u2.1.mail.a u2.1.mail.n u2.1.mail.c) ∧ w'.cell? ⟨wr.heap.size, 0, none⟩ = some (.string u.1.path) ∧ w'.cell? ⟨wr.heap.size, 1, none⟩ = some (.string u.1.type) ∧ w'.cell? ⟨wr.heap.size, 2, none⟩ = some (.int .i64 u.1.node) ∧ w'.cell? ⟨wr.heap.size, 3, none⟩ = some (.slice u.1.init.a u.1.init.n u.1.init.c) ∧ w'.cell? ⟨wr.heap.size, 4, none⟩ = some (.slice u.1.vars.a u.1.vars.n u.1.vars.c) ∧ w'.cell? ⟨wr.heap.size, 5, none⟩ = some (.int .i64 u.1.kids) ∧ w'.cell? ⟨wr.heap.size, 6, none⟩ = some (.int .i64 u.1.rest) ∧ w'.cell? ⟨wr.heap.size, 7, none⟩ = some (.bool u.1.stopped) ∧ w'.cell? ⟨wr.heap.size, 8, none⟩ = some (.slice none 0 0)) (simp [go_sem, *])
          (first | (go_at_call 47; with_reducible refine (sameActor_true u2.1 { u.1 with mail := ⟨none, 0, 0⟩ } _ (LS.out.below H8.out.drew)).mono ?_; rintro e w9 ⟨rfl, h9⟩; have H9 : Hid (Below wr.heap.size wr w9) := Lib.hid (Below.call H8.out.drew h9); have z9 := h9.size; simp at z9; obtain ⟨k1, k2, k3⟩ := keepB h9 wr.heap.size (by simp; omega); obtain ⟨k4, k5, k6⟩ := keepB h9 X (by simp; omega); obtain ⟨k7, k8, k9⟩ := keepB h9 b2 (by simp; omega); clear h9))
        go_wp2_with fail
        go_roundw
        case rel => exact ⟨k + 1, by omega, by go_num, Below.call HR.out H9.out⟩
        case measure => simp [intOf]; omega
      · have t1 : (u.1.node == node) = false := by simp [hn]
        have LS := Lib.hid (live_keep hm hm2 hpz hn hpd hpl)
        clear hm hm2 hpd hpl hpz hn
        go_wp2_with fail
        obtain ⟨v8, hV⟩ : ∃ v, v = wr.alloc (.cells #[.string u.1.path, .string u.1.type, .int .i64 u.1.node, .slice u.1.init.a u.1.init.n u.1.init.c, .slice u.1.vars.a u.1.vars.n u.1.vars.c, .int .i64 u.1.kids, .int .i64 u.1.rest, .bool u.1.stopped, .slice u.1.mail.a u.1.mail.n u.1.mail.c] 76) := ⟨_, rfl⟩
        have H8 : Hid (Below wr.heap.size wr v8) := Lib.hid (by rw [hV]; exact below_al' wr _)
        have BA : Hid (BoxAt v8 wr.heap.size [.string u.1.path, .string u.1.type, .int .i64 u.1.node, .slice u.1.init.a u.1.init.n u.1.init.c, .slice u.1.vars.a u.1.vars.n u.1.vars.c, .int .i64 u.1.kids, .int .i64 u.1.rest, .bool u.1.stopped, .slice u.1.mail.a u.1.mail.n u.1.mail.c]) := Lib.hid (by rw [hV]; exact BoxAt.new wr 76 [.string u.1.path, .string u.1.type, .int .i64 u.1.node, .slice u.1.init.a u.1.init.n u.1.init.c, .slice u.1.vars.a u.1.vars.n u.1.vars.c, .int .i64 u.1.kids, .int .i64 u.1.rest, .bool u.1.stopped, .slice u.1.mail.a u.1.mail.n u.1.mail.c] _ rfl)
        have z8 : wr.heap.size < v8.heap.size := BA.out.1
        have a0 := BA.out.2.1 0 _ rfl
        have a1 := BA.out.2.1 1 _ rfl
        have a2 := BA.out.2.1 2 _ rfl
        have a3 := BA.out.2.1 3 _ rfl
        have a4 := BA.out.2.1 4 _ rfl
        have a5 := BA.out.2.1 5 _ rfl
        have a6 := BA.out.2.1 6 _ rfl
        have a7 := BA.out.2.1 7 _ rfl
        have a8 := BA.out.2.1 8 _ rfl
        replace y0 := (H8.out.cell (p := ⟨b2, of2, none⟩) hb2).trans y0
        replace y1 := (H8.out.cell (p := ⟨b2, of2 + 1, none⟩) hb2).trans y1
        replace y2 := (H8.out.cell (p := ⟨b2, of2 + 2, none⟩) hb2).trans y2
        replace y3 := (H8.out.cell (p := ⟨b2, of2 + 3, none⟩) hb2).trans y3
        replace y4 := (H8.out.cell (p := ⟨b2, of2 + 4, none⟩) hb2).trans y4
        replace y5 := (H8.out.cell (p := ⟨b2, of2 + 5, none⟩) hb2).trans y5
        replace y6 := (H8.out.cell (p := ⟨b2, of2 + 6, none⟩) hb2).trans y6
        replace y7 := (H8.out.cell (p := ⟨b2, of2 + 7, none⟩) hb2).trans y7
        replace y8 := (H8.out.cell (p := ⟨b2, of2 + 8, none⟩) hb2).trans y8
        replace d4 := (H8.out.cell (p := ⟨X, 4, none⟩) n4).trans d4
        have m1 : b2 < v8.heap.size := by omega
        have m2 : X < v8.heap.size := by omega
        rw [← hV]
        clear hV x0 x1 x2 x3 x4 x5 x6 x7 x8 n1 n2 n3 n4 c4 hix t1
        go_region_held3 (fun w' => w'.cell? ⟨X, 4, none⟩ = some (.slice s1.actors.a s.actors.n s1.actors.c) ∧ w'.cell? ⟨b2, of2, none⟩ = some (.string u2.1.path) ∧ w'.cell? ⟨b2, of2 + 1, none⟩ = some (.string u2.1.type) ∧ w'.cell? ⟨b2, of2 + 2, none⟩ = some (.int .i64 u2.1.node) ∧ w'.cell? ⟨b2, of2 + 3, none⟩ = some (.slice u2.1.init.a u2.1.init.n u2.1.init.c) ∧ w'.cell? ⟨b2, of2 + 4, none⟩ = some (.slice u2.1.vars.a u2.1.vars.n u2.1.vars.c) ∧ w'.cell? ⟨b2, of2 + 5, none⟩ = some (.int .i64 u2.1.kids) ∧ w'.cell? ⟨b2, of2 + 6, none⟩ = some (.int .i64 u2.1.rest) ∧ w'.cell? ⟨b2, of2 + 7, none⟩ = some (.bool u2.1.stopped) ∧ w'.cell? ⟨b2, of2 + 8, none⟩ = some (.slice u2.1.mail.a u2.1.mail.n u2.1.mail.c) ∧ w'.cell? ⟨wr.heap.size, 0, none⟩ = some (.string u.1.path) ∧ w'.cell? ⟨wr.heap.size, 1, none⟩ = some (.string u.1.type) ∧ w'.cell? ⟨wr.heap.size, 2, none⟩ = some (.int .i64 u.1.node) ∧ w'.cell? ⟨wr.heap.size, 3, none⟩ = some (.slice u.1.init.a u.1.init.n u.1.init.c) ∧ w'.cell? ⟨wr.heap.size, 4, none⟩ = some (.slice u.1.vars.a u.1.vars.n u.1.vars.c) ∧ w'.cell? ⟨wr.heap.size, 5, none⟩ = some (.int .i64 u.1.kids) ∧ w'.cell? ⟨wr.heap.size, 6, none⟩ = some (.int .i64 u.1.rest) ∧ w'.cell? ⟨wr.heap.size, 7, none⟩ = some (.bool u.1.stopped) ∧ w'.cell? ⟨wr.heap.size, 8, none⟩ = some (.slice u.1.mail.a u.1.mail.n u.1.mail.c)) (simp [go_sem, *])
          (first | (go_at_call 47; with_reducible refine (sameActor_true u2.1 u.1 _ (LS.out.below H8.out.drew)).mono ?_; rintro e w9 ⟨rfl, h9⟩; have H9 : Hid (Below wr.heap.size wr w9) := Lib.hid (Below.call H8.out.drew h9); have z9 := h9.size; simp at z9; obtain ⟨k1, k2, k3⟩ := keepB h9 wr.heap.size (by simp; omega); obtain ⟨k4, k5, k6⟩ := keepB h9 X (by simp; omega); obtain ⟨k7, k8, k9⟩ := keepB h9 b2 (by simp; omega); clear h9))
        go_wp2_with fail
        go_roundw
        case rel => exact ⟨k + 1, by omega, by go_num, Below.call HR.out H9.out⟩
        case measure => simp [intOf]; omega
    · have R0r := Lib.hid (R0.out.below HR.out)
      have R1r := Lib.hid (R1.out.below HR.out)
      have D0r := Lib.hid (D0.out.below HR.out)
      replace HB := Lib.hid (Below.call HB.out HR.out)
      clear HR R0 R1 D0 D1 BS BX
      have R0 := R0r
      have R1 := R1r
      have D0 := D0r
      have BS := QS
      have BX := QX
      clear R0r R1r D0r QS QX
      have hw8 : w.heap.size < wr.heap.size := BS.out.1
      have hx8 : X < wr.heap.size := BX.out.1
      go_wp2_with fail
      clear d4 hlt hk zr hw7 hx7
      obtain ⟨w8, hw8'⟩ : ∃ w8 : World, w8 = wr := ⟨_, rfl⟩
      subst hw8'
      go_loopw [9, 10] (fun kv i wr => ∃ j m : Nat, j ≤ s.flights.n ∧ i = .int .i64 j ∧ kv = .int .i64 m ∧ m ≤ j ∧ Hid (m = ((σ.fls.take j).filter (fun f => !(decide (f.x = node) || decide (f.y = node)))).length) ∧ Below w8.heap.size w8 wr) (fun _ i _ => s.flights.n - (intOf i).toNat)
      case atStart => exact ⟨0, 0, Nat.zero_le _, rfl, rfl, Nat.le_refl _, Lib.hid rfl, Below.refl _ _⟩
      case round =>
        obtain ⟨j, m, hj, rfl, rfl, hmj, HM, hB⟩ := hrel
        have HR := Lib.hid hB
        have zr := hB.size
        clear hB
        have QX := Lib.hid (BX.out.call HR.out)
        have QS := Lib.hid (BS.out.call HR.out)
        obtain ⟨-, -, -, -, -, c5, c6, -, -⟩ := sbox_cells QS.out
        obtain ⟨-, -, -, -, -, d5, d6, -, -⟩ := sbox_cells QX.out
        by_cases hlt : j < s.flights.n
        · obtain ⟨b, of, f, hix, hb, hc, ha⟩ := fly_at' (R0.out.below HR.out).fl hlt _ rfl
          obtain ⟨x0, x1, x2, x3, x4, x5, x6⟩ := hc
          have n1 : ¬ b = wr.heap.size := by omega
          have n3 : ¬ X = wr.heap.size := by omega
          have n4 : X < wr.heap.size := by omega
          have HT := Lib.hid (filter_take (fun f => !(decide (f.x = node) || decide (f.y = node))) σ.fls j f ha)
          by_cases hx : f.x = node
          · have t1 : (f.x == node) = true := by simp [hx]
            have HN : Hid (m = ((σ.fls.take (j + 1)).filter (fun f => !(decide (f.x = node) || decide (f.y = node)))).length) := Lib.hid (by rw [HT.out, ← HM.out]; simp [hx])
            clear hx ha HT
            go_wp2_with fail
            go_roundw
            case rel => exact ⟨j + 1, m, by omega, by go_num, rfl, by omega, HN, Below.call HR.out (below_al' _ _)⟩
            case measure => simp [intOf]; omega
          · have t1 : (f.x == node) = false := by simp [hx]
            by_cases hy : f.y = node
            · have t2 : (f.y == node) = true := by simp [hy]
              have HN : Hid (m = ((σ.fls.take (j + 1)).filter (fun f => !(decide (f.x = node) || decide (f.y = node)))).length) := Lib.hid (by rw [HT.out, ← HM.out]; simp [hy])
              clear hx hy ha HT
              go_wp2_with fail
              go_roundw
              case rel => exact ⟨j + 1, m, by omega, by go_num, rfl, by omega, HN, Below.call HR.out (below_al' _ _)⟩
              case measure => simp [intOf]; omega
            · have t2 : (f.y == node) = false := by simp [hy]
              have HN : Hid (m + 1 = ((σ.fls.take (j + 1)).filter (fun f => !(decide (f.x = node) || decide (f.y = node)))).length) := Lib.hid (by rw [HT.out, ← HM.out]; simp [hx, hy])
              have hfa := filter_at (fun f => !(decide (f.x = node) || decide (f.y = node))) σ.fls j f ha (by simp [hx, hy])
              rw [← HM.out] at hfa
              have hml : m < s1.flights.n := by
                rw [← R1.out.nfl]
                exact (List.getElem?_eq_some_iff.1 hfa).1
              obtain ⟨b2, of2, f2, hix2, hb2, hc2, ha2⟩ := fly_at' (R1.out.below HR.out).fl hml _ rfl
              have e2 : f2 = f := Option.some.inj (ha2.symm.trans hfa)
              subst e2
              obtain ⟨y0, y1, y2, y3, y4, y5, y6⟩ := hc2
              have LS : Hid (LetSame wr f2.l f2.l) := Lib.hid ((D0.out.fl f2 (List.mem_of_getElem? ha)).l.below HR.out).self
              have n2 : ¬ b2 = wr.heap.size := by omega
              have hg1 : ¬ s1.flights.n ≤ m := by omega
              have hg2 : decide ((s1.flights.n : Int) ≤ (m : Int)) = false := decide_eq_false (by omega)
              have hg3 : decide (s1.flights.n ≤ m) = false := decide_eq_false hg1
              clear hx hy ha HT hfa ha2
              go_wp2_with fail
              obtain ⟨v9, hV⟩ : ∃ v, v = wr.alloc (.cells #[.int .i64 f2.x, .int .i64 f2.y, .string f2.path, .string f2.l.src, .string f2.l.msg, .slice f2.l.args.a f2.l.args.n f2.l.args.c, .int .i64 f2.l.sent] 66) := ⟨_, rfl⟩
              have H8 : Hid (Below wr.heap.size wr v9) := Lib.hid (by rw [hV]; exact below_al' wr _)
              have BA : Hid (BoxAt v9 wr.heap.size [.int .i64 f2.x, .int .i64 f2.y, .string f2.path, .string f2.l.src, .string f2.l.msg, .slice f2.l.args.a f2.l.args.n f2.l.args.c, .int .i64 f2.l.sent]) := Lib.hid (by rw [hV]; exact BoxAt.new wr 66 [.int .i64 f2.x, .int .i64 f2.y, .string f2.path, .string f2.l.src, .string f2.l.msg, .slice f2.l.args.a f2.l.args.n f2.l.args.c, .int .i64 f2.l.sent] _ rfl)
              have z8 : wr.heap.size < v9.heap.size := BA.out.1
              have a2 := BA.out.2.1 2 _ rfl
              have a3 := BA.out.2.1 3 _ rfl
              have a4 := BA.out.2.1 4 _ rfl
              have a5 := BA.out.2.1 5 _ rfl
              have a6 := BA.out.2.1 6 _ rfl
              replace y2 := (H8.out.cell (p := ⟨b2, of2 + 2, none⟩) hb2).trans y2
              replace y3 := (H8.out.cell (p := ⟨b2, of2 + 3, none⟩) hb2).trans y3
              replace y4 := (H8.out.cell (p := ⟨b2, of2 + 4, none⟩) hb2).trans y4
              replace y5 := (H8.out.cell (p := ⟨b2, of2 + 5, none⟩) hb2).trans y5
              replace y6 := (H8.out.cell (p := ⟨b2, of2 + 6, none⟩) hb2).trans y6
              replace d5 := (H8.out.cell (p := ⟨X, 5, none⟩) n4).trans d5
              have m1 : b2 < v9.heap.size := by omega
              have m2 : X < v9.heap.size := by omega
              rw [← hV]
              clear hV x0 x1 x2 x3 x4 x5 x6 y0 y1 n1 n2 n3 n4 c5 c6 d6 hix t1 t2
              go_region_held3 (fun w' => w'.cell? ⟨X, 5, none⟩ = some (.slice s1.flights.a s1.flights.n s1.flights.c) ∧ w'.cell? ⟨b2, of2 + 2, none⟩ = some (.string f2.path) ∧ w'.cell? ⟨b2, of2 + 3, none⟩ = some (.string f2.l.src) ∧ w'.cell? ⟨b2, of2 + 4, none⟩ = some (.string f2.l.msg) ∧ w'.cell? ⟨b2, of2 + 5, none⟩ = some (.slice f2.l.args.a f2.l.args.n f2.l.args.c) ∧ w'.cell? ⟨b2, of2 + 6, none⟩ = some (.int .i64 f2.l.sent) ∧ w'.cell? ⟨wr.heap.size, 2, none⟩ = some (.string f2.path) ∧ w'.cell? ⟨wr.heap.size, 3, none⟩ = some (.string f2.l.src) ∧ w'.cell? ⟨wr.heap.size, 4, none⟩ = some (.string f2.l.msg) ∧ w'.cell? ⟨wr.heap.size, 5, none⟩ = some (.slice f2.l.args.a f2.l.args.n f2.l.args.c) ∧ w'.cell? ⟨wr.heap.size, 6, none⟩ = some (.int .i64 f2.l.sent)) (simp [go_sem, *])
                (first | (go_at_call 39; with_reducible refine (sameLetter_true f2.l f2.l _ (LS.out.below H8.out.drew)).mono ?_; rintro e w9 ⟨rfl, h9⟩; have H9 : Hid (Below wr.heap.size wr w9) := Lib.hid (Below.call H8.out.drew h9); have z9 := h9.size; simp at z9; obtain ⟨k1, k2, k3⟩ := keepB h9 wr.heap.size (by simp; omega); obtain ⟨k4, k5, k6⟩ := keepB h9 X (by simp; omega); obtain ⟨k7, k8, k9⟩ := keepB h9 b2 (by simp; omega); clear h9))
              go_wp2_with fail
              go_roundw
              case rel => exact ⟨j + 1, m + 1, by omega, by go_num, by go_num, by omega, HN, Below.call HR.out H9.out⟩
              case measure => simp [intOf]; omega
        · have hjn : j = s.flights.n := by omega
          have hmn : m = s1.flights.n := by
            rw [← R1.out.nfl, HM.out, List.take_of_length_le (by rw [R0.out.nfl]; omega)]
            rfl
          have hal2 : s1.alarms.n ≤ s.alarms.n := by
            rw [← R1.out.nal, ← R0.out.nal]
            exact List.length_filter_le _ _
          have HZ := Lib.hid (Below.call HB.out HR.out)
          clear hjn HM
          subst hmn
          go_wp2_with fail
          go_ret
          exact ⟨rfl, HZ.out⟩
end Go.Proofs.Ytjdjfjokniingaa
