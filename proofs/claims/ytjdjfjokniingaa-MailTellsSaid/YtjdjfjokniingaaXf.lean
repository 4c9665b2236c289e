/- The contract of the reference's Arrive. -/
import Derived.Test.YtjdjfjokniingaaXe
namespace Go.Proofs.Ytjdjfjokniingaa
open Go.RowKit

theorem fly_cells {W : World} {B : Nat} {f : FlyC} (h : BoxAt W B (flyL f)) : W.cell? ⟨B, 0, none⟩ = some (.int .i64 f.x) ∧ W.cell? ⟨B, 1, none⟩ = some (.int .i64 f.y) ∧ W.cell? ⟨B, 2, none⟩ = some (.string f.path) ∧ W.cell? ⟨B, 3, none⟩ = some (.string f.l.src) ∧ W.cell? ⟨B, 4, none⟩ = some (.string f.l.msg) ∧ W.cell? ⟨B, 5, none⟩ = some (.slice f.l.args.a f.l.args.n f.l.args.c) ∧ W.cell? ⟨B, 6, none⟩ = some (.int .i64 f.l.sent) := ⟨h.2.1 0 _ rfl, h.2.1 1 _ rfl, h.2.1 2 _ rfl, h.2.1 3 _ rfl, h.2.1 4 _ rfl, h.2.1 5 _ rfl, h.2.1 6 _ rfl⟩
theorem fly_free {W : World} {B : Nat} {f : FlyC} (h : BoxAt W B (flyL f)) : W.frozen? ⟨B, 0, none⟩ = false ∧ W.frozen? ⟨B, 1, none⟩ = false ∧ W.frozen? ⟨B, 2, none⟩ = false ∧ W.frozen? ⟨B, 3, none⟩ = false ∧ W.frozen? ⟨B, 4, none⟩ = false ∧ W.frozen? ⟨B, 5, none⟩ = false ∧ W.frozen? ⟨B, 6, none⟩ = false := ⟨h.2.2 0, h.2.2 1, h.2.2 2, h.2.2 3, h.2.2 4, h.2.2 5, h.2.2 6⟩
/-- a flight stored into a box -/
abbrev putFly (W : World) (X : Nat) (f : FlyC) : World := ((((((W.setCell ⟨X, 0, none⟩ (.int .i64 f.x)).setCell ⟨X, 1, none⟩ (.int .i64 f.y)).setCell ⟨X, 2, none⟩ (.string f.path)).setCell ⟨X, 3, none⟩ (.string f.l.src)).setCell ⟨X, 4, none⟩ (.string f.l.msg)).setCell ⟨X, 5, none⟩ (.slice f.l.args.a f.l.args.n f.l.args.c)).setCell ⟨X, 6, none⟩ (.int .i64 f.l.sent)
theorem putFly_below {W w : World} {X C : Nat} {f : FlyC} (h : Below C w W) (hX : C ≤ X) : Below C w (putFly W X f) := ((((((h.setCell hX _).setCell hX _).setCell hX _).setCell hX _).setCell hX _).setCell hX _).setCell hX _

set_option linter.unusedSimpArgs false in
set_option linter.unusedVariables false in
set_option maxRecDepth 100000 in
set_option maxHeartbeats 6400000 in
theorem arrive41 {P : Nat → Prop} (s : SysC) (σ : PS) (x y : Int) (w : World) (h : SysR P w s σ) (hna : s.actors.n ≤ 1000000) (hnu : s.up.n ≤ 9223372036854775807) (hnf : s.flights.n ≤ 1000000) :
    Calls Try.prog 41 #[sysV s, .int .i64 x, .int .i64 y] w (SysFly P (Ml.arrive σ x y) w) := by
  have HF := Lib.hid h.fl
  have HL := Lib.hid (h.fl.len (fun _ => rfl) (by omega))
  have HCF := Lib.hid h.cf
  have H := Lib.hid h
  obtain ⟨i6, hi6, hz60, hz61, hz62⟩ := info_parts info66
  clear h
  have BS0 : Hid (BoxAt (((w.alloc (.cells #[.slice s.up.a s.up.n s.up.c, .int .i64 s.moment, .int .i64 s.clock, .int .i64 s.seq, .slice s.actors.a s.actors.n s.actors.c, .slice s.flights.a s.flights.n s.flights.c, .slice s.alarms.a s.alarms.n s.alarms.c, .slice s.asked.a s.asked.n s.asked.c, .int .i64 s.dead] 28)).alloc (.cells #[.slice none 0 0, .int .i64 0, .int .i64 0, .int .i64 0, .slice none 0 0, .slice none 0 0, .slice none 0 0, .slice none 0 0, .int .i64 0] 28)).alloc (.cells #[.int .i64 0, .int .i64 0, .string ⟨#[]⟩, .string ⟨#[]⟩, .string ⟨#[]⟩, .slice none 0 0, .int .i64 0] 66)) w.heap.size (sysL s)) := Lib.hid (((BoxAt.new w 28 (sysL s) _ rfl).alloc _).alloc _)
  have BZ0 : Hid (BoxAt (((w.alloc (.cells #[.slice s.up.a s.up.n s.up.c, .int .i64 s.moment, .int .i64 s.clock, .int .i64 s.seq, .slice s.actors.a s.actors.n s.actors.c, .slice s.flights.a s.flights.n s.flights.c, .slice s.alarms.a s.alarms.n s.alarms.c, .slice s.asked.a s.asked.n s.asked.c, .int .i64 s.dead] 28)).alloc (.cells #[.slice none 0 0, .int .i64 0, .int .i64 0, .int .i64 0, .slice none 0 0, .slice none 0 0, .slice none 0 0, .slice none 0 0, .int .i64 0] 28)).alloc (.cells #[.int .i64 0, .int .i64 0, .string ⟨#[]⟩, .string ⟨#[]⟩, .string ⟨#[]⟩, .slice none 0 0, .int .i64 0] 66)) (w.heap.size + 1) (sysL sysZ)) := Lib.hid ((BoxAt.new _ 28 (sysL sysZ) _ (by simp)).alloc _)
  have BF0 : Hid (BoxAt (((w.alloc (.cells #[.slice s.up.a s.up.n s.up.c, .int .i64 s.moment, .int .i64 s.clock, .int .i64 s.seq, .slice s.actors.a s.actors.n s.actors.c, .slice s.flights.a s.flights.n s.flights.c, .slice s.alarms.a s.alarms.n s.alarms.c, .slice s.asked.a s.asked.n s.asked.c, .int .i64 s.dead] 28)).alloc (.cells #[.slice none 0 0, .int .i64 0, .int .i64 0, .int .i64 0, .slice none 0 0, .slice none 0 0, .slice none 0 0, .slice none 0 0, .int .i64 0] 28)).alloc (.cells #[.int .i64 0, .int .i64 0, .string ⟨#[]⟩, .string ⟨#[]⟩, .string ⟨#[]⟩, .slice none 0 0, .int .i64 0] 66)) (w.heap.size + 1 + 1) (flyL flyZ)) := Lib.hid (BoxAt.new _ 66 (flyL flyZ) _ (by simp))
  have B0 : Hid (Below w.heap.size w (((w.alloc (.cells #[.slice s.up.a s.up.n s.up.c, .int .i64 s.moment, .int .i64 s.clock, .int .i64 s.seq, .slice s.actors.a s.actors.n s.actors.c, .slice s.flights.a s.flights.n s.flights.c, .slice s.alarms.a s.alarms.n s.alarms.c, .slice s.asked.a s.asked.n s.asked.c, .int .i64 s.dead] 28)).alloc (.cells #[.slice none 0 0, .int .i64 0, .int .i64 0, .int .i64 0, .slice none 0 0, .slice none 0 0, .slice none 0 0, .slice none 0 0, .int .i64 0] 28)).alloc (.cells #[.int .i64 0, .int .i64 0, .string ⟨#[]⟩, .string ⟨#[]⟩, .string ⟨#[]⟩, .slice none 0 0, .int .i64 0] 66))) := Lib.hid (by repeat (first | (with_reducible exact Below.refl _ _) | (with_reducible assumption) | ((with_reducible refine Below.setCell ?_ ?_ _); rotate_left; (focus (first | omega | (simp; omega) | (simp; done)))) | ((with_reducible refine Below.alloc ?_ ?_ _); rotate_left; (focus (first | omega | (simp; omega) | (simp; done)))) | (with_reducible refine Below.drew ?_)))
  obtain ⟨v0, hv0⟩ : ∃ W, W = (((w.alloc (.cells #[.slice s.up.a s.up.n s.up.c, .int .i64 s.moment, .int .i64 s.clock, .int .i64 s.seq, .slice s.actors.a s.actors.n s.actors.c, .slice s.flights.a s.flights.n s.flights.c, .slice s.alarms.a s.alarms.n s.alarms.c, .slice s.asked.a s.asked.n s.asked.c, .int .i64 s.dead] 28)).alloc (.cells #[.slice none 0 0, .int .i64 0, .int .i64 0, .int .i64 0, .slice none 0 0, .slice none 0 0, .slice none 0 0, .slice none 0 0, .int .i64 0] 28)).alloc (.cells #[.int .i64 0, .int .i64 0, .string ⟨#[]⟩, .string ⟨#[]⟩, .string ⟨#[]⟩, .slice none 0 0, .int .i64 0] 66)) := ⟨_, rfl⟩
  have hz0 : w.heap.size + 1 + 1 + 1 ≤ v0.heap.size := by rw [hv0]; simp
  rw [← hv0] at BS0 BZ0 BF0 B0
  go_enter Try.func41, Try.ntmps41
  go_wp2_with fail
  rw [← hv0]
  clear hv0
  obtain ⟨c0, c1, c2, c3, c4, c5, c6, c7, c8⟩ := sbox_cells BS0.out
  go_loop [9] (fun i => ∃ k : Nat, k ≤ s.flights.n ∧ i = .int .i64 k ∧ Hid (∀ (j : Nat) (f : FlyC), j < k → σ.fls[j]? = some f → Ml.onCh x y f = false)) (fun i => s.flights.n - (intOf i).toNat)
  case atStart => exact ⟨0, Nat.zero_le _, rfl, Lib.hid (fun j f hj => absurd hj (by omega))⟩
  case round =>
    obtain ⟨k, hk, rfl, HJ⟩ := hrel
    by_cases hlt : k < s.flights.n
    · obtain ⟨b, off, f, hA, hb, hfk, hc⟩ := HF.out.at_ (fun _ => rfl) (by omega) hlt
      have x0 : v0.cell? ⟨b, off + k * 7, none⟩ = some (.int .i64 f.x) := (B0.out.cell (p := ⟨b, off + k * 7, none⟩) hb).trans (hc 0 _ rfl)
      have x1 : v0.cell? ⟨b, off + k * 7 + 1, none⟩ = some (.int .i64 f.y) := (B0.out.cell (p := ⟨b, off + k * 7 + 1, none⟩) hb).trans (hc 1 _ rfl)
      have x2 : v0.cell? ⟨b, off + k * 7 + 2, none⟩ = some (.string f.path) := (B0.out.cell (p := ⟨b, off + k * 7 + 2, none⟩) hb).trans (hc 2 _ rfl)
      have x3 : v0.cell? ⟨b, off + k * 7 + 3, none⟩ = some (.string f.l.src) := (B0.out.cell (p := ⟨b, off + k * 7 + 3, none⟩) hb).trans (hc 3 _ rfl)
      have x4 : v0.cell? ⟨b, off + k * 7 + 4, none⟩ = some (.string f.l.msg) := (B0.out.cell (p := ⟨b, off + k * 7 + 4, none⟩) hb).trans (hc 4 _ rfl)
      have x5 : v0.cell? ⟨b, off + k * 7 + 5, none⟩ = some (.slice f.l.args.a f.l.args.n f.l.args.c) := (B0.out.cell (p := ⟨b, off + k * 7 + 5, none⟩) hb).trans (hc 5 _ rfl)
      have x6 : v0.cell? ⟨b, off + k * 7 + 6, none⟩ = some (.int .i64 f.l.sent) := (B0.out.cell (p := ⟨b, off + k * 7 + 6, none⟩) hb).trans (hc 6 _ rfl)
      have hix : ∀ W : World, Sem.run Try.prog (Instr.indexAt 24 (.slice s.flights.a s.flights.n s.flights.c) (.int .i64 (k : Int))) W = .ok (.pointer (some ⟨b, off + k * 7, none⟩)) W := by intro W; rw [hA]; go_simp
      have HFK := Lib.hid hfk
      have hn0 : ((k : Int) == (s.flights.n : Int)) = false := by simp; omega
      clear hA hfk hc
      have next : ∀ hg : Ml.onCh x y f = false, ∀ (j : Nat) (z : FlyC), j < k + 1 → σ.fls[j]? = some z → Ml.onCh x y z = false := fun hg j z hj hz => by
        by_cases h : j < k
        · exact HJ.out j z h hz
        · have : j = k := by omega
          subst this
          rw [HFK.out] at hz
          injection hz with hz
          rw [← hz]; exact hg
      have HNX := Lib.hid next
      clear next
      by_cases k1 : f.x = x
      · have t1 : (f.x != x) = false := by simp [k1]
        by_cases k2 : f.y = y
        · have t2 : (f.y != y) = false := by simp [k2]
          have HI : Hid (Ml.arrive σ x y = ((Ml.post { σ with fls := σ.fls.take k ++ σ.fls.drop (k + 1) } f.path f.l).1, f, true)) := Lib.hid (by
            have hg : Ml.onCh x y f = true := by simp [Ml.onCh, k1, k2]
            obtain ⟨hkl, e⟩ := List.getElem?_eq_some_iff.1 HFK.out
            have hi : Ml.idx σ.fls x y = some k := by
              unfold Ml.idx
              rw [List.findIdx?_eq_some_iff_getElem]
              exact ⟨hkl, by rw [e]; exact hg, fun j hj => by have := HJ.out j _ hj (List.getElem?_eq_getElem (by omega)); simpa using this⟩
            unfold Ml.arrive
            rw [hi]
            simp only [HFK.out, Option.getD_some])
          obtain ⟨A', hsl, hrd⟩ := tail24 HF.out hlt HCF.out
          have hhd := head24 HF.out hlt HCF.out
          have RH := Lib.hid (arr_head HF.out hlt)
          have RT := Lib.hid (arr_tail (hrd w w.heap.size HF.out))
          have hw1 : IntKind.i64.wrap ((k : Int) + 1) = (k : Int) + 1 := by rw [IntWalk.i64_left, IntWalk.wrap64_in _ (by omega)]
          clear hrd k1 k2 HNX
          have n1 : ¬ b = v0.heap.size := by have := B0.out.size; omega
          have n2 : b < v0.heap.size := by have := B0.out.size; omega
          have p0 : w.heap.size < v0.heap.size := by omega
          have p1 : w.heap.size + 1 < v0.heap.size := by omega
          have p2 : w.heap.size + 1 + 1 < v0.heap.size := by omega
          obtain ⟨va, hva⟩ : ∃ W, W = v0.alloc (.cells (flyL f).toArray 66) := ⟨_, rfl⟩
          have hza : va.heap.size = v0.heap.size + 1 := by rw [hva]; simp
          have BXa : Hid (BoxAt va v0.heap.size (flyL f)) := Lib.hid (by rw [hva]; exact BoxAt.new _ 66 (flyL f) _ rfl)
          have BSa : Hid (BoxAt va w.heap.size (sysL s)) := Lib.hid (by rw [hva]; exact BS0.out.alloc _)
          have BZa : Hid (BoxAt va (w.heap.size + 1) (sysL sysZ)) := Lib.hid (by rw [hva]; exact BZ0.out.alloc _)
          have BFa : Hid (BoxAt va (w.heap.size + 1 + 1) (flyL flyZ)) := Lib.hid (by rw [hva]; exact BF0.out.alloc _)
          have Ba : Hid (Below w.heap.size w va) := Lib.hid (by rw [hva]; exact B0.out.alloc (by omega) _)
          go_wp2_with (first
            | (at_builtin; refine wpList_append_lit _ 66 rfl (.tmp 53) (.tmp 57) 24 rfl i6 _ 7 96 Try.underlying24 hi6 hz60 hz61 hz62 rfl (by decide) _ rfl (by simp) _ _ _ _ ((σ.fls.take k).flatMap flyL) rfl ((RH.out.up Ba.out).up (by rw [hva]; exact Below.refl _ _)) (Nat.le_refl _) (fly_one _) (by omega) (by omega) ?_; intro u v1 hr2 ho2 h2; have HO2 : Hid (v1.ownsRow va.heap.size 66 7 (.slice u.a k u.c) k ((σ.fls.take k).flatMap flyL)) := Lib.hid (by rw [hva]; exact ho2); have H2 : Hid (Below va.heap.size va v1) := Lib.hid (by rw [hva]; exact h2); clear ho2 hr2 h2; have hz2 := H2.out.size; have B1 := Lib.hid (Below.call Ba.out H2.out); have BS1 := Lib.hid (BSa.out.call H2.out); have BZ1 := Lib.hid (BZa.out.call H2.out); have BF1 := Lib.hid (BFa.out.call H2.out); have BX1 := Lib.hid (BXa.out.call H2.out); clear c0 c1 c2 c3 c4 c5 c6 c7 c8 x0 x1 x2 x3 x4 x5 x6; obtain ⟨c0, c1, c2, c3, c4, c5, c6, c7, c8⟩ := sbox_cells BS1.out)
            | (at_builtin; refine wpList_append_rd _ rfl (.tmp 59) (.tmp 64) 24 rfl va.heap.size 66 i6 _ 7 96 Try.underlying24 hi6 hz60 hz61 hz62 rfl (by decide) (.slice u.a k u.c) k ((σ.fls.take k).flatMap flyL) rfl HO2.out _ A' (s.flights.n - (k + 1)) (s.flights.c - (k + 1)) ((σ.fls.drop (k + 1)).flatMap flyL) rfl (RT.out.up B1.out) (fly_one _) (by rw [ml_val]; omega) (by omega) (by first | omega | (simp; omega) | (simp; done)) ?_; intro v' v2 ho hgr; obtain ⟨m, _, rfl, _⟩ := own_sl ho; have HO3 := Lib.hid ho; have BS2 := Lib.hid (BS1.out.kept_row HO2.out (by omega) hgr); have BZ2 := Lib.hid (BZ1.out.kept_row HO2.out (by omega) hgr); have BF2 := Lib.hid (BF1.out.kept_row HO2.out (by omega) hgr); have BX2 := Lib.hid (BX1.out.kept_row HO2.out (by omega) hgr); have B2 : Hid (Below w.heap.size w v2) := Lib.hid (B1.out.grown hgr (by first | omega | (simp; omega) | (simp; done)) (fun q hq => by have := row_base HO2.out q hq; omega)); have hz3 := B2.out.size; clear ho hgr BS1 BZ1 BF1 BX1 c0 c1 c2 c3 c4 c5 c6 c7 c8; obtain ⟨c0, c1, c2, c3, c4, c5, c6, c7, c8⟩ := sbox_cells BS2.out; obtain ⟨f0, f1, f2, f3, f4, f5, f6, f7, f8⟩ := sbox_free BS2.out; obtain ⟨x0, x1, x2, x3, x4, x5, x6⟩ := fly_cells BX2.out; have m0 : w.heap.size < v2.heap.size := BS2.out.1; have m1 : v0.heap.size < v2.heap.size := BX2.out.1))
          obtain ⟨v3, hv3⟩ : ∃ W, W = v2.setCell ⟨w.heap.size, 5, none⟩ (.slice m.a (k + (s.flights.n - (k + 1))) m.c) := ⟨_, rfl⟩
          have hz4 : v3.heap.size = v2.heap.size := by rw [hv3]; simp
          have hoff3 : Off w.heap.size v2 v3 := by rw [hv3]; exact (Off.refl _ _).set _ _
          have HS3 : Hid (SysR (fun b => (P b ∧ b < w.heap.size) ∨ va.heap.size ≤ b) v3 { s with flights := ⟨m.a, k + (s.flights.n - (k + 1)), m.c⟩ } { σ with fls := σ.fls.take k ++ σ.fls.drop (k + 1) }) := Lib.hid (by
            have ho : v2.ownsRow va.heap.size 66 7 (.slice m.a (k + (s.flights.n - (k + 1))) m.c) (k + (s.flights.n - (k + 1))) ((σ.fls.take k ++ σ.fls.drop (k + 1)).flatMap flyL) := by rw [List.flatMap_append]; exact HO3.out
            exact sysR_refly H.out (by rw [hv3]; exact B2.out.setCell (Nat.le_refl _) _) ho (by omega) hoff3)
          have B3 : Hid (Below w.heap.size w v3) := Lib.hid (by rw [hv3]; exact B2.out.setCell (Nat.le_refl _) _)
          have BZ3 : Hid (BoxAt v3 (w.heap.size + 1) (sysL sysZ)) := Lib.hid (by rw [hv3]; exact BZ2.out.setOther _ _ (by show w.heap.size ≠ _; omega))
          have BF3 : Hid (BoxAt v3 (w.heap.size + 1 + 1) (flyL flyZ)) := Lib.hid (by rw [hv3]; exact BF2.out.setOther _ _ (by show w.heap.size ≠ _; omega))
          have BX3 : Hid (BoxAt v3 v0.heap.size (flyL f)) := Lib.hid (by rw [hv3]; exact BX2.out.setOther _ _ (by show w.heap.size ≠ _; omega))
          rw [← hv3]
          refine (post34 { s with flights := ⟨m.a, k + (s.flights.n - (k + 1)), m.c⟩ } _ f.path f.l v3 HS3.out hna hnu).mono ?_
          rintro e v4 ⟨s1, rfl, hs1, h4⟩
          obtain ⟨τ, ok, hpo⟩ : ∃ τ ok, Ml.post { σ with fls := σ.fls.take k ++ σ.fls.drop (k + 1) } f.path f.l = (τ, ok) := ⟨_, _, rfl⟩
          rw [hpo] at HI hs1 ⊢
          have HR4 := Lib.hid hs1
          have H4 := Lib.hid h4
          have B4 := Lib.hid (Below.call B3.out h4)
          have BZ4 := Lib.hid (BZ3.out.call h4)
          have BF4 := Lib.hid (BF3.out.call h4)
          have BX4 := Lib.hid (BX3.out.call h4)
          have hz5 := h4.size
          clear hs1 h4 hpo hv3 hva hoff3 c0 c1 c2 c3 c4 c5 c6 c7 c8 f0 f1 f2 f3 f4 f5 f6 f7 f8 x0 x1 x2 x3 x4 x5 x6 hix hsl hhd hw1
          dsimp only at HI
          obtain ⟨z0, z1, z2, z3, z4, z5, z6, z7, z8⟩ := sbox_cells BZ4.out
          obtain ⟨y0, y1, y2, y3, y4, y5, y6, y7, y8⟩ := sbox_free BZ4.out
          obtain ⟨q0, q1, q2, q3, q4, q5, q6⟩ := fly_cells BF4.out
          obtain ⟨r0, r1, r2, r3, r4, r5, r6⟩ := fly_free BF4.out
          obtain ⟨x0, x1, x2, x3, x4, x5, x6⟩ := fly_cells BX4.out
          have m2 : w.heap.size + 1 < v4.heap.size := BZ4.out.1
          have m3 : w.heap.size + 1 + 1 < v4.heap.size := BF4.out.1
          have m4 : v0.heap.size < v4.heap.size := BX4.out.1
          have n3 : ¬ v0.heap.size = v4.heap.size := by omega
          have n4 : ¬ w.heap.size + 1 = v4.heap.size := by omega
          have n5 : ¬ w.heap.size + 1 + 1 = v4.heap.size := by omega
          go_wp2_with fail
          obtain ⟨v5, hv5⟩ : ∃ W, W = v4.alloc (.cells #[.slice s1.up.a s1.up.n s1.up.c, .int .i64 s1.moment, .int .i64 s1.clock, .int .i64 s1.seq, .slice s1.actors.a s1.actors.n s1.actors.c, .slice s1.flights.a s1.flights.n s1.flights.c, .slice s1.alarms.a s1.alarms.n s1.alarms.c, .slice s1.asked.a s1.asked.n s1.asked.c, .int .i64 s1.dead] 28) := ⟨_, rfl⟩
          have BY5 : Hid (BoxAt v5 v4.heap.size (sysL s1)) := Lib.hid (by rw [hv5]; exact BoxAt.new _ 28 (sysL s1) _ rfl)
          have BZ5 : Hid (BoxAt v5 (w.heap.size + 1) (sysL sysZ)) := Lib.hid (by rw [hv5]; exact BZ4.out.alloc _)
          have BF5 : Hid (BoxAt v5 (w.heap.size + 1 + 1) (flyL flyZ)) := Lib.hid (by rw [hv5]; exact BF4.out.alloc _)
          have BX5 : Hid (BoxAt v5 v0.heap.size (flyL f)) := Lib.hid (by rw [hv5]; exact BX4.out.alloc _)
          have B5 : Below w.heap.size w v5 := by rw [hv5]; exact B4.out.alloc (by omega) _
          have HR5 := Lib.hid (show SysR _ v5 s1 τ by rw [hv5]; exact HR4.out.below ((Below.refl _ _).alloc (Nat.le_refl _) _))
          rw [← hv5]
          clear hv5 z0 z1 z2 z3 z4 z5 z6 z7 z8 y0 y1 y2 y3 y4 y5 y6 y7 y8 q0 q1 q2 q3 q4 q5 q6 r0 r1 r2 r3 r4 r5 r6 x0 x1 x2 x3 x4 x5 x6
          obtain ⟨c0, c1, c2, c3, c4, c5, c6, c7, c8⟩ := sbox_cells BY5.out
          obtain ⟨z0, z1, z2, z3, z4, z5, z6, z7, z8⟩ := sbox_cells BZ5.out
          obtain ⟨y0, y1, y2, y3, y4, y5, y6, y7, y8⟩ := sbox_free BZ5.out
          obtain ⟨q0, q1, q2, q3, q4, q5, q6⟩ := fly_cells BF5.out
          obtain ⟨r0, r1, r2, r3, r4, r5, r6⟩ := fly_free BF5.out
          obtain ⟨x0, x1, x2, x3, x4, x5, x6⟩ := fly_cells BX5.out
          go_region_held3 (fun w' => w'.cell? ⟨v4.heap.size, 0, none⟩ = some (.slice s1.up.a s1.up.n s1.up.c) ∧ w'.cell? ⟨v4.heap.size, 1, none⟩ = some (.int .i64 s1.moment) ∧ w'.cell? ⟨v4.heap.size, 2, none⟩ = some (.int .i64 s1.clock) ∧ w'.cell? ⟨v4.heap.size, 3, none⟩ = some (.int .i64 s1.seq) ∧ w'.cell? ⟨v4.heap.size, 4, none⟩ = some (.slice s1.actors.a s1.actors.n s1.actors.c) ∧ w'.cell? ⟨v4.heap.size, 5, none⟩ = some (.slice s1.flights.a s1.flights.n s1.flights.c) ∧ w'.cell? ⟨v4.heap.size, 6, none⟩ = some (.slice s1.alarms.a s1.alarms.n s1.alarms.c) ∧ w'.cell? ⟨v4.heap.size, 7, none⟩ = some (.slice s1.asked.a s1.asked.n s1.asked.c) ∧ w'.cell? ⟨v4.heap.size, 8, none⟩ = some (.int .i64 s1.dead) ∧ w'.cell? ⟨v0.heap.size, 0, none⟩ = some (.int .i64 f.x) ∧ w'.cell? ⟨v0.heap.size, 1, none⟩ = some (.int .i64 f.y) ∧ w'.cell? ⟨v0.heap.size, 2, none⟩ = some (.string f.path) ∧ w'.cell? ⟨v0.heap.size, 3, none⟩ = some (.string f.l.src) ∧ w'.cell? ⟨v0.heap.size, 4, none⟩ = some (.string f.l.msg) ∧ w'.cell? ⟨v0.heap.size, 5, none⟩ = some (.slice f.l.args.a f.l.args.n f.l.args.c) ∧ w'.cell? ⟨v0.heap.size, 6, none⟩ = some (.int .i64 f.l.sent)) (simp [go_sem, *]) (fail)
          go_wp2_with fail
          refine bodyPost_ret (v := .tuple #[sysV s1, flyV f, .bool true]) ?_ rfl ?_
          · simp [results, Try.results41, go_sem, *]
          · exact sysFly HI.out (arrive_key (R := w.heap.size + 1) (B0 := va.heap.size) (C0 := v3.heap.size) HR5.out (by omega) (by omega) (by omega) (Off.refl _ _) (by repeat (first | (with_reducible exact Off2.refl _ _ _) | (with_reducible refine Off2.set1 ?_ _ _) | (with_reducible refine Off2.set2 ?_ _ _) | (with_reducible refine Off2.drew ?_)))) (by repeat (first | (with_reducible exact Below.refl _ _) | (with_reducible assumption) | ((with_reducible refine Below.setCell ?_ ?_ _); rotate_left; (focus (first | omega | (simp; omega) | (simp; done)))) | ((with_reducible refine Below.alloc ?_ ?_ _); rotate_left; (focus (first | omega | (simp; omega) | (simp; done)))) | (with_reducible refine Below.drew ?_)))
        · have t2 : (f.y != y) = true := by simp [k2]
          have HN := Lib.hid (HNX.out (by simp [Ml.onCh, k2]))
          clear k1 k2 HNX
          go_wp2_with fail
          go_round
          case rel => exact ⟨k + 1, by omega, by go_num, HN⟩
          case measure => simp [intOf]; omega
      · have t1 : (f.x != x) = true := by simp [k1]
        have HN := Lib.hid (HNX.out (by simp [Ml.onCh, k1]))
        clear k1 HNX
        go_wp2_with fail
        go_round
        case rel => exact ⟨k + 1, by omega, by go_num, HN⟩
        case measure => simp [intOf]; omega
    · obtain rfl : k = s.flights.n := by omega
      have HI : Hid (Ml.arrive σ x y = (σ, flyZ, false)) := Lib.hid (by
        have hi : Ml.idx σ.fls x y = none := by
          unfold Ml.idx
          rw [List.findIdx?_eq_none_iff]
          intro z hz
          obtain ⟨j, hj⟩ := List.getElem?_of_mem hz
          exact HJ.out j z (by have h1 := (List.getElem?_eq_some_iff.1 hj).1; have h2 := HL.out; omega) hj
        unfold Ml.arrive
        rw [hi])
      obtain ⟨z0, z1, z2, z3, z4, z5, z6, z7, z8⟩ := sbox_cells BZ0.out
      obtain ⟨y0, y1, y2, y3, y4, y5, y6, y7, y8⟩ := sbox_free BZ0.out
      obtain ⟨q0, q1, q2, q3, q4, q5, q6⟩ := fly_cells BF0.out
      obtain ⟨r0, r1, r2, r3, r4, r5, r6⟩ := fly_free BF0.out
      go_wp2_with fail
      have hBf : Below w.heap.size w (putFly (putSys v0 (w.heap.size + 1) s) (w.heap.size + 1 + 1) flyZ) := putFly_below (putSys_below B0.out (by omega)) (by omega)
      refine bodyPost_ret (v := .tuple #[sysV s, flyV flyZ, .bool false]) ?_ rfl ?_
      · simp [results, Try.results41, go_sem, flyZ, letZ, *]
      · exact sysFly HI.out ((H.out.below hBf).mono (fun b hb => .inl hb)) hBf
end Go.Proofs.Ytjdjfjokniingaa
