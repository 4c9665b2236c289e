/- The walk of TimerTells. -/
import Derived.Test.YtjdjfjokniingaaUl
namespace Go.Proofs.Ytjdjfjokniingaa
open Go.RowKit

/-- a state in box Z reads as σ; its alarms lie in neither X nor Y -/
def TlAt (X Y : Nat) (s : SysC) (σ : Tm.TS) (Z : Nat) (wr : World) : Prop := ∃ u : Sl, BoxAt wr Z (stL (sysT s σ u)) ∧ Als (fun b => b ≠ X ∧ b ≠ Y) wr u σ.als
section
variable {X Y Z : Nat} {s t : SysC} {σ τ : Tm.TS} {wr W : World}
theorem TlAt.below (h : TlAt X Y s σ Z wr) (hb : Below wr.heap.size wr W) : TlAt X Y s σ Z W := by
  obtain ⟨u, h1, h2⟩ := h
  exact ⟨u, h1.call hb, h2.below hb⟩
theorem TlAt.otherX (h : TlAt X Y s σ Y wr) (hn : X ≠ Y) : TlAt X Y s σ Y (putSt wr X t) := by
  obtain ⟨u, h1, h2⟩ := h
  have off := putSt_off wr X t
  exact ⟨u, putSt_other h1 hn, h2.stay (fun b o hb => off.2 b o hb.1) (Nat.le_of_eq off.1.symm)⟩
theorem TlAt.otherY (h : TlAt X Y s σ X wr) (hn : X ≠ Y) : TlAt X Y s σ X (putSt wr Y t) := by
  obtain ⟨u, h1, h2⟩ := h
  have off := putSt_off wr Y t
  exact ⟨u, putSt_other h1 (Ne.symm hn), h2.stay (fun b o hb => off.2 b o hb.2) (Nat.le_of_eq off.1.symm)⟩
theorem TlAt.putX {u : Sl} (h : BoxAt wr X (stL t)) (ha : Als (fun b => b ≠ X ∧ b ≠ Y) wr u τ.als) : TlAt X Y s τ X (putSt wr X (sysT s τ u)) := by
  have off := putSt_off wr X (sysT s τ u)
  exact ⟨u, putSt_box h, ha.stay (fun b o hb => off.2 b o hb.1) (Nat.le_of_eq off.1.symm)⟩
theorem TlAt.putY {u : Sl} (h : BoxAt wr Y (stL t)) (ha : Als (fun b => b ≠ X ∧ b ≠ Y) wr u τ.als) : TlAt X Y s τ Y (putSt wr Y (sysT s τ u)) := by
  have off := putSt_off wr Y (sysT s τ u)
  exact ⟨u, putSt_box h, ha.stay (fun b o hb => off.2 b o hb.2) (Nat.le_of_eq off.1.symm)⟩
theorem als_near {ats : List AT} {u : Sl} {B : Nat} (h : Als (fun b => (b ≠ X ∧ b ≠ Y) ∨ B ≤ b) wr u ats) (hX : X < B) (hY : Y < B) : Als (fun b => b ≠ X ∧ b ≠ Y) wr u ats := h.mono (fun b hb => by omega)
end
namespace Tm
theorem set_len (σ : TS) (n : Int) (p a b : ByteArray) (ts : List Tr) (x : Int) : (set σ n p a b ts x).als.length = σ.als.length + 1 := by simp [set]
theorem clear_len (σ : TS) (p : ByteArray) : (clear σ p).als.length ≤ σ.als.length := List.length_filter_le _ _
theorem tickD_len (σ : TS) : (tickD σ).length ≤ σ.als.length := by
  unfold tickD
  split
  · exact Nat.zero_le _
  · rw [St.isort_len]; exact List.length_filter_le _ _
theorem tick_len (σ : TS) : (tickS σ).als.length ≤ σ.als.length := by
  unfold tickS
  split
  · exact Nat.le_refl _
  · exact List.length_filter_le _ _
end Tm

set_option linter.unusedSimpArgs false in
set_option linter.unusedVariables false in
set_option maxRecDepth 100000 in
set_option maxHeartbeats 64000000 in
theorem tells3_walk (s : SysC) (ats : List AT) (l : Sl) (ops : List FlyC) (w : World) (hal : Als (fun b => b < w.heap.size) w s.alarms ats) (hst : Still w s) (ho : Rd w w.heap.size 7 l.a l.n (ops.flatMap flyL)) (hd : ∀ o ∈ ops, FlyZ w o) (hln : l.n ≤ 9223372036854775807) :
    Calls Try.prog 3 #[sysV s, .slice l.a l.n l.c] w fun e w' => e = .returned (.bool true) ∧ Below w.heap.size w w' := by
  have A0 := Lib.hid hal
  have ST := Lib.hid hst
  have RO := Lib.hid ho
  have DO := Lib.hid hd
  clear hal hst ho hd
  go_enter Try.func3, Try.ntmps3
  go_wp2_with fail
  refine (small17 _).mono ?_
  rintro e w1 ⟨rfl, hb⟩
  have BS := Lib.hid ((BoxAt.new w 28 (stL s) _ rfl).call hb)
  have HB := Lib.hid (Below.call (below_new w (.cells (stL s).toArray 28)) hb)
  clear hb
  obtain ⟨c0, c1, c2, c3, c4, c5, c6, c7, c8⟩ := st_cells BS.out
  go_wp2_with fail
  refine (few18 s l w1).mono ?_
  rintro e w2 ⟨y, rfl, hy, hb⟩
  replace BS := Lib.hid (BS.out.call hb)
  replace HB := Lib.hid (Below.call HB.out hb)
  clear hb c0 c1 c2 c3 c4 c5 c6 c7 c8
  obtain ⟨c0, c1, c2, c3, c4, c5, c6, c7, c8⟩ := st_cells BS.out
  cases y with
  | false =>
    clear hy
    go_wp2_with fail
    go_ret
    exact ⟨rfl, HB.out⟩
  | true =>
  have FW := hy rfl
  clear hy
  have hl60 := FW.n
  have ha100 := FW.al
  have hw2 : w.heap.size < w2.heap.size := BS.out.1
  go_wp2_with fail
  have X0 : Hid (TlAt w.heap.size w2.heap.size s ⟨s.clock, s.seq, ats⟩ w.heap.size (w2.alloc (.cells (stL s).toArray 28))) := Lib.hid ⟨s.alarms, BS.out.alloc _, (A0.out.below (HB.out.alloc HB.out.size _)).mono (fun b hb => by omega)⟩
  have Y0 : Hid (TlAt w.heap.size w2.heap.size s ⟨s.clock, s.seq, ats⟩ w2.heap.size (w2.alloc (.cells (stL s).toArray 28))) := Lib.hid ⟨s.alarms, BoxAt.new w2 28 (stL s) _ rfl, (A0.out.below (HB.out.alloc HB.out.size _)).mono (fun b hb => by omega)⟩
  have HB0 := Lib.hid (HB.out.alloc HB.out.size (.cells (stL s).toArray 28))
  obtain ⟨Y, hY⟩ : ∃ Y, Y = w2.heap.size := ⟨_, rfl⟩
  rw [← hY] at X0 Y0 hw2 ⊢
  obtain ⟨v0, hv0⟩ : ∃ W, W = w2.alloc (.cells (stL s).toArray 28) := ⟨_, rfl⟩
  rw [← hv0] at X0 Y0 HB0
  have hal0 : ats.length ≤ 100 := by rw [A0.out.len]; exact ha100
  clear BS HB FW c0 c1 c2 c3 c4 c5 c6 c7 c8 hY
  go_loopw [7] (fun i wr => ∃ (k : Nat) (σ : Tm.TS), k ≤ l.n ∧ i = .int .i64 k ∧ σ.als.length ≤ 100 + k ∧ (TlAt w.heap.size Y s σ w.heap.size wr ∧ TlAt w.heap.size Y s σ Y wr) ∧ Below w.heap.size w wr) (fun i _ => l.n - (intOf i).toNat)
  case atStart => exact ⟨0, ⟨s.clock, s.seq, ats⟩, Nat.zero_le _, rfl, by omega, by rw [hv0] at X0 Y0; exact ⟨X0.out, Y0.out⟩, by rw [hv0] at HB0; exact HB0.out⟩
  case round =>
    obtain ⟨k, σ, hk, rfl, hkl, ⟨hX, hYY⟩, hB⟩ := hrel
    clear X0 Y0 HB0 hv0
    obtain ⟨u, hbx, hax⟩ := hX
    obtain ⟨v, hby, hay⟩ := hYY
    have BX := Lib.hid hbx
    have BY := Lib.hid hby
    have AX := Lib.hid hax
    have AY := Lib.hid hay
    have HB := Lib.hid hB
    have hYs := hby.1
    clear hbx hby hax hay hB
    have hun : u.n ≤ 200 := by rw [← AX.out.len]; omega
    have hvn : v.n ≤ 200 := by rw [← AY.out.len]; omega
    by_cases hlt : k < l.n
    · obtain ⟨b, off, f, hA, hb, hfk, hcl⟩ := RO.out.at_ (fun _ => rfl) (by omega) hlt
      have x0 : wr.cell? ⟨b, off + k * 7, none⟩ = some (.int .i64 f.x) := (HB.out.cell (p := ⟨b, off + k * 7, none⟩) hb).trans (hcl 0 _ rfl)
      have x1 : wr.cell? ⟨b, off + k * 7 + 1, none⟩ = some (.int .i64 f.y) := (HB.out.cell (p := ⟨b, off + k * 7 + 1, none⟩) hb).trans (hcl 1 _ rfl)
      have x2 : wr.cell? ⟨b, off + k * 7 + 2, none⟩ = some (.string f.path) := (HB.out.cell (p := ⟨b, off + k * 7 + 2, none⟩) hb).trans (hcl 2 _ rfl)
      have x3 : wr.cell? ⟨b, off + k * 7 + 3, none⟩ = some (.string f.l.src) := (HB.out.cell (p := ⟨b, off + k * 7 + 3, none⟩) hb).trans (hcl 3 _ rfl)
      have x4 : wr.cell? ⟨b, off + k * 7 + 4, none⟩ = some (.string f.l.msg) := (HB.out.cell (p := ⟨b, off + k * 7 + 4, none⟩) hb).trans (hcl 4 _ rfl)
      have x5 : wr.cell? ⟨b, off + k * 7 + 5, none⟩ = some (.slice f.l.args.a f.l.args.n f.l.args.c) := (HB.out.cell (p := ⟨b, off + k * 7 + 5, none⟩) hb).trans (hcl 5 _ rfl)
      have x6 : wr.cell? ⟨b, off + k * 7 + 6, none⟩ = some (.int .i64 f.l.sent) := (HB.out.cell (p := ⟨b, off + k * 7 + 6, none⟩) hb).trans (hcl 6 _ rfl)
      have hix : ∀ W : World, Sem.run Try.prog (Instr.indexAt 29 (.slice l.a l.n l.c) (.int .i64 (k : Int))) W = .ok (.pointer (some ⟨b, off + k * 7, none⟩)) W := by intro W; rw [hA]; go_simp
      have hlv : VR (fun b => b ≠ w.heap.size ∧ b ≠ Y) wr f.l.args (DO.out f (List.mem_of_getElem? hfk)).2.choose := ((DO.out f (List.mem_of_getElem? hfk)).2.choose_spec.below HB.out).mono (fun b hb => by omega)
      obtain ⟨ts, hts⟩ : ∃ ts, ts = (DO.out f (List.mem_of_getElem? hfk)).2.choose := ⟨_, rfl⟩
      rw [← hts] at hlv
      have HL := Lib.hid hlv
      clear hA hfk hcl hlv hts
      have n1 : ¬ b = wr.heap.size := by omega
      have n2 : b < wr.heap.size := by omega
      have n3 : ¬ w.heap.size = wr.heap.size := by omega
      have n4 : ¬ Y = wr.heap.size := by omega
      have n5 : ¬ w.heap.size = Y := by omega
      have n6 : ¬ wr.heap.size = w.heap.size := by omega
      have n7 : ¬ wr.heap.size = Y := by omega
      have n8 : ¬ Y = w.heap.size := by omega
      cases t0 : (bits BinOp.and IntKind.i64 f.x 3 == 0) with
      | true =>
        have n9 : w.heap.size < wr.heap.size := BX.out.1
        have BXz := BX.out.alloc (.cells (flyL f).toArray 36)
        have BYz := BY.out.alloc (.cells (flyL f).toArray 36)
        have AXz := AX.out.below (below_new wr (.cells (flyL f).toArray 36))
        have AYz := AY.out.below (below_new wr (.cells (flyL f).toArray 36))
        have HBz := HB.out.alloc HB.out.size (.cells (flyL f).toArray 36)
        obtain ⟨c0, c1, c2, c3, c4, c5, c6, c7, c8⟩ := st_cells BX.out
        go_wp2_with fail
        refine (set19 (P := fun b => b ≠ w.heap.size ∧ b ≠ Y) (sysT s σ u) σ f.y f.path f.l ts (wr.alloc (.cells (flyL f).toArray 36)) ⟨AXz, rfl, rfl⟩ (HL.out.below (below_new wr _)) (by show u.n ≤ 1000000; omega)).mono ?_
        rintro e w3 ⟨ux, rfl, ha3, hb3⟩
        have AX3 := Lib.hid (als_near ha3 (by simp; omega) (by simp; omega))
        have AY3 := Lib.hid (AYz.below hb3)
        have BX3 := Lib.hid (BXz.call hb3)
        have BY3 := Lib.hid (BYz.call hb3)
        have BZ3 := Lib.hid ((BoxAt.new wr 36 (flyL f) _ rfl).call hb3)
        have HLW := Lib.hid ((HL.out.below (below_new wr (.cells (flyL f).toArray 36))).below hb3)
        have HB3 := Lib.hid (Below.call HBz hb3)
        have hz3 := hb3.size
        simp at hz3
        clear ha3 hb3 AXz AYz BXz BYz HBz c0 c1 c2 c3 c4 c5 c6 c7 c8 x0 x1 x2 x3 x4 x5 x6
        obtain ⟨c0, c1, c2, c3, c4, c5, c6, c7, c8⟩ := st_cells BX3.out
        obtain ⟨f0, f1, f2, f3, f4, f5, f6, f7, f8⟩ := st_free BX3.out
        obtain ⟨d0, d1, d2, d3, d4, d5, d6, d7, d8⟩ := st_cells BY3.out
        obtain ⟨z0, z1, z2, z3, z4, z5, z6⟩ := fbox_cells BZ3.out
        go_wp2_with fail
        have off4 := putSt_off w3 w.heap.size (sysT s (Tm.set σ f.y f.path f.l.src f.l.msg ts f.l.sent) ux)
        have AX4 := AX3.out.stay (W := putSt w3 w.heap.size (sysT s (Tm.set σ f.y f.path f.l.src f.l.msg ts f.l.sent) ux)) (fun b o hb => off4.2 b o hb.1) (Nat.le_of_eq off4.1.symm)
        have AY4 := AY3.out.stay (W := putSt w3 w.heap.size (sysT s (Tm.set σ f.y f.path f.l.src f.l.msg ts f.l.sent) ux)) (fun b o hb => off4.2 b o hb.1) (Nat.le_of_eq off4.1.symm)
        have BX4 := putSt_box (s := sysT s (Tm.set σ f.y f.path f.l.src f.l.msg ts f.l.sent) ux) BX3.out
        have BY4 := putSt_other (s := sysT s (Tm.set σ f.y f.path f.l.src f.l.msg ts f.l.sent) ux) BY3.out n5
        have HB4 : Below w.heap.size w (putSt w3 w.heap.size (sysT s (Tm.set σ f.y f.path f.l.src f.l.msg ts f.l.sent) ux)) := putSt_below HB3.out (Nat.le_refl _)
        refine (set20 (P := fun b => b ≠ w.heap.size ∧ b ≠ Y) (sysT s σ v) σ f.y f.path f.l ts (putSt w3 w.heap.size (sysT s (Tm.set σ f.y f.path f.l.src f.l.msg ts f.l.sent) ux)) ⟨AY4, rfl, rfl⟩ (HLW.out.stay (W := putSt w3 w.heap.size (sysT s (Tm.set σ f.y f.path f.l.src f.l.msg ts f.l.sent) ux)) (fun b o hb => off4.2 b o hb.1) (Nat.le_of_eq off4.1.symm)) (by show v.n ≤ 1000000; omega)).mono ?_
        rintro e w5 ⟨vy, rfl, ha5, hb5⟩
        have AY5 := Lib.hid (als_near ha5 (by rw [off4.1]; omega) (by rw [off4.1]; omega))
        have AX5 := Lib.hid (AX4.below hb5)
        have BX5 := Lib.hid (BX4.call hb5)
        have BY5 := Lib.hid (BY4.call hb5)
        have HB5 := Lib.hid (Below.call HB4 hb5)
        clear ha5 hb5 AX4 AY4 BX4 BY4 HB4 off4 c0 c1 c2 c3 c4 c5 c6 c7 c8 f0 f1 f2 f3 f4 f5 f6 f7 f8 d0 d1 d2 d3 d4 d5 d6 d7 d8 z0 z1 z2 z3 z4 z5 z6
        obtain ⟨c0, c1, c2, c3, c4, c5, c6, c7, c8⟩ := st_cells BX5.out
        obtain ⟨d0, d1, d2, d3, d4, d5, d6, d7, d8⟩ := st_cells BY5.out
        obtain ⟨f0, f1, f2, f3, f4, f5, f6, f7, f8⟩ := st_free BY5.out
        go_wp2_with fail
        have off6 := putSt_off w5 Y (sysT s (Tm.set σ f.y f.path f.l.src f.l.msg ts f.l.sent) vy)
        have AXW := AX5.out.stay (W := putSt w5 Y (sysT s (Tm.set σ f.y f.path f.l.src f.l.msg ts f.l.sent) vy)) (fun b o hb => off6.2 b o hb.2) (Nat.le_of_eq off6.1.symm)
        have AYW := AY5.out.stay (W := putSt w5 Y (sysT s (Tm.set σ f.y f.path f.l.src f.l.msg ts f.l.sent) vy)) (fun b o hb => off6.2 b o hb.2) (Nat.le_of_eq off6.1.symm)
        have BXW := putSt_other (s := sysT s (Tm.set σ f.y f.path f.l.src f.l.msg ts f.l.sent) vy) BX5.out n8
        have BYW := putSt_box (s := sysT s (Tm.set σ f.y f.path f.l.src f.l.msg ts f.l.sent) vy) BY5.out
        have HBW : Below w.heap.size w (putSt w5 Y (sysT s (Tm.set σ f.y f.path f.l.src f.l.msg ts f.l.sent) vy)) := putSt_below HB5.out (by omega)
        clear off6 c0 c1 c2 c3 c4 c5 c6 c7 c8 d0 d1 d2 d3 d4 d5 d6 d7 d8 f0 f1 f2 f3 f4 f5 f6 f7 f8
        refine (same_still s ((Tm.set σ f.y f.path f.l.src f.l.msg ts f.l.sent)).clock ((Tm.set σ f.y f.path f.l.src f.l.msg ts f.l.sent)).seq ux vy ((Tm.set σ f.y f.path f.l.src f.l.msg ts f.l.sent)).als _ (ST.out.below HBW) AXW AYW (by rw [← AXW.len]; rw [Tm.set_len]; omega)).mono ?_
        rintro e w9 ⟨rfl, hb9⟩
        have TX9 := Lib.hid (TlAt.below ⟨ux, BXW, AXW⟩ hb9)
        have TY9 := Lib.hid (TlAt.below ⟨vy, BYW, AYW⟩ hb9)
        have HB9 := Lib.hid (Below.call HBW hb9)
        clear hb9 BXW BYW AXW AYW HBW
        go_wp2_with fail
        go_roundw
        case rel => exact ⟨k + 1, (Tm.set σ f.y f.path f.l.src f.l.msg ts f.l.sent), by omega, by go_num, by rw [Tm.set_len]; omega, ⟨TX9.out, TY9.out⟩, HB9.out⟩
        case measure => simp [intOf]; omega
      | false =>
        cases t1 : (bits BinOp.and IntKind.i64 f.x 3 == 1) with
        | true =>
          have n9 : w.heap.size < wr.heap.size := BX.out.1
          have BXz := BX.out.alloc (.cells (flyL f).toArray 36)
          have BYz := BY.out.alloc (.cells (flyL f).toArray 36)
          have AXz := AX.out.below (below_new wr (.cells (flyL f).toArray 36))
          have AYz := AY.out.below (below_new wr (.cells (flyL f).toArray 36))
          have HBz := HB.out.alloc HB.out.size (.cells (flyL f).toArray 36)
          obtain ⟨c0, c1, c2, c3, c4, c5, c6, c7, c8⟩ := st_cells BX.out
          go_wp2_with fail
          refine (set19 (P := fun b => b ≠ w.heap.size ∧ b ≠ Y) (sysT s σ u) σ f.y f.path f.l ts (wr.alloc (.cells (flyL f).toArray 36)) ⟨AXz, rfl, rfl⟩ (HL.out.below (below_new wr _)) (by show u.n ≤ 1000000; omega)).mono ?_
          rintro e w3 ⟨ux, rfl, ha3, hb3⟩
          have AX3 := Lib.hid (als_near ha3 (by simp; omega) (by simp; omega))
          have AY3 := Lib.hid (AYz.below hb3)
          have BX3 := Lib.hid (BXz.call hb3)
          have BY3 := Lib.hid (BYz.call hb3)
          have BZ3 := Lib.hid ((BoxAt.new wr 36 (flyL f) _ rfl).call hb3)
          have HLW := Lib.hid ((HL.out.below (below_new wr (.cells (flyL f).toArray 36))).below hb3)
          have HB3 := Lib.hid (Below.call HBz hb3)
          have hz3 := hb3.size
          simp at hz3
          clear ha3 hb3 AXz AYz BXz BYz HBz c0 c1 c2 c3 c4 c5 c6 c7 c8 x0 x1 x2 x3 x4 x5 x6
          obtain ⟨c0, c1, c2, c3, c4, c5, c6, c7, c8⟩ := st_cells BX3.out
          obtain ⟨f0, f1, f2, f3, f4, f5, f6, f7, f8⟩ := st_free BX3.out
          obtain ⟨d0, d1, d2, d3, d4, d5, d6, d7, d8⟩ := st_cells BY3.out
          obtain ⟨z0, z1, z2, z3, z4, z5, z6⟩ := fbox_cells BZ3.out
          go_wp2_with fail
          have off4 := putSt_off w3 w.heap.size (sysT s (Tm.set σ f.y f.path f.l.src f.l.msg ts f.l.sent) ux)
          have AX4 := AX3.out.stay (W := putSt w3 w.heap.size (sysT s (Tm.set σ f.y f.path f.l.src f.l.msg ts f.l.sent) ux)) (fun b o hb => off4.2 b o hb.1) (Nat.le_of_eq off4.1.symm)
          have AY4 := AY3.out.stay (W := putSt w3 w.heap.size (sysT s (Tm.set σ f.y f.path f.l.src f.l.msg ts f.l.sent) ux)) (fun b o hb => off4.2 b o hb.1) (Nat.le_of_eq off4.1.symm)
          have BX4 := putSt_box (s := sysT s (Tm.set σ f.y f.path f.l.src f.l.msg ts f.l.sent) ux) BX3.out
          have BY4 := putSt_other (s := sysT s (Tm.set σ f.y f.path f.l.src f.l.msg ts f.l.sent) ux) BY3.out n5
          have HB4 : Below w.heap.size w (putSt w3 w.heap.size (sysT s (Tm.set σ f.y f.path f.l.src f.l.msg ts f.l.sent) ux)) := putSt_below HB3.out (Nat.le_refl _)
          refine (set20 (P := fun b => b ≠ w.heap.size ∧ b ≠ Y) (sysT s σ v) σ f.y f.path f.l ts (putSt w3 w.heap.size (sysT s (Tm.set σ f.y f.path f.l.src f.l.msg ts f.l.sent) ux)) ⟨AY4, rfl, rfl⟩ (HLW.out.stay (W := putSt w3 w.heap.size (sysT s (Tm.set σ f.y f.path f.l.src f.l.msg ts f.l.sent) ux)) (fun b o hb => off4.2 b o hb.1) (Nat.le_of_eq off4.1.symm)) (by show v.n ≤ 1000000; omega)).mono ?_
          rintro e w5 ⟨vy, rfl, ha5, hb5⟩
          have AY5 := Lib.hid (als_near ha5 (by rw [off4.1]; omega) (by rw [off4.1]; omega))
          have AX5 := Lib.hid (AX4.below hb5)
          have BX5 := Lib.hid (BX4.call hb5)
          have BY5 := Lib.hid (BY4.call hb5)
          have HB5 := Lib.hid (Below.call HB4 hb5)
          clear ha5 hb5 AX4 AY4 BX4 BY4 HB4 off4 c0 c1 c2 c3 c4 c5 c6 c7 c8 f0 f1 f2 f3 f4 f5 f6 f7 f8 d0 d1 d2 d3 d4 d5 d6 d7 d8 z0 z1 z2 z3 z4 z5 z6
          obtain ⟨c0, c1, c2, c3, c4, c5, c6, c7, c8⟩ := st_cells BX5.out
          obtain ⟨d0, d1, d2, d3, d4, d5, d6, d7, d8⟩ := st_cells BY5.out
          obtain ⟨f0, f1, f2, f3, f4, f5, f6, f7, f8⟩ := st_free BY5.out
          go_wp2_with fail
          have off6 := putSt_off w5 Y (sysT s (Tm.set σ f.y f.path f.l.src f.l.msg ts f.l.sent) vy)
          have AXW := AX5.out.stay (W := putSt w5 Y (sysT s (Tm.set σ f.y f.path f.l.src f.l.msg ts f.l.sent) vy)) (fun b o hb => off6.2 b o hb.2) (Nat.le_of_eq off6.1.symm)
          have AYW := AY5.out.stay (W := putSt w5 Y (sysT s (Tm.set σ f.y f.path f.l.src f.l.msg ts f.l.sent) vy)) (fun b o hb => off6.2 b o hb.2) (Nat.le_of_eq off6.1.symm)
          have BXW := putSt_other (s := sysT s (Tm.set σ f.y f.path f.l.src f.l.msg ts f.l.sent) vy) BX5.out n8
          have BYW := putSt_box (s := sysT s (Tm.set σ f.y f.path f.l.src f.l.msg ts f.l.sent) vy) BY5.out
          have HBW : Below w.heap.size w (putSt w5 Y (sysT s (Tm.set σ f.y f.path f.l.src f.l.msg ts f.l.sent) vy)) := putSt_below HB5.out (by omega)
          clear off6 c0 c1 c2 c3 c4 c5 c6 c7 c8 d0 d1 d2 d3 d4 d5 d6 d7 d8 f0 f1 f2 f3 f4 f5 f6 f7 f8
          refine (same_still s ((Tm.set σ f.y f.path f.l.src f.l.msg ts f.l.sent)).clock ((Tm.set σ f.y f.path f.l.src f.l.msg ts f.l.sent)).seq ux vy ((Tm.set σ f.y f.path f.l.src f.l.msg ts f.l.sent)).als _ (ST.out.below HBW) AXW AYW (by rw [← AXW.len]; rw [Tm.set_len]; omega)).mono ?_
          rintro e w9 ⟨rfl, hb9⟩
          have TX9 := Lib.hid (TlAt.below ⟨ux, BXW, AXW⟩ hb9)
          have TY9 := Lib.hid (TlAt.below ⟨vy, BYW, AYW⟩ hb9)
          have HB9 := Lib.hid (Below.call HBW hb9)
          clear hb9 BXW BYW AXW AYW HBW
          go_wp2_with fail
          go_roundw
          case rel => exact ⟨k + 1, (Tm.set σ f.y f.path f.l.src f.l.msg ts f.l.sent), by omega, by go_num, by rw [Tm.set_len]; omega, ⟨TX9.out, TY9.out⟩, HB9.out⟩
          case measure => simp [intOf]; omega
        | false =>
          cases t2 : (bits BinOp.and IntKind.i64 f.x 3 == 2) with
          | true =>
            have n9 : w.heap.size < wr.heap.size := BX.out.1
            have BXz := BX.out.alloc (.cells (flyL f).toArray 36)
            have BYz := BY.out.alloc (.cells (flyL f).toArray 36)
            have AXz := AX.out.below (below_new wr (.cells (flyL f).toArray 36))
            have AYz := AY.out.below (below_new wr (.cells (flyL f).toArray 36))
            have HBz := HB.out.alloc HB.out.size (.cells (flyL f).toArray 36)
            obtain ⟨c0, c1, c2, c3, c4, c5, c6, c7, c8⟩ := st_cells BX.out
            go_wp2_with fail
            refine (tick21 (P := fun b => b ≠ w.heap.size ∧ b ≠ Y) (sysT s σ u) σ (wr.alloc (.cells (flyL f).toArray 36)) ⟨AXz, rfl, rfl⟩ (by show u.n ≤ 100000; omega)).mono ?_
            rintro e w3 ⟨ux, d1', rfl, ha3, he3, hb3⟩
            have AX3 := Lib.hid (als_near ha3 (by simp; omega) (by simp; omega))
            have D3 := Lib.hid he3
            have AY3 := Lib.hid (AYz.below hb3)
            have BX3 := Lib.hid (BXz.call hb3)
            have BY3 := Lib.hid (BYz.call hb3)
            have HB3 := Lib.hid (Below.call HBz hb3)
            have hz3 := hb3.size
            simp at hz3
            clear ha3 he3 hb3 AXz AYz BXz BYz HBz c0 c1 c2 c3 c4 c5 c6 c7 c8 x0 x1 x2 x3 x4 x5 x6
            obtain ⟨d0, d1, d2, d3, d4, d5, d6, d7, d8⟩ := st_cells BY3.out
            have m1 : ¬ Y = w3.heap.size := by omega
            have m7 : w.heap.size < w3.heap.size := by omega
            have m8 : Y < w3.heap.size := by omega
            have m2 : ¬ w.heap.size = w3.heap.size := by omega
            go_wp2_with fail
            have hw3 := HB3.out.size
            have BT3 := BoxAt.new w3 28 (stL (sysT s (Tm.tickS σ) ux)) _ rfl
            refine (tick22 (P := fun b => b ≠ w.heap.size ∧ b ≠ Y) (sysT s σ v) σ (w3.alloc (.cells (stL (sysT s (Tm.tickS σ) ux)).toArray 28)) ⟨AY3.out.below (below_new w3 _), rfl, rfl⟩ (by show v.n ≤ 100000; omega)).mono ?_
            rintro e w5 ⟨vy, d2', rfl, ha5, he5, hb5⟩
            have AY5 := Lib.hid (als_near ha5 (by simp; omega) (by simp; omega))
            have AX5 := Lib.hid ((AX3.out.below (below_new w3 _)).below hb5)
            have D5 := Lib.hid ((D3.out.below (below_new w3 _)).below hb5)
            have E5 := Lib.hid he5
            have BX5 := Lib.hid ((BX3.out.alloc _).call hb5)
            have BY5 := Lib.hid ((BY3.out.alloc _).call hb5)
            have BT5 := Lib.hid (BT3.call hb5)
            have HB5 := Lib.hid (Below.call (HB3.out.alloc hw3 _) hb5)
            have hz5 := hb5.size
            simp at hz5
            have hdn : d1'.n ≤ 9223372036854775807 := by rw [← D5.out.len]; have := Tm.tickD_len σ; omega
            have m9 : w.heap.size < w5.heap.size := by omega
            have m10 : Y < w5.heap.size := by omega
            have m11 : w3.heap.size < w5.heap.size := by omega
            clear ha5 he5 hb5 BT3 d0 d1 d2 d3 d4 d5 d6 d7 d8
            go_wp2_with fail
            have hw5 := HB5.out.size
            have BU5 := BoxAt.new w5 28 (stL (sysT s (Tm.tickS σ) vy)) _ rfl
            refine (alarms23 d1' d2' (Tm.tickD σ) _ (D5.out.below (below_new w5 (.cells (stL (sysT s (Tm.tickS σ) vy)).toArray 28))) (E5.out.below (below_new w5 _)) hdn).mono ?_
            rintro e w6 ⟨rfl, hb6⟩
            have AX6 := Lib.hid ((AX5.out.below (below_new w5 _)).below hb6)
            have AY6 := Lib.hid ((AY5.out.below (below_new w5 _)).below hb6)
            have BX6 := Lib.hid ((BX5.out.alloc _).call hb6)
            have BY6 := Lib.hid ((BY5.out.alloc _).call hb6)
            have BT6 := Lib.hid ((BT5.out.alloc _).call hb6)
            have BU6 := Lib.hid (BU5.call hb6)
            have HB6 := Lib.hid (Below.call (HB5.out.alloc hw5 _) hb6)
            have hz6 := hb6.size
            simp at hz6
            clear hb6 BU5 D3 D5 E5
            obtain ⟨c0, c1, c2, c3, c4, c5, c6, c7, c8⟩ := st_cells BX6.out
            obtain ⟨f0, f1, f2, f3, f4, f5, f6, f7, f8⟩ := st_free BX6.out
            obtain ⟨d0, d1, d2, d3, d4, d5, d6, d7, d8⟩ := st_cells BY6.out
            obtain ⟨g0, g1, g2, g3, g4, g5, g6, g7, g8⟩ := st_free BY6.out
            obtain ⟨p0, p1, p2, p3, p4, p5, p6, p7, p8⟩ := st_cells BT6.out
            obtain ⟨q0, q1, q2, q3, q4, q5, q6, q7, q8⟩ := st_cells BU6.out
            have m3 : ¬ w3.heap.size = w.heap.size := by omega
            have m4 : ¬ w5.heap.size = w.heap.size := by omega
            have m5 : ¬ w3.heap.size = Y := by omega
            have m6 : ¬ w5.heap.size = Y := by omega
            go_wp2_with fail
            have off4 := putSt_off w6 w.heap.size (sysT s (Tm.tickS σ) ux)
            have AX7 := AX6.out.stay (W := putSt w6 w.heap.size (sysT s (Tm.tickS σ) ux)) (fun b o hb => off4.2 b o hb.1) (Nat.le_of_eq off4.1.symm)
            have AY7 := AY6.out.stay (W := putSt w6 w.heap.size (sysT s (Tm.tickS σ) ux)) (fun b o hb => off4.2 b o hb.1) (Nat.le_of_eq off4.1.symm)
            have BX7 := putSt_box (s := sysT s (Tm.tickS σ) ux) BX6.out
            have BY7 := putSt_other (s := sysT s (Tm.tickS σ) ux) BY6.out n5
            have HB7 : Below w.heap.size w (putSt w6 w.heap.size (sysT s (Tm.tickS σ) ux)) := putSt_below HB6.out (Nat.le_refl _)
            have off6 := putSt_off (putSt w6 w.heap.size (sysT s (Tm.tickS σ) ux)) Y (sysT s (Tm.tickS σ) vy)
            have AXW := AX7.stay (W := putSt (putSt w6 w.heap.size (sysT s (Tm.tickS σ) ux)) Y (sysT s (Tm.tickS σ) vy)) (fun b o hb => off6.2 b o hb.2) (Nat.le_of_eq off6.1.symm)
            have AYW := AY7.stay (W := putSt (putSt w6 w.heap.size (sysT s (Tm.tickS σ) ux)) Y (sysT s (Tm.tickS σ) vy)) (fun b o hb => off6.2 b o hb.2) (Nat.le_of_eq off6.1.symm)
            have BXW := putSt_other (s := sysT s (Tm.tickS σ) vy) BX7 n8
            have BYW := putSt_box (s := sysT s (Tm.tickS σ) vy) BY7
            have HBW : Below w.heap.size w (putSt (putSt w6 w.heap.size (sysT s (Tm.tickS σ) ux)) Y (sysT s (Tm.tickS σ) vy)) := putSt_below HB7 (by omega)
            clear off4 off6 AX7 AY7 BX7 BY7 HB7 c0 c1 c2 c3 c4 c5 c6 c7 c8 d0 d1 d2 d3 d4 d5 d6 d7 d8 f0 f1 f2 f3 f4 f5 f6 f7 f8 g0 g1 g2 g3 g4 g5 g6 g7 g8 p0 p1 p2 p3 p4 p5 p6 p7 p8 q0 q1 q2 q3 q4 q5 q6 q7 q8
            refine (same_still s ((Tm.tickS σ)).clock ((Tm.tickS σ)).seq ux vy ((Tm.tickS σ)).als _ (ST.out.below HBW) AXW AYW (by rw [← AXW.len]; have := Tm.tick_len σ; omega)).mono ?_
            rintro e w9 ⟨rfl, hb9⟩
            have TX9 := Lib.hid (TlAt.below ⟨ux, BXW, AXW⟩ hb9)
            have TY9 := Lib.hid (TlAt.below ⟨vy, BYW, AYW⟩ hb9)
            have HB9 := Lib.hid (Below.call HBW hb9)
            clear hb9 BXW BYW AXW AYW HBW
            go_wp2_with fail
            go_roundw
            case rel => exact ⟨k + 1, (Tm.tickS σ), by omega, by go_num, by have := Tm.tick_len σ; omega, ⟨TX9.out, TY9.out⟩, HB9.out⟩
            case measure => simp [intOf]; omega
          | false =>
            have n9 : w.heap.size < wr.heap.size := BX.out.1
            have BXz := BX.out.alloc (.cells (flyL f).toArray 36)
            have BYz := BY.out.alloc (.cells (flyL f).toArray 36)
            have AXz := AX.out.below (below_new wr (.cells (flyL f).toArray 36))
            have AYz := AY.out.below (below_new wr (.cells (flyL f).toArray 36))
            have HBz := HB.out.alloc HB.out.size (.cells (flyL f).toArray 36)
            obtain ⟨c0, c1, c2, c3, c4, c5, c6, c7, c8⟩ := st_cells BX.out
            go_wp2_with fail
            refine (clear24 (P := fun b => b ≠ w.heap.size ∧ b ≠ Y) (sysT s σ u) σ f.path (wr.alloc (.cells (flyL f).toArray 36)) ⟨AXz, rfl, rfl⟩ (by show u.n ≤ 1000000; omega)).mono ?_
            rintro e w3 ⟨ux, rfl, ha3, hb3⟩
            have AX3 := Lib.hid (als_near ha3 (by simp; omega) (by simp; omega))
            have AY3 := Lib.hid (AYz.below hb3)
            have BX3 := Lib.hid (BXz.call hb3)
            have BY3 := Lib.hid (BYz.call hb3)
            have BZ3 := Lib.hid ((BoxAt.new wr 36 (flyL f) _ rfl).call hb3)
            have HLW := Lib.hid ((HL.out.below (below_new wr (.cells (flyL f).toArray 36))).below hb3)
            have HB3 := Lib.hid (Below.call HBz hb3)
            have hz3 := hb3.size
            simp at hz3
            clear ha3 hb3 AXz AYz BXz BYz HBz c0 c1 c2 c3 c4 c5 c6 c7 c8 x0 x1 x2 x3 x4 x5 x6
            obtain ⟨c0, c1, c2, c3, c4, c5, c6, c7, c8⟩ := st_cells BX3.out
            obtain ⟨f0, f1, f2, f3, f4, f5, f6, f7, f8⟩ := st_free BX3.out
            obtain ⟨d0, d1, d2, d3, d4, d5, d6, d7, d8⟩ := st_cells BY3.out
            obtain ⟨z0, z1, z2, z3, z4, z5, z6⟩ := fbox_cells BZ3.out
            go_wp2_with fail
            have off4 := putSt_off w3 w.heap.size (sysT s (Tm.clear σ f.path) ux)
            have AX4 := AX3.out.stay (W := putSt w3 w.heap.size (sysT s (Tm.clear σ f.path) ux)) (fun b o hb => off4.2 b o hb.1) (Nat.le_of_eq off4.1.symm)
            have AY4 := AY3.out.stay (W := putSt w3 w.heap.size (sysT s (Tm.clear σ f.path) ux)) (fun b o hb => off4.2 b o hb.1) (Nat.le_of_eq off4.1.symm)
            have BX4 := putSt_box (s := sysT s (Tm.clear σ f.path) ux) BX3.out
            have BY4 := putSt_other (s := sysT s (Tm.clear σ f.path) ux) BY3.out n5
            have HB4 : Below w.heap.size w (putSt w3 w.heap.size (sysT s (Tm.clear σ f.path) ux)) := putSt_below HB3.out (Nat.le_refl _)
            refine (clear25 (P := fun b => b ≠ w.heap.size ∧ b ≠ Y) (sysT s σ v) σ f.path (putSt w3 w.heap.size (sysT s (Tm.clear σ f.path) ux)) ⟨AY4, rfl, rfl⟩ (by show v.n ≤ 1000000; omega)).mono ?_
            rintro e w5 ⟨vy, rfl, ha5, hb5⟩
            have AY5 := Lib.hid (als_near ha5 (by rw [off4.1]; omega) (by rw [off4.1]; omega))
            have AX5 := Lib.hid (AX4.below hb5)
            have BX5 := Lib.hid (BX4.call hb5)
            have BY5 := Lib.hid (BY4.call hb5)
            have HB5 := Lib.hid (Below.call HB4 hb5)
            clear ha5 hb5 AX4 AY4 BX4 BY4 HB4 off4 c0 c1 c2 c3 c4 c5 c6 c7 c8 f0 f1 f2 f3 f4 f5 f6 f7 f8 d0 d1 d2 d3 d4 d5 d6 d7 d8 z0 z1 z2 z3 z4 z5 z6
            obtain ⟨c0, c1, c2, c3, c4, c5, c6, c7, c8⟩ := st_cells BX5.out
            obtain ⟨d0, d1, d2, d3, d4, d5, d6, d7, d8⟩ := st_cells BY5.out
            obtain ⟨f0, f1, f2, f3, f4, f5, f6, f7, f8⟩ := st_free BY5.out
            go_wp2_with fail
            have off6 := putSt_off w5 Y (sysT s (Tm.clear σ f.path) vy)
            have AXW := AX5.out.stay (W := putSt w5 Y (sysT s (Tm.clear σ f.path) vy)) (fun b o hb => off6.2 b o hb.2) (Nat.le_of_eq off6.1.symm)
            have AYW := AY5.out.stay (W := putSt w5 Y (sysT s (Tm.clear σ f.path) vy)) (fun b o hb => off6.2 b o hb.2) (Nat.le_of_eq off6.1.symm)
            have BXW := putSt_other (s := sysT s (Tm.clear σ f.path) vy) BX5.out n8
            have BYW := putSt_box (s := sysT s (Tm.clear σ f.path) vy) BY5.out
            have HBW : Below w.heap.size w (putSt w5 Y (sysT s (Tm.clear σ f.path) vy)) := putSt_below HB5.out (by omega)
            clear off6 c0 c1 c2 c3 c4 c5 c6 c7 c8 d0 d1 d2 d3 d4 d5 d6 d7 d8 f0 f1 f2 f3 f4 f5 f6 f7 f8
            refine (same_still s ((Tm.clear σ f.path)).clock ((Tm.clear σ f.path)).seq ux vy ((Tm.clear σ f.path)).als _ (ST.out.below HBW) AXW AYW (by rw [← AXW.len]; have := Tm.clear_len σ f.path; omega)).mono ?_
            rintro e w9 ⟨rfl, hb9⟩
            have TX9 := Lib.hid (TlAt.below ⟨ux, BXW, AXW⟩ hb9)
            have TY9 := Lib.hid (TlAt.below ⟨vy, BYW, AYW⟩ hb9)
            have HB9 := Lib.hid (Below.call HBW hb9)
            clear hb9 BXW BYW AXW AYW HBW
            go_wp2_with fail
            go_roundw
            case rel => exact ⟨k + 1, (Tm.clear σ f.path), by omega, by go_num, by have := Tm.clear_len σ f.path; omega, ⟨TX9.out, TY9.out⟩, HB9.out⟩
            case measure => simp [intOf]; omega
    · go_wp2_with fail
      go_ret
      exact ⟨rfl, HB.out⟩
end Go.Proofs.Ytjdjfjokniingaa
