/- The walk of TimerFires. -/
import Derived.Test.YtjdjfjokniingaaUo
namespace Go.Proofs.Ytjdjfjokniingaa
open Go.RowKit

/-- an alarm that is expected, as TimerFires keeps it -/
abbrev dueL (a : AT) : List Value := [.int .i64 a.x, .int .i64 a.sent, .string a.src]
theorem info45 : (Try.prog.info? 45).map (fun i => (i.zero, i.size, i.bytes)) = some (some (.agg #[.int .i64 0, .int .i64 0, .string ⟨#[]⟩]), 3, 32) := by kernel_rfl
abbrev ApX (X : Nat) (v : Value) (b : Nat) : Prop := b ≠ X ∧ v.ownBlock ≠ some b
/-- the state in box X reads as σ, and the row v holds the alarms that are expected -/
structure FrAt (w : World) (X : Nat) (σ : Tm.TS) (v : Value) (wr : World) : Prop where
  b : Below w.heap.size w wr
  st : ∃ u : Sl, BoxAt wr X (stL (sysT stZ σ u)) ∧ Als (ApX X v) wr u σ.als
  row : wr.ownsRow (X + 1) 45 3 v σ.als.length (σ.als.flatMap dueL)
  x : w.heap.size ≤ X
theorem own_putSt {w : World} {base e k n X : Nat} {v : Value} {xs : List Value} {s : SysC} (h : w.ownsRow base e k v n xs) (hn : v.ownBlock ≠ some X) : (putSt w X s).ownsRow base e k v n xs :=
  own_set_other (own_set_other (own_set_other (own_set_other (own_set_other (own_set_other (own_set_other (own_set_other (own_set_other h _ _ hn) _ _ hn) _ _ hn) _ _ hn) _ _ hn) _ _ hn) _ _ hn) _ _ hn) _ _ hn
theorem Als.grown {P : Nat → Prop} {w W : World} {u : Sl} {ats : List AT} {row : Option Nat} (h : Als P w u ats) (hg : w.grownBy W row) (hP : ∀ b, P b → some b ≠ row) : Als (fun b => P b ∧ b < w.heap.size) W u ats :=
  h.low.stay (fun b o hb => World.cell?_of_block (a := ⟨b, o, none⟩) (hg.block b hb.2 (hP b hb.1))) hg.size
theorem FrAt.below {w : World} {X : Nat} {σ : Tm.TS} {v : Value} {wr W : World} (h : FrAt w X σ v wr) (hb : Below wr.heap.size wr W) : FrAt w X σ v W := by
  obtain ⟨h1, ⟨u, h2, h3⟩, h4, h5⟩ := h
  exact ⟨Below.call h1 hb, ⟨u, h2.call hb, h3.below hb⟩, own_below h4 hb, h5⟩
set_option linter.unusedSimpArgs false in
set_option linter.unusedVariables false in
set_option maxRecDepth 100000 in
set_option maxHeartbeats 64000000 in
theorem fires4_walk (l : Sl) (ops : List FlyC) (w : World) (ho : Rd w w.heap.size 7 l.a l.n (ops.flatMap flyL)) (hd : ∀ o ∈ ops, FlyZ w o) (hln : l.n ≤ 9223372036854775807) :
    Calls Try.prog 4 #[.slice l.a l.n l.c] w fun e w' => e = .returned (.bool true) ∧ Below w.heap.size w w' := by
  have RO := Lib.hid ho
  have DO := Lib.hid hd
  clear ho hd
  obtain ⟨i45, hi45, hy0, hy1, hy2⟩ := info_parts info45
  go_enter Try.func4, Try.ntmps4
  go_wp2_with fail
  refine (small17 _).mono ?_
  rintro e w1 ⟨rfl, hb⟩
  have HB1 := Lib.hid hb
  clear hb
  go_wp2_with fail
  have hw1 := HB1.out.size
  have BX1 := BoxAt.new w1 28 (stL stZ) _ rfl
  refine (few18 stZ l (w1.alloc (.cells (stL stZ).toArray 28))).mono ?_
  rintro e w2 ⟨y, rfl, hy, hb⟩
  have BX := Lib.hid (BX1.call hb)
  have HB := Lib.hid (Below.call (HB1.out.alloc hw1 (.cells (stL stZ).toArray 28)) hb)
  clear hb BX1 HB1
  cases y with
  | false =>
    clear hy
    go_wp2_with fail
    go_ret
    exact ⟨rfl, HB.out⟩
  | true =>
  have hl60 := (hy rfl).n
  clear hy
  obtain ⟨X, hX⟩ : ∃ X, X = w1.heap.size := ⟨_, rfl⟩
  rw [← hX] at BX hw1 ⊢
  clear hX
  go_wp2_with fail
  have F0 : Hid (FrAt w X ⟨0, 0, []⟩ (.slice none 0 0) w2) := Lib.hid ⟨HB.out, ⟨⟨none, 0, 0⟩, BX.out, Als.none_⟩, World.ownsRow_nil _ _ _ _, hw1⟩
  clear BX HB
  go_loopw [5, 6] (fun v i wr => ∃ (k : Nat) (σ : Tm.TS), k ≤ l.n ∧ i = .int .i64 k ∧ Tm.Inv σ k ∧ FrAt w X σ v wr) (fun _ i _ => l.n - (intOf i).toNat)
  case atStart => exact ⟨0, _, Nat.zero_le _, rfl, Tm.Inv.zero, F0.out⟩
  case round =>
    clear F0
    obtain ⟨k, σ, hk, rfl, hI, hF⟩ := hrel
    have IV := Lib.hid hI
    have hc0 := hI.c0
    have hc1 := hI.c1
    have hlen := hI.len
    obtain ⟨hB, ⟨u, hbx, hax⟩, hrw, hXw⟩ := hF
    obtain ⟨n, hn⟩ : ∃ n, n = σ.als.length := ⟨_, rfl⟩
    rw [← hn] at hrw hlen
    have HN := Lib.hid hn
    have HB := Lib.hid hB
    have BX := Lib.hid hbx
    have AX := Lib.hid hax
    have RW := Lib.hid hrw
    have hXs := hbx.1
    have hun2 : u.n ≤ 100 := by rw [← hax.len]; omega
    obtain ⟨ov, _, hov2, _⟩ := own_sl hrw
    subst hov2
    clear hI hB hbx hax hrw hn
    by_cases hlt : k < l.n
    · obtain ⟨b, off, f, hA, hb, hfk, hcl⟩ := RO.out.at_ (fun _ => rfl) (by omega) hlt
      have x0 : wr.cell? ⟨b, off + k * 7, none⟩ = some (.int .i64 f.x) := (HB.out.cell (p := ⟨b, off + k * 7, none⟩) hb).trans (hcl 0 _ rfl)
      have x1 : wr.cell? ⟨b, off + k * 7 + 1, none⟩ = some (.int .i64 f.y) := (HB.out.cell (p := ⟨b, off + k * 7 + 1, none⟩) hb).trans (hcl 1 _ rfl)
      have x2 : wr.cell? ⟨b, off + k * 7 + 2, none⟩ = some (.string f.path) := (HB.out.cell (p := ⟨b, off + k * 7 + 2, none⟩) hb).trans (hcl 2 _ rfl)
      have x3 : wr.cell? ⟨b, off + k * 7 + 3, none⟩ = some (.string f.l.src) := (HB.out.cell (p := ⟨b, off + k * 7 + 3, none⟩) hb).trans (hcl 3 _ rfl)
      have x4 : wr.cell? ⟨b, off + k * 7 + 4, none⟩ = some (.string f.l.msg) := (HB.out.cell (p := ⟨b, off + k * 7 + 4, none⟩) hb).trans (hcl 4 _ rfl)
      have x5 : wr.cell? ⟨b, off + k * 7 + 5, none⟩ = some (.slice f.l.args.a f.l.args.n f.l.args.c) := (HB.out.cell (p := ⟨b, off + k * 7 + 5, none⟩) hb).trans (hcl 5 _ rfl)
      have x6 : wr.cell? ⟨b, off + k * 7 + 6, none⟩ = some (.int .i64 f.l.sent) := (HB.out.cell (p := ⟨b, off + k * 7 + 6, none⟩) hb).trans (hcl 6 _ rfl)
      have hix : ∀ W : World, Sem.run Try.prog (Instr.indexAt 29 (.slice l.a l.n l.c) (.int .i64 (k : Int))) W = .ok (.pointer (some ⟨b, off + k * 7, none⟩)) W := by intro W; rw [hA]; go_simp
      obtain ⟨ts, hts⟩ := (DO.out f (List.mem_of_getElem? hfk)).2
      have HL := Lib.hid (hts.below HB.out)
      clear hA hfk hcl hts
      have n1 : ¬ b = wr.heap.size := by omega
      have n2 : b < wr.heap.size := by omega
      have n3 : ¬ X = wr.heap.size := by omega
      have n4 : ¬ wr.heap.size = X := by omega
      obtain ⟨c0, c1, c2, c3, c4, c5, c6, c7, c8⟩ := st_cells BX.out
      cases t0 : (bits BinOp.and IntKind.i64 f.x 3 == 0) with
      | true =>
        have hown : ∀ g, (Value.slice ov.a n ov.c).ownBlock = some g → X + 1 ≤ g ∧ g < wr.heap.size := fun g hg => ⟨row_base RW.out g hg, own_in RW.out hg⟩
        have HOWN := Lib.hid hown
        have AXz := AX.out.below (below_new wr (.cells (flyL (⟨f.x, f.y, f.path, ⟨f.l.src, f.l.msg, f.l.args, (k : Int)⟩⟩ : FlyC)).toArray 36))
        have hlz : VR (ApX X (.slice ov.a n ov.c)) (wr.alloc (.cells (flyL (⟨f.x, f.y, f.path, ⟨f.l.src, f.l.msg, f.l.args, (k : Int)⟩⟩ : FlyC)).toArray 36)) f.l.args ts := (HL.out.below (below_new wr _)).mono (fun b hb => ⟨by omega, fun e => by have := (hown b e).1; omega⟩)
        have BXz := BX.out.alloc (.cells (flyL (⟨f.x, f.y, f.path, ⟨f.l.src, f.l.msg, f.l.args, (k : Int)⟩⟩ : FlyC)).toArray 36)
        have RWz := RW.out.alloc (.cells (flyL (⟨f.x, f.y, f.path, ⟨f.l.src, f.l.msg, f.l.args, (k : Int)⟩⟩ : FlyC)).toArray 36)
        have HBz := HB.out.alloc HB.out.size (.cells (flyL (⟨f.x, f.y, f.path, ⟨f.l.src, f.l.msg, f.l.args, (k : Int)⟩⟩ : FlyC)).toArray 36)
        clear hown
        go_wp2_with fail
        refine (set19 (P := ApX X (.slice ov.a n ov.c)) (sysT stZ σ u) σ f.y f.path ⟨f.l.src, f.l.msg, f.l.args, (k : Int)⟩ ts (wr.alloc (.cells (flyL (⟨f.x, f.y, f.path, ⟨f.l.src, f.l.msg, f.l.args, (k : Int)⟩⟩ : FlyC)).toArray 36)) ⟨AXz, rfl, rfl⟩ hlz (by show u.n ≤ 1000000; omega)).mono ?_
        rintro e w3 ⟨⟨xa, xn, xc⟩, rfl, ha3, hb3⟩
        have hxn : xn = n + 1 := by have h1 := ha3.len; have h2 := HN.out; simp [Tm.set] at h1; omega
        subst hxn
        have AX3 : Hid (Als (ApX X (.slice ov.a n ov.c)) w3 ⟨xa, n + 1, xc⟩ (Tm.set σ f.y f.path f.l.src f.l.msg ts (k : Int)).als) := Lib.hid (ha3.mono (fun b hb => by
          rcases hb with hb | hb
          · exact hb
          · simp at hb
            exact ⟨by omega, fun e => by have := (HOWN.out b e).2; omega⟩))
        have BX3 := Lib.hid (BXz.call hb3)
        have BZ3 := Lib.hid ((BoxAt.new wr 36 (flyL (⟨f.x, f.y, f.path, ⟨f.l.src, f.l.msg, f.l.args, (k : Int)⟩⟩ : FlyC)) _ rfl).call hb3)
        have RW3 := Lib.hid (own_below RWz hb3)
        have HB3 := Lib.hid (Below.call HBz hb3)
        have hz3 := hb3.size
        simp at hz3
        have n5 : X < w3.heap.size := BX3.out.1
        have n6 : wr.heap.size < w3.heap.size := BZ3.out.1
        clear ha3 hb3 AXz hlz BXz RWz HBz c0 c1 c2 c3 c4 c5 c6 c7 c8 x0 x1 x2 x3 x4 x5 x6
        obtain ⟨c0, c1, c2, c3, c4, c5, c6, c7, c8⟩ := st_cells BX3.out
        obtain ⟨f0, f1, f2, f3, f4, f5, f6, f7, f8⟩ := st_free BX3.out
        obtain ⟨z0, z1, z2, z3, z4, z5, z6⟩ := fbox_cells BZ3.out
        go_wp2_with (at_builtin; obtain ⟨W4, hW4⟩ : ∃ W, W = putSt w3 X (sysT stZ (Tm.set σ f.y f.path f.l.src f.l.msg ts (k : Int)) ⟨xa, n + 1, xc⟩) := ⟨_, rfl⟩; show wpList Try.prog _ _ _ _ (World.alloc (putSt w3 X (sysT stZ (Tm.set σ f.y f.path f.l.src f.l.msg ts (k : Int)) ⟨xa, n + 1, xc⟩)) _); rw [← hW4]; have off4 : Off X w3 W4 := (by rw [hW4]; exact putSt_off w3 X (sysT stZ (Tm.set σ f.y f.path f.l.src f.l.msg ts (k : Int)) ⟨xa, n + 1, xc⟩)); have AX4 := AX3.out.stay (W := W4) (fun b o hb => off4.2 b o hb.1) (Nat.le_of_eq off4.1.symm); have RW4 : W4.ownsRow (X + 1) 45 3 (.slice ov.a n ov.c) n (σ.als.flatMap dueL) := (by rw [hW4]; exact own_putSt (s := (sysT stZ (Tm.set σ f.y f.path f.l.src f.l.msg ts (k : Int)) ⟨xa, n + 1, xc⟩)) RW3.out (own_ne (R := X) RW3.out (by omega))); have BX4 : BoxAt W4 X (stL (sysT stZ (Tm.set σ f.y f.path f.l.src f.l.msg ts (k : Int)) ⟨xa, n + 1, xc⟩)) := (by rw [hW4]; exact putSt_box (s := (sysT stZ (Tm.set σ f.y f.path f.l.src f.l.msg ts (k : Int)) ⟨xa, n + 1, xc⟩)) BX3.out); have HB4 : Below w.heap.size w W4 := (by rw [hW4]; exact putSt_below HB3.out hXw); have hs4 := off4.1; clear hW4 off4; have hz4 := HB4.size; refine wpList_append_own3 _ rfl (.tmp 75) (.tmp 88) 43 rfl (X + 1) 45 i45 _ 3 32 Try.underlying43 hi45 hy0 hy1 hy2 rfl (by decide) _ _ _ rfl (RW4.alloc _) ⟨w3.heap.size, 0, none⟩ 1 1 [.int .i64 (wrap64 (σ.clock + Tm.span f.y)), .int .i64 (k : Int), .string f.l.src] rfl rfl (cells_new0 _ _ _ _ hs4) (by simp [Value.oneCell']) (by rw [ml_val]; omega) (by omega) (by simp; omega) (by omega) ?_; intro v' w5 ho hgr hbl; have BX5 := Lib.hid ((BX4.alloc _).kept_row (RW4.alloc _) (by omega) hgr); have HB5 : Hid (Below w.heap.size w w5) := Lib.hid ((HB4.alloc hz4 _).grown hgr (by simp; omega) (fun q hq => by have := row_base RW4 q hq; omega)); have AX5 : Hid (Als (ApX X v') w5 ⟨xa, n + 1, xc⟩ (Tm.set σ f.y f.path f.l.src f.l.msg ts (k : Int)).als) := Lib.hid (((AX4.below (below_new _ _)).grown hgr (fun b hb e => hb.2 e.symm)).mono (fun b hb => ⟨hb.1.1, fun e => by rcases hbl with h | h; exact hb.1.2 (h ▸ e); exact Nat.not_le.2 hb.2 (h b e)⟩)); have RW5 := Lib.hid ho; obtain ⟨ow, _, hov2, _⟩ := own_sl ho; subst hov2; clear ho hgr hbl AX4 RW4 BX4 HB4 hs4 hz4 c0 c1 c2 c3 c4 c5 c6 c7 c8 f0 f1 f2 f3 f4 f5 f6 f7 f8 z0 z1 z2 z3 z4 z5 z6; obtain ⟨c0, c1, c2, c3, c4, c5, c6, c7, c8⟩ := st_cells BX5.out)
        go_roundw
        case rel => exact ⟨k + 1, (Tm.set σ f.y f.path f.l.src f.l.msg ts (k : Int)), by omega, by go_num, IV.out.set (by omega) _ _ _ _ _ _, ⟨HB5.out, ⟨⟨xa, n + 1, xc⟩, BX5.out, AX5.out⟩, by rw [show (Tm.set σ f.y f.path f.l.src f.l.msg ts (k : Int)).als.length = n + 1 from by have := HN.out; simp [Tm.set]; omega, show (Tm.set σ f.y f.path f.l.src f.l.msg ts (k : Int)).als.flatMap dueL = σ.als.flatMap dueL ++ [.int .i64 (wrap64 (σ.clock + Tm.span f.y)), .int .i64 (k : Int), .string f.l.src] from by simp [Tm.set]]; exact RW5.out, hXw⟩⟩
        case measure => simp [intOf]; omega
      | false =>
      cases t1 : (bits BinOp.and IntKind.i64 f.x 3 == 1) with
      | true =>
        have hown : ∀ g, (Value.slice ov.a n ov.c).ownBlock = some g → X + 1 ≤ g ∧ g < wr.heap.size := fun g hg => ⟨row_base RW.out g hg, own_in RW.out hg⟩
        have HOWN := Lib.hid hown
        have AXz := AX.out.below (below_new wr (.cells (flyL (⟨f.x, f.y, f.path, ⟨f.l.src, f.l.msg, f.l.args, (k : Int)⟩⟩ : FlyC)).toArray 36))
        have hlz : VR (ApX X (.slice ov.a n ov.c)) (wr.alloc (.cells (flyL (⟨f.x, f.y, f.path, ⟨f.l.src, f.l.msg, f.l.args, (k : Int)⟩⟩ : FlyC)).toArray 36)) f.l.args ts := (HL.out.below (below_new wr _)).mono (fun b hb => ⟨by omega, fun e => by have := (hown b e).1; omega⟩)
        have BXz := BX.out.alloc (.cells (flyL (⟨f.x, f.y, f.path, ⟨f.l.src, f.l.msg, f.l.args, (k : Int)⟩⟩ : FlyC)).toArray 36)
        have RWz := RW.out.alloc (.cells (flyL (⟨f.x, f.y, f.path, ⟨f.l.src, f.l.msg, f.l.args, (k : Int)⟩⟩ : FlyC)).toArray 36)
        have HBz := HB.out.alloc HB.out.size (.cells (flyL (⟨f.x, f.y, f.path, ⟨f.l.src, f.l.msg, f.l.args, (k : Int)⟩⟩ : FlyC)).toArray 36)
        clear hown
        go_wp2_with fail
        refine (set19 (P := ApX X (.slice ov.a n ov.c)) (sysT stZ σ u) σ f.y f.path ⟨f.l.src, f.l.msg, f.l.args, (k : Int)⟩ ts (wr.alloc (.cells (flyL (⟨f.x, f.y, f.path, ⟨f.l.src, f.l.msg, f.l.args, (k : Int)⟩⟩ : FlyC)).toArray 36)) ⟨AXz, rfl, rfl⟩ hlz (by show u.n ≤ 1000000; omega)).mono ?_
        rintro e w3 ⟨⟨xa, xn, xc⟩, rfl, ha3, hb3⟩
        have hxn : xn = n + 1 := by have h1 := ha3.len; have h2 := HN.out; simp [Tm.set] at h1; omega
        subst hxn
        have AX3 : Hid (Als (ApX X (.slice ov.a n ov.c)) w3 ⟨xa, n + 1, xc⟩ (Tm.set σ f.y f.path f.l.src f.l.msg ts (k : Int)).als) := Lib.hid (ha3.mono (fun b hb => by
          rcases hb with hb | hb
          · exact hb
          · simp at hb
            exact ⟨by omega, fun e => by have := (HOWN.out b e).2; omega⟩))
        have BX3 := Lib.hid (BXz.call hb3)
        have BZ3 := Lib.hid ((BoxAt.new wr 36 (flyL (⟨f.x, f.y, f.path, ⟨f.l.src, f.l.msg, f.l.args, (k : Int)⟩⟩ : FlyC)) _ rfl).call hb3)
        have RW3 := Lib.hid (own_below RWz hb3)
        have HB3 := Lib.hid (Below.call HBz hb3)
        have hz3 := hb3.size
        simp at hz3
        have n5 : X < w3.heap.size := BX3.out.1
        have n6 : wr.heap.size < w3.heap.size := BZ3.out.1
        clear ha3 hb3 AXz hlz BXz RWz HBz c0 c1 c2 c3 c4 c5 c6 c7 c8 x0 x1 x2 x3 x4 x5 x6
        obtain ⟨c0, c1, c2, c3, c4, c5, c6, c7, c8⟩ := st_cells BX3.out
        obtain ⟨f0, f1, f2, f3, f4, f5, f6, f7, f8⟩ := st_free BX3.out
        obtain ⟨z0, z1, z2, z3, z4, z5, z6⟩ := fbox_cells BZ3.out
        go_wp2_with (at_builtin; obtain ⟨W4, hW4⟩ : ∃ W, W = putSt w3 X (sysT stZ (Tm.set σ f.y f.path f.l.src f.l.msg ts (k : Int)) ⟨xa, n + 1, xc⟩) := ⟨_, rfl⟩; show wpList Try.prog _ _ _ _ (World.alloc (putSt w3 X (sysT stZ (Tm.set σ f.y f.path f.l.src f.l.msg ts (k : Int)) ⟨xa, n + 1, xc⟩)) _); rw [← hW4]; have off4 : Off X w3 W4 := (by rw [hW4]; exact putSt_off w3 X (sysT stZ (Tm.set σ f.y f.path f.l.src f.l.msg ts (k : Int)) ⟨xa, n + 1, xc⟩)); have AX4 := AX3.out.stay (W := W4) (fun b o hb => off4.2 b o hb.1) (Nat.le_of_eq off4.1.symm); have RW4 : W4.ownsRow (X + 1) 45 3 (.slice ov.a n ov.c) n (σ.als.flatMap dueL) := (by rw [hW4]; exact own_putSt (s := (sysT stZ (Tm.set σ f.y f.path f.l.src f.l.msg ts (k : Int)) ⟨xa, n + 1, xc⟩)) RW3.out (own_ne (R := X) RW3.out (by omega))); have BX4 : BoxAt W4 X (stL (sysT stZ (Tm.set σ f.y f.path f.l.src f.l.msg ts (k : Int)) ⟨xa, n + 1, xc⟩)) := (by rw [hW4]; exact putSt_box (s := (sysT stZ (Tm.set σ f.y f.path f.l.src f.l.msg ts (k : Int)) ⟨xa, n + 1, xc⟩)) BX3.out); have HB4 : Below w.heap.size w W4 := (by rw [hW4]; exact putSt_below HB3.out hXw); have hs4 := off4.1; clear hW4 off4; have hz4 := HB4.size; refine wpList_append_own3 _ rfl (.tmp 75) (.tmp 88) 43 rfl (X + 1) 45 i45 _ 3 32 Try.underlying43 hi45 hy0 hy1 hy2 rfl (by decide) _ _ _ rfl (RW4.alloc _) ⟨w3.heap.size, 0, none⟩ 1 1 [.int .i64 (wrap64 (σ.clock + Tm.span f.y)), .int .i64 (k : Int), .string f.l.src] rfl rfl (cells_new0 _ _ _ _ hs4) (by simp [Value.oneCell']) (by rw [ml_val]; omega) (by omega) (by simp; omega) (by omega) ?_; intro v' w5 ho hgr hbl; have BX5 := Lib.hid ((BX4.alloc _).kept_row (RW4.alloc _) (by omega) hgr); have HB5 : Hid (Below w.heap.size w w5) := Lib.hid ((HB4.alloc hz4 _).grown hgr (by simp; omega) (fun q hq => by have := row_base RW4 q hq; omega)); have AX5 : Hid (Als (ApX X v') w5 ⟨xa, n + 1, xc⟩ (Tm.set σ f.y f.path f.l.src f.l.msg ts (k : Int)).als) := Lib.hid (((AX4.below (below_new _ _)).grown hgr (fun b hb e => hb.2 e.symm)).mono (fun b hb => ⟨hb.1.1, fun e => by rcases hbl with h | h; exact hb.1.2 (h ▸ e); exact Nat.not_le.2 hb.2 (h b e)⟩)); have RW5 := Lib.hid ho; obtain ⟨ow, _, hov2, _⟩ := own_sl ho; subst hov2; clear ho hgr hbl AX4 RW4 BX4 HB4 hs4 hz4 c0 c1 c2 c3 c4 c5 c6 c7 c8 f0 f1 f2 f3 f4 f5 f6 f7 f8 z0 z1 z2 z3 z4 z5 z6; obtain ⟨c0, c1, c2, c3, c4, c5, c6, c7, c8⟩ := st_cells BX5.out)
        go_roundw
        case rel => exact ⟨k + 1, (Tm.set σ f.y f.path f.l.src f.l.msg ts (k : Int)), by omega, by go_num, IV.out.set (by omega) _ _ _ _ _ _, ⟨HB5.out, ⟨⟨xa, n + 1, xc⟩, BX5.out, AX5.out⟩, by rw [show (Tm.set σ f.y f.path f.l.src f.l.msg ts (k : Int)).als.length = n + 1 from by have := HN.out; simp [Tm.set]; omega, show (Tm.set σ f.y f.path f.l.src f.l.msg ts (k : Int)).als.flatMap dueL = σ.als.flatMap dueL ++ [.int .i64 (wrap64 (σ.clock + Tm.span f.y)), .int .i64 (k : Int), .string f.l.src] from by simp [Tm.set]]; exact RW5.out, hXw⟩⟩
        case measure => simp [intOf]; omega
      | false =>
      cases t2 : (bits BinOp.and IntKind.i64 f.x 3 == 2) with
      | true =>
        have hk60 : k ≤ 60 := by omega
        have hown : ∀ g, (Value.slice ov.a n ov.c).ownBlock = some g → X + 1 ≤ g ∧ g < wr.heap.size := fun g hg => ⟨row_base RW.out g hg, own_in RW.out hg⟩
        have HOWN := Lib.hid hown
        have AXz := AX.out.below (below_new wr (.cells (flyL f).toArray 36))
        have BXz := BX.out.alloc (.cells (flyL f).toArray 36)
        have RWz := RW.out.alloc (.cells (flyL f).toArray 36)
        have HBz := HB.out.alloc HB.out.size (.cells (flyL f).toArray 36)
        have C0 : Calls Try.prog 21 #[sysV (sysT stZ σ u)] (wr.alloc (.cells (flyL f).toArray 36)) (fun e w' => ∃ (xa : Option Addr) (xc : Nat) (dv : Sl), e = .returned (.tuple #[sysV (sysT stZ ⟨σ.clock + 1, σ.seq, σ.als.filter (fun a => !decide (a.x = σ.clock + 1))⟩ ⟨xa, (σ.als.filter (fun a => !decide (a.x = σ.clock + 1))).length, xc⟩), .slice dv.a dv.n dv.c]) ∧ Als (fun b => ApX X (.slice ov.a n ov.c) b ∨ ((wr.alloc (.cells (flyL f).toArray 36))).heap.size ≤ b) w' ⟨xa, (σ.als.filter (fun a => !decide (a.x = σ.clock + 1))).length, xc⟩ (σ.als.filter (fun a => !decide (a.x = σ.clock + 1))) ∧ Als (fun _ => True) w' dv (σ.als.filter (fun a => decide (a.x = σ.clock + 1))) ∧ Below ((wr.alloc (.cells (flyL f).toArray 36))).heap.size (wr.alloc (.cells (flyL f).toArray 36)) w') := (tick21 (P := ApX X (.slice ov.a n ov.c)) (sysT stZ σ u) σ (wr.alloc (.cells (flyL f).toArray 36)) ⟨AXz, rfl, rfl⟩ (by show u.n ≤ 100000; omega)).mono fun e w' h => by
          obtain ⟨⟨xa, xn, xc⟩, dv, h0, h1, h2, h3⟩ := h
          rw [IV.out.tickS hk60] at h0 h1
          rw [IV.out.tickD hk60] at h2
          obtain rfl : (σ.als.filter (fun a => !decide (a.x = σ.clock + 1))).length = xn := h1.len
          exact ⟨xa, xc, dv, h0, h1, h2.mono (fun _ _ => trivial), h3⟩
        obtain ⟨L2, hL2⟩ : ∃ L, L = σ.als.filter (fun a => !decide (a.x = σ.clock + 1)) := ⟨_, rfl⟩
        rw [← hL2] at C0
        have HL2 := Lib.hid hL2
        have hL2n : L2.length ≤ 100 := by rw [hL2]; exact Nat.le_trans (List.length_filter_le _ _) (by have := HN.out; omega)
        have C := Lib.hid C0
        clear hown hL2 C0
        go_wp2_with fail
        refine C.out.mono ?_
        rintro e w3 ⟨xa, xc, dv, rfl, ha3, hd3, hb3⟩
        have AX3 := Lib.hid ((ha3.mono (Q := fun b => b ≠ X) (fun b hb => by
          rcases hb with hb | hb
          · exact hb.1
          · simp at hb; omega)).low)
        have DV3 := Lib.hid hd3
        have BX3 := Lib.hid (BXz.call hb3)
        have RW3 := Lib.hid (own_below RWz hb3)
        have HB3 := Lib.hid (Below.call HBz hb3)
        clear C ha3 hd3 hb3 AXz BXz RWz HBz c0 c1 c2 c3 c4 c5 c6 c7 c8 x0 x1 x2 x3 x4 x5 x6 hix n1 n2 n3 n4 hXs
        have n5 : X < w3.heap.size := BX3.out.1
        go_wp2_with fail
        have hw3 := HB3.out.size
        obtain ⟨vz, hvz⟩ : ∃ W, W = w3.alloc (.cells (stL (sysT stZ ⟨σ.clock + 1, σ.seq, L2⟩ ⟨xa, L2.length, xc⟩)).toArray 28) := ⟨_, rfl⟩
        have hbl : Below w3.heap.size w3 vz := by rw [hvz]; exact below_new w3 _
        have BT4 : Hid (BoxAt vz w3.heap.size (stL (sysT stZ ⟨σ.clock + 1, σ.seq, L2⟩ ⟨xa, L2.length, xc⟩))) := Lib.hid (by rw [hvz]; exact BoxAt.new w3 28 _ _ rfl)
        have AX4 : Hid (Als (fun b => b ≠ X ∧ b < vz.heap.size) vz ⟨xa, L2.length, xc⟩ L2) := Lib.hid ((AX3.out.below hbl).mono (fun b hb => ⟨hb.1, Nat.lt_of_lt_of_le hb.2 hbl.size⟩))
        have DV4 := Lib.hid (DV3.out.below hbl)
        have BX4 := Lib.hid (BX3.out.call hbl)
        have RW4 := Lib.hid (own_below RW3.out hbl)
        have HB4 := Lib.hid (Below.call HB3.out hbl)
        have n6 : X < vz.heap.size := BX4.out.1
        have n7 : w3.heap.size < vz.heap.size := BT4.out.1
        clear hbl BX AX RW HL AX3 DV3 BX3 RW3
        go_loopw [10, 11, 12] (fun vr vk vj wv => ∃ j m : Nat, j ≤ n ∧ vj = .int .i64 j ∧ vk = .int .i64 m ∧ Hid (m = ((σ.als.take j).filter (fun a => decide (a.x = σ.clock + 1))).length) ∧ m ≤ j ∧ wv.ownsRow vz.heap.size 45 3 vr ((σ.als.take j).filter (fun a => !decide (a.x = σ.clock + 1))).length (((σ.als.take j).filter (fun a => !decide (a.x = σ.clock + 1))).flatMap dueL) ∧ Below vz.heap.size vz wv) (fun _ _ vj _ => n - (intOf vj).toNat)
        case atStart => exact ⟨0, 0, Nat.zero_le _, rfl, rfl, Lib.hid rfl, Nat.le_refl _, World.ownsRow_nil _ _ _ _, by rw [hvz]; exact Below.refl _ _⟩
        case round =>
          clear hvz
          obtain ⟨j, m, hj, rfl, rfl, HMJ, hmj, hrr, hBv⟩ := hrel
          have RR := Lib.hid hrr
          have HV := Lib.hid hBv
          have hvs := hBv.size
          clear hrr hBv
          obtain ⟨p0, p1, p2, p3, p4, p5, p6, p7, p8⟩ := st_cells (BT4.out.call HV.out)
          by_cases hjt : j < n
          · obtain ⟨g, a, hA, hg1, hg2, ha, hcl, _⟩ := own_at (own_below RW4.out HV.out) (fun _ => rfl) (by omega) (i := j) hjt
            have y0 : wr.cell? ⟨g, j * 3, none⟩ = some (.int .i64 a.x) := hcl 0 _ rfl
            have y1 : wr.cell? ⟨g, j * 3 + 1, none⟩ = some (.int .i64 a.sent) := hcl 1 _ rfl
            have y2 : wr.cell? ⟨g, j * 3 + 2, none⟩ = some (.string a.src) := hcl 2 _ rfl
            have hix3 : ∀ W : World, Sem.run Try.prog (Instr.indexAt 43 (.slice ov.a n ov.c) (.int .i64 (j : Int))) W = .ok (.pointer (some ⟨g, j * 3, none⟩)) W := by intro W; rw [hA]; go_simp
            have HT := Lib.hid (take_one ha)
            have nz : w3.heap.size < wr.heap.size := by omega
            obtain ⟨L, hL⟩ : ∃ L, L = (σ.als.take j).filter (fun a => !decide (a.x = σ.clock + 1)) := ⟨_, rfl⟩
            have hLj : L.length ≤ 100 := by rw [hL]; exact Nat.le_trans (List.length_filter_le _ _) (by simp; omega)
            rw [← hL] at RR
            have LL := Lib.hid hL
            have HA := Lib.hid ha
            clear hA ha hcl hL
            by_cases hs : a.x = σ.clock + 1
            · have t3 : (a.x == σ.clock + 1) = true := by simp [hs]
              have HNN : Hid ((σ.als.take (j + 1)).filter (fun a => !decide (a.x = σ.clock + 1)) = L) := Lib.hid (by rw [HT.out, List.filter_append, LL.out]; simp [hs])
              have HM1 : Hid (m + 1 = ((σ.als.take (j + 1)).filter (fun a => decide (a.x = σ.clock + 1))).length) := Lib.hid (by rw [HT.out, List.filter_append, List.length_append, ← HMJ.out]; simp [hs])
              have hk2 : (σ.als.filter (fun a => decide (a.x = σ.clock + 1)))[m]? = some a := by rw [HMJ.out]; exact nth_filter _ _ j a HA.out (by simp [hs])
              have hmd : m < dv.n := by rw [← DV4.out.len]; exact (List.getElem?_eq_some_iff.1 hk2).1
              have hmd' : ¬ dv.n ≤ m := by omega
              obtain ⟨b2, off2, f2, hix2, hb2, har, hc2⟩ := (DV4.out.below HV.out).at_ hk2
              have s6 : wr.cell? ⟨b2, off2 + 6, none⟩ = some (.int .i64 a.sent) := (hc2 6 _ rfl).trans (by rw [har.sent])
              clear hs hk2 hc2 har
              go_wp2_with fail
              go_quiet (fail)
              obtain ⟨wq, hwq⟩ : ∃ W, W = wr.drewN nq := ⟨_, rfl⟩
              have q1 : wq.cell? ⟨g, j * 3 + 1, none⟩ = some (.int .i64 a.sent) := by rw [hwq]; exact y1
              have q6 : wq.cell? ⟨b2, off2 + 6, none⟩ = some (.int .i64 a.sent) := by rw [hwq]; exact s6
              have RQ : Hid (wq.ownsRow vz.heap.size 45 3 u10 L.length (L.flatMap dueL)) := Lib.hid (by rw [hwq]; exact own_drewN RR.out nq)
              have HQ : Hid (Below vz.heap.size vz wq) := Lib.hid (by rw [hwq]; exact below_drewN HV.out nq)
              rw [← hwq]
              clear hwq y0 y1 y2 s6 p0 p1 p2 p3 p4 p5 p6 p7 p8 RR HV
              go_wp2_with fail
              go_quiet (fail)
              rename_i nq2
              go_wp2_with fail
              go_roundw
              case rel => exact ⟨j + 1, m + 1, by omega, by go_num, by go_num, HM1, by omega, by rw [HNN.out]; exact own_drewN RQ.out _, below_drewN HQ.out _⟩
              case measure => simp [intOf]; omega
            · have t3 : (a.x == σ.clock + 1) = false := by simp [hs]
              have HNN : Hid ((σ.als.take (j + 1)).filter (fun a => !decide (a.x = σ.clock + 1)) = L ++ [a]) := Lib.hid (by rw [HT.out, List.filter_append, LL.out]; simp [hs])
              have HM1 : Hid (m = ((σ.als.take (j + 1)).filter (fun a => decide (a.x = σ.clock + 1))).length) := Lib.hid (by rw [HT.out, List.filter_append, List.length_append, ← HMJ.out]; simp [hs])
              clear hs
              go_wp2_with fail
              go_quiet (fail)
              obtain ⟨wq, hwq⟩ : ∃ W, W = wr.drewN nq := ⟨_, rfl⟩
              have q0 : wq.cell? ⟨g, j * 3, none⟩ = some (.int .i64 a.x) := by rw [hwq]; exact y0
              have q1 : wq.cell? ⟨g, j * 3 + 1, none⟩ = some (.int .i64 a.sent) := by rw [hwq]; exact y1
              have q2 : wq.cell? ⟨g, j * 3 + 2, none⟩ = some (.string a.src) := by rw [hwq]; exact y2
              have RQ : Hid (wq.ownsRow vz.heap.size 45 3 u10 L.length (L.flatMap dueL)) := Lib.hid (by rw [hwq]; exact own_drewN RR.out nq)
              have HQ : Hid (Below vz.heap.size vz wq) := Lib.hid (by rw [hwq]; exact below_drewN HV.out nq)
              have hgq : g < wq.heap.size := by rw [hwq]; exact hg2
              rw [← hwq]
              have hqs := HQ.out.size
              clear hwq y0 y1 y2 p0 p1 p2 p3 p4 p5 p6 p7 p8 RR HV hvs
              go_wp2_with (at_builtin; refine wpList_append_own _ rfl (.tmp 111) (.tmp 116) 43 rfl vz.heap.size 45 i45 _ 3 32 Try.underlying43 hi45 hy0 hy1 hy2 rfl (by decide) _ _ _ rfl (RQ.out.alloc _) ⟨wq.heap.size, 0, none⟩ 1 1 (dueL a) rfl rfl (cells_new _ _ _) (by simp [Value.oneCell']) (by rw [ml_val]; omega) (by omega) (by simp; omega) ?_; intro v' w5 ho hgr _; have HO := Lib.hid ho; have HG : Hid (Below vz.heap.size vz w5) := Lib.hid ((HQ.out.alloc hqs _).grown hgr (by simp; omega) (fun q hq => by have := row_base RQ.out q hq; omega)); clear ho hgr)
              go_roundw
              case rel => exact ⟨j + 1, m, by omega, by go_num, rfl, HM1, by omega, by rw [HNN.out]; simpa using HO.out, HG.out⟩
              case measure => simp [intOf]; omega
          · have htk : σ.als.take j = σ.als := List.take_of_length_le (by have := HN.out; omega)
            have hmd : m = dv.n := by rw [HMJ.out, htk]; exact DV4.out.len
            rw [htk, ← HL2.out] at RR
            clear htk hmj HMJ
            subst hmd
            obtain ⟨ow, _, hov2, _⟩ := own_sl RR.out
            subst hov2
            have BX5 := Lib.hid (BX4.out.call HV.out)
            have HB5 := Lib.hid (Below.call HB4.out HV.out)
            have AX5 := Lib.hid (AX4.out.below HV.out)
            have hXr : X < wr.heap.size := by omega
            have hTr : w3.heap.size < wr.heap.size := by omega
            have hXT : ¬ X = w3.heap.size := by omega
            have hTX : ¬ w3.heap.size = X := by omega
            have ew : IntKind.i64.wrap (σ.clock + 1) = σ.clock + 1 := by rw [IntWalk.i64_left, IntWalk.wrap64_in _ (by omega)]
            obtain ⟨c0, c1, c2, c3, c4, c5, c6, c7, c8⟩ := st_cells BX5.out
            obtain ⟨f0, f1, f2, f3, f4, f5, f6, f7, f8⟩ := st_free BX5.out
            go_wp2_with fail
            go_roundw
            case rel =>
              have off4 := putSt_off wr X (sysT stZ ⟨σ.clock + 1, σ.seq, L2⟩ ⟨xa, L2.length, xc⟩)
              have eS := IV.out.tickS hk60
              rw [← HL2.out] at eS
              refine ⟨k + 1, ⟨σ.clock + 1, σ.seq, L2⟩, by omega, by go_num, by rw [← eS]; exact IV.out.tick hk60, ⟨putSt_below (s := (sysT stZ ⟨σ.clock + 1, σ.seq, L2⟩ ⟨xa, L2.length, xc⟩)) HB5.out hXw, ⟨⟨xa, L2.length, xc⟩, putSt_box (s := (sysT stZ ⟨σ.clock + 1, σ.seq, L2⟩ ⟨xa, L2.length, xc⟩)) BX5.out, (AX5.out.mono (Q := ApX X (.slice ow.a L2.length ow.c)) (fun b hb => ⟨hb.1, fun e => by have := row_base RR.out b e; omega⟩)).stay (fun b o hb => off4.2 b o hb.1) (Nat.le_of_eq off4.1.symm)⟩, ?_, hXw⟩⟩
              exact own_putSt (s := (sysT stZ ⟨σ.clock + 1, σ.seq, L2⟩ ⟨xa, L2.length, xc⟩)) (row_mono RR.out (show X + 1 ≤ vz.heap.size by omega)) (own_ne (R := X) (row_mono RR.out (show X + 1 ≤ vz.heap.size by omega)) (by omega))
            case measure => simp [intOf]; omega
      | false =>
        obtain ⟨vz, hvz⟩ : ∃ W, W = wr.alloc (.cells (flyL f).toArray 36) := ⟨_, rfl⟩
        have hbl : Below wr.heap.size wr vz := by rw [hvz]; exact below_new wr _
        have BX3 := Lib.hid (BX.out.call hbl)
        have BZ3 : Hid (BoxAt vz wr.heap.size (flyL f)) := Lib.hid (by rw [hvz]; exact BoxAt.new wr 36 _ _ rfl)
        have AX3 := Lib.hid ((AX.out.below hbl).low.mono (fun b hb => (⟨hb.1.1, hb.2⟩ : b ≠ X ∧ b < vz.heap.size)))
        have RW3 := Lib.hid (own_below RW.out hbl)
        have HB3 := Lib.hid (Below.call HB.out hbl)
        have n5 : X < vz.heap.size := BX3.out.1
        have n6 : wr.heap.size < vz.heap.size := BZ3.out.1
        clear hbl
        go_wp2_with fail
        clear c0 c1 c2 c3 c4 c5 c6 c7 c8 x0 x1 x2 x3 x4 x5 x6 hix n1 n2 n3 n4 hXs
        clear BX AX RW HL
        obtain ⟨Z, hZ⟩ : ∃ Z, Z = wr.heap.size := ⟨_, rfl⟩
        rw [← hZ] at BZ3 n6 ⊢
        clear hZ
        go_loopw [13, 14] (fun vr vj wv => ∃ j : Nat, j ≤ n ∧ vj = .int .i64 j ∧ wv.ownsRow vz.heap.size 45 3 vr ((σ.als.take j).filter (fun a => decide (a.src ≠ f.path))).length (((σ.als.take j).filter (fun a => decide (a.src ≠ f.path))).flatMap dueL) ∧ Below vz.heap.size vz wv) (fun _ vj _ => n - (intOf vj).toNat)
        case atStart => exact ⟨0, Nat.zero_le _, rfl, World.ownsRow_nil _ _ _ _, by rw [hvz]; exact Below.refl _ _⟩
        case round =>
          clear hvz
          obtain ⟨j, hj, rfl, hrr, hBv⟩ := hrel
          have RR := Lib.hid hrr
          have HV := Lib.hid hBv
          have hvs := hBv.size
          clear hrr hBv
          by_cases hjt : j < n
          · obtain ⟨g, a, hA, hg1, hg2, ha, hcl, _⟩ := own_at (own_below RW3.out HV.out) (fun _ => rfl) (by omega) (i := j) hjt
            have y0 : wr.cell? ⟨g, j * 3, none⟩ = some (.int .i64 a.x) := hcl 0 _ rfl
            have y1 : wr.cell? ⟨g, j * 3 + 1, none⟩ = some (.int .i64 a.sent) := hcl 1 _ rfl
            have y2 : wr.cell? ⟨g, j * 3 + 2, none⟩ = some (.string a.src) := hcl 2 _ rfl
            have hix3 : ∀ W : World, Sem.run Try.prog (Instr.indexAt 43 (.slice ov.a n ov.c) (.int .i64 (j : Int))) W = .ok (.pointer (some ⟨g, j * 3, none⟩)) W := by intro W; rw [hA]; go_simp
            obtain ⟨z0, z1, z2, z3, z4, z5, z6⟩ := fbox_cells (BZ3.out.call HV.out)
            have HT := Lib.hid (take_one ha)
            have nz : Z < wr.heap.size := by omega
            obtain ⟨L, hL⟩ : ∃ L, L = (σ.als.take j).filter (fun a => decide (a.src ≠ f.path)) := ⟨_, rfl⟩
            have hLj : L.length ≤ 100 := by rw [hL]; exact Nat.le_trans (List.length_filter_le _ _) (by simp; omega)
            rw [← hL] at RR
            have LL := Lib.hid hL
            clear hA ha hcl hL
            by_cases hs : a.src = f.path
            · have t3 := str_yes hs
              have HNN : Hid ((σ.als.take (j + 1)).filter (fun a => decide (a.src ≠ f.path)) = L) := Lib.hid (by rw [HT.out, List.filter_append, LL.out]; simp [hs])
              clear hs
              go_wp2_with fail
              go_quiet (fail)
              go_wp2_with fail
              go_roundw
              case rel => exact ⟨j + 1, by omega, by go_num, by rw [HNN.out]; exact own_drewN RR.out nq, below_drewN HV.out nq⟩
              case measure => simp [intOf]; omega
            · have t3 := str_no hs
              have HNN : Hid ((σ.als.take (j + 1)).filter (fun a => decide (a.src ≠ f.path)) = L ++ [a]) := Lib.hid (by rw [HT.out, List.filter_append, LL.out]; simp [hs])
              clear hs
              go_wp2_with fail
              go_quiet (fail)
              obtain ⟨wq, hwq⟩ : ∃ W, W = wr.drewN nq := ⟨_, rfl⟩
              have q0 : wq.cell? ⟨g, j * 3, none⟩ = some (.int .i64 a.x) := by rw [hwq]; exact y0
              have q1 : wq.cell? ⟨g, j * 3 + 1, none⟩ = some (.int .i64 a.sent) := by rw [hwq]; exact y1
              have q2 : wq.cell? ⟨g, j * 3 + 2, none⟩ = some (.string a.src) := by rw [hwq]; exact y2
              have RQ : Hid (wq.ownsRow vz.heap.size 45 3 u13 L.length (L.flatMap dueL)) := Lib.hid (by rw [hwq]; exact own_drewN RR.out nq)
              have HQ : Hid (Below vz.heap.size vz wq) := Lib.hid (by rw [hwq]; exact below_drewN HV.out nq)
              have hgq : g < wq.heap.size := by rw [hwq]; exact hg2
              rw [← hwq]
              have hqs := HQ.out.size
              clear hwq y0 y1 y2 z0 z1 z2 z3 z4 z5 z6 RR HV hvs
              go_wp2_with (at_builtin; refine wpList_append_own _ rfl (.tmp 49) (.tmp 54) 43 rfl vz.heap.size 45 i45 _ 3 32 Try.underlying43 hi45 hy0 hy1 hy2 rfl (by decide) _ _ _ rfl (RQ.out.alloc _) ⟨wq.heap.size, 0, none⟩ 1 1 (dueL a) rfl rfl (cells_new _ _ _) (by simp [Value.oneCell']) (by rw [ml_val]; omega) (by omega) (by simp; omega) ?_; intro v' w5 ho hgr _; have HO := Lib.hid ho; have HG : Hid (Below vz.heap.size vz w5) := Lib.hid ((HQ.out.alloc hqs _).grown hgr (by simp; omega) (fun q hq => by have := row_base RQ.out q hq; omega)); clear ho hgr)
              go_roundw
              case rel => exact ⟨j + 1, by omega, by go_num, by rw [HNN.out]; simpa using HO.out, HG.out⟩
              case measure => simp [intOf]; omega
          · have htk : σ.als.take j = σ.als := List.take_of_length_le (by have := HN.out; omega)
            rw [htk] at RR
            have RR2 : Hid (wr.ownsRow vz.heap.size 45 3 u13 (Tm.clear σ f.path).als.length ((Tm.clear σ f.path).als.flatMap dueL)) := Lib.hid RR.out
            obtain ⟨m, hm⟩ : ∃ m, m = (Tm.clear σ f.path).als.length := ⟨_, rfl⟩
            rw [← hm] at RR2
            have HM := Lib.hid hm
            obtain ⟨ow, _, hov2, _⟩ := own_sl RR2.out
            subst hov2
            clear RR htk hm
            have BX4 := Lib.hid (BX3.out.call HV.out)
            have BZ4 := Lib.hid (BZ3.out.call HV.out)
            have AX4 := Lib.hid (AX3.out.below HV.out)
            have HB4 := Lib.hid (Below.call HB3.out HV.out)
            have hXr : X < wr.heap.size := by omega
            have hZr : Z < wr.heap.size := by omega
            obtain ⟨c0, c1, c2, c3, c4, c5, c6, c7, c8⟩ := st_cells BX4.out
            obtain ⟨z0, z1, z2, z3, z4, z5, z6⟩ := fbox_cells BZ4.out
            go_wp2_with fail
            refine (clear24 (P := fun b => b ≠ X ∧ b < vz.heap.size) (sysT stZ σ u) σ f.path wr ⟨AX4.out, rfl, rfl⟩ (by show u.n ≤ 1000000; omega)).mono ?_
            rintro e w5 ⟨⟨xa, xn, xc⟩, rfl, ha5, hb5⟩
            have hxn : xn = m := by have h1 := ha5.len; have h2 := HM.out; simp at h1; omega
            subst hxn
            have AX5 : Hid (Als (ApX X (.slice ow.a xn ow.c)) w5 ⟨xa, xn, xc⟩ (Tm.clear σ f.path).als) := Lib.hid (ha5.mono (fun b hb => by
              rcases hb with hb | hb
              · exact ⟨hb.1, fun e => by have := row_base RR2.out b e; omega⟩
              · exact ⟨by omega, fun e => by have := own_in RR2.out e; omega⟩))
            have BX5 := Lib.hid (BX4.out.call hb5)
            have RW5 := Lib.hid (own_below RR2.out hb5)
            have HB5 := Lib.hid (Below.call HB4.out hb5)
            clear ha5 hb5 c0 c1 c2 c3 c4 c5 c6 c7 c8 z0 z1 z2 z3 z4 z5 z6
            obtain ⟨c0, c1, c2, c3, c4, c5, c6, c7, c8⟩ := st_cells BX5.out
            obtain ⟨f0, f1, f2, f3, f4, f5, f6, f7, f8⟩ := st_free BX5.out
            go_wp2_with fail
            go_roundw
            case rel =>
              have off4 := putSt_off w5 X (sysT stZ (Tm.clear σ f.path) ⟨xa, xn, xc⟩)
              refine ⟨k + 1, Tm.clear σ f.path, by omega, by go_num, IV.out.clear _, ⟨putSt_below (s := sysT stZ (Tm.clear σ f.path) ⟨xa, xn, xc⟩) HB5.out hXw, ⟨⟨xa, xn, xc⟩, putSt_box (s := sysT stZ (Tm.clear σ f.path) ⟨xa, xn, xc⟩) BX5.out, AX5.out.stay (fun b o hb => off4.2 b o hb.1) (Nat.le_of_eq off4.1.symm)⟩, ?_, hXw⟩⟩
              have h := own_putSt (s := sysT stZ (Tm.clear σ f.path) ⟨xa, xn, xc⟩) (row_mono RW5.out (show X + 1 ≤ vz.heap.size by omega)) (own_ne (R := X) (row_mono RW5.out (show X + 1 ≤ vz.heap.size by omega)) (by omega))
              rw [HM.out] at h
              rw [HM.out]
              exact h
            case measure => simp [intOf]; omega
    · go_wp2_with fail
      go_ret
      exact ⟨rfl, HB.out⟩
end Go.Proofs.Ytjdjfjokniingaa
